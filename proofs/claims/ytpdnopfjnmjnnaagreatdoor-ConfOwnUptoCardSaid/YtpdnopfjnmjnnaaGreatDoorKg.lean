/- The ground of a card: what the listed variables give; a world that lays them. -/
import Derived.Test.YtpdnopfjnmjnnaaGreatDoorCards
import Derived.Test.YtpdnopfjnmjnnaaGreatDoorTie
import Derived.Test.YtpdnopfjnmjnnaaGreatDoorVc
import Derived.WalkKit
import Derived.ProofKit
import Derived.OpenShut
import Derived.Deep.DeepHandedRow
import Derived.Deep.DeepWitnessRowRef
import Derived.Lib.LaidTab
import Derived.Stop.LaidErr
import Derived.Shelf.Vars
set_option linter.unusedVariables false
set_option linter.unusedSimpArgs false
namespace Go.Proofs.YtpdnopfjnmjnnaaGreatDoor.Kg
open Go.Sort Go.ChangeShapes Go.WideShapes Go.ChangeAt Go.RowKit Go.Proofs.YtpdnopfjnmjnnaaGreatDoor.Cn Go.Proofs.YtpdnopfjnmjnnaaGreatDoor.Bs

theorem own : ownKnob Tryz.prog.godebug = none := by kernel_rfl
abbrev synS : ByteArray := { data := #[105, 110, 118, 97, 108, 105, 100, 32, 115, 121, 110, 116, 97, 120] }
abbrev rngS : ByteArray := { data := #[118, 97, 108, 117, 101, 32, 111, 117, 116, 32, 111, 102, 32, 114, 97, 110, 103, 101] }
/-- So many blocks has the settled world. -/
noncomputable def low : Nat := (World.holding Tryz.prog default ⟨#[], #[], []⟩).heap.size
def put (h : Array Obj) (i : Nat) (cs : Array Value) : Array Obj := h.modify i fun
  | .cells _ t frozen => .cells cs t frozen
  | o => o
def acc : List Nat := [128, 191, 160, 191, 128, 159, 144, 191, 128, 143, 0, 0, 0, 0, 0, 0, 0, 0, 0, 0, 0, 0, 0, 0, 0, 0, 0, 0, 0, 0, 0, 0]
def tab32 : List Nat := [0, 1, 28, 2, 29, 14, 24, 3, 30, 22, 20, 15, 25, 17, 4, 8, 31, 27, 13, 23, 21, 19, 16, 7, 26, 12, 18, 6, 11, 5, 10, 9]
def tab64 : List Nat := [0, 1, 56, 2, 57, 49, 28, 3, 61, 58, 42, 50, 38, 29, 17, 4, 62, 47, 59, 36, 45, 43, 51, 22, 53, 39, 33, 30, 24, 18, 12, 5, 63, 55, 48, 27, 60, 41, 37, 16, 46, 35, 44, 21, 52, 32, 23, 11, 54, 26, 40, 15, 34, 20, 31, 10, 25, 14, 19, 9, 13, 8, 7, 6]
def u8s (l : List Nat) : Array Value := (l.map fun n : Nat => Value.int .u8 (n : Int)).toArray
noncomputable def laidWorld (os : Os) : World :=
  let w0 := World.holding Tryz.prog os ⟨#[.cells #[.string synS] 175, .cells #[.string rngS] 175], #[], []⟩
  { w0 with heap := put (put (put (put (put (put (put w0.heap 0 #[.iface 173 (.pointer (some ⟨low, 0, none⟩))]) 1 #[.iface 173 (.pointer (some ⟨low + 1, 0, none⟩))])
      5 (Lib.pow10Tab.map fun n => Value.int .u64 n).toArray) 3 (u8s Go.Pinned.utf8FirstZ)) 4 (u8s acc)) 6 (u8s tab32)) 7 (u8s tab64) }
/-- What the rows list. -/
abbrev laid7 : List (String × DataW Unit) := Rows.confNumbersRow.laid
set_option maxRecDepth 100000 in
theorem laid_met (os : Os) (args : Array Value) : laidMet Tryz.prog laid7 ((laidWorld os).forCall (fun _ _ => 0) ⟨#[], args, []⟩).memory :=
  laidMet_of_run' 8 (by kernel_rfl) (by kernel_rfl)
theorem gES : Tryz.prog.globalNamed "strconv.ErrSyntax" = some 0 := by kernel_rfl
theorem gER : Tryz.prog.globalNamed "strconv.ErrRange" = some 1 := by kernel_rfl
theorem gT10 : Tryz.prog.globalNamed "internal/strconv.uint64pow10" = some 5 := by kernel_rfl
theorem gESType : (Tryz.prog.globals[0]?).map (·.type) = some 83 := by kernel_rfl
theorem gERType : (Tryz.prog.globals[1]?).map (·.type) = some 83 := by kernel_rfl
theorem gT10Type : (Tryz.prog.globals[5]?).map (·.type) = some 226 := by kernel_rfl
theorem cellsE : Tryz.prog.cellsOf 175 = 1 := by kernel_rfl
theorem cellsS : Tryz.prog.cellsOf 9 = 1 := by kernel_rfl
theorem cells64 : Tryz.prog.cellsOf 22 = 1 := by kernel_rfl
theorem cells20 : Tryz.prog.cellsOf 226 = 20 := by kernel_rfl
theorem star : "*" ++ "errors.errorString" = "*errors.errorString" := by decide
theorem rowE (u : TypeId) (h : Tryz.prog.typeName? 3 u = some "*errors.errorString") : u = 173 :=
  typeName_ptr_named (nm := "errors.errorString") (by rw [star]; kernel_rfl) (by kernel_rfl) (by decide) u (by rw [star]; exact h)
theorem zeroMax : (Tryz.prog.globals[2]?).map (fun g => (g.type, Tryz.prog.underlying g.type)) = some (3, some (.int .i64)) := by kernel_rfl
/-- What the rows' list, and the world's shape, give. -/
structure Gk (W : World) : Prop where
  mx : Mx W
  ev : Ev W
  low : 1 < W.heap.size
theorem gk_of {W : World} (hL : laidMet Tryz.prog laid7 W) (hsh : W.ShapedOpen Tryz.prog) : Gk W := by
  have h1 := hL.tail
  have h2 := h1.tail
  have h3 := h2.tail
  have h4 := h3.tail
  have h5 := h4.tail
  obtain ⟨a0, s0, hv0, -, -, -⟩ := laid_sentinel h5 gES gESType Tryz.underlying83 rowE Tryz.underlying173 Tryz.underlying175 rfl rfl Tryz.underlying9 cellsE cellsS
  obtain ⟨a1, s1, hv1, -, -, -⟩ := laid_sentinel h4 gER gERType Tryz.underlying83 rowE Tryz.underlying173 Tryz.underlying175 rfl rfl Tryz.underlying9 cellsE cellsS
  have c0 := World.var?_cell gES hv0 0
  have c1 := World.var?_cell gER hv1 0
  have hlt := World.block_lt_of_cell? W _ (show W.cell? ⟨1, 0, none⟩ = some _ by simpa using c1)
  exact ⟨cell_of_shapedOpen_int (t := 3) (zero := #[.int .i64 0]) hsh (of_decide_eq_true (by kernel_rfl)) (by kernel_rfl) rfl (by kernel_rfl) (by kernel_rfl) Tryz.underlying3, ⟨⟨_, by simpa using c0, .inr ⟨_, _, rfl⟩⟩, ⟨_, by simpa using c1, .inr ⟨_, _, rfl⟩⟩⟩, hlt⟩
end Go.Proofs.YtpdnopfjnmjnnaaGreatDoor.Kg
