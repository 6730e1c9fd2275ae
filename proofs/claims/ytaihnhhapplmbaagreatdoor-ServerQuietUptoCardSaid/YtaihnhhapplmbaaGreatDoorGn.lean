/- What the library's own variables hold, carried along; strconv.Itoa. -/
import Derived.Test.YtaihnhhapplmbaaGreatDoorShelf
import Derived.Test.YtaihnhhapplmbaaGreatDoorBs
import Derived.Lib.AppendIntMem
import Derived.Lib.ItoaLen
set_option linter.unusedVariables false
set_option linter.unusedSimpArgs false
namespace Go.Proofs.YtaihnhhapplmbaaGreatDoor.Gn
open Go.Sort Go.RowKit Go.Proofs Go.Proofs.YtaihnhhapplmbaaGreatDoor.Bs

structure Gnd (w : World) : Prop where
  mx : ∃ m : Int, w.cell? ⟨2, 0, none⟩ = some (.int .i64 m)
  es : ∃ t p, w.cell? ⟨0, 0, none⟩ = some (.iface t p)
  er : ∃ t p, w.cell? ⟨1, 0, none⟩ = some (.iface t p)
  tab : Lib.TabIs Tryz.prog w "internal/strconv.uint64pow10" .u64 Lib.pow10Tab
theorem cell_later {w w' : World} {a : Addr} {v : Value} (h : w.cell? a = some v) (hb : Below w.heap.size w w') : w'.cell? a = some v := (hb.cell (World.block_lt_of_cell? w a h)).trans h
theorem TabIs_below {P : Program} {n : String} {g : Nat} {k : IntKind} {zs : List Int} {w w' : World} (hg : P.globalNamed n = some g) (h : Lib.TabIs P w n k zs) (hb : Below w.heap.size w w') : Lib.TabIs P w' n k zs := by
  unfold Lib.TabIs World.var? at h ⊢
  rw [hg] at h ⊢
  simp only [Option.bind_some] at h ⊢
  have hlt : g < w.heap.size := by
    rcases Nat.lt_or_ge g w.heap.size with h' | h'
    · exact h'
    · rw [Array.getElem?_eq_none h'] at h; cases h
  rw [hb.block g hlt]
  exact h
theorem Gnd.below {w w' : World} (h : Gnd w) (hb : Below w.heap.size w w') : Gnd w' :=
  ⟨h.mx.imp fun _ h => cell_later h hb, by obtain ⟨t, p, h⟩ := h.es; exact ⟨t, p, cell_later h hb⟩, by obtain ⟨t, p, h⟩ := h.er; exact ⟨t, p, cell_later h hb⟩, TabIs_below (g := 3) (by kernel_rfl) h.tab hb⟩
/-- The library's own variables lie below this block. -/
def lowG : Nat := max (max 2 0) (max 1 3) + 1
theorem Gnd.low {w : World} (G : Gnd w) : lowG ≤ w.heap.size := by
  obtain ⟨m, h1⟩ := G.mx
  obtain ⟨t2, p2, h2⟩ := G.es
  obtain ⟨t3, p3, h3⟩ := G.er
  have k1 := World.block_lt_of_cell? w _ h1
  have k2 := World.block_lt_of_cell? w _ h2
  have k3 := World.block_lt_of_cell? w _ h3
  have k4 : 3 < w.heap.size := by
    have ht := G.tab
    have hgl : Tryz.prog.globalNamed "internal/strconv.uint64pow10" = some 3 := by kernel_rfl
    unfold Lib.TabIs World.var? at ht
    rw [hgl] at ht
    simp only [Option.bind_some] at ht
    rcases Nat.lt_or_ge 3 w.heap.size with h' | h'
    · exact h'
    · rw [Array.getElem?_eq_none h'] at ht; cases ht
  dsimp only at k1 k2 k3
  unfold lowG
  omega
def itoaB (n : Int) : ByteArray := ⟨(Lib.itoa n).toArray⟩
theorem itoa_any (n : Int) (h0 : -9223372036854775808 ≤ n) (h1 : n ≤ 9223372036854775807) (w : World) (G : Gnd w) :
    Calls Tryz.prog 34 #[.int .i64 n] w fun e w' => e = .returned (.string (itoaB n)) ∧ Below w.heap.size w w' := by
  refine (Tryz.strconv_Itoa n h0 h1 w G.tab).mono ?_
  rintro e w' ⟨rfl, k, os, rfl⟩
  exact ⟨rfl, Lib.below_grow _ w (Nat.le_refl _) k os⟩
end Go.Proofs.YtaihnhhapplmbaaGreatDoor.Gn
