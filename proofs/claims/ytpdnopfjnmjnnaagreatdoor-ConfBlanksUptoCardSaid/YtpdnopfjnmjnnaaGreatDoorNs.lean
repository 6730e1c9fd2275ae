/- Package conf: Parse's deferred closure. -/
import Derived.Test.YtpdnopfjnmjnnaaGreatDoorNi
import Derived.Recover
import Derived.Defers
import Derived.RegionTactic
set_option linter.unusedVariables false
set_option linter.unusedSimpArgs false
namespace Go.Proofs.YtpdnopfjnmjnnaaGreatDoor.Cn
open Go.Sort Go.RowKit Go.Proofs Go.Proofs.YtpdnopfjnmjnnaaGreatDoorW.PrintWords Go.Proofs.YtpdnopfjnmjnnaaGreatDoor.Bs Go.Proofs.YtpdnopfjnmjnnaaGreatDoor.Ir Go.Proofs.YtpdnopfjnmjnnaaGreatDoor.Cz

theorem catch_idle (p0 p1 : Addr) (w : World) :
    CallsD Tryz.prog 26 #[.pointer (some p0), .pointer (some p1)] .returning w fun e u' w' => e = .returned (.tuple #[]) ∧ u' = .returning ∧ w' = w := by
  refine callsD_of_wpS Tryz.func26 rfl fun c₀ cs hu => ?_
  apply wpS_seq
  apply wpS_region
  simp [wpOpsS, go_sem, recoverD, hu, Tryz.ntmps26, Exit.thenS]
  apply wpS_seq
  apply wpS_region
  simp [wpOpsS, go_sem, Exit.thenS]
  refine wpS_cond (t := false) (by simp [Act.eval, Array.replicate]) ?_
  simp only [Bool.false_eq_true, if_false]
  refine wpS_of_wp (wp_skip ?_)
  cases c₀
  simp_all [bodyPostS, results, Tryz.results26]
set_option maxRecDepth 100000 in
theorem catch_panicking (g : Nat) (v0 v1 v2 v3 v4 : Value) (y : Int) (older : List PanicEntry) (w : World)
    (h0 : w.heap[g]? = some (.cells #[v0, v1, v2, v3] 32 (0, 0))) (h1 : w.cell? ⟨g + 1, 0, none⟩ = some v4) (f1 : w.frozen? ⟨g + 1, 0, none⟩ = false) :
    CallsD Tryz.prog 26 #[.pointer (some ⟨g, 0, none⟩), .pointer (some ⟨g + 1, 0, none⟩)] (.panicking ({ v := .iface 63 (.agg #[.int .i64 y]), recovered := false } :: older)) w fun e u' w' =>
      e = .returned (.tuple #[]) ∧ u' = .panicking ({ v := .iface 63 (.agg #[.int .i64 y]), recovered := true } :: older) ∧ w' = ((w.setCells g 0 [.int .u8 0, .string ⟨#[]⟩, .slice none 0 0, .slice none 0 0]).setCell ⟨g + 1, 0, none⟩ (.int .i64 y)).drew := by
  have c0 := blk_cell h0 0
  have c1 := blk_cell h0 1
  have c2 := blk_cell h0 2
  have c3 := blk_cell h0 3
  have g0 := blk_frozen h0 0
  have g1 := blk_frozen h0 1
  have g2 := blk_frozen h0 2
  have g3 := blk_frozen h0 3
  refine callsD_of_wpS Tryz.func26 rfl fun c₀ cs hu => ?_
  apply wpS_seq
  apply wpS_region
  simp [wpOpsS, go_sem, recoverD, hu, Tryz.ntmps26, Exit.thenS]
  apply wpS_seq
  apply wpS_region
  simp [wpOpsS, go_sem, Exit.thenS]
  refine wpS_cond (t := true) (by simp [Act.eval, Array.replicate]) ?_
  simp only [if_true]
  have hta : ∀ W : World, (Instr.typeAssert (.iface 63 (.agg #[.int .i64 y])) 20 63 false).run Tryz.prog W = .ok (.agg #[.int .i64 y]) W := fun _ => by first | kernel_rfl | rfl
  have hfd : ∀ W : World, (Instr.field 63 (.agg #[.int .i64 y]) 0).run Tryz.prog W = .ok (.int .i64 y) W := fun _ => by first | kernel_rfl | rfl
  refine wpS_of_wp ?_
  go_region
  all_goals (clear h0 h1 f1 hta hfd c0 c1 c2 c3 g0 g1 g2 g3; cases c₀; simp_all [bodyPostS, results, Tryz.results26])
  all_goals rfl
end Go.Proofs.YtpdnopfjnmjnnaaGreatDoor.Cn
