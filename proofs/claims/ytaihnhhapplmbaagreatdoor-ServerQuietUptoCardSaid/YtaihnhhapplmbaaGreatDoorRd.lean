/- Package http: read's deferred closure. -/
import Derived.Test.YtaihnhhapplmbaaGreatDoorBw
import Derived.Recover
import Derived.Defers
import Derived.RegionTactic
set_option linter.unusedVariables false
set_option linter.unusedSimpArgs false
namespace Go.Proofs.YtaihnhhapplmbaaGreatDoor.Ht
open Go.Sort Go.RowKit Go.Proofs Go.Proofs.YtaihnhhapplmbaaGreatDoorW.PrintWords Go.Proofs.YtaihnhhapplmbaaGreatDoor.Bs Go.Proofs.YtaihnhhapplmbaaGreatDoor.Ir Go.Proofs.YtaihnhhapplmbaaGreatDoor.Gn

theorem catch_idle (p0 p1 p2 p3 : Addr) (w : World) :
    CallsD Tryz.prog 61 #[.pointer (some p0), .pointer (some p1), .pointer (some p2), .pointer (some p3)] .returning w fun e u' w' => e = .returned (.tuple #[]) ∧ u' = .returning ∧ w' = w := by
  refine callsD_of_wpS Tryz.func61 rfl fun c₀ cs hu => ?_
  apply wpS_seq
  apply wpS_region
  simp [wpOpsS, go_sem, recoverD, hu, Tryz.ntmps61, Exit.thenS]
  apply wpS_seq
  apply wpS_region
  simp [wpOpsS, go_sem, Exit.thenS]
  refine wpS_cond (t := false) (by simp [Act.eval, Array.replicate]) ?_
  simp only [Bool.false_eq_true, if_false]
  refine wpS_of_wp (wp_skip ?_)
  cases c₀
  simp_all [bodyPostS, results, Tryz.results61]
set_option maxRecDepth 100000 in
theorem catch_panicking (g : Nat) (v0 v1 v2 v3 : Value) (y : Int) (older : List PanicEntry) (w : World)
    (h0 : w.cell? ⟨g, 0, none⟩ = some v0) (h1 : w.cell? ⟨g + 1, 0, none⟩ = some v1) (h2 : w.cell? ⟨g + 1 + 1, 0, none⟩ = some v2) (h3 : w.cell? ⟨g + 1 + 1 + 1, 0, none⟩ = some v3)
    (f0 : w.frozen? ⟨g, 0, none⟩ = false) (f1 : w.frozen? ⟨g + 1, 0, none⟩ = false) (f2 : w.frozen? ⟨g + 1 + 1, 0, none⟩ = false) (f3 : w.frozen? ⟨g + 1 + 1 + 1, 0, none⟩ = false) :
    CallsD Tryz.prog 61 #[.pointer (some ⟨g, 0, none⟩), .pointer (some ⟨g + 1, 0, none⟩), .pointer (some ⟨g + 1 + 1, 0, none⟩), .pointer (some ⟨g + 1 + 1 + 1, 0, none⟩)] (.panicking ({ v := .iface 28 (.int .i64 y), recovered := false } :: older)) w fun e u' w' =>
      e = .returned (.tuple #[]) ∧ u' = .panicking ({ v := .iface 28 (.int .i64 y), recovered := true } :: older) ∧ w' = ((((w.drew.setCell ⟨g, 0, none⟩ (.slice none 0 0)).setCell ⟨g + 1, 0, none⟩ (.string ⟨#[]⟩)).setCell ⟨g + 1 + 1, 0, none⟩ (.int .i64 0)).setCell ⟨g + 1 + 1 + 1, 0, none⟩ (.int .i64 y)) := by
  refine callsD_of_wpS Tryz.func61 rfl fun c₀ cs hu => ?_
  apply wpS_seq
  apply wpS_region
  simp [wpOpsS, go_sem, recoverD, hu, Tryz.ntmps61, Exit.thenS]
  apply wpS_seq
  apply wpS_region
  simp [wpOpsS, go_sem, Exit.thenS]
  refine wpS_cond (t := true) (by simp [Act.eval, Array.replicate]) ?_
  simp only [if_true]
  have hta : ∀ W : World, (Instr.typeAssert (.iface 28 (.int .i64 y)) 20 28 false).run Tryz.prog W = .ok (.int .i64 y) W := fun _ => by first | kernel_rfl | rfl
  refine wpS_of_wp ?_
  go_region
  all_goals (clear h0 h1 h2 h3 f0 f1 f2 f3 hta; cases c₀; simp_all [bodyPostS, results, Tryz.results61])
end Go.Proofs.YtaihnhhapplmbaaGreatDoor.Ht
