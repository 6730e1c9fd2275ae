/- Package http: called, framing. -/
import Derived.Test.YtaihnhhapplmbaaGreatDoorSm
import Derived.Outline
set_option linter.unusedVariables false
set_option linter.unusedSimpArgs false
namespace Go.Proofs.YtaihnhhapplmbaaGreatDoor.Ht
open Go.Sort Go.RowKit Go.Proofs Go.Proofs.YtaihnhhapplmbaaGreatDoorW.PrintWords Go.Proofs.YtaihnhhapplmbaaGreatDoor.Bs

theorem called_any (s : ByteArray) (w : World) :
    Calls Tryz.prog 29 #[.string s] w fun e w' => e = .returned (.func (.func 59) #[] #[.pointer (some ⟨w.heap.size, 0, none⟩)]) ∧ w.alloc (.cells #[.string s] 9) = w' := by
  have hmf : ∀ (fn : Fn) (first cap : Array Value) (w : World), (Instr.makeFunc fn first cap).run Tryz.prog w = .ok (.func fn first cap) w := fun _ _ _ _ => rfl
  go_enter Tryz.func29, Tryz.ntmps29
  go_wp2
  go_ret
  exact ⟨rfl, rfl⟩

def calledB (name n : ByteArray) : Bool := (smallB n).toList == (smallB name).toList
set_option maxRecDepth 100000 in
set_option maxHeartbeats 800000 in
theorem called1_any (n v name : ByteArray) (b : Nat) (w : World) (hn : n.size ≤ 140737488351232) (hm : name.size ≤ 140737488351232) (hc : w.cell? ⟨b, 0, none⟩ = some (.string name)) :
    Calls Tryz.prog 59 #[.agg #[.string n, .string v], .pointer (some ⟨b, 0, none⟩)] w fun e w' => e = .returned (.bool (calledB name n)) ∧ Below w.heap.size w w' := by
  have c0 := cell_regrown (cell_new w #[.string n, .string v] 82 0 (.string n) rfl)
  have c1 := cell_regrown (cell_past w (.cells #[.string n, .string v] 82) _ _ hc)
  have cs1 := fun d os => Calls.regrown_of (small_any n (Go.Sort.grow (redrawn (w.alloc (.cells #[.string n, .string v] 82)) d) os) hn)
  have cs2 := fun d os => Calls.regrown_of (small_any name (Go.Sort.grow (redrawn (w.alloc (.cells #[.string n, .string v] 82)) d) os) hm)
  go_enter Tryz.func59, Tryz.ntmps59
  go_wp2_with fail
  refine wp_region_quiet_below (by kernel_rfl) (by kernel_rfl) ?_
  repeat (quiet_step (first | (with_reducible exact cs1 _ _) | (with_reducible exact cs2 _ _)))
  refine wpQuiet_nil ?_
  intro _ hw'
  obtain ⟨⟨dq, osq⟩, hw''⟩ := hw'
  subst hw''
  have hb1 := below_regrown (w.alloc (.cells #[.string n, .string v] 82)) dq osq
  generalize grow (redrawn (w.alloc (.cells #[.string n, .string v] 82)) dq) osq = W1 at *
  clear c0 c1 cs1 cs2
  go_wp2
  go_ret
  exact ⟨rfl, (by repeat (first | assumption | exact Below.refl _ _ | apply below_drew | apply pw_below_drewN | apply below_alloc | (refine below_via (by assumption) ?_)))⟩
end Go.Proofs.YtaihnhhapplmbaaGreatDoor.Ht
