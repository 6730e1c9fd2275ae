/- Package http: the cursor: body's closures. -/
import Derived.Test.YtaihnhhapplmbaaGreatDoorDf
import Derived.Test.YtaihnhhapplmbaaGreatDoorFi
import Derived.Deep.RegionWith
set_option linter.unusedVariables false
set_option linter.unusedSimpArgs false
namespace Go.Proofs.YtaihnhhapplmbaaGreatDoor.Ht
open Go.Sort Go.RowKit Go.Proofs Go.Proofs.YtaihnhhapplmbaaGreatDoorW.PrintWords Go.Proofs.YtaihnhhapplmbaaGreatDoor.Bs Go.Proofs.YtaihnhhapplmbaaGreatDoor.Ir

set_option maxRecDepth 100000 in
set_option maxHeartbeats 2000000 in
theorem notCalled_any (h : Head) (name : ByteArray) (cb : Nat) (w : World) (hok : HOk h) (hm : name.size ≤ 1073741824) (hc : w.cell? ⟨cb, 0, none⟩ = some (.string name)) :
    Calls Tryz.prog 95 #[aggH h, .pointer (some ⟨cb, 0, none⟩)] w fun e w' => e = .returned (.bool (!calledB name h.name)) ∧ Below w.heap.size w w' := by
  obtain ⟨n, v⟩ := h
  obtain ⟨hn, hv⟩ := hok
  dsimp only at hn hv
  unfold aggH
  dsimp only
  have c1 := fun b W => called1_any n v name b W (by omega) (by omega)
  generalize calledB name n = b1 at *
  have hcb := World.block_lt_of_cell? w _ hc
  have hx := cell_past w (.cells #[.string n, .string v] 82) _ _ hc
  dsimp only at hcb
  go_enter Tryz.func95, Tryz.ntmps95
  go_wp2_with fail
  go_region_with (first | (go_at_call 29; refine (called_any _ _).mono ?_; rintro e w1 ⟨rfl, rfl⟩) | (go_at_call 59; refine Calls.mono (c1 _ _ ?_) ?_; (· (simp; done)); rintro e w1 ⟨rfl, hb⟩; obtain ⟨hbc, hbf⟩ := bcell hb))
  all_goals (go_wp2_with fail; go_ret; exact ⟨by first | rfl | (simp; done), (by repeat (first | assumption | exact Below.refl _ _ | apply below_drew | apply pw_below_drewN | apply below_alloc | (refine below_via (by assumption) ?_)))⟩)

def hasName (name : ByteArray) (l : List Head) : List Head := l.filter (calledH name)
set_option maxRecDepth 100000 in
set_option maxHeartbeats 1000000 in
theorem named_any (name : ByteArray) (cb : Nat) (A : Option Addr) (c : Nat) (l : List Head) (w : World) (hl : l.length ≤ 1073741824) (hC : Kd.C kH w A l.length l) (hok : ∀ h ∈ l, HOk h) (hm : name.size ≤ 1073741824) (hc : w.cell? ⟨cb, 0, none⟩ = some (.slice A l.length c)) :
    Calls Tryz.prog 94 #[.string name, .pointer (some ⟨cb, 0, none⟩)] w fun e w' => ∃ A' c', e = .returned (.slice A' (hasName name l).length c') ∧ (hasName name l).length ≤ c' ∧ Kd.C kH w' A' (hasName name l).length (hasName name l) ∧ Below w.heap.size w w' := by
  have hcb := World.block_lt_of_cell? w _ hc
  have hx := cell_past w (.cells #[.string name] 9) _ _ hc
  dsimp only at hcb
  have hcl := clone_H A c l (w.alloc (.cells #[.string name] 9)) hl (Kd.C_alloc hC _)
  have hdf := fun v W (hB : (w.alloc (.cells #[.string name] 9)).heap.size ≤ W.heap.size) hR (hb : Below (w.alloc (.cells #[.string name] 9)).heap.size (w.alloc (.cells #[.string name] 9)) W) => deleteFunc_H 95 #[.pointer (some ⟨w.heap.size, 0, none⟩)] (fun args w => by kernel_rfl) (fun h => !calledB name h.name) v l (w.alloc (.cells #[.string name] 9)).heap.size W hB hl hR hok (fun W' h h1 h2 => notCalled_any h name w.heap.size W' h1 hm ((h2.cell (by simp)).trans ((hb.cell (by simp)).trans (cell_new _ _ _ 0 _ rfl))))
  have hfl : l.filter (fun h => !(!calledB name h.name)) = hasName name l := by unfold hasName calledH; simp
  rw [hfl] at hdf
  clear hC hok hfl
  go_enter Tryz.func94, Tryz.ntmps94
  go_wp2_with (first | (go_at_call 57; refine hcl.mono ?_; rintro e w1 ⟨v, rfl, hR, hb1⟩) | (go_at_call 66; refine (hdf _ _ (hb1.size) hR hb1).mono ?_; rintro e w2 ⟨A', c', rfl, hle, hC2, -, hb2⟩))
  go_ret
  exact ⟨A', c', rfl, hle, hC2, below_via (hb1.trans hb2) (below_alloc (Below.refl _ _) _)⟩
end Go.Proofs.YtaihnhhapplmbaaGreatDoor.Ht
