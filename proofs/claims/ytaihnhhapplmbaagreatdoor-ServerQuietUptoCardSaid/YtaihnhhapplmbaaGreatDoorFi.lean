/- Package http: Find. -/
import Derived.Test.YtaihnhhapplmbaaGreatDoorCa
import Derived.Test.YtaihnhhapplmbaaGreatDoorCl
set_option linter.unusedVariables false
set_option linter.unusedSimpArgs false
namespace Go.Proofs.YtaihnhhapplmbaaGreatDoor.Ht
open Go.Sort Go.RowKit Go.Proofs Go.Proofs.YtaihnhhapplmbaaGreatDoorW.PrintWords Go.Proofs.YtaihnhhapplmbaaGreatDoor.Bs Go.Proofs.YtaihnhhapplmbaaGreatDoor.Ir

def calledH (name : ByteArray) (h : Head) : Bool := calledB name h.name
theorem pred_called (name : ByteArray) (b : Nat) (w : World) (hm : name.size ≤ 140737488351232) (hc : w.cell? ⟨b, 0, none⟩ = some (.string name)) : PredH 59 #[.pointer (some ⟨b, 0, none⟩)] (calledH name) w := fun W h hok hb =>
  called1_any h.name h.value name b W (by have := hok.1; omega) hm ((hb.cell (World.block_lt_of_cell? w _ hc)).trans hc)
def findH (l : List Head) (name : ByteArray) : Value := match l.find? (calledH name) with | some h => .tuple #[.string h.value, .bool true] | none => .tuple #[.string ⟨#[]⟩, .bool false]
theorem findH_at (l : List Head) (name : ByteArray) : (idxH (calledH name) l = -1 ∧ findH l name = .tuple #[.string ⟨#[]⟩, .bool false]) ∨ ∃ k, ∃ hk : k < l.length, idxH (calledH name) l = (k : Int) ∧ findH l name = .tuple #[.string l[k].value, .bool true] := by
  unfold idxH findH
  cases h : l.findIdx? (calledH name) with
  | none =>
    rw [List.findIdx?_eq_none_iff] at h
    have : l.find? (calledH name) = none := List.find?_eq_none.2 (fun x hx => by simp [h x hx])
    exact .inl ⟨rfl, by rw [this]⟩
  | some k =>
    obtain ⟨hk, h1, h2⟩ := List.findIdx?_eq_some_iff_getElem.1 h
    have : l.find? (calledH name) = some l[k] := List.find?_eq_some_iff_getElem.2 ⟨h1, k, hk, rfl, fun j hj => by simpa using h2 j hj⟩
    exact .inr ⟨k, hk, rfl, by rw [this]⟩

set_option maxRecDepth 100000 in
set_option maxHeartbeats 1000000 in
theorem find_any (A : Option Addr) (c : Nat) (l : List Head) (name : ByteArray) (w : World) (hl : l.length ≤ 1073741824) (hC : Kd.C kH w A l.length l) (hok : ∀ h ∈ l, HOk h) (hm : name.size ≤ 140737488351232) :
    Calls Tryz.prog 15 #[.slice A l.length c, .string name] w fun e w' => e = .returned (findH l name) ∧ Below w.heap.size w w' := by
  have ci := fun W b (hb : Below w.heap.size w W) (hc : W.cell? ⟨b, 0, none⟩ = some (.string name)) => indexFunc_H 59 #[.pointer (some ⟨b, 0, none⟩)] (fun args w => by kernel_rfl) (calledH name) A c l W hl (Kd.C_below hC hb) hok (pred_called name b W hm hc)
  rcases findH_at l name with ⟨hi, hv⟩ | ⟨k, hk, hi, hv⟩
  · rw [hi] at ci
    rw [hv]
    clear hC hok hi hv
    go_enter Tryz.func15, Tryz.ntmps15
    go_wp2_with (first | (go_at_call 29; refine (called_any _ _).mono ?_; rintro e w1 ⟨rfl, rfl⟩) | (go_at_call 28; refine (ci _ _ (by repeat (first | assumption | exact Below.refl _ _ | apply below_drew | apply pw_below_drewN | apply below_alloc | (refine below_via (by assumption) ?_))) (cell_new _ _ _ 0 _ rfl)).mono ?_; rintro e w2 ⟨rfl, hb2⟩))
    go_ret2
    exact ⟨rfl, (by repeat (first | assumption | exact Below.refl _ _ | apply below_drew | apply pw_below_drewN | apply below_alloc | (refine below_via (by assumption) ?_)))⟩
  · rw [hi] at ci
    rw [hv]
    obtain ⟨ad, rfl, h0, h1⟩ := at_H hC k hk
    have hx : l.getD k zH = l[k] := by simp [List.getElem?_eq_getElem hk]
    rw [hx] at h1
    generalize l[k].value = v at *
    clear hC hok hi hv h0 hx
    go_enter Tryz.func15, Tryz.ntmps15
    go_wp2_with (first | (go_at_call 29; refine (called_any _ _).mono ?_; rintro e w1 ⟨rfl, rfl⟩) | (go_at_call 28; refine (ci _ _ (by repeat (first | assumption | exact Below.refl _ _ | apply below_drew | apply pw_below_drewN | apply below_alloc | (refine below_via (by assumption) ?_))) (cell_new _ _ _ 0 _ rfl)).mono ?_; rintro e w2 ⟨rfl, hb2⟩; have hbw2 : Below w.heap.size w w2 := (by repeat (first | assumption | exact Below.refl _ _ | apply below_drew | apply pw_below_drewN | apply below_alloc | (refine below_via (by assumption) ?_))); have h2 := (hbw2.cell (World.block_lt_of_cell? _ _ h1)).trans h1))
    all_goals go_ret2
    all_goals exact ⟨rfl, (by repeat (first | assumption | exact Below.refl _ _ | apply below_drew | apply pw_below_drewN | apply below_alloc | (refine below_via (by assumption) ?_)))⟩
end Go.Proofs.YtaihnhhapplmbaaGreatDoor.Ht
