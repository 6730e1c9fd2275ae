/- slices.IndexFunc, ContainsFunc, Clone of heads. -/
import Derived.Test.YtaihnhhapplmbaaGreatDoorHd
set_option linter.unusedVariables false
set_option linter.unusedSimpArgs false
namespace Go.Proofs.YtaihnhhapplmbaaGreatDoor.Ht
open Go.Sort Go.RowKit Go.Proofs Go.Proofs.YtaihnhhapplmbaaGreatDoorW.PrintWords Go.Proofs.YtaihnhhapplmbaaGreatDoor.Bs Go.Proofs.YtaihnhhapplmbaaGreatDoor.Ir

/-- A function value that tells of a head, in every later world. -/
def PredH (g : Nat) (lb : Array Value) (p : Head → Bool) (w : World) : Prop :=
  ∀ W h, HOk h → Below w.heap.size w W → Calls Tryz.prog g (#[aggH h] ++ lb) W fun e w' => e = .returned (.bool (p h)) ∧ Below W.heap.size W w'
theorem PredH.later {g : Nat} {lb : Array Value} {p : Head → Bool} {w W : World} (h : PredH g lb p w) (hb : Below w.heap.size w W) : PredH g lb p W :=
  fun W' x hx hb' => h W' x hx (below_via hb' hb)
/-- where the first one is; -1: nowhere -/
def idxH (p : Head → Bool) (l : List Head) : Int := match l.findIdx? p with | some i => i | none => -1

set_option maxRecDepth 100000 in
set_option maxHeartbeats 1000000 in
theorem indexFunc_H (g : Nat) (lb : Array Value) (eg : ∀ args w, (callFunc g args).run Tryz.prog w = .ok (.enter g args) w) (p : Head → Bool) (A : Option Addr) (c : Nat) (l : List Head) (w : World)
    (hl : l.length ≤ 1073741824) (hC : Kd.C kH w A l.length l) (hok : ∀ h ∈ l, HOk h) (hp : PredH g lb p w) :
    Calls Tryz.prog 28 #[.slice A l.length c, .func (.func g) #[] lb] w fun e w' => e = .returned (.int .i64 (idxH p l)) ∧ Below w.heap.size w w' := by
  have HC := Lib.hid hC
  have HO := Lib.hid hok
  have HP := Lib.hid hp
  clear hC hok hp
  go_enter Tryz.func28, Tryz.ntmps28
  go_wp2_with fail
  go_loopw [8] (fun i wr => ∃ k : Nat, k ≤ l.length ∧ i = .int .i64 k ∧ Hid (∀ j (hj : j < l.length), j < k → p l[j] = false) ∧ Below w.heap.size w wr) (fun i _ => l.length - (intOf i).toNat)
  case atStart => exact ⟨0, Nat.zero_le _, rfl, Lib.hid (fun _ _ h => absurd h (by omega)), Below.refl _ _⟩
  case round =>
    obtain ⟨k, hk, rfl, hn, hb⟩ := hrel
    by_cases hlt : k < l.length
    · obtain ⟨ad, rfl, h0, h1⟩ := at_H (Kd.C_below HC.out hb) k hlt
      have hx : l.getD k zH = l[k] := by simp [List.getElem?_eq_getElem hlt]
      rw [hx] at h0 h1
      have hcall := HP.out wr l[k] (HO.out _ (List.getElem_mem _)) hb
      obtain ⟨x, hxx⟩ : ∃ x, x = l[k] := ⟨_, rfl⟩
      rw [← hxx] at h0 h1 hcall
      have HX := Lib.hid hxx
      clear hxx hx
      cases hpx : p x
      · rw [hpx] at hcall
        go_wp2_with (go_at_fn g; refine hcall.mono ?_; rintro e w1 ⟨rfl, hb1⟩)
        go_roundw
        case rel => exact ⟨k + 1, by omega, by go_num, Lib.hid (fun j hj h => by
          by_cases e : j = k
          · subst e
            rw [← HX.out]
            exact hpx
          · exact hn.out j hj (by omega)), (by repeat (first | assumption | exact Below.refl _ _ | apply below_drew | apply pw_below_drewN | apply below_alloc | (refine below_via (by assumption) ?_)))⟩
        case measure => simp [intOf]; omega
      · rw [hpx] at hcall
        go_wp2_with (go_at_fn g; refine hcall.mono ?_; rintro e w1 ⟨rfl, hb1⟩)
        go_ret
        refine ⟨?_, (by repeat (first | assumption | exact Below.refl _ _ | apply below_drew | apply pw_below_drewN | apply below_alloc | (refine below_via (by assumption) ?_)))⟩
        have : l.findIdx? p = some k := by
          rw [List.findIdx?_eq_some_iff_getElem]
          exact ⟨hlt, by rw [← HX.out]; exact hpx, fun j hj => by rw [hn.out j (by omega) hj]; simp⟩
        simp [idxH, this]
    · have : l.findIdx? p = none := by
        rw [List.findIdx?_eq_none_iff]
        intro x hx
        obtain ⟨j, hj, rfl⟩ := List.getElem_of_mem hx
        exact hn.out j hj (by omega)
      have HI : Hid (idxH p l = -1) := Lib.hid (by simp [idxH, this])
      clear this
      go_wp2_with fail
      go_ret
      exact ⟨by rw [HI.out]; rfl, hb⟩

theorem idxH_any (p : Head → Bool) (l : List Head) : decide (0 ≤ idxH p l) = l.any p := by
  unfold idxH
  cases h : l.findIdx? p with
  | none =>
    rw [List.findIdx?_eq_none_iff] at h
    have : l.any p = false := by
      rw [List.any_eq_false]
      intro x hx
      rw [h x hx]
      simp
    rw [this]
    rfl
  | some i =>
    rw [List.findIdx?_eq_some_iff_getElem] at h
    obtain ⟨hl, hp, _⟩ := h
    have : l.any p = true := List.any_eq_true.2 ⟨_, List.getElem_mem hl, hp⟩
    rw [this]
    simp
theorem containsFunc_H (g : Nat) (lb : Array Value) (eg : ∀ args w, (callFunc g args).run Tryz.prog w = .ok (.enter g args) w) (p : Head → Bool) (A : Option Addr) (c : Nat) (l : List Head) (w : World)
    (hl : l.length ≤ 1073741824) (hC : Kd.C kH w A l.length l) (hok : ∀ h ∈ l, HOk h) (hp : PredH g lb p w) :
    Calls Tryz.prog 55 #[.slice A l.length c, .func (.func g) #[] lb] w fun e w' => e = .returned (.bool (l.any p)) ∧ Below w.heap.size w w' := by
  have hi := indexFunc_H g lb eg p A c l w hl hC hok hp
  rw [← idxH_any]
  generalize idxH p l = r at *
  clear hC hok hp
  go_enter Tryz.func55, Tryz.ntmps55
  go_wp2_with (go_at_call 28; refine hi.mono ?_; rintro e w1 ⟨rfl, hb⟩)
  go_ret
  exact ⟨rfl, by assumption⟩
end Go.Proofs.YtaihnhhapplmbaaGreatDoor.Ht
