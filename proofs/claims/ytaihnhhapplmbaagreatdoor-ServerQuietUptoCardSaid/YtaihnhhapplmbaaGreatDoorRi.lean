/- Package http: right. -/
import Derived.Test.YtaihnhhapplmbaaGreatDoorCl
set_option linter.unusedVariables false
set_option linter.unusedSimpArgs false
namespace Go.Proofs.YtaihnhhapplmbaaGreatDoor.Ht
open Go.Sort Go.RowKit Go.Proofs Go.Proofs.YtaihnhhapplmbaaGreatDoorW.PrintWords Go.Proofs.YtaihnhhapplmbaaGreatDoor.Bs Go.Proofs.YtaihnhhapplmbaaGreatDoor.Ir

def badHB (h : Head) : Bool := !tokenB h.name || framingB h.name || !valueB h.value || decide (4096 < h.name.size + 2 + h.value.size)
set_option maxRecDepth 100000 in
set_option maxHeartbeats 2000000 in
theorem right1_any (h : Head) (w : World) (hok : HOk h) :
    Calls Tryz.prog 52 #[aggH h] w fun e w' => e = .returned (.bool (badHB h)) ∧ Below w.heap.size w w' := by
  obtain ⟨n, v⟩ := h
  obtain ⟨hn, hv⟩ := hok
  dsimp only at hn hv
  have ht := fun W => token_any n W
  have hf := fun W => framing_any n v W hn
  have hvl := fun W => value_any v W hv
  unfold badHB aggH
  dsimp only
  generalize tokenB n = b1 at *
  generalize framingB n = b2 at *
  generalize valueB v = b3 at *
  go_enter Tryz.func52, Tryz.ntmps52
  go_wp2_with (first | (go_at_call 24; refine (ht _).mono ?_; rintro e w1 ⟨rfl, hb⟩; obtain ⟨hbc, hbf⟩ := bcell hb; have hz1 : w.heap.size < w1.heap.size := (by have := hb.size; simp at this; omega)) | (go_at_call 53; refine (hf _).mono ?_; rintro e w2 ⟨rfl, hb2⟩; obtain ⟨hbc2, hbf2⟩ := bcell hb2; have hz2 : w.heap.size < w2.heap.size := (by have := hb2.size; omega)) | (go_at_call 54; refine (hvl _).mono ?_; rintro e w3 ⟨rfl, hb3⟩; obtain ⟨hbc3, hbf3⟩ := bcell hb3))
  all_goals go_ret
  all_goals exact ⟨by first | (simp [*]; done) | (simp [*]; omega), (by repeat (first | assumption | exact Below.refl _ _ | apply below_drew | apply pw_below_drewN | apply below_alloc | (refine below_via (by assumption) ?_)))⟩

theorem pred_right (w : World) : PredH 52 #[] badHB w := fun W h hok _ => right1_any h W hok
def rightB (l : List Head) (body : ByteArray) : Bool := decide (l.length ≤ 64) && !l.any badHB && decide (body.size ≤ 65536)
set_option maxRecDepth 100000 in
theorem right_any (A : Option Addr) (c : Nat) (l : List Head) (body : ByteArray) (w : World) (hl : l.length ≤ 1073741824) (hC : Kd.C kH w A l.length l) (hok : ∀ h ∈ l, HOk h) :
    Calls Tryz.prog 26 #[.slice A l.length c, .string body] w fun e w' => e = .returned (.bool (rightB l body)) ∧ Below w.heap.size w w' := by
  have hc := containsFunc_H 52 #[] (fun args w => by kernel_rfl) badHB A c l w hl hC hok (pred_right w)
  unfold rightB
  generalize l.any badHB = b at *
  clear hC hok
  by_cases h64 : l.length ≤ 64
  · go_enter Tryz.func26, Tryz.ntmps26
    go_wp2_with (go_at_call 55; refine hc.mono ?_; rintro e w1 ⟨rfl, hb⟩)
    all_goals go_ret
    all_goals exact ⟨by first | (simp [*]; done) | (simp [*]; omega), (by repeat (first | assumption | exact Below.refl _ _ | apply below_drew | apply pw_below_drewN | apply below_alloc | (refine below_via (by assumption) ?_)))⟩
  · go_enter Tryz.func26, Tryz.ntmps26
    go_wp2_with (go_at_call 55; refine hc.mono ?_; rintro e w1 ⟨rfl, hb⟩)
    all_goals go_ret
    all_goals exact ⟨by first | (simp [*]; done) | (simp [*]; omega), (by repeat (first | assumption | exact Below.refl _ _ | apply below_drew | apply pw_below_drewN | apply below_alloc | (refine below_via (by assumption) ?_)))⟩
end Go.Proofs.YtaihnhhapplmbaaGreatDoor.Ht
