/- Package http: WriteRequest, WriteResponse. -/
import Derived.Test.YtaihnhhapplmbaaGreatDoorRe
set_option linter.unusedVariables false
set_option linter.unusedSimpArgs false
namespace Go.Proofs.YtaihnhhapplmbaaGreatDoor.Ht
open Go.Sort Go.RowKit Go.Proofs Go.Proofs.YtaihnhhapplmbaaGreatDoorW.PrintWords Go.Proofs.YtaihnhhapplmbaaGreatDoor.Bs Go.Proofs.YtaihnhhapplmbaaGreatDoor.Ir Go.Proofs.YtaihnhhapplmbaaGreatDoor.Gn

def firstB (m t : ByteArray) : ByteArray := m ++ ⟨#[32]⟩ ++ t ++ ⟨#[32, 72, 84, 84, 80, 47, 49, 46, 49]⟩
def reqOk (m t : ByteArray) (l : List Head) (b : ByteArray) : Bool := tokenB m && targetB t && decide ((firstB m t).size ≤ 4096) && rightB l b
theorem rightB_le {l : List Head} {b : ByteArray} (h : rightB l b = true) : l.length ≤ 64 ∧ b.size ≤ 65536 := by
  simp only [rightB, Bool.and_eq_true, decide_eq_true_eq] at h
  exact ⟨h.1.1, h.2⟩
def writeReq (m t : ByteArray) (l : List Head) (b : ByteArray) : Value := if reqOk m t l b then .tuple #[.string (messageB (firstB m t) l b), .int .i64 0] else .tuple #[.string ⟨#[]⟩, .int .i64 13]

set_option maxRecDepth 100000 in
set_option maxHeartbeats 4000000 in
theorem writeRequest_any (m t : ByteArray) (A : Option Addr) (c : Nat) (l : List Head) (b : ByteArray) (w : World) (G : Gnd w) (hm : m.size ≤ 1073741824) (ht : t.size ≤ 1073741824) (hl : l.length ≤ 1073741824) (hC : Kd.C kH w A l.length l) (hok : ∀ h ∈ l, HOk h) :
    Calls Tryz.prog 14 #[.agg #[.string m, .string t, .slice A l.length c, .string b]] w fun e w' => e = .returned (writeReq m t l b) ∧ Below w.heap.size w w' := by
  have e1 : (⟨#[32]⟩ : ByteArray).size = 1 := rfl
  have e2 : (⟨#[32, 72, 84, 84, 80, 47, 49, 46, 49]⟩ : ByteArray).size = 9 := rfl
  have HF := Lib.hid (show (firstB m t).size = m.size + 1 + t.size + 9 from by simp only [firstB, ByteArray.size_append, e1, e2])
  have c1 := fun W => token_any m W
  have c2 := fun W => target_any t W
  have c3 := fun W (hb : Below w.heap.size w W) => right_any A c l b W hl (Kd.C_below hC hb) hok
  have c4 := fun W (hb : Below w.heap.size w W) (h : l.length ≤ 64 ∧ b.size ≤ 65536) (h4 : (firstB m t).size ≤ 4096) => message_any (firstB m t) A c l b W (G.below hb) (by omega) h.1 (Kd.C_below hC hb) hok h.2
  have HR := Lib.hid (@rightB_le l b)
  unfold writeReq reqOk
  clear hC hok G
  have HC4 := Lib.hid c4
  clear c4
  generalize messageB (firstB m t) l b = msg at *
  generalize tokenB m = b1 at *
  generalize targetB t = b2 at *
  generalize rightB l b = b3 at *
  unfold firstB at HF HC4 ⊢
  by_cases h4 : (m.size : Int) + 1 + t.size + 9 ≤ 4096
  · have n4 : ¬ (4096 : Int) < (m.size : Int) + 1 + t.size + 9 := by omega
    obtain rfl | rfl : b3 = true ∨ b3 = false := by cases b3 <;> simp
    ·
      go_enter Tryz.func14, Tryz.ntmps14
      go_wp2_with (first
        | (go_at_call 24; refine (c1 _).mono ?_; rintro e w1 ⟨rfl, hb1⟩; obtain ⟨hbc1, hbf1⟩ := bcell hb1; have hz1 : w.heap.size < w1.heap.size := (by have := hb1.size; simp at this; omega))
        | (go_at_call 25; refine (c2 _).mono ?_; rintro e w2 ⟨rfl, hb2⟩; obtain ⟨hbc2, hbf2⟩ := bcell hb2; have hz2 : w.heap.size < w2.heap.size := (by have := hb2.size; omega))
        | (go_at_call 26; refine (c3 _ (by repeat (first | assumption | exact Below.refl _ _ | apply below_drew | apply pw_below_drewN | apply below_alloc | (refine below_via (by assumption) ?_)))).mono ?_; rintro e w3 ⟨rfl, hb3⟩; obtain ⟨hbc3, hbf3⟩ := bcell hb3; have hz3 : w.heap.size < w3.heap.size := (by have := hb3.size; omega))
        | (go_at_call 27; refine (HC4.out _ (by repeat (first | assumption | exact Below.refl _ _ | apply below_drew | apply pw_below_drewN | apply below_alloc | (refine below_via (by assumption) ?_))) (HR.out (by first | rfl | trivial | assumption)) (by simp only [ByteArray.size_append, e1, e2]; omega)).mono ?_; rintro e w4 ⟨rfl, hb4⟩))
      all_goals go_ret2
      all_goals exact ⟨by first | (simp [*, ByteArray.size_append]; done) | (simp [*, ByteArray.size_append]; omega), (by repeat (first | assumption | exact Below.refl _ _ | apply below_drew | apply pw_below_drewN | apply below_alloc | (refine below_via (by assumption) ?_)))⟩
    ·
      go_enter Tryz.func14, Tryz.ntmps14
      go_wp2_with (first
        | (go_at_call 24; refine (c1 _).mono ?_; rintro e w1 ⟨rfl, hb1⟩; obtain ⟨hbc1, hbf1⟩ := bcell hb1; have hz1 : w.heap.size < w1.heap.size := (by have := hb1.size; simp at this; omega))
        | (go_at_call 25; refine (c2 _).mono ?_; rintro e w2 ⟨rfl, hb2⟩; obtain ⟨hbc2, hbf2⟩ := bcell hb2; have hz2 : w.heap.size < w2.heap.size := (by have := hb2.size; omega))
        | (go_at_call 26; refine (c3 _ (by repeat (first | assumption | exact Below.refl _ _ | apply below_drew | apply pw_below_drewN | apply below_alloc | (refine below_via (by assumption) ?_)))).mono ?_; rintro e w3 ⟨rfl, hb3⟩; obtain ⟨hbc3, hbf3⟩ := bcell hb3; have hz3 : w.heap.size < w3.heap.size := (by have := hb3.size; omega)))
      all_goals go_ret2
      all_goals exact ⟨by first | (simp [*, ByteArray.size_append]; done) | (simp [*, ByteArray.size_append]; omega), (by repeat (first | assumption | exact Below.refl _ _ | apply below_drew | apply pw_below_drewN | apply below_alloc | (refine below_via (by assumption) ?_)))⟩
  · have n4 : (4096 : Int) < (m.size : Int) + 1 + t.size + 9 := by omega
    go_enter Tryz.func14, Tryz.ntmps14
    go_wp2_with (first
      | (go_at_call 24; refine (c1 _).mono ?_; rintro e w1 ⟨rfl, hb1⟩; obtain ⟨hbc1, hbf1⟩ := bcell hb1; have hz1 : w.heap.size < w1.heap.size := (by have := hb1.size; simp at this; omega))
      | (go_at_call 25; refine (c2 _).mono ?_; rintro e w2 ⟨rfl, hb2⟩; obtain ⟨hbc2, hbf2⟩ := bcell hb2; have hz2 : w.heap.size < w2.heap.size := (by have := hb2.size; omega))
      | (go_at_call 26; refine (c3 _ (by repeat (first | assumption | exact Below.refl _ _ | apply below_drew | apply pw_below_drewN | apply below_alloc | (refine below_via (by assumption) ?_)))).mono ?_; rintro e w3 ⟨rfl, hb3⟩; obtain ⟨hbc3, hbf3⟩ := bcell hb3; have hz3 : w.heap.size < w3.heap.size := (by have := hb3.size; omega)))
    all_goals go_ret2
    all_goals exact ⟨by first | (simp [*, ByteArray.size_append]; done) | (simp [*, ByteArray.size_append]; omega), (by repeat (first | assumption | exact Below.refl _ _ | apply below_drew | apply pw_below_drewN | apply below_alloc | (refine below_via (by assumption) ?_)))⟩
end Go.Proofs.YtaihnhhapplmbaaGreatDoor.Ht
