/- Package http: ReadRequest. -/
import Derived.Test.YtaihnhhapplmbaaGreatDoorRx
set_option linter.unusedVariables false
set_option linter.unusedSimpArgs false
namespace Go.Proofs.YtaihnhhapplmbaaGreatDoor.Ht
open Go.Sort Go.RowKit Go.Proofs Go.Proofs.YtaihnhhapplmbaaGreatDoorW.PrintWords Go.Proofs.YtaihnhhapplmbaaGreatDoor.Bs Go.Proofs.YtaihnhhapplmbaaGreatDoor.Ir Go.Proofs.YtaihnhhapplmbaaGreatDoor.Gn

def httpS : ByteArray := ⟨#[72, 84, 84, 80, 47, 49, 46, 49]⟩
/-- The function on a request's first line. -/
def firstReq (x0 x1 x2 : ByteArray) : Except Int (ByteArray × ByteArray) :=
  if tokenB x0 = true ∧ targetB x1 = true ∧ x2 = httpS then .ok (x0, x1) else .error 13
def ReqAt (rb : Nat) (m t : ByteArray) (hv : Value) (bd : ByteArray) (W : World) : Prop := W.heap[rb]? = some (.cells #[.string m, .string t, hv, .string bd] 51 (0, 0))
def FinReq (rb : Nat) (z : ByteArray × ByteArray) (W : World) : Prop := ReqAt rb z.1 z.2 (.slice none 0 0) ⟨#[]⟩ W
theorem http_eq (x : ByteArray) : (x.toList == [72, 84, 84, 80, 47, 49, 46, 49]) = decide (x = httpS) := by
  rw [Bool.eq_iff_iff, beq_iff_eq, decide_eq_true_eq, ByteArray.toList_eq]
  constructor
  · intro h
    apply ByteArray.ext
    apply Array.ext'
    exact h
  · intro h; rw [h]; rfl
def FirstPost {γ : Type} (rb : Nat) (Fin : γ → World → Prop) (W : World) (R : Except Int γ) (e : Ending) (w' : World) : Prop :=
  W.grownBy w' (some rb) ∧ match R with
      | .ok z => e = .returned (.tuple #[]) ∧ Fin z w'
      | .error y => e = pv y
set_option maxRecDepth 100000 in
set_option maxHeartbeats 2000000 in
theorem firstReq_any (rb : Nat) : FirstOk 36 #[.pointer (some ⟨rb, 0, none⟩)] rb (fun W => FinReq rb (⟨#[]⟩, ⟨#[]⟩) W) (FinReq rb) firstReq := by
  intro W a c x0 x1 x2 h0 h1 h2 s0 s1 s2 hI G
  show Calls Tryz.prog 36 #[.slice (some ⟨a, 0, none⟩) 3 c, .pointer (some ⟨rb, 0, none⟩)] W (fun e w' => FirstPost rb (FinReq rb) W (firstReq x0 x1 x2) e w')
  have ha := World.block_lt_of_cell? W _ h0
  dsimp only at ha
  have ht := fun W => token_any x0 W
  have hg := fun W => target_any x1 W
  have hh := http_eq x2
  obtain ⟨R, hR⟩ : ∃ R, R = firstReq x0 x1 x2 := ⟨_, rfl⟩
  rw [← hR]
  unfold firstReq at hR
  have HR := Lib.hid hR
  have HI := Lib.hid hI
  clear hR hI
  generalize tokenB x0 = t0 at *
  generalize targetB x1 = t1 at *
  have key : ∀ (w1 : World), Below W.heap.size W w1 → (w1.cell? ⟨a, 0, none⟩ = some (.string x0) ∧ w1.cell? ⟨a, 1, none⟩ = some (.string x1) ∧ w1.cell? ⟨a, 2, none⟩ = some (.string x2)) := fun w1 hb => ⟨(hb.cell ha).trans h0, (hb.cell ha).trans h1, (hb.cell ha).trans h2⟩
  clear G
  cases t0 with
  | false =>
    have HRES := Lib.hid (show R = .error 13 from by rw [HR.out, if_neg (by simp)])
    clear HR hh h1 h2
    go_enter Tryz.func36, Tryz.ntmps36
    go_wp2_with (first | (go_at_call 24; refine (ht _).mono ?_; rintro e w1 ⟨rfl, hb1⟩) | (go_at_call 33; refine (must_f _ _ _ (by first | (simp; done) | (simp; omega))).mono ?_; rintro e w9 ⟨rfl, rfl⟩))
    refine ⟨rfl, ?_⟩
    rw [HRES.out]
    exact ⟨grown_of_below hb1 _, rfl⟩
  | true =>
    cases t1 with
    | false =>
      have HRES := Lib.hid (show R = .error 13 from by rw [HR.out, if_neg (by simp)])
      clear HR hh
      go_enter Tryz.func36, Tryz.ntmps36
      go_wp2_with (first | (go_at_call 24; refine (ht _).mono ?_; rintro e w1 ⟨rfl, hb1⟩; obtain ⟨k0, k1, k2⟩ := key _ hb1) | (go_at_call 25; refine (hg _).mono ?_; rintro e w2 ⟨rfl, hb2⟩; obtain ⟨k0, k1, k2⟩ := key _ (hb1.trans (hb2.mono hb1.size))) | (go_at_call 33; refine (must_f _ _ _ (by first | (simp; done) | (simp; omega))).mono ?_; rintro e w9 ⟨rfl, rfl⟩))
      refine ⟨rfl, ?_⟩
      rw [HRES.out]
      exact ⟨grown_of_below (hb1.trans (hb2.mono hb1.size)) _, rfl⟩
    | true =>
      by_cases hx : x2 = httpS
      · have HRES := Lib.hid (show R = .ok (x0, x1) from by rw [HR.out, if_pos ⟨rfl, rfl, hx⟩])
        rw [decide_eq_true hx] at hh
        clear HR hx
        go_enter Tryz.func36, Tryz.ntmps36
        go_wp2_with (first | (go_at_call 24; refine (ht _).mono ?_; rintro e w1 ⟨rfl, hb1⟩; obtain ⟨k0, k1, k2⟩ := key _ hb1) | (go_at_call 25; refine (hg _).mono ?_; rintro e w2 ⟨rfl, hb2⟩; obtain ⟨k0, k1, k2⟩ := key _ (hb1.trans (hb2.mono hb1.size))) | (go_at_call 33; refine (must_t _ _ _ (by first | (simp; done) | (simp; omega))).mono ?_; rintro e w9 ⟨rfl, rfl⟩))
        have hb := hb1.trans (hb2.mono hb1.size)
        have hI2 : ReqAt rb ⟨#[]⟩ ⟨#[]⟩ (.slice none 0 0) ⟨#[]⟩ w2 := (hb.block _ (blk_lt HI.out)).trans HI.out
        have HI2 := Lib.hid hI2
        have r0 : w2.cell? ⟨rb, 0, none⟩ = some (.string ⟨#[]⟩) := by rw [blk_cell hI2]; rfl
        have r1 : w2.cell? ⟨rb, 1, none⟩ = some (.string ⟨#[]⟩) := by rw [blk_cell hI2]; rfl
        have f0 : w2.frozen? ⟨rb, 0, none⟩ = false := blk_frozen hI2 _
        have f1 : w2.frozen? ⟨rb, 1, none⟩ = false := blk_frozen hI2 _
        have HB := Lib.hid hb
        have hne : a ≠ rb := by
          rintro rfl
          have := HI.out
          have h3 := blk_cell this 0
          have h4 := blk_cell this 2
          rw [h2] at h4
          cases h4
        clear hb hb1 hb2 hI2 h0 h1 h2 key ht hg
        go_region
        all_goals
          go_wp2_with fail
          go_end0
          rw [HRES.out]
          first
          | exact ⟨grown_set (grown_set (grown_drewN (grown_of_below HB.out (some rb)) 1)), rfl, blk_set (blk_set (w := w2.drew) HI2.out 0 _) 1 _⟩
          | exact ⟨grown_set (grown_set (grown_drewN (grown_of_below HB.out (some rb)) 1)), rfl, blk_set (blk_set (w := w2.drew) HI2.out 1 _) 0 _⟩
      · have HRES := Lib.hid (show R = .error 13 from by rw [HR.out, if_neg (fun h => hx h.2.2)])
        rw [decide_eq_false hx] at hh
        clear HR hx
        go_enter Tryz.func36, Tryz.ntmps36
        go_wp2_with (first | (go_at_call 24; refine (ht _).mono ?_; rintro e w1 ⟨rfl, hb1⟩; obtain ⟨k0, k1, k2⟩ := key _ hb1) | (go_at_call 25; refine (hg _).mono ?_; rintro e w2 ⟨rfl, hb2⟩; obtain ⟨k0, k1, k2⟩ := key _ (hb1.trans (hb2.mono hb1.size))) | (go_at_call 33; refine (must_f _ _ _ (by first | (simp; done) | (simp; omega))).mono ?_; rintro e w9 ⟨rfl, rfl⟩))
        refine ⟨rfl, ?_⟩
        rw [HRES.out]
        exact ⟨grown_of_below (hb1.trans (hb2.mono hb1.size)) _, rfl⟩
end Go.Proofs.YtaihnhhapplmbaaGreatDoor.Ht
