/- Package penstocklaw07: lives: what the document's own examples come to. -/
import Derived.Test.YtjbehnalmgcbpaaGreatDoorRt
import Derived.Test.YtjbehnalmgcbpaaGreatDoorWp
set_option linter.unusedVariables false
set_option linter.unusedSimpArgs false
namespace Go.Proofs.YtjbehnalmgcbpaaGreatDoor.Ht
open Go.Sort Go.RowKit Go.Proofs Go.Proofs.YtjbehnalmgcbpaaGreatDoorW.PrintWords Go.Proofs.YtjbehnalmgcbpaaGreatDoor.Bs Go.Proofs.YtjbehnalmgcbpaaGreatDoor.Ir Go.Proofs.YtjbehnalmgcbpaaGreatDoor.Gn

def liveA : ByteArray := ⟨#[80, 79, 83, 84, 32, 47, 118, 49, 47, 108, 111, 103, 115, 32, 72, 84, 84, 80, 47, 49, 46, 49, 13, 10, 67, 111, 110, 116, 101, 110, 116, 45, 76, 101, 110, 103, 116, 104, 58, 32, 50, 13, 10, 13, 10, 104, 105]⟩
def liveB : ByteArray := ⟨#[80, 79, 83, 84, 32, 47, 118, 49, 47, 108, 111, 103, 115, 32, 72, 84, 84, 80, 47, 49, 46, 49, 13, 10, 67, 111, 110, 116, 101, 110, 116, 45, 76, 101, 110, 103, 116, 104, 58, 32, 50, 13, 10, 13, 10, 104]⟩
def liveC : ByteArray := ⟨#[71, 69, 84, 32, 47, 32, 72, 84, 84, 80, 47, 49, 46, 48, 13, 10, 13, 10]⟩
theorem live_a : reqP liveA 10 = .ok ⟨[], ⟨#[104, 105]⟩, 47, (⟨#[80, 79, 83, 84]⟩, ⟨#[47, 118, 49, 47, 108, 111, 103, 115]⟩)⟩ := by kernel_rfl
theorem live_b : reqP liveB 10 = .error 14 := by kernel_rfl
theorem live_c : reqP liveC 10 = .error 13 := by kernel_rfl
def liveD : ByteArray := ⟨#[72, 84, 84, 80, 47, 49, 46, 49, 32, 52, 48, 52, 32, 78, 111, 116, 32, 70, 111, 117, 110, 100, 13, 10, 67, 111, 110, 116, 101, 110, 116, 45, 76, 101, 110, 103, 116, 104, 58, 32, 48, 13, 10, 13, 10]⟩
theorem live_d : writeResp 404 [] ⟨#[]⟩ = .tuple #[.string liveD, .int .i64 0] := by kernel_rfl
set_option maxRecDepth 100000 in
set_option maxHeartbeats 2000000 in
theorem lives_any (w : World) (G : Gnd w) : Calls Tryz.prog 10 #[] w fun e w' => e = .returned (.bool true) ∧ Below w.heap.size w w' := by
  have c1 : ∀ W, Below w.heap.size w W → Calls Tryz.prog 11 #[.string liveA, .int .i64 10] W fun e w' => (∃ A c, e = .returned (.tuple #[.agg #[.string ⟨#[80, 79, 83, 84]⟩, .string ⟨#[47, 118, 49, 47, 108, 111, 103, 115]⟩, .slice A 0 c, .string ⟨#[104, 105]⟩], .int .i64 47, .int .i64 0])) ∧ Below W.heap.size W w' := fun W hb => (readRequest_any liveA 10 W (G.below hb) (G.below hb).low (by decide)).mono (by
    rw [live_a]
    rintro e w' ⟨hb', A, c, rfl, _⟩
    exact ⟨⟨A, c, rfl⟩, hb'⟩)
  have c2 : ∀ W, Below w.heap.size w W → Calls Tryz.prog 11 #[.string liveB, .int .i64 10] W fun e w' => (e = .returned (.tuple #[.agg #[.string ⟨#[]⟩, .string ⟨#[]⟩, .slice none 0 0, .string ⟨#[]⟩], .int .i64 0, .int .i64 14])) ∧ Below W.heap.size W w' := fun W hb => (readRequest_any liveB 10 W (G.below hb) (G.below hb).low (by decide)).mono (by
    rw [live_b]
    rintro e w' ⟨hb', rfl⟩
    exact ⟨rfl, hb'⟩)
  have c3 : ∀ W, Below w.heap.size w W → Calls Tryz.prog 11 #[.string liveC, .int .i64 10] W fun e w' => (e = .returned (.tuple #[.agg #[.string ⟨#[]⟩, .string ⟨#[]⟩, .slice none 0 0, .string ⟨#[]⟩], .int .i64 0, .int .i64 13])) ∧ Below W.heap.size W w' := fun W hb => (readRequest_any liveC 10 W (G.below hb) (G.below hb).low (by decide)).mono (by
    rw [live_c]
    rintro e w' ⟨hb', rfl⟩
    exact ⟨rfl, hb'⟩)
  have c4 : ∀ W, Below w.heap.size w W → Calls Tryz.prog 16 #[.agg #[.int .i64 404, .slice none 0 0, .string ⟨#[]⟩]] W fun e w' => (e = .returned (.tuple #[.string liveD, .int .i64 0])) ∧ Below W.heap.size W w' := fun W hb => (writeResponse_any 404 none 0 [] ⟨#[]⟩ W (G.below hb) (by decide) (Kd.C_nil kH W) (by simp)).mono (by
    rw [live_d]
    rintro e w' ⟨rfl, hb'⟩
    exact ⟨rfl, hb'⟩)
  clear G
  unfold liveA at c1
  unfold liveB at c2
  unfold liveC at c3
  unfold liveD at c4
  go_enter Tryz.func10, Tryz.ntmps10
  go_wp2_with (first
    | (go_at_call 11; (with_reducible refine (c1 _ (by repeat (first | assumption | exact Below.refl _ _ | apply below_drew | apply pw_below_drewN | apply below_alloc | (refine below_via (by assumption) ?_)))).mono ?_); rintro e w1 ⟨⟨A, c, rfl⟩, hb1⟩)
    | (go_at_call 11; (with_reducible refine (c2 _ (by repeat (first | assumption | exact Below.refl _ _ | apply below_drew | apply pw_below_drewN | apply below_alloc | (refine below_via (by assumption) ?_)))).mono ?_); rintro e w2 ⟨rfl, hb2⟩; obtain ⟨hbc2, hbf2⟩ := bcell hb2; have hz2 : w1.heap.size < w2.heap.size := (by have := hb2.size; simp at this; omega))
    | (go_at_call 11; (with_reducible refine (c3 _ (by repeat (first | assumption | exact Below.refl _ _ | apply below_drew | apply pw_below_drewN | apply below_alloc | (refine below_via (by assumption) ?_)))).mono ?_); rintro e w3 ⟨rfl, hb3⟩; obtain ⟨hbc3, hbf3⟩ := bcell hb3; have hz3 : w1.heap.size < w3.heap.size ∧ w2.heap.size < w3.heap.size := (by have := hb3.size; simp at this; omega); obtain ⟨hz3a, hz3b⟩ := hz3)
    | (go_at_call 16; (with_reducible refine (c4 _ (by repeat (first | assumption | exact Below.refl _ _ | apply below_drew | apply pw_below_drewN | apply below_alloc | (refine below_via (by assumption) ?_)))).mono ?_); rintro e w4 ⟨rfl, hb4⟩; obtain ⟨hbc4, hbf4⟩ := bcell hb4; have hz4 : w1.heap.size < w4.heap.size ∧ w2.heap.size < w4.heap.size := (by have := hb4.size; simp at this; omega); obtain ⟨hz4a, hz4b⟩ := hz4))
  go_goals
  all_goals (go_ret; exact ⟨rfl, (by repeat (first | assumption | exact Below.refl _ _ | apply below_drew | apply pw_below_drewN | apply below_alloc | (refine below_via (by assumption) ?_)))⟩)
end Go.Proofs.YtjbehnalmgcbpaaGreatDoor.Ht
