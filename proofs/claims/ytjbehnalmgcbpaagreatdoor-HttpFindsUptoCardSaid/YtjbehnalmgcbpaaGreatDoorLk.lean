/- HttpBack: the walk. -/
import Derived.Test.YtjbehnalmgcbpaaGreatDoorLm
set_option linter.unusedVariables false
set_option linter.unusedSimpArgs false
namespace Go.Proofs.YtjbehnalmgcbpaaGreatDoor.Ht
open Go.Sort Go.RowKit Go.Proofs Go.Proofs.YtjbehnalmgcbpaaGreatDoorW.PrintWords Go.Proofs.YtjbehnalmgcbpaaGreatDoor.Bs Go.Proofs.YtjbehnalmgcbpaaGreatDoor.Ir Go.Proofs.YtjbehnalmgcbpaaGreatDoor.Gn

theorem rp_ok {s : ByteArray} {most : Int} {r : ReadOk Int} (h : respP s most = .ok r) (W : World) (G : Gnd W) (hs : s.size ≤ 1073741824) :
    Calls Tryz.prog 21 #[.string s, .int .i64 most] W fun e w' => ∃ A c, e = .returned (.tuple #[.agg #[.int .i64 r.got, .slice A r.heads.length c, .string r.body], .int .i64 r.n, .int .i64 0]) ∧ Hid (Kd.C kH w' A r.heads.length r.heads) ∧ Below W.heap.size W w' := (readResponse_any s most W G G.low hs).mono (by
  rw [h]
  rintro e w' ⟨hb, A, c, rfl, hC⟩
  exact ⟨A, c, rfl, Lib.hid hC, hb⟩)
theorem rp_err {s : ByteArray} {most : Int} {y : Int} (h : respP s most = .error y) (W : World) (G : Gnd W) (hs : s.size ≤ 1073741824) :
    Calls Tryz.prog 21 #[.string s, .int .i64 most] W fun e w' => e = .returned (.tuple #[.agg #[.int .i64 0, .slice none 0 0, .string ⟨#[]⟩], .int .i64 0, .int .i64 y]) ∧ Below W.heap.size W w' := (readResponse_any s most W G G.low hs).mono (by
  rw [h]
  rintro e w' ⟨hb, rfl⟩
  exact ⟨rfl, hb⟩)
theorem firstP_size (k : Int) (h0 : 100 ≤ k) (h1 : k ≤ 599) : (firstP k).size ≤ 4096 := by
  have e1 : (firstP k).size = (firstP k).data.toList.length := rfl
  have e2 := reasonB_size k
  have e3 : (reasonB k).data.toList.length = (reasonB k).size := rfl
  obtain ⟨n, rfl⟩ : ∃ n : Nat, k = (n : Int) := ⟨k.toNat, by omega⟩
  obtain ⟨d1, d2, d3, d4⟩ := itoaB_dig n (by omega)
  have e4 : (itoaB n).data.toList.length = (itoaB n).size := rfl
  rw [e1, firstP_l]
  simp only [List.length_append, List.length_cons, e3, e4]
  have e5 : httpS.data.toList.length = 8 := rfl
  omega
set_option maxRecDepth 100000 in
set_option maxHeartbeats 8000000 in
theorem httpBack_any (m t b : ByteArray) (A : Option Addr) (c : Nat) (l : List Head) (k : Int) (b' : ByteArray) (A' : Option Addr) (c' : Nat) (l' : List Head) (behind : ByteArray) (w : World) (G : Gnd w)
    (zm : m.size ≤ 1048576) (zt : t.size ≤ 1048576) (zl : l.length ≤ 1048576) (zl' : l'.length ≤ 1048576) (zb : behind.size ≤ 1048576) (hC : Kd.C kH w A l.length l) (hC' : Kd.C kH w A' l'.length l') (hok : ∀ y ∈ l, y.name.size ≤ 1048576 ∧ y.value.size ≤ 1048576) (hok' : ∀ y ∈ l', y.name.size ≤ 1048576 ∧ y.value.size ≤ 1048576) :
    Calls Tryz.prog 9 #[.agg #[.string m, .string t, .slice A l.length c, .string b], .agg #[.int .i64 k, .slice A' l'.length c', .string b'], .string behind] w fun e w' => e = .returned (.bool true) ∧ Below w.heap.size w w' := by
  have hlv := fun W (hb : Below w.heap.size w W) => lives_any W (G.below hb)
  have hwr := fun W (hb : Below w.heap.size w W) => writeRequest_any m t A c l b W (G.below hb) (by omega) (by omega) (by omega) (Kd.C_below hC hb) (fun y hy => ⟨by have := (hok y hy).1; omega, by have := (hok y hy).2; omega⟩)
  have hwp := fun W (hb : Below w.heap.size w W) => writeResponse_any k A' c' l' b' W (G.below hb) (by omega) (Kd.C_below hC' hb) (fun y hy => ⟨by have := (hok' y hy).1; omega, by have := (hok' y hy).2; omega⟩)
  have hs1 := fun Aq cq W (hb : Below w.heap.size w W) h0 => sameRequest_any m t b m t b Aq A cq c l l W h0 (Kd.C_below hC hb) (by omega) (by omega)
  rw [decide_eq_true (show m = m ∧ t = t ∧ l = l ∧ b = b from ⟨rfl, rfl, rfl, rfl⟩)] at hs1
  have hs2 := fun Aq cq W (hb : Below w.heap.size w W) h0 => sameResponse_any k k b' b' Aq A' cq c' l' l' W h0 (Kd.C_below hC' hb) (by omega) (by omega)
  rw [decide_eq_true (show k = k ∧ l' = l' ∧ b' = b' from ⟨rfl, rfl, rfl⟩)] at hs2
  have HG := Lib.hid G
  clear G hC hC' hok hok'
  unfold writeReq at hwr
  unfold writeResp at hwp
  cases hq : reqOk m t l b with
  | true =>
    obtain ⟨hr, hf⟩ := reqOk_right hq
    have hmz := message_size hr hf
    have hbk := req_back hq behind 65536 (by decide) (by decide)
    rw [if_pos (by have := (rightB_spec hr).2.1; omega)] at hbk
    rw [if_pos hq] at hwr
    generalize messageB (firstB m t) l b = msg at *
    have k0 : ¬ 9223372036854775807 < msg.size + behind.size := by omega
    have c1 := fun W (hb : Below w.heap.size w W) => rr_ok hbk W (HG.out.below hb) (by rw [ByteArray.size_append]; omega)
    dsimp only at c1
    clear hq hr hf hbk
    cases hp : respOk k l' b' with
    | true =>
      have hr : rightB l' b' = true ∧ 100 ≤ k ∧ k ≤ 599 := by
        have h := hp
        simp only [respOk, Bool.and_eq_true, decide_eq_true_eq] at h
        exact ⟨h.2, h.1.1, h.1.2⟩
      have hmz' := message_size hr.1 (firstP_size k hr.2.1 hr.2.2)
      have hbk := resp_back hp behind 65536 (by decide) (by decide)
      rw [if_pos (by have := (rightB_spec hr.1).2.1; omega)] at hbk
      rw [if_pos hp] at hwp
      generalize messageB (firstP k) l' b' = msg' at *
      have k1 : ¬ 9223372036854775807 < msg'.size + behind.size := by omega
      have c2 := fun W (hb : Below w.heap.size w W) => rp_ok hbk W (HG.out.below hb) (by rw [ByteArray.size_append]; omega)
      dsimp only at c2
      clear hp hr hbk
      go_enter Tryz.func9, Tryz.ntmps9
      go_wp2_with (first
        | (go_at_call 10; (with_reducible refine (hlv _ (by repeat (first | assumption | exact Below.refl _ _ | apply below_drew | apply pw_below_drewN | apply below_alloc | (refine below_via (by assumption) ?_)))).mono ?_); rintro e w1 ⟨rfl, hb1⟩; obtain ⟨hbc1, hbf1⟩ := bcell hb1; have hz1 : w.heap.size + 1 < w1.heap.size := (by have := hb1.size; simp at this; omega); have hy1 : w.heap.size < w1.heap.size := (by omega))
        | (go_at_call 14; (with_reducible refine (hwr _ (by repeat (first | assumption | exact Below.refl _ _ | apply below_drew | apply pw_below_drewN | apply below_alloc | (refine below_via (by assumption) ?_)))).mono ?_); rintro e w2 ⟨rfl, hb2⟩; obtain ⟨hbc2, hbf2⟩ := bcell hb2; have hz2 : w.heap.size + 1 < w2.heap.size := (by have := hb2.size; omega); have hy2 : w.heap.size < w2.heap.size := (by omega))
        | (go_at_call 11; (with_reducible refine (c1 _ (by repeat (first | assumption | exact Below.refl _ _ | apply below_drew | apply pw_below_drewN | apply below_alloc | (refine below_via (by assumption) ?_)))).mono ?_); rintro e w3 ⟨A3, c3, rfl, hC3, hb3⟩; obtain ⟨hbc3, hbf3⟩ := bcell hb3; have hz3 : w.heap.size + 1 < w3.heap.size := (by have := hb3.size; omega); have hy3 : w.heap.size < w3.heap.size := (by omega))
        | (go_at_call 12; refine (hs1 _ _ _ (by repeat (first | assumption | exact Below.refl _ _ | apply below_drew | apply pw_below_drewN | apply below_alloc | (refine below_via (by assumption) ?_))) (Kd.C_below hC3.out (by repeat (first | assumption | exact Below.refl _ _ | apply below_drew | apply pw_below_drewN | apply below_alloc | (refine below_via (by assumption) ?_))))).mono ?_; rintro e w4 ⟨rfl, hb4⟩; obtain ⟨hbc4, hbf4⟩ := bcell hb4; have hx4 : w3.heap.size < w4.heap.size := (by have := hb4.size; simp at this; omega); have hz4 : w.heap.size + 1 < w4.heap.size := (by have := hb4.size; simp at this; omega); have hy4 : w.heap.size < w4.heap.size := (by omega))
        | (go_at_call 16; (with_reducible refine (hwp _ (by repeat (first | assumption | exact Below.refl _ _ | apply below_drew | apply pw_below_drewN | apply below_alloc | (refine below_via (by assumption) ?_)))).mono ?_); rintro e w5 ⟨rfl, hb5⟩; obtain ⟨hbc5, hbf5⟩ := bcell hb5; have hz5 : w.heap.size + 1 < w5.heap.size := (by have := hb5.size; omega); have hy5 : w.heap.size < w5.heap.size := (by omega))
        | (go_at_call 21; (with_reducible refine (c2 _ (by repeat (first | assumption | exact Below.refl _ _ | apply below_drew | apply pw_below_drewN | apply below_alloc | (refine below_via (by assumption) ?_)))).mono ?_); rintro e w6 ⟨A6, c6, rfl, hC6, hb6⟩; obtain ⟨hbc6, hbf6⟩ := bcell hb6; have hz6 : w.heap.size + 1 < w6.heap.size := (by have := hb6.size; omega); have hy6 : w.heap.size < w6.heap.size := (by omega))
        | (go_at_call 24; refine (hs2 _ _ _ (by repeat (first | assumption | exact Below.refl _ _ | apply below_drew | apply pw_below_drewN | apply below_alloc | (refine below_via (by assumption) ?_))) (Kd.C_below hC6.out (by repeat (first | assumption | exact Below.refl _ _ | apply below_drew | apply pw_below_drewN | apply below_alloc | (refine below_via (by assumption) ?_))))).mono ?_; rintro e w7 ⟨rfl, hb7⟩))
      go_goals
      all_goals (go_ret; exact ⟨rfl, (by repeat (first | assumption | exact Below.refl _ _ | apply below_drew | apply pw_below_drewN | apply below_alloc | (refine below_via (by assumption) ?_)))⟩)
    | false =>
      rw [if_neg (by rw [hp]; simp)] at hwp
      clear hp hs2
      go_enter Tryz.func9, Tryz.ntmps9
      go_wp2_with (first
        | (go_at_call 10; (with_reducible refine (hlv _ (by repeat (first | assumption | exact Below.refl _ _ | apply below_drew | apply pw_below_drewN | apply below_alloc | (refine below_via (by assumption) ?_)))).mono ?_); rintro e w1 ⟨rfl, hb1⟩; obtain ⟨hbc1, hbf1⟩ := bcell hb1; have hz1 : w.heap.size + 1 < w1.heap.size := (by have := hb1.size; simp at this; omega); have hy1 : w.heap.size < w1.heap.size := (by omega))
        | (go_at_call 14; (with_reducible refine (hwr _ (by repeat (first | assumption | exact Below.refl _ _ | apply below_drew | apply pw_below_drewN | apply below_alloc | (refine below_via (by assumption) ?_)))).mono ?_); rintro e w2 ⟨rfl, hb2⟩; obtain ⟨hbc2, hbf2⟩ := bcell hb2; have hz2 : w.heap.size + 1 < w2.heap.size := (by have := hb2.size; omega); have hy2 : w.heap.size < w2.heap.size := (by omega))
        | (go_at_call 11; (with_reducible refine (c1 _ (by repeat (first | assumption | exact Below.refl _ _ | apply below_drew | apply pw_below_drewN | apply below_alloc | (refine below_via (by assumption) ?_)))).mono ?_); rintro e w3 ⟨A3, c3, rfl, hC3, hb3⟩; obtain ⟨hbc3, hbf3⟩ := bcell hb3; have hz3 : w.heap.size + 1 < w3.heap.size := (by have := hb3.size; omega); have hy3 : w.heap.size < w3.heap.size := (by omega))
        | (go_at_call 12; refine (hs1 _ _ _ (by repeat (first | assumption | exact Below.refl _ _ | apply below_drew | apply pw_below_drewN | apply below_alloc | (refine below_via (by assumption) ?_))) (Kd.C_below hC3.out (by repeat (first | assumption | exact Below.refl _ _ | apply below_drew | apply pw_below_drewN | apply below_alloc | (refine below_via (by assumption) ?_))))).mono ?_; rintro e w4 ⟨rfl, hb4⟩; obtain ⟨hbc4, hbf4⟩ := bcell hb4; have hx4 : w3.heap.size < w4.heap.size := (by have := hb4.size; simp at this; omega); have hz4 : w.heap.size + 1 < w4.heap.size := (by have := hb4.size; simp at this; omega); have hy4 : w.heap.size < w4.heap.size := (by omega))
        | (go_at_call 16; (with_reducible refine (hwp _ (by repeat (first | assumption | exact Below.refl _ _ | apply below_drew | apply pw_below_drewN | apply below_alloc | (refine below_via (by assumption) ?_)))).mono ?_); rintro e w5 ⟨rfl, hb5⟩; obtain ⟨hbc5, hbf5⟩ := bcell hb5; have hz5 : w.heap.size + 1 < w5.heap.size := (by have := hb5.size; omega); have hy5 : w.heap.size < w5.heap.size := (by omega)))
      go_goals
      all_goals (go_ret; exact ⟨rfl, (by repeat (first | assumption | exact Below.refl _ _ | apply below_drew | apply pw_below_drewN | apply below_alloc | (refine below_via (by assumption) ?_)))⟩)
  | false =>
    rw [if_neg (by rw [hq]; simp)] at hwr
    clear hq hs1
    cases hp : respOk k l' b' with
    | true =>
      have hr : rightB l' b' = true ∧ 100 ≤ k ∧ k ≤ 599 := by
        have h := hp
        simp only [respOk, Bool.and_eq_true, decide_eq_true_eq] at h
        exact ⟨h.2, h.1.1, h.1.2⟩
      have hmz' := message_size hr.1 (firstP_size k hr.2.1 hr.2.2)
      have hbk := resp_back hp behind 65536 (by decide) (by decide)
      rw [if_pos (by have := (rightB_spec hr.1).2.1; omega)] at hbk
      rw [if_pos hp] at hwp
      generalize messageB (firstP k) l' b' = msg' at *
      have k1 : ¬ 9223372036854775807 < msg'.size + behind.size := by omega
      have c2 := fun W (hb : Below w.heap.size w W) => rp_ok hbk W (HG.out.below hb) (by rw [ByteArray.size_append]; omega)
      dsimp only at c2
      clear hp hr hbk
      go_enter Tryz.func9, Tryz.ntmps9
      go_wp2_with (first
        | (go_at_call 10; (with_reducible refine (hlv _ (by repeat (first | assumption | exact Below.refl _ _ | apply below_drew | apply pw_below_drewN | apply below_alloc | (refine below_via (by assumption) ?_)))).mono ?_); rintro e w1 ⟨rfl, hb1⟩; obtain ⟨hbc1, hbf1⟩ := bcell hb1; have hz1 : w.heap.size + 1 < w1.heap.size := (by have := hb1.size; simp at this; omega); have hy1 : w.heap.size < w1.heap.size := (by omega))
        | (go_at_call 14; (with_reducible refine (hwr _ (by repeat (first | assumption | exact Below.refl _ _ | apply below_drew | apply pw_below_drewN | apply below_alloc | (refine below_via (by assumption) ?_)))).mono ?_); rintro e w2 ⟨rfl, hb2⟩; obtain ⟨hbc2, hbf2⟩ := bcell hb2; have hz2 : w.heap.size + 1 < w2.heap.size := (by have := hb2.size; omega); have hy2 : w.heap.size < w2.heap.size := (by omega))
        | (go_at_call 16; (with_reducible refine (hwp _ (by repeat (first | assumption | exact Below.refl _ _ | apply below_drew | apply pw_below_drewN | apply below_alloc | (refine below_via (by assumption) ?_)))).mono ?_); rintro e w5 ⟨rfl, hb5⟩; obtain ⟨hbc5, hbf5⟩ := bcell hb5; have hz5 : w.heap.size + 1 < w5.heap.size := (by have := hb5.size; omega); have hy5 : w.heap.size < w5.heap.size := (by omega))
        | (go_at_call 21; (with_reducible refine (c2 _ (by repeat (first | assumption | exact Below.refl _ _ | apply below_drew | apply pw_below_drewN | apply below_alloc | (refine below_via (by assumption) ?_)))).mono ?_); rintro e w6 ⟨A6, c6, rfl, hC6, hb6⟩; obtain ⟨hbc6, hbf6⟩ := bcell hb6; have hz6 : w.heap.size + 1 < w6.heap.size := (by have := hb6.size; omega); have hy6 : w.heap.size < w6.heap.size := (by omega))
        | (go_at_call 24; refine (hs2 _ _ _ (by repeat (first | assumption | exact Below.refl _ _ | apply below_drew | apply pw_below_drewN | apply below_alloc | (refine below_via (by assumption) ?_))) (Kd.C_below hC6.out (by repeat (first | assumption | exact Below.refl _ _ | apply below_drew | apply pw_below_drewN | apply below_alloc | (refine below_via (by assumption) ?_))))).mono ?_; rintro e w7 ⟨rfl, hb7⟩))
      go_goals
      all_goals (go_ret; exact ⟨rfl, (by repeat (first | assumption | exact Below.refl _ _ | apply below_drew | apply pw_below_drewN | apply below_alloc | (refine below_via (by assumption) ?_)))⟩)
    | false =>
      rw [if_neg (by rw [hp]; simp)] at hwp
      clear hp hs2
      go_enter Tryz.func9, Tryz.ntmps9
      go_wp2_with (first
        | (go_at_call 10; (with_reducible refine (hlv _ (by repeat (first | assumption | exact Below.refl _ _ | apply below_drew | apply pw_below_drewN | apply below_alloc | (refine below_via (by assumption) ?_)))).mono ?_); rintro e w1 ⟨rfl, hb1⟩; obtain ⟨hbc1, hbf1⟩ := bcell hb1; have hz1 : w.heap.size + 1 < w1.heap.size := (by have := hb1.size; simp at this; omega); have hy1 : w.heap.size < w1.heap.size := (by omega))
        | (go_at_call 14; (with_reducible refine (hwr _ (by repeat (first | assumption | exact Below.refl _ _ | apply below_drew | apply pw_below_drewN | apply below_alloc | (refine below_via (by assumption) ?_)))).mono ?_); rintro e w2 ⟨rfl, hb2⟩; obtain ⟨hbc2, hbf2⟩ := bcell hb2; have hz2 : w.heap.size + 1 < w2.heap.size := (by have := hb2.size; omega); have hy2 : w.heap.size < w2.heap.size := (by omega))
        | (go_at_call 16; (with_reducible refine (hwp _ (by repeat (first | assumption | exact Below.refl _ _ | apply below_drew | apply pw_below_drewN | apply below_alloc | (refine below_via (by assumption) ?_)))).mono ?_); rintro e w5 ⟨rfl, hb5⟩; obtain ⟨hbc5, hbf5⟩ := bcell hb5; have hz5 : w.heap.size + 1 < w5.heap.size := (by have := hb5.size; omega); have hy5 : w.heap.size < w5.heap.size := (by omega)))
      go_goals
      all_goals (go_ret; exact ⟨rfl, (by repeat (first | assumption | exact Below.refl _ _ | apply below_drew | apply pw_below_drewN | apply below_alloc | (refine below_via (by assumption) ?_)))⟩)
end Go.Proofs.YtjbehnalmgcbpaaGreatDoor.Ht
