/- HttpBits: the walk. -/
import Derived.Test.YtjbehnalmgcbpaaGreatDoorSa
import Derived.Test.YtjbehnalmgcbpaaGreatDoorSt
set_option linter.unusedVariables false
set_option linter.unusedSimpArgs false
namespace Go.Proofs.YtjbehnalmgcbpaaGreatDoor.Ht
open Go.Sort Go.RowKit Go.Proofs Go.Proofs.YtjbehnalmgcbpaaGreatDoorW.PrintWords Go.Proofs.YtjbehnalmgcbpaaGreatDoor.Bs Go.Proofs.YtjbehnalmgcbpaaGreatDoor.Ir Go.Proofs.YtjbehnalmgcbpaaGreatDoor.Gn

theorem rr_ok {s : ByteArray} {most : Int} {r : ReadOk (ByteArray × ByteArray)} (h : reqP s most = .ok r) (W : World) (G : Gnd W) (hs : s.size ≤ 1073741824) :
    Calls Tryz.prog 11 #[.string s, .int .i64 most] W fun e w' => ∃ A c, e = .returned (.tuple #[.agg #[.string r.got.1, .string r.got.2, .slice A r.heads.length c, .string r.body], .int .i64 r.n, .int .i64 0]) ∧ Hid (Kd.C kH w' A r.heads.length r.heads) ∧ Below W.heap.size W w' := (readRequest_any s most W G G.low hs).mono (by
  rw [h]
  rintro e w' ⟨hb, A, c, rfl, hC⟩
  exact ⟨A, c, rfl, Lib.hid hC, hb⟩)
theorem rr_err {s : ByteArray} {most : Int} {y : Int} (h : reqP s most = .error y) (W : World) (G : Gnd W) (hs : s.size ≤ 1073741824) :
    Calls Tryz.prog 11 #[.string s, .int .i64 most] W fun e w' => e = .returned (.tuple #[.agg #[.string ⟨#[]⟩, .string ⟨#[]⟩, .slice none 0 0, .string ⟨#[]⟩], .int .i64 0, .int .i64 y]) ∧ Below W.heap.size W w' := (readRequest_any s most W G G.low hs).mono (by
  rw [h]
  rintro e w' ⟨hb, rfl⟩
  exact ⟨rfl, hb⟩)
set_option maxRecDepth 100000 in
set_option maxHeartbeats 4000000 in
theorem httpBits_any (s behind : ByteArray) (most at_ : Int) (w : World) (G : Gnd w) (hs : s.size ≤ 1048576) (hb : behind.size ≤ 1048576) (ha0 : -9223372036854775808 ≤ at_) :
    Calls Tryz.prog 3 #[.string s, .int .i64 most, .int .i64 at_, .string behind] w fun e w' => e = .returned (.bool true) ∧ Below w.heap.size w w' := by
  have hlv := lives_any w G
  have hx := read_ext s behind most false firstReq (by omega)
  have hsb : (s ++ behind).size ≤ 1073741824 := by rw [ByteArray.size_append]; omega
  have hne := eok_read s most false firstReq eok_firstReq (by omega)
  have hwt := fun r (h : reqP s most = .ok r) at_ ha => read_wait (by omega) h at_ ha
  have HG := Lib.hid G
  clear G
  cases h1 : reqP s most with
  | error y =>
    have c1 := fun W (hb : Below w.heap.size w W) => rr_err h1 W (HG.out.below hb) (by omega)
    by_cases hy2 : y = 2
    · subst hy2
      clear hwt hx hne h1
      go_enter Tryz.func3, Tryz.ntmps3
      go_wp2_with (first
        | (go_at_call 10; (with_reducible refine hlv.mono ?_); rintro e w1 ⟨rfl, hb1⟩)
        | (go_at_call 11; (with_reducible refine (c1 _ (by repeat (first | assumption | exact Below.refl _ _ | apply below_drew | apply pw_below_drewN | apply below_alloc | (refine below_via (by assumption) ?_)))).mono ?_); rintro e w2 ⟨rfl, hb2⟩))
      go_ret
      exact ⟨rfl, (by repeat (first | assumption | exact Below.refl _ _ | apply below_drew | apply pw_below_drewN | apply below_alloc | (refine below_via (by assumption) ?_)))⟩
    · have hy0 : y ≠ 0 := by have := hne y h1; omega
      have b0 : (y == 0) = false := by rw [beq_eq_false_iff_ne]; exact hy0
      have b2 : (y == 2) = false := by rw [beq_eq_false_iff_ne]; exact hy2
      have k0 : ¬ 9223372036854775807 < s.size + behind.size := by omega
      by_cases hy14 : y = 14
      · subst hy14
        cases h2 : reqP (s ++ behind) most with
        | error z =>
          have c2 := fun W (hb : Below w.heap.size w W) => rr_err h2 W (HG.out.below hb) hsb
          clear hwt hx hne h1 h2 hsb
          go_enter Tryz.func3, Tryz.ntmps3
          go_wp2_with (first
            | (go_at_call 10; (with_reducible refine hlv.mono ?_); rintro e w1 ⟨rfl, hb1⟩)
            | (go_at_call 11; (with_reducible refine (c1 _ (by repeat (first | assumption | exact Below.refl _ _ | apply below_drew | apply pw_below_drewN | apply below_alloc | (refine below_via (by assumption) ?_)))).mono ?_); rintro e w2 ⟨rfl, hb2⟩)
            | (go_at_call 11; (with_reducible refine (c2 _ (by repeat (first | assumption | exact Below.refl _ _ | apply below_drew | apply pw_below_drewN | apply below_alloc | (refine below_via (by assumption) ?_)))).mono ?_); rintro e w3 ⟨rfl, hb3⟩))
          all_goals (go_ret; exact ⟨rfl, (by repeat (first | assumption | exact Below.refl _ _ | apply below_drew | apply pw_below_drewN | apply below_alloc | (refine below_via (by assumption) ?_)))⟩)
        | ok r =>
          have c2 := fun W (hb : Below w.heap.size w W) => rr_ok h2 W (HG.out.below hb) hsb
          clear hwt hx hne h1 h2 hsb
          go_enter Tryz.func3, Tryz.ntmps3
          go_wp2_with (first
            | (go_at_call 10; (with_reducible refine hlv.mono ?_); rintro e w1 ⟨rfl, hb1⟩)
            | (go_at_call 11; (with_reducible refine (c1 _ (by repeat (first | assumption | exact Below.refl _ _ | apply below_drew | apply pw_below_drewN | apply below_alloc | (refine below_via (by assumption) ?_)))).mono ?_); rintro e w2 ⟨rfl, hb2⟩)
            | (go_at_call 11; (with_reducible refine (c2 _ (by repeat (first | assumption | exact Below.refl _ _ | apply below_drew | apply pw_below_drewN | apply below_alloc | (refine below_via (by assumption) ?_)))).mono ?_); rintro e w3 ⟨A, c, rfl, hC3, hb3⟩))
          all_goals (go_ret; exact ⟨rfl, (by repeat (first | assumption | exact Below.refl _ _ | apply below_drew | apply pw_below_drewN | apply below_alloc | (refine below_via (by assumption) ?_)))⟩)
      · have h2 := hx.2 y h1 hy14
        have c2 := fun W (hb : Below w.heap.size w W) => rr_err (show reqP (s ++ behind) most = .error y from h2) W (HG.out.below hb) hsb
        have b14 : (y == 14) = false := by rw [beq_eq_false_iff_ne]; exact hy14
        clear hwt hx hne h1 h2 hsb
        go_enter Tryz.func3, Tryz.ntmps3
        go_wp2_with (first
          | (go_at_call 10; (with_reducible refine hlv.mono ?_); rintro e w1 ⟨rfl, hb1⟩)
          | (go_at_call 11; (with_reducible refine (c1 _ (by repeat (first | assumption | exact Below.refl _ _ | apply below_drew | apply pw_below_drewN | apply below_alloc | (refine below_via (by assumption) ?_)))).mono ?_); rintro e w2 ⟨rfl, hb2⟩)
          | (go_at_call 11; (with_reducible refine (c2 _ (by repeat (first | assumption | exact Below.refl _ _ | apply below_drew | apply pw_below_drewN | apply below_alloc | (refine below_via (by assumption) ?_)))).mono ?_); rintro e w3 ⟨rfl, hb3⟩))
        all_goals (go_ret; exact ⟨rfl, (by repeat (first | assumption | exact Below.refl _ _ | apply below_drew | apply pw_below_drewN | apply below_alloc | (refine below_via (by assumption) ?_)))⟩)
  | ok r =>
    have c1 := fun W (hb : Below w.heap.size w W) => rr_ok h1 W (HG.out.below hb) (by omega)
    have h2 := hx.1 r h1
    have c2 := fun W (hb : Below w.heap.size w W) => rr_ok (show reqP (s ++ behind) most = .ok r from h2) W (HG.out.below hb) hsb
    have k0 : ¬ 9223372036854775807 < s.size + behind.size := by omega
    obtain ⟨hn, hok, hln⟩ := readP_ok (by omega) h1
    have hlen : r.heads.length ≤ 1073741824 := by omega
    have HWT := Lib.hid (hwt r h1)
    have HOK := Lib.hid hok
    clear hwt hx hne h1 h2 hsb hok hln
    obtain ⟨l, bd, n, m, t⟩ := r
    dsimp only at *
    have hsame := fun A0 A1 c0 c1 W h0 h1 => sameRequest_any m t bd m t bd A0 A1 c0 c1 l l W h0 h1 hlen hlen
    rw [decide_eq_true (show m = m ∧ t = t ∧ l = l ∧ bd = bd from ⟨rfl, rfl, rfl, rfl⟩)] at hsame
    have hnn : (n : Int) ≤ (s.size : Int) := by omega
    have hdn : decide ((s.size : Int) < (n : Int)) = false := by simp; omega
    by_cases hneg : at_ < 0
    · clear HWT
      go_enter Tryz.func3, Tryz.ntmps3
      go_wp2_with (first
        | (go_at_call 10; (with_reducible refine hlv.mono ?_); rintro e w1 ⟨rfl, hb1⟩)
        | (go_at_call 11; (with_reducible refine (c1 _ (by repeat (first | assumption | exact Below.refl _ _ | apply below_drew | apply pw_below_drewN | apply below_alloc | (refine below_via (by assumption) ?_)))).mono ?_); rintro e w2 ⟨A, c, rfl, hC2, hb2⟩)
        | (go_at_call 11; (with_reducible refine (c2 _ (by repeat (first | assumption | exact Below.refl _ _ | apply below_drew | apply pw_below_drewN | apply below_alloc | (refine below_via (by assumption) ?_)))).mono ?_); rintro e w3 ⟨A', c', rfl, hC3, hb3⟩; obtain ⟨hbc3, hbf3⟩ := bcell hb3; have hz3 : w2.heap.size < w3.heap.size := (by have := hb3.size; simp at this; omega))
        | (go_at_call 12; refine (hsame _ _ _ _ _ (Kd.C_below hC3.out (by repeat (first | assumption | exact Below.refl _ _ | apply below_drew | apply pw_below_drewN | apply below_alloc | (refine below_via (by assumption) ?_)))) (Kd.C_below hC2.out (by repeat (first | assumption | exact Below.refl _ _ | apply below_drew | apply pw_below_drewN | apply below_alloc | (refine below_via (by assumption) ?_))))).mono ?_; rintro e w4 ⟨rfl, hb4⟩; obtain ⟨hbc4, hbf4⟩ := bcell hb4))
      all_goals (go_ret; exact ⟨rfl, (by repeat (first | assumption | exact Below.refl _ _ | apply below_drew | apply pw_below_drewN | apply below_alloc | (refine below_via (by assumption) ?_)))⟩)
    · obtain ⟨a, rfl⟩ : ∃ a : Nat, at_ = (a : Int) := ⟨at_.toNat, by omega⟩
      by_cases han : a < n
      · have h3 := HWT.out a han
        have c3 := fun W (hb : Below w.heap.size w W) => rr_err (show reqP (s.extract 0 a) most = .error 14 from h3) W (HG.out.below hb) (by rw [ByteArray.size_extract]; omega)
        have hdc : decide ((n : Int) ≤ (a : Int)) = false := by simp; omega
        have hal : (a : Int) ≤ (s.size : Int) := by omega
        have ha00 : (0 : Int) ≤ (a : Int) := by omega
        clear HWT h3
        go_enter Tryz.func3, Tryz.ntmps3
        go_wp2_with (first
        | (go_at_call 10; (with_reducible refine hlv.mono ?_); rintro e w1 ⟨rfl, hb1⟩)
        | (go_at_call 11; (with_reducible refine (c1 _ (by repeat (first | assumption | exact Below.refl _ _ | apply below_drew | apply pw_below_drewN | apply below_alloc | (refine below_via (by assumption) ?_)))).mono ?_); rintro e w2 ⟨A, c, rfl, hC2, hb2⟩)
        | (go_at_call 11; (with_reducible refine (c2 _ (by repeat (first | assumption | exact Below.refl _ _ | apply below_drew | apply pw_below_drewN | apply below_alloc | (refine below_via (by assumption) ?_)))).mono ?_); rintro e w3 ⟨A', c', rfl, hC3, hb3⟩; obtain ⟨hbc3, hbf3⟩ := bcell hb3; have hz3 : w2.heap.size < w3.heap.size := (by have := hb3.size; simp at this; omega))
        | (go_at_call 12; refine (hsame _ _ _ _ _ (Kd.C_below hC3.out (by repeat (first | assumption | exact Below.refl _ _ | apply below_drew | apply pw_below_drewN | apply below_alloc | (refine below_via (by assumption) ?_)))) (Kd.C_below hC2.out (by repeat (first | assumption | exact Below.refl _ _ | apply below_drew | apply pw_below_drewN | apply below_alloc | (refine below_via (by assumption) ?_))))).mono ?_; rintro e w4 ⟨rfl, hb4⟩; obtain ⟨hbc4, hbf4⟩ := bcell hb4)
        | (go_at_call 11; (with_reducible refine (c3 _ (by repeat (first | assumption | exact Below.refl _ _ | apply below_drew | apply pw_below_drewN | apply below_alloc | (refine below_via (by assumption) ?_)))).mono ?_); rintro e w5 ⟨rfl, hb5⟩))
        all_goals (go_ret; exact ⟨rfl, (by repeat (first | assumption | exact Below.refl _ _ | apply below_drew | apply pw_below_drewN | apply below_alloc | (refine below_via (by assumption) ?_)))⟩)
      · have hdc : decide ((n : Int) ≤ (a : Int)) = true := by simp; omega
        clear HWT
        go_enter Tryz.func3, Tryz.ntmps3
        go_wp2_with (first
        | (go_at_call 10; (with_reducible refine hlv.mono ?_); rintro e w1 ⟨rfl, hb1⟩)
        | (go_at_call 11; (with_reducible refine (c1 _ (by repeat (first | assumption | exact Below.refl _ _ | apply below_drew | apply pw_below_drewN | apply below_alloc | (refine below_via (by assumption) ?_)))).mono ?_); rintro e w2 ⟨A, c, rfl, hC2, hb2⟩)
        | (go_at_call 11; (with_reducible refine (c2 _ (by repeat (first | assumption | exact Below.refl _ _ | apply below_drew | apply pw_below_drewN | apply below_alloc | (refine below_via (by assumption) ?_)))).mono ?_); rintro e w3 ⟨A', c', rfl, hC3, hb3⟩; obtain ⟨hbc3, hbf3⟩ := bcell hb3; have hz3 : w2.heap.size < w3.heap.size := (by have := hb3.size; simp at this; omega))
        | (go_at_call 12; refine (hsame _ _ _ _ _ (Kd.C_below hC3.out (by repeat (first | assumption | exact Below.refl _ _ | apply below_drew | apply pw_below_drewN | apply below_alloc | (refine below_via (by assumption) ?_)))) (Kd.C_below hC2.out (by repeat (first | assumption | exact Below.refl _ _ | apply below_drew | apply pw_below_drewN | apply below_alloc | (refine below_via (by assumption) ?_))))).mono ?_; rintro e w4 ⟨rfl, hb4⟩; obtain ⟨hbc4, hbf4⟩ := bcell hb4))
        all_goals (go_ret; exact ⟨rfl, (by repeat (first | assumption | exact Below.refl _ _ | apply below_drew | apply pw_below_drewN | apply below_alloc | (refine below_via (by assumption) ?_)))⟩)
end Go.Proofs.YtjbehnalmgcbpaaGreatDoor.Ht
