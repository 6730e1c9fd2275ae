/- ServerQuiet: the walk. -/
import Derived.Test.YtaihnhhapplmbaaGreatDoorSy
import Derived.Deep.QuietTactic
import Derived.BigQuiet
set_option linter.unusedVariables false
set_option linter.unusedSimpArgs false
namespace Go.Proofs.YtaihnhhapplmbaaGreatDoor.Sv
open Go.Sort Go.RowKit Go.Maps Go.Proofs Go.Proofs.YtaihnhhapplmbaaGreatDoorW.PrintWords Go.Proofs.YtaihnhhapplmbaaGreatDoor.Bs Go.Proofs.YtaihnhhapplmbaaGreatDoor.Ir Go.Proofs.YtaihnhhapplmbaaGreatDoor.Gn Go.Proofs.YtaihnhhapplmbaaGreatDoor.Ht

theorem ext_all (o : ByteArray) : (o.extract 0 o.size).toList = o.toList := by
  rw [ByteArray.toList_eq, ByteArray.toList_eq]
  first
    | (simp; done)
    | (simp; exact List.take_of_length_le (Nat.le_refl _))
theorem ext_app (o s : ByteArray) : ((o ++ s).extract 0 o.size).toList = o.toList := by
  rw [ByteArray.toList_eq, ByteArray.toList_eq]
  first
    | (simp; done)
    | (simp; exact List.take_of_length_le (Nat.le_refl _))
set_option maxRecDepth 100000 in
set_option maxHeartbeats 4000000 in
theorem serverQuiet_any (lv : ∀ W : World, Gnd W → Calls Tryz.prog 7 #[] W fun e w' => e = .returned (.bool true) ∧ Below W.heap.size W w') (b o : ByteArray) (c y l : Bool) (s m i : Int) (now : Int) (w : World) (G : Gnd w) (hb : b.size ≤ 1048576) (ho : o.size ≤ 1048576) (hs0 : 0 ≤ s) (hs1 : s ≤ 18446744073709551615) (hn0 : 0 ≤ now) (hn1 : now ≤ 18446744073709551615) :
    Calls Tryz.prog 4 #[.agg #[.string b, .string o, .bool c, .bool y, .bool l, .int .u64 s], .agg #[.int .i64 m, .int .u64 i], .int .u64 now] w fun e w' => e = .returned (.bool true) ∧ Below w.heap.size w w' := by
  have hlv := fun W (hb : Below w.heap.size w W) => lv W (G.below hb)
  clear lv
  have c1 := fun W (hb' : Below w.heap.size w W) => tick_any b o c y l s m i now W (G.below hb') (by omega) (by omega) hs0 hs1 hn0 hn1
  unfold tickR at c1
  have hsb := str_same b
  have hso := str_same o
  clear G
  by_cases h0 : checkI b o c y l m ≠ 0
  · rw [if_pos h0] at c1
    generalize checkI b o c y l m = why at *
    have d00 : (why == 0) = false := by rw [beq_eq_false_iff_ne]; exact h0
    have d01 : (why != 0) = true := by simpa using h0
    clear h0
    go_enter Tryz.func4, Tryz.ntmps4
    go_wp2_with (go_at_call 7; (with_reducible refine (hlv _ (by repeat (first | assumption | exact Below.refl _ _ | apply below_drew | apply pw_below_drewN | apply below_alloc | (refine below_via (by assumption) ?_)))).mono ?_); rintro e w1 ⟨rfl, hb1⟩; obtain ⟨hbc1, hbf1⟩ := bcell hb1; have hz1 : w.heap.size + 1 < w1.heap.size := (by have := hb1.size; (try simp at this); omega); have hy1 : w.heap.size < w1.heap.size := (by omega))
    refine (c1 _ (by repeat (first | assumption | exact Below.refl _ _ | apply below_drew | apply pw_below_drewN | apply below_alloc | (refine below_via (by assumption) ?_)))).mono ?_
    rintro e w2 ⟨rfl, hb2⟩
    have hB2 : Below w.heap.size w w2 := (by repeat (first | assumption | exact Below.refl _ _ | apply below_drew | apply pw_below_drewN | apply below_alloc | (refine below_via (by assumption) ?_)))
    obtain ⟨hbc2, hbf2⟩ := bcell hb2
    have hz2 : w.heap.size + 1 < w2.heap.size := (by have := hb2.size; (try simp at this); omega)
    have hy2 : w.heap.size < w2.heap.size := (by omega)
    go_wp2_with fail
    all_goals (go_ret; exact ⟨rfl, (by repeat (first | assumption | exact Below.refl _ _ | apply below_drew | apply pw_below_drewN | apply below_alloc | (refine below_via (by assumption) ?_)))⟩)
  · rw [if_neg h0] at c1
    clear h0
    cases c with
    | true =>
      rw [if_pos (.inl rfl)] at c1
      go_enter Tryz.func4, Tryz.ntmps4
      go_wp2_with (go_at_call 7; (with_reducible refine (hlv _ (by repeat (first | assumption | exact Below.refl _ _ | apply below_drew | apply pw_below_drewN | apply below_alloc | (refine below_via (by assumption) ?_)))).mono ?_); rintro e w1 ⟨rfl, hb1⟩; obtain ⟨hbc1, hbf1⟩ := bcell hb1; have hz1 : w.heap.size + 1 < w1.heap.size := (by have := hb1.size; (try simp at this); omega); have hy1 : w.heap.size < w1.heap.size := (by omega))
      refine (c1 _ (by repeat (first | assumption | exact Below.refl _ _ | apply below_drew | apply pw_below_drewN | apply below_alloc | (refine below_via (by assumption) ?_)))).mono ?_
      rintro e w2 ⟨rfl, hb2⟩
      have hB2 : Below w.heap.size w w2 := (by repeat (first | assumption | exact Below.refl _ _ | apply below_drew | apply pw_below_drewN | apply below_alloc | (refine below_via (by assumption) ?_)))
      obtain ⟨hbc2, hbf2⟩ := bcell hb2
      have hz2 : w.heap.size + 1 < w2.heap.size := (by have := hb2.size; (try simp at this); omega)
      have hy2 : w.heap.size < w2.heap.size := (by omega)
      go_wp2_with fail
      all_goals (go_ret; exact ⟨rfl, (by repeat (first | assumption | exact Below.refl _ _ | apply below_drew | apply pw_below_drewN | apply below_alloc | (refine below_via (by assumption) ?_)))⟩)
    | false =>
      cases y with
      | true =>
        rw [if_pos (.inr (.inl rfl))] at c1
        go_enter Tryz.func4, Tryz.ntmps4
        go_wp2_with (go_at_call 7; (with_reducible refine (hlv _ (by repeat (first | assumption | exact Below.refl _ _ | apply below_drew | apply pw_below_drewN | apply below_alloc | (refine below_via (by assumption) ?_)))).mono ?_); rintro e w1 ⟨rfl, hb1⟩; obtain ⟨hbc1, hbf1⟩ := bcell hb1; have hz1 : w.heap.size + 1 < w1.heap.size := (by have := hb1.size; (try simp at this); omega); have hy1 : w.heap.size < w1.heap.size := (by omega))
        refine (c1 _ (by repeat (first | assumption | exact Below.refl _ _ | apply below_drew | apply pw_below_drewN | apply below_alloc | (refine below_via (by assumption) ?_)))).mono ?_
        rintro e w2 ⟨rfl, hb2⟩
        have hB2 : Below w.heap.size w w2 := (by repeat (first | assumption | exact Below.refl _ _ | apply below_drew | apply pw_below_drewN | apply below_alloc | (refine below_via (by assumption) ?_)))
        obtain ⟨hbc2, hbf2⟩ := bcell hb2
        have hz2 : w.heap.size + 1 < w2.heap.size := (by have := hb2.size; (try simp at this); omega)
        have hy2 : w.heap.size < w2.heap.size := (by omega)
        go_wp2_with fail
        all_goals (go_ret; exact ⟨rfl, (by repeat (first | assumption | exact Below.refl _ _ | apply below_drew | apply pw_below_drewN | apply below_alloc | (refine below_via (by assumption) ?_)))⟩)
      | false =>
        by_cases hns : now < s
        · rw [if_pos (.inr (.inr (.inl hns)))] at c1
          have dns : decide (s ≤ now) = false := by simp; omega
          clear hns
          go_enter Tryz.func4, Tryz.ntmps4
          go_wp2_with (go_at_call 7; (with_reducible refine (hlv _ (by repeat (first | assumption | exact Below.refl _ _ | apply below_drew | apply pw_below_drewN | apply below_alloc | (refine below_via (by assumption) ?_)))).mono ?_); rintro e w1 ⟨rfl, hb1⟩; obtain ⟨hbc1, hbf1⟩ := bcell hb1; have hz1 : w.heap.size + 1 < w1.heap.size := (by have := hb1.size; (try simp at this); omega); have hy1 : w.heap.size < w1.heap.size := (by omega))
          refine (c1 _ (by repeat (first | assumption | exact Below.refl _ _ | apply below_drew | apply pw_below_drewN | apply below_alloc | (refine below_via (by assumption) ?_)))).mono ?_
          rintro e w2 ⟨rfl, hb2⟩
          have hB2 : Below w.heap.size w w2 := (by repeat (first | assumption | exact Below.refl _ _ | apply below_drew | apply pw_below_drewN | apply below_alloc | (refine below_via (by assumption) ?_)))
          obtain ⟨hbc2, hbf2⟩ := bcell hb2
          have hz2 : w.heap.size + 1 < w2.heap.size := (by have := hb2.size; (try simp at this); omega)
          have hy2 : w.heap.size < w2.heap.size := (by omega)
          go_wp2_with fail
          all_goals (go_ret; exact ⟨rfl, (by repeat (first | assumption | exact Below.refl _ _ | apply below_drew | apply pw_below_drewN | apply below_alloc | (refine below_via (by assumption) ?_)))⟩)
        · have dns : decide (s ≤ now) = true := by simp; omega
          have q1 : IntKind.wrap .u64 (now - s) = now - s := IntWalk.u64_in _ (by omega)
          by_cases hni : now - s < i
          · rw [if_pos (.inr (.inr (.inr hni)))] at c1
            have dni : decide (i ≤ now - s) = false := by simp; omega
            go_enter Tryz.func4, Tryz.ntmps4
            go_wp2_with (go_at_call 7; (with_reducible refine (hlv _ (by repeat (first | assumption | exact Below.refl _ _ | apply below_drew | apply pw_below_drewN | apply below_alloc | (refine below_via (by assumption) ?_)))).mono ?_); rintro e w1 ⟨rfl, hb1⟩; obtain ⟨hbc1, hbf1⟩ := bcell hb1; have hz1 : w.heap.size + 1 < w1.heap.size := (by have := hb1.size; (try simp at this); omega); have hy1 : w.heap.size < w1.heap.size := (by omega))
            refine (c1 _ (by repeat (first | assumption | exact Below.refl _ _ | apply below_drew | apply pw_below_drewN | apply below_alloc | (refine below_via (by assumption) ?_)))).mono ?_
            rintro e w2 ⟨rfl, hb2⟩
            have hB2 : Below w.heap.size w w2 := (by repeat (first | assumption | exact Below.refl _ _ | apply below_drew | apply pw_below_drewN | apply below_alloc | (refine below_via (by assumption) ?_)))
            obtain ⟨hbc2, hbf2⟩ := bcell hb2
            have hz2 : w.heap.size + 1 < w2.heap.size := (by have := hb2.size; (try simp at this); omega)
            have hy2 : w.heap.size < w2.heap.size := (by omega)
            go_wp2_with fail
            all_goals (go_ret; exact ⟨rfl, (by repeat (first | assumption | exact Below.refl _ _ | apply below_drew | apply pw_below_drewN | apply below_alloc | (refine below_via (by assumption) ?_)))⟩)
          · rw [if_neg (by simp; omega)] at c1
            have dni : decide (i ≤ now - s) = true := by simp; omega
            by_cases hz : b.size = 0
            · rw [if_pos hz] at c1
              have e00 : b.toList.isEmpty = true := size_eq0 b (by omega)
              have hx := ext_all o
              clear hz
              go_enter Tryz.func4, Tryz.ntmps4
              go_wp2_with (go_at_call 7; (with_reducible refine (hlv _ (by repeat (first | assumption | exact Below.refl _ _ | apply below_drew | apply pw_below_drewN | apply below_alloc | (refine below_via (by assumption) ?_)))).mono ?_); rintro e w1 ⟨rfl, hb1⟩; obtain ⟨hbc1, hbf1⟩ := bcell hb1; have hz1 : w.heap.size + 1 < w1.heap.size := (by have := hb1.size; (try simp at this); omega); have hy1 : w.heap.size < w1.heap.size := (by omega))
              refine (c1 _ (by repeat (first | assumption | exact Below.refl _ _ | apply below_drew | apply pw_below_drewN | apply below_alloc | (refine below_via (by assumption) ?_)))).mono ?_
              rintro e w2 ⟨rfl, hb2⟩
              have hB2 : Below w.heap.size w w2 := (by repeat (first | assumption | exact Below.refl _ _ | apply below_drew | apply pw_below_drewN | apply below_alloc | (refine below_via (by assumption) ?_)))
              obtain ⟨hbc2, hbf2⟩ := bcell hb2
              have hz2 : w.heap.size + 1 < w2.heap.size := (by have := hb2.size; (try simp at this); omega)
              have hy2 : w.heap.size < w2.heap.size := (by omega)
              go_wp2_with fail
              go_quiet (fail)
              go_wp2_with fail
              all_goals (go_ret; exact ⟨rfl, (by repeat (first | assumption | exact Below.refl _ _ | apply below_drew | apply pw_below_drewN | apply below_alloc | (refine below_via (by assumption) ?_)))⟩)
            · rw [if_neg hz] at c1
              have e00 : b.toList.isEmpty = false := size_ne b (by omega)
              have hx := ext_app o s408
              have hoz : (o ++ s408).size = o.size + 70 := by rw [ByteArray.size_append]; rfl
              generalize o ++ s408 = os at *
              have hlt : decide ((o.size : Int) < (os.size : Int)) = true := by rw [decide_eq_true_eq]; omega
              have hlt2 : decide (o.size < os.size) = true := by rw [decide_eq_true_eq]; omega
              have hle : (o.size : Int) ≤ (os.size : Int) := by omega
              clear hz hoz
              go_enter Tryz.func4, Tryz.ntmps4
              go_wp2_with (go_at_call 7; (with_reducible refine (hlv _ (by repeat (first | assumption | exact Below.refl _ _ | apply below_drew | apply pw_below_drewN | apply below_alloc | (refine below_via (by assumption) ?_)))).mono ?_); rintro e w1 ⟨rfl, hb1⟩; obtain ⟨hbc1, hbf1⟩ := bcell hb1; have hz1 : w.heap.size + 1 < w1.heap.size := (by have := hb1.size; (try simp at this); omega); have hy1 : w.heap.size < w1.heap.size := (by omega))
              refine (c1 _ (by repeat (first | assumption | exact Below.refl _ _ | apply below_drew | apply pw_below_drewN | apply below_alloc | (refine below_via (by assumption) ?_)))).mono ?_
              rintro e w2 ⟨rfl, hb2⟩
              have hB2 : Below w.heap.size w w2 := (by repeat (first | assumption | exact Below.refl _ _ | apply below_drew | apply pw_below_drewN | apply below_alloc | (refine below_via (by assumption) ?_)))
              obtain ⟨hbc2, hbf2⟩ := bcell hb2
              have hz2 : w.heap.size + 1 < w2.heap.size := (by have := hb2.size; (try simp at this); omega)
              have hy2 : w.heap.size < w2.heap.size := (by omega)
              go_wp2_with fail
              go_quiet (fail)
              go_wp2_with fail
              all_goals (go_ret; exact ⟨rfl, (by repeat (first | assumption | exact Below.refl _ _ | apply below_drew | apply pw_below_drewN | apply below_alloc | (refine below_via (by assumption) ?_)))⟩)
end Go.Proofs.YtaihnhhapplmbaaGreatDoor.Sv
