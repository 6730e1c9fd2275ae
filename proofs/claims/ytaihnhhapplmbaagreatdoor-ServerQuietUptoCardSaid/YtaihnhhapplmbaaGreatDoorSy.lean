/- ServerTakes: the walk. -/
import Derived.Test.YtaihnhhapplmbaaGreatDoorSf
set_option linter.unusedVariables false
set_option linter.unusedSimpArgs false
namespace Go.Proofs.YtaihnhhapplmbaaGreatDoor.Sv
open Go.Sort Go.RowKit Go.Maps Go.Proofs Go.Proofs.YtaihnhhapplmbaaGreatDoorW.PrintWords Go.Proofs.YtaihnhhapplmbaaGreatDoor.Bs Go.Proofs.YtaihnhhapplmbaaGreatDoor.Ir Go.Proofs.YtaihnhhapplmbaaGreatDoor.Gn Go.Proofs.YtaihnhhapplmbaaGreatDoor.Ht

theorem str_same (x : ByteArray) : (x.toList == x.toList) = true := beq_self_eq_true _
theorem app_empty (b d : ByteArray) (h : d.size = 0) : b ++ d = b := by
  have e : d = ⟨#[]⟩ := by
    obtain ⟨⟨dl⟩⟩ := d
    match dl, h with
    | [], _ => rfl
  rw [e]
  apply ByteArray.ext
  apply Array.ext'
  simp
theorem check_take (b o : ByteArray) (c y l : Bool) (m : Int) (h : checkI b o c y l m = 0) : checkI b ⟨#[]⟩ c y l m = 0 := by
  unfold checkI at *
  have e : (⟨#[]⟩ : ByteArray).size = 0 := rfl
  split at h
  · cases h
  · rename_i h1
    rw [if_neg h1]
    split at h
    · cases h
    · rename_i h2
      rw [if_neg]
      intro h3
      apply h2
      rcases h3 with h3 | h3 | h3 | h3
      · exact .inl h3
      · rw [e] at h3; omega
      · exact .inr (.inr (.inl h3))
      · exact .inr (.inr (.inr h3))
set_option maxRecDepth 100000 in
set_option maxHeartbeats 4000000 in
theorem serverTakes_any (lv : ∀ W : World, Gnd W → Calls Tryz.prog 7 #[] W fun e w' => e = .returned (.bool true) ∧ Below W.heap.size W w') (b o : ByteArray) (c y l : Bool) (s m i : Int) (d : ByteArray) (now : Int) (w : World) (G : Gnd w) (hb : b.size ≤ 1048576) (ho : o.size ≤ 1048576) (hd : d.size ≤ 1048576) :
    Calls Tryz.prog 3 #[.agg #[.string b, .string o, .bool c, .bool y, .bool l, .int .u64 s], .agg #[.int .i64 m, .int .u64 i], .string d, .int .u64 now] w fun e w' => e = .returned (.bool true) ∧ Below w.heap.size w w' := by
  have hlv := fun W (hb : Below w.heap.size w W) => lv W (G.below hb)
  clear lv
  have c1 := fun W => take_any b o c y l s m i W (by omega) (by omega)
  by_cases h0 : checkI b o c y l m = 0
  · rw [if_pos h0] at c1
    have c2 := fun W => take_any b ⟨#[]⟩ c y l s m i W (by omega) (by decide)
    rw [if_pos (check_take b o c y l m h0)] at c2
    have c3 := fun W => feed_any b o c y l s m i d now W (by omega) (by omega) (by omega)
    unfold feedR at c3
    rw [if_neg (by simp [h0])] at c3
    have hsb := str_same b
    have hso := str_same o
    have hsbn : (b.toList != b.toList) = false := by rw [bne, hsb]; rfl
    have hson : (o.toList != o.toList) = false := by rw [bne, hso]; rfl
    have k0 : ¬ 9223372036854775807 < b.size + d.size := by omega
    clear h0 G
    cases c with
    | true =>
      rw [if_pos rfl] at c3
      go_enter Tryz.func3, Tryz.ntmps3
      go_wp2_with (first
        | (go_at_call 7; (with_reducible refine (hlv _ (by repeat (first | assumption | exact Below.refl _ _ | apply below_drew | apply pw_below_drewN | apply below_alloc | (refine below_via (by assumption) ?_)))).mono ?_); rintro e w1 ⟨rfl, hb1⟩; obtain ⟨hbc1, hbf1⟩ := bcell hb1; have hz1 : w.heap.size + 1 < w1.heap.size := (by have := hb1.size; (try simp at this); omega); have hy1 : w.heap.size < w1.heap.size := (by omega))
        | (go_at_call 8; (with_reducible refine (c1 _).mono ?_); rintro e w2 ⟨rfl, hb2⟩; obtain ⟨hbc2, hbf2⟩ := bcell hb2; have hz2 : w.heap.size + 1 < w2.heap.size := (by have := hb2.size; (try simp at this); omega); have hy2 : w.heap.size < w2.heap.size := (by omega))
        | (go_at_call 8; (with_reducible refine (c2 _).mono ?_); rintro e w3 ⟨rfl, hb3⟩; obtain ⟨hbc3, hbf3⟩ := bcell hb3; have hz3 : w.heap.size + 1 < w3.heap.size := (by have := hb3.size; (try simp at this); omega); have hy3 : w.heap.size < w3.heap.size := (by omega); have hx32 : w2.heap.size < w3.heap.size := (by have := hb3.size; (try simp at this); omega)))
      refine (c3 _).mono ?_
      rintro e w4 ⟨rfl, hb4⟩
      have hB4 : Below w.heap.size w w4 := below_via hb4 (below_alloc (Below.setCell (p := ⟨w2.heap.size, 1, none⟩) (show Below w.heap.size w w3 from (by repeat (first | assumption | exact Below.refl _ _ | apply below_drew | apply pw_below_drewN | apply below_alloc | (refine below_via (by assumption) ?_)))) (by show w.heap.size ≤ w2.heap.size; omega) _) _)
      obtain ⟨hbc4, hbf4⟩ := bcell hb4
      have hz4 : w.heap.size + 1 < w4.heap.size := (by have := hb4.size; (try simp at this); omega)
      have hy4 : w.heap.size < w4.heap.size := (by omega)
      have hx42 : w2.heap.size < w4.heap.size := (by have := hb4.size; (try simp at this); omega)
      have hx43 : w3.heap.size < w4.heap.size := (by have := hb4.size; (try simp at this); omega)
      go_wp2_with fail
      go_goals
      all_goals (go_ret; exact ⟨rfl, (by repeat (first | assumption | exact Below.refl _ _ | apply below_drew | apply pw_below_drewN | apply below_alloc | (refine below_via (by assumption) ?_)))⟩)
    | false =>
      rw [if_neg (by simp)] at c3
      by_cases hz : 262144 < b.size + d.size
      · rw [if_pos hz] at c3
        clear hz
        go_enter Tryz.func3, Tryz.ntmps3
        go_wp2_with (first
          | (go_at_call 7; (with_reducible refine (hlv _ (by repeat (first | assumption | exact Below.refl _ _ | apply below_drew | apply pw_below_drewN | apply below_alloc | (refine below_via (by assumption) ?_)))).mono ?_); rintro e w1 ⟨rfl, hb1⟩; obtain ⟨hbc1, hbf1⟩ := bcell hb1; have hz1 : w.heap.size + 1 < w1.heap.size := (by have := hb1.size; (try simp at this); omega); have hy1 : w.heap.size < w1.heap.size := (by omega))
          | (go_at_call 8; (with_reducible refine (c1 _).mono ?_); rintro e w2 ⟨rfl, hb2⟩; obtain ⟨hbc2, hbf2⟩ := bcell hb2; have hz2 : w.heap.size + 1 < w2.heap.size := (by have := hb2.size; (try simp at this); omega); have hy2 : w.heap.size < w2.heap.size := (by omega))
          | (go_at_call 8; (with_reducible refine (c2 _).mono ?_); rintro e w3 ⟨rfl, hb3⟩; obtain ⟨hbc3, hbf3⟩ := bcell hb3; have hz3 : w.heap.size + 1 < w3.heap.size := (by have := hb3.size; (try simp at this); omega); have hy3 : w.heap.size < w3.heap.size := (by omega); have hx32 : w2.heap.size < w3.heap.size := (by have := hb3.size; (try simp at this); omega)))
        refine (c3 _).mono ?_
        rintro e w4 ⟨rfl, hb4⟩
        have hB4 : Below w.heap.size w w4 := below_via hb4 (below_alloc (Below.setCell (p := ⟨w2.heap.size, 1, none⟩) (show Below w.heap.size w w3 from (by repeat (first | assumption | exact Below.refl _ _ | apply below_drew | apply pw_below_drewN | apply below_alloc | (refine below_via (by assumption) ?_)))) (by show w.heap.size ≤ w2.heap.size; omega) _) _)
        obtain ⟨hbc4, hbf4⟩ := bcell hb4
        have hz4 : w.heap.size + 1 < w4.heap.size := (by have := hb4.size; (try simp at this); omega)
        have hy4 : w.heap.size < w4.heap.size := (by omega)
        have hx42 : w2.heap.size < w4.heap.size := (by have := hb4.size; (try simp at this); omega)
        have hx43 : w3.heap.size < w4.heap.size := (by have := hb4.size; (try simp at this); omega)
        go_wp2_with fail
        go_goals
        all_goals (go_ret; exact ⟨rfl, (by repeat (first | assumption | exact Below.refl _ _ | apply below_drew | apply pw_below_drewN | apply below_alloc | (refine below_via (by assumption) ?_)))⟩)
      · rw [if_neg hz] at c3
        clear hz
        by_cases hd0 : d.size = 0
        · rw [if_pos hd0] at c3
          have hbd := app_empty b d hd0
          have e00 : d.toList.isEmpty = true := size_eq0 d (by omega)
          have hcmp : (b.toList == (b ++ d).toList) = true := by rw [hbd]; exact str_same b
          have hcmp2 : ((b ++ d).toList == b.toList) = true := by rw [hbd]; exact str_same b
          clear hd0 hbd
          go_enter Tryz.func3, Tryz.ntmps3
          go_wp2_with (first
            | (go_at_call 7; (with_reducible refine (hlv _ (by repeat (first | assumption | exact Below.refl _ _ | apply below_drew | apply pw_below_drewN | apply below_alloc | (refine below_via (by assumption) ?_)))).mono ?_); rintro e w1 ⟨rfl, hb1⟩; obtain ⟨hbc1, hbf1⟩ := bcell hb1; have hz1 : w.heap.size + 1 < w1.heap.size := (by have := hb1.size; (try simp at this); omega); have hy1 : w.heap.size < w1.heap.size := (by omega))
            | (go_at_call 8; (with_reducible refine (c1 _).mono ?_); rintro e w2 ⟨rfl, hb2⟩; obtain ⟨hbc2, hbf2⟩ := bcell hb2; have hz2 : w.heap.size + 1 < w2.heap.size := (by have := hb2.size; (try simp at this); omega); have hy2 : w.heap.size < w2.heap.size := (by omega))
            | (go_at_call 8; (with_reducible refine (c2 _).mono ?_); rintro e w3 ⟨rfl, hb3⟩; obtain ⟨hbc3, hbf3⟩ := bcell hb3; have hz3 : w.heap.size + 1 < w3.heap.size := (by have := hb3.size; (try simp at this); omega); have hy3 : w.heap.size < w3.heap.size := (by omega); have hx32 : w2.heap.size < w3.heap.size := (by have := hb3.size; (try simp at this); omega)))
          refine (c3 _).mono ?_
          rintro e w4 ⟨rfl, hb4⟩
          have hB4 : Below w.heap.size w w4 := below_via hb4 (below_alloc (Below.setCell (p := ⟨w2.heap.size, 1, none⟩) (show Below w.heap.size w w3 from (by repeat (first | assumption | exact Below.refl _ _ | apply below_drew | apply pw_below_drewN | apply below_alloc | (refine below_via (by assumption) ?_)))) (by show w.heap.size ≤ w2.heap.size; omega) _) _)
          obtain ⟨hbc4, hbf4⟩ := bcell hb4
          have hz4 : w.heap.size + 1 < w4.heap.size := (by have := hb4.size; (try simp at this); omega)
          have hy4 : w.heap.size < w4.heap.size := (by omega)
          have hx42 : w2.heap.size < w4.heap.size := (by have := hb4.size; (try simp at this); omega)
          have hx43 : w3.heap.size < w4.heap.size := (by have := hb4.size; (try simp at this); omega)
          go_wp2_with fail
          go_goals
          all_goals (go_ret; exact ⟨rfl, (by repeat (first | assumption | exact Below.refl _ _ | apply below_drew | apply pw_below_drewN | apply below_alloc | (refine below_via (by assumption) ?_)))⟩)
        · rw [if_neg hd0] at c3
          have e00 : d.toList.isEmpty = false := size_ne d (by omega)
          have hsd := str_same (b ++ d)
          clear hd0
          go_enter Tryz.func3, Tryz.ntmps3
          go_wp2_with (first
            | (go_at_call 7; (with_reducible refine (hlv _ (by repeat (first | assumption | exact Below.refl _ _ | apply below_drew | apply pw_below_drewN | apply below_alloc | (refine below_via (by assumption) ?_)))).mono ?_); rintro e w1 ⟨rfl, hb1⟩; obtain ⟨hbc1, hbf1⟩ := bcell hb1; have hz1 : w.heap.size + 1 < w1.heap.size := (by have := hb1.size; (try simp at this); omega); have hy1 : w.heap.size < w1.heap.size := (by omega))
            | (go_at_call 8; (with_reducible refine (c1 _).mono ?_); rintro e w2 ⟨rfl, hb2⟩; obtain ⟨hbc2, hbf2⟩ := bcell hb2; have hz2 : w.heap.size + 1 < w2.heap.size := (by have := hb2.size; (try simp at this); omega); have hy2 : w.heap.size < w2.heap.size := (by omega))
            | (go_at_call 8; (with_reducible refine (c2 _).mono ?_); rintro e w3 ⟨rfl, hb3⟩; obtain ⟨hbc3, hbf3⟩ := bcell hb3; have hz3 : w.heap.size + 1 < w3.heap.size := (by have := hb3.size; (try simp at this); omega); have hy3 : w.heap.size < w3.heap.size := (by omega); have hx32 : w2.heap.size < w3.heap.size := (by have := hb3.size; (try simp at this); omega)))
          refine (c3 _).mono ?_
          rintro e w4 ⟨rfl, hb4⟩
          have hB4 : Below w.heap.size w w4 := below_via hb4 (below_alloc (Below.setCell (p := ⟨w2.heap.size, 1, none⟩) (show Below w.heap.size w w3 from (by repeat (first | assumption | exact Below.refl _ _ | apply below_drew | apply pw_below_drewN | apply below_alloc | (refine below_via (by assumption) ?_)))) (by show w.heap.size ≤ w2.heap.size; omega) _) _)
          obtain ⟨hbc4, hbf4⟩ := bcell hb4
          have hz4 : w.heap.size + 1 < w4.heap.size := (by have := hb4.size; (try simp at this); omega)
          have hy4 : w.heap.size < w4.heap.size := (by omega)
          have hx42 : w2.heap.size < w4.heap.size := (by have := hb4.size; (try simp at this); omega)
          have hx43 : w3.heap.size < w4.heap.size := (by have := hb4.size; (try simp at this); omega)
          go_wp2_with fail
          go_goals
          all_goals (go_ret; exact ⟨rfl, (by repeat (first | assumption | exact Below.refl _ _ | apply below_drew | apply pw_below_drewN | apply below_alloc | (refine below_via (by assumption) ?_)))⟩)
  · rw [if_neg h0] at c1
    have c2 := fun W => take_any ⟨#[]⟩ ⟨#[]⟩ false false false 0 m i W (by decide) (by decide)
    generalize checkI b o c y l m = why at *
    have d00 : (why == 0) = false := by rw [beq_eq_false_iff_ne]; exact h0
    have d01 : (why != 0) = true := by simpa using h0
    clear h0 G
    obtain ⟨v, hv⟩ : ∃ v1 v2 v3, ∀ W, Calls Tryz.prog 8 #[.agg #[.string ⟨#[]⟩, .string ⟨#[]⟩, .bool false, .bool false, .bool false, .int .u64 0], .agg #[.int .i64 m, .int .u64 i]] W fun e w' => e = .returned (.tuple #[.agg #[.string ⟨#[]⟩, .string ⟨#[]⟩, .bool false, .bool false, .bool false, .int .u64 0], .string v2, .int .i64 v3]) ∧ Below W.heap.size W w' := by
      by_cases h : checkI ⟨#[]⟩ ⟨#[]⟩ false false false m = 0
      · refine ⟨0, ⟨#[]⟩, 0, fun W => ?_⟩
        have := c2 W
        rw [if_pos h] at this
        exact this
      · refine ⟨0, ⟨#[]⟩, checkI ⟨#[]⟩ ⟨#[]⟩ false false false m, fun W => ?_⟩
        have := c2 W
        rw [if_neg h] at this
        exact this
    obtain ⟨v2, v3, c2'⟩ := hv
    clear c2
    go_enter Tryz.func3, Tryz.ntmps3
    go_wp2_with (first
      | (go_at_call 7; (with_reducible refine (hlv _ (by repeat (first | assumption | exact Below.refl _ _ | apply below_drew | apply pw_below_drewN | apply below_alloc | (refine below_via (by assumption) ?_)))).mono ?_); rintro e w1 ⟨rfl, hb1⟩; obtain ⟨hbc1, hbf1⟩ := bcell hb1; have hz1 : w.heap.size + 1 < w1.heap.size := (by have := hb1.size; (try simp at this); omega); have hy1 : w.heap.size < w1.heap.size := (by omega))
      | (go_at_call 8; (with_reducible refine (c1 _).mono ?_); rintro e w2 ⟨rfl, hb2⟩; obtain ⟨hbc2, hbf2⟩ := bcell hb2; have hz2 : w.heap.size + 1 < w2.heap.size := (by have := hb2.size; (try simp at this); omega); have hy2 : w.heap.size < w2.heap.size := (by omega))
      | (go_at_call 8; (with_reducible refine (c2' _).mono ?_); rintro e w3 ⟨rfl, hb3⟩; obtain ⟨hbc3, hbf3⟩ := bcell hb3; have hz3 : w.heap.size + 1 < w3.heap.size := (by have := hb3.size; (try simp at this); omega); have hy3 : w.heap.size < w3.heap.size := (by omega); have hx32 : w2.heap.size < w3.heap.size := (by have := hb3.size; (try simp at this); omega)))
    go_goals
    all_goals (go_ret; exact ⟨rfl, (by repeat (first | assumption | exact Below.refl _ _ | apply below_drew | apply pw_below_drewN | apply below_alloc | (refine below_via (by assumption) ?_)))⟩)
end Go.Proofs.YtaihnhhapplmbaaGreatDoor.Sv
