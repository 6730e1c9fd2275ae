/- Package penstockref07: SameHeads, SameRequest, SameResponse. -/
import Derived.Test.YtjbehnalmgcbpaaGreatDoorLv
set_option linter.unusedVariables false
set_option linter.unusedSimpArgs false
namespace Go.Proofs.YtjbehnalmgcbpaaGreatDoor.Ht
open Go.Sort Go.RowKit Go.Proofs Go.Proofs.YtjbehnalmgcbpaaGreatDoorW.PrintWords Go.Proofs.YtjbehnalmgcbpaaGreatDoor.Bs Go.Proofs.YtjbehnalmgcbpaaGreatDoor.Ir Go.Proofs.YtjbehnalmgcbpaaGreatDoor.Gn

instance : DecidableEq Head := fun a b => decidable_of_iff (a.name = b.name ∧ a.value = b.value) (by cases a; cases b; simp)
theorem head_eq (a b : Head) : (!(a.name.toList == b.name.toList) || !(a.value.toList == b.value.toList)) = !decide (a = b) := by
  rw [str_eq, str_eq, Bool.eq_iff_iff]
  cases a
  cases b
  simp
set_option maxRecDepth 100000 in
set_option maxHeartbeats 2000000 in
theorem sameHeads_any (A0 A1 : Option Addr) (c0 c1 : Nat) (l0 l1 : List Head) (w : World) (h0 : Kd.C kH w A0 l0.length l0) (h1 : Kd.C kH w A1 l1.length l1) (hl : l0.length ≤ 1073741824) (hl1 : l1.length ≤ 1073741824) :
    Calls Tryz.prog 18 #[.slice A0 l0.length c0, .slice A1 l1.length c1] w fun e w' => e = .returned (.bool (decide (l0 = l1))) ∧ Below w.heap.size w w' := by
  have hu := Tryz.underlying61
  have H0 := Lib.hid h0
  have H1 := Lib.hid h1
  clear h0 h1
  by_cases hn : l0.length = l1.length
  · have HN := Lib.hid hn
    have c3b0 : ((l0.length : Int) == (l1.length : Int)) = true := by rw [hn]; simp
    have c3b1 : ((l0.length : Int) != (l1.length : Int)) = false := by rw [hn]; simp
    clear hn
    go_enter Tryz.func18, Tryz.ntmps18
    go_wp2_with fail
    go_loopw [13] (fun v wr => ∃ k : Nat, v = .int .i64 k ∧ k ≤ l0.length ∧ Hid (∀ j, j < k → l0.getD j zH = l1.getD j zH) ∧ Below w.heap.size w wr) (fun v _ => l0.length - (intOf v).toNat)
    case atStart => exact ⟨0, rfl, by omega, Lib.hid (fun j hj => by omega), Below.refl _ _⟩
    case round =>
      obtain ⟨k, rfl, hk, hE, hb⟩ := hrel
      by_cases hlt : k < l0.length
      · have hlt1 : k < l1.length := by rw [← HN.out]; exact hlt
        obtain ⟨ad0, rfl, x0, x1⟩ := at_H (Kd.C_below H0.out hb) k hlt
        obtain ⟨ad1, rfl, y0, y1⟩ := at_H (Kd.C_below H1.out hb) k hlt1
        have hk0 : (0 : Int) ≤ (k : Int) := by omega
        have hk1 : (k : Int) < (l0.length : Int) := by omega
        have hk2 : (k : Int) < (l1.length : Int) := by omega
        have HB := Lib.hid hb
        by_cases he : l0.getD k zH = l1.getD k zH
        · rw [← he] at y0 y1
          have HEE := Lib.hid (show ∀ j, j < k + 1 → l0.getD j zH = l1.getD j zH from fun j hj => by
            by_cases e : j = k
            · subst e
              exact he
            · exact hE.out j (by omega))
          clear he
          generalize l0.getD k zH = p0 at *
          go_wp2_with fail
          go_quiet (fail)
          go_wp2_with fail
          go_roundw
          case rel => exact ⟨k + 1, by go_num, by omega, HEE, (by repeat (first | assumption | exact Below.refl _ _ | apply below_drew | apply pw_below_drewN | apply below_alloc | (refine below_via (by assumption) ?_)))⟩
          case measure => simp [intOf]; omega
        · have HEE := Lib.hid (show decide (l0 = l1) = false from decide_eq_false (fun h => he (by rw [h])))
          have hor : ¬ (l0.getD k zH).name.toList = (l1.getD k zH).name.toList ∨ ((l0.getD k zH).name.toList = (l1.getD k zH).name.toList ∧ ¬ (l0.getD k zH).value.toList = (l1.getD k zH).value.toList) := by
            have := head_eq (l0.getD k zH) (l1.getD k zH)
            rw [decide_eq_false he] at this
            simp only [Bool.not_false, Bool.or_eq_true, Bool.not_eq_true', beq_eq_false_iff_ne] at this
            rcases this with h | h
            · exact .inl h
            · by_cases hh : (l0.getD k zH).name.toList = (l1.getD k zH).name.toList
              · exact .inr ⟨hh, h⟩
              · exact .inl hh
          clear he
          generalize l0.getD k zH = p0 at *
          generalize l1.getD k zH = p1 at *
          rcases hor with hh | ⟨hh, hh2⟩
          all_goals
            go_wp2_with fail
            go_quiet (fail)
            go_wp2_with fail
            go_ret
            rw [HEE.out]
            exact ⟨rfl, (by repeat (first | assumption | exact Below.refl _ _ | apply below_drew | apply pw_below_drewN | apply below_alloc | (refine below_via (by assumption) ?_)))⟩
      · have HEE := Lib.hid (show decide (l0 = l1) = true from decide_eq_true (by
          apply List.ext_getElem HN.out
          intro i h1 h2
          have := hE.out i (by omega)
          simpa [h1, h2] using this))
        go_wp2_with fail
        go_ret
        rw [HEE.out]
        exact ⟨rfl, (by repeat (first | assumption | exact Below.refl _ _ | apply below_drew | apply pw_below_drewN | apply below_alloc | (refine below_via (by assumption) ?_)))⟩
  · have c3b0 : ((l0.length : Int) == (l1.length : Int)) = false := by rw [beq_eq_false_iff_ne]; omega
    have c3b1 : ((l0.length : Int) != (l1.length : Int)) = true := by rw [bne_iff_ne]; omega
    have HN := Lib.hid (show decide (l0 = l1) = false from decide_eq_false (fun h => hn (by rw [h])))
    clear hn
    go_enter Tryz.func18, Tryz.ntmps18
    go_wp2_with fail
    go_ret
    rw [HN.out]
    exact ⟨rfl, Below.refl _ _⟩
theorem below_cells {w W : World} {cs : Array Value} {T : TypeId} (hb : Below (w.alloc (.cells cs T)).heap.size (w.alloc (.cells cs T)) W) (i : Nat) (v : Value) (h : cs[i]? = some v) : W.cell? ⟨w.heap.size, i, none⟩ = some v :=
  (hb.cell (p := ⟨w.heap.size, i, none⟩) (by simp)).trans (cell_new w cs T i v h)
set_option maxRecDepth 100000 in
set_option maxHeartbeats 2000000 in
theorem sameRequest_any (m0 t0 b0 m1 t1 b1 : ByteArray) (A0 A1 : Option Addr) (c0 c1 : Nat) (l0 l1 : List Head) (w : World) (h0 : Kd.C kH w A0 l0.length l0) (h1 : Kd.C kH w A1 l1.length l1) (hl : l0.length ≤ 1073741824) (hl1 : l1.length ≤ 1073741824) :
    Calls Tryz.prog 12 #[.agg #[.string m0, .string t0, .slice A0 l0.length c0, .string b0], .agg #[.string m1, .string t1, .slice A1 l1.length c1, .string b1]] w fun e w' => e = .returned (.bool (decide (m0 = m1 ∧ t0 = t1 ∧ l0 = l1 ∧ b0 = b1))) ∧ Below w.heap.size w w' := by
  have cs := fun W (hb : Below w.heap.size w W) => sameHeads_any A0 A1 c0 c1 l0 l1 W (Kd.C_below h0 hb) (Kd.C_below h1 hb) hl hl1
  have e1 := str_eq m0 m1
  have e2 := str_eq t0 t1
  have e3 := str_eq b0 b1
  clear h0 h1
  have HR := Lib.hid (show decide (m0 = m1 ∧ t0 = t1 ∧ l0 = l1 ∧ b0 = b1) = (decide (m0 = m1) && decide (t0 = t1) && decide (l0 = l1) && decide (b0 = b1)) from by
    rw [Bool.eq_iff_iff]; simp [and_assoc])
  generalize decide (m0 = m1) = x1 at *
  generalize decide (t0 = t1) = x2 at *
  generalize decide (b0 = b1) = x3 at *
  generalize decide (l0 = l1) = x4 at *
  generalize decide (m0 = m1 ∧ t0 = t1 ∧ l0 = l1 ∧ b0 = b1) = R at *
  cases x1 with
  | false =>
    clear cs
    go_enter Tryz.func12, Tryz.ntmps12
    go_wp2_with fail
    go_ret
    rw [HR.out]
    exact ⟨rfl, (by repeat (first | assumption | exact Below.refl _ _ | apply below_drew | apply pw_below_drewN | apply below_alloc | (refine below_via (by assumption) ?_)))⟩
  | true =>
    cases x2 with
    | false =>
      clear cs
      go_enter Tryz.func12, Tryz.ntmps12
      go_wp2_with fail
      go_ret
      rw [HR.out]
      exact ⟨rfl, (by repeat (first | assumption | exact Below.refl _ _ | apply below_drew | apply pw_below_drewN | apply below_alloc | (refine below_via (by assumption) ?_)))⟩
    | true =>
      cases x4 with
      | false =>
        go_enter Tryz.func12, Tryz.ntmps12
        go_wp2_with (go_at_call 18; refine (cs _ (by repeat (first | assumption | exact Below.refl _ _ | apply below_drew | apply pw_below_drewN | apply below_alloc | (refine below_via (by assumption) ?_)))).mono ?_; rintro e w1 ⟨rfl, hb1⟩)
        go_ret
        rw [HR.out]
        exact ⟨rfl, (by repeat (first | assumption | exact Below.refl _ _ | apply below_drew | apply pw_below_drewN | apply below_alloc | (refine below_via (by assumption) ?_)))⟩
      | true =>
        go_enter Tryz.func12, Tryz.ntmps12
        go_wp2_with (go_at_call 18; refine (cs _ (by repeat (first | assumption | exact Below.refl _ _ | apply below_drew | apply pw_below_drewN | apply below_alloc | (refine below_via (by assumption) ?_)))).mono ?_; rintro e w1 ⟨rfl, hb1⟩; obtain ⟨hbc1, hbf1⟩ := bcell hb1)
        go_ret
        rw [HR.out]
        exact ⟨by simp [e3], (by repeat (first | assumption | exact Below.refl _ _ | apply below_drew | apply pw_below_drewN | apply below_alloc | (refine below_via (by assumption) ?_)))⟩
set_option maxRecDepth 100000 in
set_option maxHeartbeats 2000000 in
theorem sameResponse_any (m0 m1 : Int) (b0 b1 : ByteArray) (A0 A1 : Option Addr) (c0 c1 : Nat) (l0 l1 : List Head) (w : World) (h0 : Kd.C kH w A0 l0.length l0) (h1 : Kd.C kH w A1 l1.length l1) (hl : l0.length ≤ 1073741824) (hl1 : l1.length ≤ 1073741824) :
    Calls Tryz.prog 24 #[.agg #[.int .i64 m0, .slice A0 l0.length c0, .string b0], .agg #[.int .i64 m1, .slice A1 l1.length c1, .string b1]] w fun e w' => e = .returned (.bool (decide (m0 = m1 ∧ l0 = l1 ∧ b0 = b1))) ∧ Below w.heap.size w w' := by
  have cs := fun W (hb : Below w.heap.size w W) => sameHeads_any A0 A1 c0 c1 l0 l1 W (Kd.C_below h0 hb) (Kd.C_below h1 hb) hl hl1
  have e1 : (m0 == m1) = decide (m0 = m1) := rfl
  have e3 := str_eq b0 b1
  clear h0 h1
  have HR := Lib.hid (show decide (m0 = m1 ∧ l0 = l1 ∧ b0 = b1) = (decide (m0 = m1) && decide (l0 = l1) && decide (b0 = b1)) from by
    rw [Bool.eq_iff_iff]; simp [and_assoc])
  generalize decide (m0 = m1) = x1 at *
  generalize decide (b0 = b1) = x3 at *
  generalize decide (l0 = l1) = x4 at *
  generalize decide (m0 = m1 ∧ l0 = l1 ∧ b0 = b1) = R at *
  cases x1 with
  | false =>
    clear cs
    go_enter Tryz.func24, Tryz.ntmps24
    go_wp2_with fail
    go_ret
    rw [HR.out]
    exact ⟨rfl, (by repeat (first | assumption | exact Below.refl _ _ | apply below_drew | apply pw_below_drewN | apply below_alloc | (refine below_via (by assumption) ?_)))⟩
  | true =>
      cases x4 with
      | false =>
        go_enter Tryz.func24, Tryz.ntmps24
        go_wp2_with (go_at_call 18; refine (cs _ (by repeat (first | assumption | exact Below.refl _ _ | apply below_drew | apply pw_below_drewN | apply below_alloc | (refine below_via (by assumption) ?_)))).mono ?_; rintro e w1 ⟨rfl, hb1⟩)
        go_ret
        rw [HR.out]
        exact ⟨rfl, (by repeat (first | assumption | exact Below.refl _ _ | apply below_drew | apply pw_below_drewN | apply below_alloc | (refine below_via (by assumption) ?_)))⟩
      | true =>
        go_enter Tryz.func24, Tryz.ntmps24
        go_wp2_with (go_at_call 18; refine (cs _ (by repeat (first | assumption | exact Below.refl _ _ | apply below_drew | apply pw_below_drewN | apply below_alloc | (refine below_via (by assumption) ?_)))).mono ?_; rintro e w1 ⟨rfl, hb1⟩; obtain ⟨hbc1, hbf1⟩ := bcell hb1)
        go_ret
        rw [HR.out]
        exact ⟨by simp [e3], (by repeat (first | assumption | exact Below.refl _ _ | apply below_drew | apply pw_below_drewN | apply below_alloc | (refine below_via (by assumption) ?_)))⟩
end Go.Proofs.YtjbehnalmgcbpaaGreatDoor.Ht
