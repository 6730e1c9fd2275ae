/- Package server: Check. -/
import Derived.Test.YtaihnhhapplmbaaGreatDoorCa
set_option linter.unusedVariables false
set_option linter.unusedSimpArgs false
namespace Go.Proofs.YtaihnhhapplmbaaGreatDoor.Sv
open Go.Sort Go.RowKit Go.Proofs Go.Proofs.YtaihnhhapplmbaaGreatDoorW.PrintWords Go.Proofs.YtaihnhhapplmbaaGreatDoor.Bs

/-- A connection's value. -/
structure Cn where
  b : ByteArray
  o : ByteArray
  c : Bool
  y : Bool
  l : Bool
  s : Int
def connV (k : Cn) : Value := .agg #[.string k.b, .string k.o, .bool k.c, .bool k.y, .bool k.l, .int .u64 k.s]
def checkI (b o : ByteArray) (c y l : Bool) (m : Int) : Int :=
  if m < 0 ∨ 65536 < m then 2
  else if 262144 < b.size ∨ 262144 < o.size ∨ (c = true ∧ (b.size ≠ 0 ∨ y = true)) ∨ (l = true ∧ y = false) then 6 else 0
theorem size_ne (t : ByteArray) (h : 0 < t.size) : t.toList.isEmpty = false := by
  rw [ByteArray.toList_eq, List.isEmpty_eq_false_iff]
  intro e
  have := congrArg List.length e
  have e2 : t.data.toList.length = t.size := rfl
  rw [e2] at this
  simp only [List.length_nil] at this
  omega
theorem size_eq0 (t : ByteArray) (h : ¬ 0 < t.size) : t.toList.isEmpty = true := by
  rw [ByteArray.toList_eq, List.isEmpty_iff]
  have e2 : t.data.toList.length = t.size := rfl
  exact List.length_eq_zero_iff.1 (by omega)
set_option maxRecDepth 100000 in
set_option maxHeartbeats 4000000 in
theorem check_any (b o : ByteArray) (c y l : Bool) (s m i : Int) (w : World) (hb : b.size ≤ 1073741824) (ho : o.size ≤ 1073741824) :
    Calls Tryz.prog 11 #[.agg #[.string b, .string o, .bool c, .bool y, .bool l, .int .u64 s], .agg #[.int .i64 m, .int .u64 i]] w fun e w' => e = .returned (.int .i64 (checkI b o c y l m)) ∧ Below w.heap.size w w' := by
  obtain ⟨R, hR⟩ : ∃ R, checkI b o c y l m = R := ⟨_, rfl⟩
  rw [hR]
  unfold checkI at hR
  obtain ⟨z, hz, hz0⟩ : ∃ z, b.toList.isEmpty = z ∧ (b.size ≠ 0 ↔ z = false) := by
    by_cases h : 0 < b.size
    · exact ⟨false, size_ne b h, fun _ => rfl, fun _ => by omega⟩
    · exact ⟨true, size_eq0 b h, fun h' => absurd (by omega) h', fun h' => by cases h'⟩
  simp only [hz0] at hR
  clear hz0
  by_cases hm0 : m < 0
  · have dm0 : decide (m < 0) = true := by simpa using hm0
    rw [if_pos (.inl hm0)] at hR
    have HR := Lib.hid hR
    clear hR hm0
    cases c <;> cases y <;> cases z <;> (
      go_enter Tryz.func11, Tryz.ntmps11
      go_wp2_with fail
      go_ret
      exact ⟨by rw [← HR.out]; rfl, (by repeat (first | assumption | exact Below.refl _ _ | apply below_drew | apply pw_below_drewN | apply below_alloc | (refine below_via (by assumption) ?_)))⟩)
  · have dm0 : decide (m < 0) = false := by simpa using hm0
    by_cases hm1 : 65536 < m
    · have dm1 : decide (65536 < m) = true := by simpa using hm1
      rw [if_pos (.inr hm1)] at hR
      have HR := Lib.hid hR
      clear hR hm0 hm1
      cases c <;> cases y <;> cases z <;> (
        go_enter Tryz.func11, Tryz.ntmps11
        go_wp2_with fail
        go_ret
        exact ⟨by rw [← HR.out]; rfl, (by repeat (first | assumption | exact Below.refl _ _ | apply below_drew | apply pw_below_drewN | apply below_alloc | (refine below_via (by assumption) ?_)))⟩)
    · have dm1 : decide (65536 < m) = false := by simpa using hm1
      rw [if_neg (by omega)] at hR
      clear hm0 hm1
      by_cases hlt : b.size < o.size
      · have dlt : decide (b.size < o.size) = true := by simp; omega
        by_cases hx : 262144 < o.size
        · rw [if_pos (by first | exact .inl hx | exact .inr (.inl hx))] at hR
          have HR := Lib.hid hR
          clear hR
          have dmx : decide ((262144 : Int) < (o.size : Int)) = true := by simp; omega
          clear hx
          cases c <;> cases y <;> cases z <;> (
            go_enter Tryz.func11, Tryz.ntmps11
            go_wp2_with fail
            go_ret
            exact ⟨by rw [← HR.out]; rfl, (by repeat (first | assumption | exact Below.refl _ _ | apply below_drew | apply pw_below_drewN | apply below_alloc | (refine below_via (by assumption) ?_)))⟩)
        · have dmx : decide ((262144 : Int) < (o.size : Int)) = false := by simp; omega
          have HR := Lib.hid (show (if (c = true ∧ (z = false ∨ y = true)) ∨ (l = true ∧ y = false) then 6 else 0) = R from by
            rw [← hR]
            simp only [show ¬ 262144 < b.size by omega, show ¬ 262144 < o.size by omega, false_or])
          clear hR hx
          cases c <;> cases y <;> cases z <;> cases l <;> (
            go_enter Tryz.func11, Tryz.ntmps11
            go_wp2_with fail
            go_ret
            exact ⟨by rw [← HR.out]; rfl, (by repeat (first | assumption | exact Below.refl _ _ | apply below_drew | apply pw_below_drewN | apply below_alloc | (refine below_via (by assumption) ?_)))⟩)
      · have dlt : decide (b.size < o.size) = false := by simp; omega
        by_cases hx : 262144 < b.size
        · rw [if_pos (by first | exact .inl hx | exact .inr (.inl hx))] at hR
          have HR := Lib.hid hR
          clear hR
          have dmx : decide ((262144 : Int) < (b.size : Int)) = true := by simp; omega
          clear hx
          cases c <;> cases y <;> cases z <;> (
            go_enter Tryz.func11, Tryz.ntmps11
            go_wp2_with fail
            go_ret
            exact ⟨by rw [← HR.out]; rfl, (by repeat (first | assumption | exact Below.refl _ _ | apply below_drew | apply pw_below_drewN | apply below_alloc | (refine below_via (by assumption) ?_)))⟩)
        · have dmx : decide ((262144 : Int) < (b.size : Int)) = false := by simp; omega
          have HR := Lib.hid (show (if (c = true ∧ (z = false ∨ y = true)) ∨ (l = true ∧ y = false) then 6 else 0) = R from by
            rw [← hR]
            simp only [show ¬ 262144 < b.size by omega, show ¬ 262144 < o.size by omega, false_or])
          clear hR hx
          cases c <;> cases y <;> cases z <;> cases l <;> (
            go_enter Tryz.func11, Tryz.ntmps11
            go_wp2_with fail
            go_ret
            exact ⟨by rw [← HR.out]; rfl, (by repeat (first | assumption | exact Below.refl _ _ | apply below_drew | apply pw_below_drewN | apply below_alloc | (refine below_via (by assumption) ?_)))⟩)
end Go.Proofs.YtaihnhhapplmbaaGreatDoor.Sv
