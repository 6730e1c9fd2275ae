/- ConfUnits: digits, and what units say of them. -/
import Derived.Test.YtpdnopfjnmjnnaaGreatDoorVd
set_option linter.unusedVariables false
set_option linter.unusedSimpArgs false
namespace Go.Proofs.YtpdnopfjnmjnnaaGreatDoor.Cn
open Go.Sort Go.RowKit Go.Proofs Go.Proofs.YtpdnopfjnmjnnaaGreatDoorW.PrintWords Go.Proofs.YtpdnopfjnmjnnaaGreatDoor.Bs Go.Proofs.YtpdnopfjnmjnnaaGreatDoor.Ir Go.Proofs.YtpdnopfjnmjnnaaGreatDoor.Cz

theorem digS_app (s u : List UInt8) (hs : ∀ b ∈ s, isDig b = true) : digS (s ++ u) = s ++ digS u ∧ restS (s ++ u) = restS u := by
  induction s with
  | nil => exact ⟨rfl, rfl⟩
  | cons b r ih =>
    have hb := hs b List.mem_cons_self
    obtain ⟨h1, h2⟩ := ih (fun c hc => hs c (List.mem_cons_of_mem _ hc))
    unfold digS restS at *
    rw [List.cons_append, List.takeWhile_cons, List.dropWhile_cons, if_pos hb, if_pos hb, h1, h2]
    exact ⟨rfl, rfl⟩
theorem numOf_app (s : List UInt8) : ∀ (a : Nat) (z : List UInt8), numOf a (s ++ z) = numOf (numOf a s) z := by
  induction s with
  | nil => intro a z; rfl
  | cons b r ih => intro a z; exact ih (a * 10 + (b.toNat - 48)) z
theorem numOf_cons (a : Nat) (b : UInt8) (r : List UInt8) : numOf a (b :: r) = numOf (a * 10 + (b.toNat - 48)) r := by conv => lhs; unfold numOf
theorem numOf_up (s : List UInt8) : ∀ a, numOf a s = a * 10 ^ s.length + numOf 0 s := by
  induction s with
  | nil =>
    intro a
    have h1 : numOf a [] = a := by unfold numOf; rfl
    have h2 : numOf 0 [] = 0 := by unfold numOf; rfl
    rw [h1, h2, List.length_nil, Nat.pow_zero, Nat.mul_one, Nat.add_zero]
  | cons b r ih =>
    intro a
    have h1 := numOf_cons a b r
    have h2 := numOf_cons 0 b r
    generalize b.toNat - 48 = z at h1 h2
    have h3 := ih (a * 10 + z)
    have h4 := ih (0 * 10 + z)
    rw [h1, h2, h3, h4, List.length_cons, Nat.pow_succ]
    generalize 10 ^ r.length = p
    generalize numOf 0 r = y
    rw [Nat.zero_mul, Nat.zero_add, Nat.add_mul, Nat.add_assoc, Nat.mul_assoc, Nat.mul_comm 10 p]
/-- So far the digits of n: what is left is x. -/
structure DigP (n x : Nat) (s : List UInt8) : Prop where
  dig : ∀ b ∈ s, isDig b = true
  sum : numOf 0 s + x * 10 ^ s.length = n
theorem DigP.len {n x : Nat} {s : List UInt8} (h : DigP n x s) (hn : n ≤ 65535) (hx : 0 < x) : s.length ≤ 4 := by
  have h1 := h.sum
  rcases Nat.lt_or_ge 4 s.length with h2 | h2
  · exfalso
    have h3 : (10 : Nat) ^ 5 ≤ 10 ^ s.length := Nat.pow_le_pow_right (by decide) h2
    have h4 : 1 * 10 ^ s.length ≤ x * 10 ^ s.length := Nat.mul_le_mul_right _ hx
    omega
  · exact h2
theorem DigP.step {n x : Nat} {s : List UInt8} (h : DigP n x s) (c : UInt8) (hc : c.toNat = 48 + x % 10) : DigP n (x / 10) (c :: s) := by
  refine ⟨fun b hb => ?_, ?_⟩
  · rcases List.mem_cons.1 hb with rfl | hb
    · unfold isDig
      have := Nat.mod_lt x (by decide : 0 < 10)
      simp
      omega
    · exact h.dig b hb
  · have h1 : numOf 0 (c :: s) = numOf (0 * 10 + (c.toNat - 48)) s := rfl
    rw [h1, numOf_up, List.length_cons, Nat.pow_succ]
    have h2 := h.sum
    have h3 : x = 10 * (x / 10) + x % 10 := (Nat.div_add_mod x 10).symm
    have e : 0 * 10 + (c.toNat - 48) = x % 10 := by omega
    rw [e]
    generalize x / 10 = q at *
    generalize x % 10 = r at *
    generalize 10 ^ s.length = p at *
    subst h3
    rw [Nat.add_mul] at h2
    have e2 : q * (p * 10) = 10 * q * p := by rw [Nat.mul_comm p 10, ← Nat.mul_assoc, Nat.mul_comm q 10]
    rw [e2]
    omega
structure DecP (n : Nat) (s : List UInt8) : Prop where
  dig : ∀ b ∈ s, isDig b = true
  num : numOf 0 s = n
  ne : s ≠ []
  len : s.length ≤ 5
theorem DecP.unit {n : Nat} {s : List UInt8} (h : DecP n s) (z u : List UInt8) (hz : ∀ b ∈ z, isDig b = true) (hu : digS u = []) (hzl : z.length ≤ 4) (c : Nat) (hc : c ≠ 0) : unitL c (s ++ (z ++ u)) = some (numOf n z * c) ∧ restS (s ++ (z ++ u)) = restS u := by
  obtain ⟨h1, h2⟩ := digS_app s (z ++ u) h.dig
  obtain ⟨h3, h4⟩ := digS_app z u hz
  rw [h3, hu, List.append_nil] at h1
  refine ⟨?_, by rw [h2, h4]⟩
  unfold unitL
  rw [h1, numOf_app, h.num]
  have hl := h.len
  have hne : (s ++ z).isEmpty = false := by
    cases s with
    | nil => exact absurd rfl h.ne
    | cons _ _ => rfl
  rw [hne]
  have hl2 : ¬ 9 < (s ++ z).length := by rw [List.length_append]; omega
  rw [if_neg (by simp only [hl2, hc]; decide)]
theorem DecP.many {n : Nat} {s : List UInt8} (h : DecP n s) (z u : List UInt8) (hz : ∀ b ∈ z, isDig b = true) (hzl : 9 ≤ z.length) (c : Nat) : unitL c (s ++ (z ++ u)) = none := by
  obtain ⟨h1, h2⟩ := digS_app s (z ++ u) h.dig
  obtain ⟨h3, h4⟩ := digS_app z u hz
  unfold unitL
  rw [h1, h3]
  have hl : 9 < (s ++ (z ++ digS u)).length := by
    rw [List.length_append, List.length_append]
    have : 0 < s.length := List.length_pos_iff.2 h.ne
    omega
  rw [if_pos (by simp only [hl, decide_true, Bool.or_true, Bool.true_or])]
theorem dec_units {n : Nat} {s : List UInt8} (h : DecP n s) :
    millisL (s ++ [115]) = some (n * 1000) ∧ millisL (s ++ [48, 48, 48, 109, 115]) = some (n * 1000) ∧ millisL (s ++ [109]) = some (n * 60000) ∧ bytesL (s ++ [75, 105, 66]) = some (n * 1024) ∧ bytesL s = some n ∧ millisL (s ++ [48, 48, 48, 48, 48, 48, 48, 48, 48, 48, 115]) = none ∧ bytesL [75, 105, 66] = none := by
  have one : ∀ (u : List UInt8) (c : Nat), digS u = [] → c ≠ 0 → unitL c (s ++ u) = some (n * c) ∧ restS (s ++ u) = restS u := fun u c hu hc => h.unit [] u (fun b hb => by cases hb) hu (by decide) c hc
  refine ⟨?_, ?_, ?_, ?_, ?_, ?_, by decide⟩
  · have := one [115] 1000 (by decide) (by decide)
    unfold millisL
    rw [this.2, show tabN millisT (restS [115]) = 1000 from by decide]
    exact this.1
  · have := h.unit [48, 48, 48] [109, 115] (by decide) (by decide) (by decide) 1 (by decide)
    unfold millisL
    rw [show (s ++ [48, 48, 48, 109, 115]) = s ++ ([48, 48, 48] ++ [109, 115]) from rfl, this.2, show tabN millisT (restS [109, 115]) = 1 from by decide, this.1]
    have e0 : ∀ a : Nat, numOf a [48] = a * 10 := by
      intro a
      rw [numOf_cons, numOf_up]
      have z1 : (48 : UInt8).toNat - 48 = 0 := by decide
      rw [z1, List.length_nil, Nat.pow_zero, Nat.mul_one, Nat.add_zero]
      have z2 : numOf 0 [] = 0 := by unfold numOf; rfl
      rw [z2, Nat.add_zero]
    have e : numOf n [48, 48, 48] = n * 10 * 10 * 10 := by
      rw [show ([48, 48, 48] : List UInt8) = [48] ++ ([48] ++ [48]) from rfl, numOf_app, numOf_app, e0, e0, e0]
    rw [e, Nat.mul_one, Nat.mul_assoc, Nat.mul_assoc]
  · have := one [109] 60000 (by decide) (by decide)
    unfold millisL
    rw [this.2, show tabN millisT (restS [109]) = 60000 from by decide]
    exact this.1
  · have := one [75, 105, 66] 1024 (by decide) (by decide)
    unfold bytesL
    rw [this.2, show tabN bytesT (restS [75, 105, 66]) = 1024 from by decide]
    exact this.1
  · have := one [] 1 (by decide) (by decide)
    rw [List.append_nil] at this
    unfold bytesL
    rw [this.2, show tabN bytesT (restS []) = 1 from by decide, this.1, Nat.mul_one]
  · unfold millisL
    exact h.many [48, 48, 48, 48, 48, 48, 48, 48, 48, 48] [115] (by decide) (by decide) _
end Go.Proofs.YtpdnopfjnmjnnaaGreatDoor.Cn
