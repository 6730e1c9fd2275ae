/- Plain laws: runes of a text and its bytes. No program in sight. -/
import Derived.Test.YtpdnopfjnmjnnaaGreatDoorBs
import Derived.Shelf.GgClosure.StringsIndexFunc
set_option linter.unusedVariables false
set_option linter.unusedSimpArgs false
namespace Go.Proofs.YtpdnopfjnmjnnaaGreatDoor.Pl
open Go.Proofs

theorem get_at (s : ByteArray) (i : Nat) (h : i < s.size) : s.get! i = s.data.toList[i]'(by simpa using h) := by
  have h' : i < s.data.size := h
  show s.data[i]! = _
  rw [getElem!_pos s.data i h']
  rfl
theorem decode_ascii' (s : ByteArray) (pos : Nat) (h : pos < s.size) (ha : (s.data.toList[pos]'(by simpa using h)).toNat < 128) : Utf8.decode s pos = ((s.data.toList[pos]'(by simpa using h)).toNat, 1) := by
  simp only [Utf8.decode, Nat.add_zero, get_at s pos h]
  rw [if_pos ha]
/-- A rune that begins with a byte from 128 on is one from 128 on, and all its bytes are. -/
theorem decode_wide (s : ByteArray) (pos : Nat) (h : pos < s.size) (ha : 128 ≤ (s.data.toList[pos]'(by simpa using h)).toNat) :
    128 ≤ (Utf8.decode s pos).1 ∧ (Utf8.decode s pos).1 ≤ 1114111 ∧ 1 ≤ (Utf8.decode s pos).2 ∧ pos + (Utf8.decode s pos).2 ≤ s.size ∧ ∀ k, k < (Utf8.decode s pos).2 → ∀ hk : pos + k < s.size, 128 ≤ (s.data.toList[pos + k]'(by simpa using hk)).toNat := by
  have key : ∀ k, (decide (pos + k < s.size) && (s.get! (pos + k)).toNat / 64 == 2) = true → ∃ hk : pos + k < s.size, 128 ≤ (s.data.toList[pos + k]'(by simpa using hk)).toNat := by
    intro k hk
    rw [Bool.and_eq_true, decide_eq_true_eq, beq_iff_eq] at hk
    refine ⟨hk.1, ?_⟩
    rw [get_at s _ hk.1] at hk
    omega
  have one : 128 ≤ (65533, 1).1 ∧ (65533, 1).1 ≤ 1114111 ∧ 1 ≤ (65533, 1).2 ∧ pos + (65533, 1).2 ≤ s.size ∧ ∀ k, k < (65533, 1).2 → ∀ hk : pos + k < s.size, 128 ≤ (s.data.toList[pos + k]'(by simpa using hk)).toNat := by
    refine ⟨by decide, by decide, by decide, h, fun k hk h' => ?_⟩
    have : k = 0 := by simpa using hk
    subst this
    exact ha
  have h0 : (s.get! (pos + 0)).toNat = (s.data.toList[pos]'(by simpa using h)).toNat := by rw [Nat.add_zero, get_at s pos h]
  have hlt := (s.data.toList[pos]'(by simpa using h)).toNat_lt
  have e0 : ∀ h', (s.data.toList[pos + 0]'h').toNat = (s.data.toList[pos]'(by simpa using h)).toNat := fun _ => rfl
  simp only [Utf8.decode, Utf8.runeError, h0]
  rw [if_neg (by omega)]
  split
  · rename_i hc
    rw [Bool.and_eq_true] at hc
    obtain ⟨h1, g1⟩ := key 1 hc.2
    split
    · refine ⟨by omega, by omega, by omega, by omega, fun k hk h' => ?_⟩
      match k, hk with
      | 0, _ => exact ha
      | 1, _ => exact g1
    · exact one
  · split
    · rename_i hc
      rw [Bool.and_eq_true, Bool.and_eq_true] at hc
      obtain ⟨h1, g1⟩ := key 1 hc.1.2
      obtain ⟨h2, g2⟩ := key 2 hc.2
      split
      · rename_i hv
        rw [Bool.and_eq_true, decide_eq_true_eq] at hv
        refine ⟨by omega, ?_, by omega, by omega, fun k hk h' => ?_⟩
        · have := (s.get! (pos + 1)).toNat_lt
          have := (s.get! (pos + 2)).toNat_lt
          omega
        · match k, hk with
          | 0, _ => exact ha
          | 1, _ => exact g1
          | 2, _ => exact g2
      · exact one
    · split
      · rename_i hc
        rw [Bool.and_eq_true, Bool.and_eq_true, Bool.and_eq_true] at hc
        obtain ⟨h1, g1⟩ := key 1 hc.1.1.2
        obtain ⟨h2, g2⟩ := key 2 hc.1.2
        obtain ⟨h3, g3⟩ := key 3 hc.2
        split
        · rename_i hv
          rw [Bool.and_eq_true, decide_eq_true_eq] at hv
          refine ⟨by omega, ?_, by omega, by omega, fun k hk h' => ?_⟩
          · have h4 := hv.2
            simp only [Utf8.valid, Bool.or_eq_true, Bool.and_eq_true, decide_eq_true_eq] at h4
            omega
          · match k, hk with
            | 0, _ => exact ha
            | 1, _ => exact g1
            | 2, _ => exact g2
            | 3, _ => exact g3
        · exact one
      · exact one

/-- Does no rune hold p? p being one and the same from 128 on. -/
theorem idx_all (p : Nat → Bool) (wide : Bool) (hp : ∀ r, 128 ≤ r → r ≤ 1114111 → p r = wide) (s : ByteArray) :
    ∀ (f pos : Nat), s.size ≤ pos + f → decide (Lib.idxFuncFrom p true s f pos < 0) = (s.data.toList.drop pos).all fun b => if b.toNat < 128 then !p b.toNat else !wide
  | 0, pos, hf => by
    rw [List.drop_eq_nil_of_le (by simpa using hf)]
    rfl
  | f + 1, pos, hf => by
    have hsz : s.data.toList.length = s.size := rfl
    unfold Lib.idxFuncFrom
    by_cases h : pos < s.size
    · rw [if_pos h, List.drop_eq_getElem_cons (by rw [hsz]; exact h), List.all_cons]
      by_cases ha : (s.data.toList[pos]'(by rw [hsz]; exact h)).toNat < 128
      · rw [decode_ascii' s pos h ha]
        rw [if_pos ha]
        cases hb : p (s.data.toList[pos]'(by rw [hsz]; exact h)).toNat with
        | true => simp
        | false =>
          simp only [Bool.false_eq_true, if_false, Bool.not_false, Bool.true_and]
          exact idx_all p wide hp s f (pos + 1) (by omega)
      · rw [if_neg ha]
        obtain ⟨h1, h2, h3, h4, h5⟩ := decode_wide s pos h (by omega)
        rw [hp _ h1 h2]
        cases wide with
        | true => simp
        | false =>
          simp only [Bool.false_eq_true, if_false, Bool.not_false, Bool.true_and]
          rw [idx_all p false hp s f (pos + (Utf8.decode s pos).2) (by omega)]
          generalize (Utf8.decode s pos).2 = n at *
          have e : s.data.toList.drop (pos + 1) = (s.data.toList.drop (pos + 1)).take (n - 1) ++ s.data.toList.drop (pos + n) := by
            rw [show pos + n = (pos + 1) + (n - 1) from by omega, ← List.drop_drop (i := n - 1), List.take_append_drop]
          rw [e, List.all_append]
          have t : ((s.data.toList.drop (pos + 1)).take (n - 1)).all (fun b => if b.toNat < 128 then !p b.toNat else !false) = true := by
            rw [List.all_eq_true]
            intro b hb
            obtain ⟨i, hi, he⟩ := List.getElem_of_mem hb
            rw [List.length_take, List.length_drop, hsz] at hi
            have := h5 (i + 1) (by omega) (by omega)
            rw [List.getElem_take, List.getElem_drop] at he
            have e2 : s.data.toList[pos + (i + 1)]'(by rw [hsz]; omega) = b := by rw [← he]; congr 1; omega
            rw [e2] at this
            rw [if_neg (by omega)]
            rfl
          have t' : ((s.data.toList.drop (pos + 1)).take (n - 1)).all (fun b => if b.toNat < 128 then !p b.toNat else true) = true := t
          rw [t']
          simp
    · rw [if_neg h, List.drop_eq_nil_of_le (by rw [hsz]; omega)]
      rfl
theorem idx_none (p : Nat → Bool) (wide : Bool) (hp : ∀ r, 128 ≤ r → r ≤ 1114111 → p r = wide) (s : ByteArray) :
    decide (Lib.idxFunc p true s < 0) = s.data.toList.all fun b => if b.toNat < 128 then !p b.toNat else !wide := by
  have := idx_all p wide hp s s.size 0 (by omega)
  unfold Lib.idxFunc
  rw [this, List.drop_zero]
end Go.Proofs.YtpdnopfjnmjnnaaGreatDoor.Pl
