/- Plain laws: what is read of a text at a place is what is read of the text from there on, moved. -/
import Derived.Test.YtjbehnalmgcbpaaGreatDoorSt
set_option linter.unusedVariables false
set_option linter.unusedSimpArgs false
namespace Go.Proofs.YtjbehnalmgcbpaaGreatDoor.Ht
open Go.Proofs Go.Proofs.YtjbehnalmgcbpaaGreatDoor.Bs

theorem rest_rest (s : ByteArray) (p q : Nat) : rest (rest s p) q = rest s (p + q) := by
  apply ByteArray.ext
  apply Array.ext'
  rw [rest_l, rest_l, rest_l, List.drop_drop]
theorem plus_plus {α : Type} (p q : Nat) (r : Except Int (α × Nat)) : plus p (plus q r) = plus (p + q) r := by
  cases r with
  | error y => rfl
  | ok z => simp only [plus, Nat.add_assoc]
theorem lineP_shift (s : ByteArray) (p q : Nat) : lineP s (p + q) = plus p (lineP (rest s p) q) := by
  unfold lineP
  rw [rest_rest, plus_plus]
theorem takeP_shift (s : ByteArray) (p q : Nat) (n : Int) : takeP s (p + q) n = plus p (takeP (rest s p) q n) := by
  unfold takeP
  rw [rest_rest, plus_plus]
theorem bind_shift {α β : Type} {p : Nat} {r : Except Int (α × Nat)} {f g : α → Nat → Except Int (β × Nat)} (h : ∀ x q, r = .ok (x, q) → f x (p + q) = plus p (g x q)) : bindE (plus p r) f = plus p (bindE r g) := by
  cases r with
  | error y => rfl
  | ok z => exact h z.1 z.2 rfl
theorem headsGo_shift (s : ByteArray) (p : Nat) (hp : p ≤ s.size) : ∀ (F F' q cnt : Nat) (out : List Head) (x : ByteArray), q ≤ (rest s p).size → s.size < F + (p + q) → (rest s p).size < F' + q → headsGo s F (p + q) cnt out x = plus p (headsGo (rest s p) F' q cnt out x)
  | 0, F', q, cnt, out, x, hq, h1, h2 => by rw [rest_size] at hq; omega
  | F + 1, 0, q, cnt, out, x, hq, h1, h2 => by omega
  | F + 1, F' + 1, q, cnt, out, x, hq, h1, h2 => by
    rw [headsGo, headsGo]
    split
    · rfl
    · split
      · split
        · rw [lineP_shift]
          refine bind_shift fun x' q' h => ?_
          have := lineP_ok hq h
          exact headsGo_shift s p hp F F' q' _ _ _ this.2.1 (by omega) (by omega)
        · rfl
      · rfl
theorem headsP_shift (s : ByteArray) (p q : Nat) (hp : p ≤ s.size) (hq : q ≤ (rest s p).size) : headsP s (p + q) = plus p (headsP (rest s p) q) := by
  unfold headsP
  rw [lineP_shift]
  refine bind_shift fun x' q' h => ?_
  have := lineP_ok hq h
  exact headsGo_shift s p hp _ _ q' _ _ _ this.2.1 (by omega) (by omega)
theorem crlfP_shift (s : ByteArray) (p q : Nat) : crlfP s (p + q) = plus p (crlfP (rest s p) q) := by
  unfold crlfP
  rw [takeP_shift]
  refine bind_shift fun a q1 _ => ?_
  split
  · rw [takeP_shift]
    refine bind_shift fun b q2 _ => ?_
    split
    · rfl
    · rfl
  · rfl
theorem chunksGo_shift (s : ByteArray) (p : Nat) (most : Int) (hs : s.size ≤ 1073741824) (hp : p ≤ s.size) : ∀ (F F' q : Nat) (acc : List UInt8), q ≤ (rest s p).size → s.size < F + (p + q) → (rest s p).size < F' + q → chunksGo s most F (p + q) acc = plus p (chunksGo (rest s p) most F' q acc)
  | 0, F', q, acc, hq, h1, h2 => by rw [rest_size] at hq; omega
  | F + 1, 0, q, acc, hq, h1, h2 => by omega
  | F + 1, F' + 1, q, acc, hq, h1, h2 => by
    have hrs : (rest s p).size = s.size - p := rest_size
    rw [chunksGo, chunksGo, lineP_shift]
    refine bind_shift fun x q1 hl => ?_
    have g1 := lineP_ok hq hl
    by_cases hc : chunkOk (digitsOf x) = true
    · rw [if_pos hc, if_pos hc]
      by_cases hm : hexN (bl (digitsOf x)) ≤ most - acc.length
      · rw [if_pos hm, if_pos hm]
        by_cases h0 : hexN (bl (digitsOf x)) = 0
        · rw [if_pos h0, if_pos h0, headsP_shift s p q1 hp g1.2.1]
          exact bind_shift fun _ q' _ => rfl
        · rw [if_neg h0, if_neg h0, takeP_shift]
          refine bind_shift fun t q2 ht => ?_
          have g2 := takeP_ok g1.2.1 ht (hexN_range _ hc).2.2.2.2.1
          rw [crlfP_shift]
          refine bind_shift fun _ q3 hcr => ?_
          have g3 := crlfP_ok g2.2.1 hcr
          exact chunksGo_shift s p most hs hp F F' q3 _ g3.2 (by omega) (by omega)
      · rw [if_neg hm, if_neg hm]
        rfl
    · rw [if_neg hc, if_neg hc]
      rfl
theorem chunksP_shift (s : ByteArray) (p : Nat) (most : Int) (hs : s.size ≤ 1073741824) (hp : p ≤ s.size) : chunksP s most p = plus p (chunksP (rest s p) most 0) := by
  unfold chunksP
  have := chunksGo_shift s p most hs hp (s.size + 1) ((rest s p).size + 1) 0 [] (by omega) (by omega) (by omega)
  exact this
theorem bodyP_shift (s : ByteArray) (p : Nat) (l : List Head) (most : Int) (always : Bool) (hs : s.size ≤ 1073741824) (hp : p ≤ s.size) : bodyP s p l most always = plus p (bodyP (rest s p) 0 l most always) := by
  unfold bodyP
  rw [chunksP_shift s p most hs hp]
  have ht := fun n => takeP_shift s p 0 n
  simp only [Nat.add_zero] at ht
  rw [ht]
  split
  · split <;> rfl
  · split
    · rfl
    · split
      · split
        · split <;> rfl
        · rfl
      · rfl
end Go.Proofs.YtjbehnalmgcbpaaGreatDoor.Ht
