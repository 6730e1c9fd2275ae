/- Package http: read: its errors are four. -/
import Derived.Test.YtaihnhhapplmbaaGreatDoorRx
set_option linter.unusedVariables false
set_option linter.unusedSimpArgs false
namespace Go.Proofs.YtaihnhhapplmbaaGreatDoor.Ht
open Go.Sort Go.RowKit Go.Proofs Go.Proofs.YtaihnhhapplmbaaGreatDoorW.PrintWords Go.Proofs.YtaihnhhapplmbaaGreatDoor.Bs Go.Proofs.YtaihnhhapplmbaaGreatDoor.Ir Go.Proofs.YtaihnhhapplmbaaGreatDoor.Gn

def EOk {α : Type} (r : Except Int α) : Prop := ∀ y, r = .error y → y = 13 ∨ y = 14 ∨ y = 4
theorem EOk.ok {α : Type} (x : α) : EOk (.ok x : Except Int α) := fun y h => by cases h
theorem EOk.err {α : Type} {y : Int} (h : y = 13 ∨ y = 14 ∨ y = 4) : EOk (.error y : Except Int α) := fun z e => by cases e; exact h
theorem EOk.bind {α β : Type} {r : Except Int (α × Nat)} {f : α → Nat → Except Int (β × Nat)} (h : EOk r) (hf : ∀ x q, r = .ok (x, q) → EOk (f x q)) : EOk (bindE r f) := by
  cases r with
  | error y => exact EOk.err (h y rfl)
  | ok z => obtain ⟨x, q⟩ := z; exact hf x q rfl
theorem eok_line (s : ByteArray) (p : Nat) : EOk (lineP s p) := by
  unfold lineP
  have : EOk (lineB (rest s p)) := by
    unfold lineB
    dsimp only
    split
    · split
      · exact .err (by omega)
      · exact .err (by omega)
    · split
      · exact .ok _
      · exact .err (by omega)
  generalize lineB (rest s p) = r at this
  cases r with
  | error y => exact .err (this y rfl)
  | ok z => exact .ok _
theorem eok_take (s : ByteArray) (p : Nat) (n : Int) : EOk (takeP s p n) := by
  unfold takeP takeB
  split
  · exact .ok _
  · exact .err (by omega)
theorem eok_headsGo (s : ByteArray) : ∀ (F q cnt : Nat) (out : List Head) (x : ByteArray), q ≤ s.size → s.size < F + q → EOk (headsGo s F q cnt out x) := by
  intro F
  induction F with
  | zero => intro q cnt out x h1 h2; omega
  | succ F ih =>
    intro q cnt out x h1 h2
    rw [headsGo]
    split
    · exact .ok _
    split
    · split
      · refine (eok_line s q).bind fun x' q' h => ?_
        have := lineP_ok h1 h
        exact ih _ _ _ _ this.2.1 (by omega)
      · exact .err (by omega)
    · exact .err (by omega)
theorem eok_heads (s : ByteArray) (p : Nat) (hp : p ≤ s.size) : EOk (headsP s p) := by
  unfold headsP
  refine (eok_line s p).bind fun x q h => ?_
  have := lineP_ok hp h
  exact eok_headsGo s _ _ _ _ _ this.2.1 (by omega)
theorem eok_crlf (s : ByteArray) (q : Nat) : EOk (crlfP s q) := by
  unfold crlfP
  refine (eok_take s q 1).bind fun a q1 _ => ?_
  split
  · refine (eok_take s q1 1).bind fun b q2 _ => ?_
    split
    · exact .ok _
    · exact .err (by omega)
  · exact .err (by omega)
theorem crlfP_ok {s x : ByteArray} {q q' : Nat} (hq : q ≤ s.size) (h : crlfP s q = .ok (x, q')) : q' = q + 2 ∧ q' ≤ s.size := by
  unfold crlfP at h
  cases h1 : takeP s q 1 with
  | error y => rw [h1] at h; cases h
  | ok z =>
    obtain ⟨a, q1⟩ := z
    rw [h1] at h
    have g1 := takeP_ok hq h1 (by omega)
    simp only [bindE] at h
    split at h
    · cases h2 : takeP s q1 1 with
      | error y => rw [h2] at h; cases h
      | ok z =>
        obtain ⟨b, q2⟩ := z
        rw [h2] at h
        have g2 := takeP_ok g1.2.1 h2 (by omega)
        dsimp only at h
        split at h
        · have h1 := Prod.mk.inj (Except.ok.inj h)
          omega
        · cases h
    · cases h
theorem eok_chunksGo (s : ByteArray) (most : Int) (hs : s.size ≤ 1073741824) : ∀ (F p : Nat) (acc : List UInt8), p ≤ s.size → s.size < F + p → EOk (chunksGo s most F p acc) := by
  intro F
  induction F with
  | zero => intro p acc h1 h2; omega
  | succ F ih =>
    intro p acc h1 h2
    rw [chunksGo]
    refine (eok_line s p).bind fun x q h => ?_
    have g := lineP_ok h1 h
    split
    · rename_i hc
      have hr := hexN_range _ hc
      split
      · split
        · exact (eok_heads s q g.2.1).bind fun _ _ _ => .ok _
        · refine (eok_take s q _).bind fun t q1 ht => ?_
          have g1 := takeP_ok g.2.1 ht hr.2.2.2.2.1
          refine (eok_crlf s q1).bind fun c q2 hc2 => ?_
          have g2 := crlfP_ok g1.2.1 hc2
          exact ih _ _ g2.2 (by omega)
      · exact .err (by omega)
    · exact .err (by omega)
theorem eok_body (s : ByteArray) (p : Nat) (l : List Head) (most : Int) (always : Bool) (hs : s.size ≤ 1073741824) (hp : p ≤ s.size) : EOk (bodyP s p l most always) := by
  unfold bodyP
  split
  · split
    · exact eok_chunksGo s most hs _ p [] hp (by omega)
    · exact .err (by omega)
  · split
    · exact .ok _
    · split
      · split
        · split
          · exact eok_take _ _ _
          · exact .err (by omega)
        · exact .err (by omega)
      · exact .err (by omega)
theorem eok_fin {γ : Type} (s : ByteArray) (most : Int) (always : Bool) (l : List Head) (q2 : Nat) (z : γ) (hs : s.size ≤ 1073741824) (hq : q2 ≤ s.size) : EOk (readFin s most always l q2 z) := by
  unfold readFin
  have := eok_body s q2 l most always hs hq
  cases h : bodyP s q2 l most always with
  | error y => exact .err (this y h)
  | ok z => exact .ok _
theorem eok_end {γ : Type} (s : ByteArray) (most : Int) (always : Bool) (q : Nat) (z : γ) (hs : s.size ≤ 1073741824) (hq : q ≤ s.size) : EOk (readEnd s most always q z) := by
  unfold readEnd
  have := eok_heads s q hq
  cases h : headsP s q with
  | error y => exact .err (this y h)
  | ok z => obtain ⟨l, q2⟩ := z; exact eok_fin s most always l q2 _ hs (headsP_ok hs hq h).2.2.2
theorem eok_read {γ : Type} (s : ByteArray) (most : Int) (always : Bool) (f : ByteArray → ByteArray → ByteArray → Except Int γ) (hf : ∀ a b c, EOk (f a b c)) (hs : s.size ≤ 1073741824) (y : Int) (h : readP s most always f = .error y) : y = 2 ∨ y = 13 ∨ y = 14 ∨ y = 4 := by
  unfold readP at h
  split at h
  · have h1 := eok_line s 0
    cases hl : lineP s 0 with
    | error z => rw [hl] at h; cases h; exact .inr (h1 _ hl)
    | ok z =>
      obtain ⟨x, q⟩ := z
      rw [hl] at h
      have g := lineP_ok (Nat.zero_le _) hl
      refine .inr ?_
      revert h
      dsimp only
      unfold readGo
      split
      · cases hz : f _ _ _ with
        | error z => intro h; cases h; exact hf _ _ _ _ hz
        | ok z => intro h; exact eok_end s most always q _ hs g.2.1 _ h
      · intro h; cases h; exact .inl rfl
  · cases h; exact .inl rfl
end Go.Proofs.YtaihnhhapplmbaaGreatDoor.Ht
