/- Plain laws: a byte's first place in a list; lines. -/
import Derived.Test.YtjbehnalmgcbpaaGreatDoorEr
set_option linter.unusedVariables false
set_option linter.unusedSimpArgs false
namespace Go.Proofs.YtjbehnalmgcbpaaGreatDoor.Ht
open Go.Proofs

/-- What stands before the first c, and behind it. -/
def upto (c : UInt8) : List UInt8 → Option (List UInt8 × List UInt8)
  | [] => none
  | b :: l => if b = c then some ([], l) else (upto c l).map fun z => (b :: z.1, z.2)
theorem upto_none {c : UInt8} : ∀ {l : List UInt8}, upto c l = none ↔ c ∉ l
  | [] => by simp [upto]
  | b :: l => by
    unfold upto
    split
    · rename_i h; simp [h]
    · rename_i h
      simp only [Option.map_eq_none_iff, List.mem_cons, not_or]
      rw [upto_none]
      exact ⟨fun g => ⟨fun e => h e.symm, g⟩, fun g => g.2⟩
theorem upto_some {c : UInt8} : ∀ {l x r : List UInt8}, upto c l = some (x, r) ↔ l = x ++ c :: r ∧ c ∉ x
  | [], x, r => by simp [upto]
  | b :: l, x, r => by
    unfold upto
    split
    · rename_i h
      subst h
      constructor
      · intro e
        have := Option.some.inj e
        obtain ⟨rfl, rfl⟩ := Prod.mk.inj this
        simp
      · rintro ⟨e, hn⟩
        cases x with
        | nil => simp only [List.nil_append, List.cons.injEq] at e; rw [e.2]
        | cons y x => simp only [List.cons_append, List.cons.injEq] at e; exact absurd (List.mem_cons.2 (.inl e.1)) hn
    · rename_i h
      rw [Option.map_eq_some_iff]
      constructor
      · rintro ⟨⟨y, q⟩, h1, h2⟩
        obtain ⟨rfl, rfl⟩ := Prod.mk.inj h2
        obtain ⟨rfl, h3⟩ := upto_some.1 h1
        refine ⟨rfl, ?_⟩
        rw [List.mem_cons]
        rintro (e | e)
        · exact h e.symm
        · exact h3 e
      · rintro ⟨e, hn⟩
        cases x with
        | nil => simp only [List.nil_append, List.cons.injEq] at e; exact absurd e.1 h
        | cons y x =>
          simp only [List.cons_append, List.cons.injEq] at e
          obtain ⟨rfl, rfl⟩ := e
          exact ⟨(x, r), upto_some.2 ⟨rfl, fun g => hn (List.mem_cons.2 (.inr g))⟩, rfl⟩
theorem upto_ext {c : UInt8} {l x r : List UInt8} (h : upto c l = some (x, r)) (b : List UInt8) : upto c (l ++ b) = some (x, r ++ b) := by
  obtain ⟨rfl, hn⟩ := upto_some.1 h
  exact upto_some.2 ⟨by simp, hn⟩
def uptoI (c : UInt8) (l : List UInt8) : Int := match upto c l with | some z => (z.1.length : Int) | none => -1
theorem indexByte_upto (l : List UInt8) (c : UInt8) : Lib.indexByte l c = uptoI c l := by
  induction l with
  | nil => rfl
  | cons b l ih =>
    unfold Lib.indexByte uptoI upto
    by_cases h : b = c
    · rw [if_pos (by simpa using h), if_pos h]; rfl
    · rw [if_neg (by simpa using h), if_neg h, ih]
      unfold uptoI
      cases upto c l with
      | none => rfl
      | some z =>
        simp only [Option.map_some, List.length_cons]
        rw [if_neg (by rw [beq_iff_eq]; omega)]
        omega
theorem upto_take (c : UInt8) (l : List UInt8) (n : Nat) : uptoI c (l.take n) = match upto c l with | some z => if z.1.length < n then (z.1.length : Int) else -1 | none => -1 := by
  cases h : upto c l with
  | none =>
    have : upto c (l.take n) = none := upto_none.2 (fun g => upto_none.1 h (List.mem_of_mem_take g))
    unfold uptoI
    rw [this]
  | some z =>
    obtain ⟨x, r⟩ := z
    obtain ⟨rfl, hn⟩ := upto_some.1 h
    dsimp only
    split
    · rename_i hl
      have : upto c ((x ++ c :: r).take n) = some (x, r.take (n - x.length - 1)) := upto_some.2 ⟨by
        rw [List.take_append, List.take_of_length_le (by omega)]
        congr 1
        rw [show n - x.length = (n - x.length - 1) + 1 from by omega, List.take_succ_cons]
        congr 2
        , hn⟩
      unfold uptoI
      rw [this]
    · rename_i hl
      have : upto c ((x ++ c :: r).take n) = none := upto_none.2 (fun g => by
        rw [List.take_append_of_le_length (by omega)] at g
        exact hn (List.mem_of_mem_take g))
      unfold uptoI
      rw [this]

/-- A line, off a list. -/
def lineX (l : List UInt8) : Except Int (ByteArray × Nat) :=
  match upto 10 l with
  | none => if l.length < 4098 then .error 14 else .error 4
  | some z => if z.1.length < 4098 then (if Lib.hasSuffix z.1 [13] = true then .ok (⟨(Lib.trimSuffix z.1 [13]).toArray⟩, z.1.length + 1) else .error 13) else .error 4
theorem extract_l (r : ByteArray) (n : Nat) : (r.extract 0 n).data.toList = r.data.toList.take n := by
  rw [← ByteArray.toList_eq, Lib.extract_toList]
  rfl
theorem lineB_eq (r : ByteArray) : lineB r = lineX r.data.toList := by
  have hsz : r.data.toList.length = r.size := rfl
  have e1 : (r.extract 0 (min (r.size : Int) 4098).toNat).data.toList = r.data.toList.take 4098 := by
    rw [extract_l]
    by_cases h : r.size ≤ 4098
    · rw [List.take_of_length_le (by rw [hsz]; omega), List.take_of_length_le (by rw [hsz]; omega)]
    · congr 1; omega
  unfold lineB lineX
  dsimp only
  rw [e1, indexByte_upto]
  have hI := upto_take 10 r.data.toList 4098
  generalize uptoI 10 (r.data.toList.take 4098) = I at *
  cases h : upto 10 r.data.toList with
  | none =>
    rw [h] at hI
    dsimp only at hI ⊢
    subst hI
    rw [if_pos (by decide), hsz]
  | some z =>
    obtain ⟨x, q⟩ := z
    obtain ⟨hl, hn⟩ := upto_some.1 h
    rw [h] at hI
    dsimp only at hI ⊢
    have hlen : x.length < r.size := by rw [← hsz, hl]; simp
    by_cases h4 : x.length < 4098
    · rw [if_pos h4] at hI
      subst hI
      rw [if_neg (by omega), if_pos h4, extract_l, Int.toNat_natCast, hl, List.take_left]
    · rw [if_neg h4] at hI
      subst hI
      rw [if_pos (by decide), if_neg (by omega), if_neg h4]
theorem lineX_ext {l b : List UInt8} : (∀ z, lineX l = .ok z → lineX (l ++ b) = .ok z) ∧ (∀ y, lineX l = .error y → y ≠ 14 → lineX (l ++ b) = .error y) := by
  unfold lineX
  cases h : upto 10 l with
  | none =>
    dsimp only
    refine ⟨fun z hz => ?_, fun y hy hne => ?_⟩
    · split at hz <;> cases hz
    · split at hy
      · cases hy; exact absurd rfl hne
      · rename_i h4
        cases hy
        cases h2 : upto 10 (l ++ b) with
        | none => dsimp only; rw [if_neg (by rw [List.length_append]; omega)]
        | some z =>
          obtain ⟨x, r⟩ := z
          obtain ⟨he, hn⟩ := upto_some.1 h2
          dsimp only
          rw [if_neg]
          intro hx
          have : (10 : UInt8) ∈ l := by
            have h3 := congrArg (fun q => q[x.length]?) he
            simp only [List.getElem?_append_left (show x.length < l.length from by omega), List.getElem?_append_right (Nat.le_refl x.length), Nat.sub_self, List.getElem?_cons_zero] at h3
            exact List.mem_of_getElem? h3
          exact upto_none.1 h this
  | some z =>
    rw [upto_ext h b]
    exact ⟨fun _ h => h, fun _ h _ => h⟩
/-- A line that stands there. -/
theorem lineX_at {x r : List UInt8} (hx : (10 : UInt8) ∉ x) (hl : x.length ≤ 4096) : lineX (x ++ 13 :: 10 :: r) = .ok (⟨x.toArray⟩, x.length + 2) := by
  have h : upto 10 (x ++ 13 :: 10 :: r) = some (x ++ [13], r) := upto_some.2 ⟨by simp, by simp [hx]⟩
  unfold lineX
  rw [h]
  dsimp only
  have hs : Lib.hasSuffix (x ++ [13]) [13] = true := by unfold Lib.hasSuffix; simp
  rw [if_pos (by simp; omega), if_pos hs]
  unfold Lib.trimSuffix
  rw [if_pos hs]
  simp
end Go.Proofs.YtjbehnalmgcbpaaGreatDoor.Ht
