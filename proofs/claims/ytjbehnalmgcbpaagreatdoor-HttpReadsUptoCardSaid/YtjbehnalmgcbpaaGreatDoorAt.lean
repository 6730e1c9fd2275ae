/- Plain laws: what stands in a text is read: lines, heads, the body of a message. -/
import Derived.Test.YtjbehnalmgcbpaaGreatDoorSt
import Derived.Test.YtjbehnalmgcbpaaGreatDoorWp
set_option linter.unusedVariables false
set_option linter.unusedSimpArgs false
namespace Go.Proofs.YtjbehnalmgcbpaaGreatDoor.Ht
open Go.Proofs Go.Proofs.YtjbehnalmgcbpaaGreatDoor.Gn Go.Proofs.YtjbehnalmgcbpaaGreatDoor.Bs

theorem drop_at {l x R : List UInt8} {p : Nat} (h : l.drop p = x ++ R) : l.drop (p + x.length) = R := by
  rw [← List.drop_drop, h, List.drop_left]
theorem lineP_at {s : ByteArray} {p : Nat} {x R : List UInt8} (h : s.data.toList.drop p = x ++ 13 :: 10 :: R) (hx : (10 : UInt8) ∉ x) (hl : x.length ≤ 4096) :
    lineP s p = .ok (⟨x.toArray⟩, p + (x.length + 2)) ∧ s.data.toList.drop (p + (x.length + 2)) = R := by
  refine ⟨?_, ?_⟩
  · unfold lineP
    rw [lineB_eq, rest_l, h, lineX_at hx hl]
    rfl
  · have := drop_at (x := x ++ [13, 10]) (R := R) (by simpa using h)
    simpa using this
theorem takeP_at {s : ByteArray} {p : Nat} {x R : List UInt8} (h : s.data.toList.drop p = x ++ R) : takeP s p x.length = .ok (⟨x.toArray⟩, p + x.length) ∧ s.data.toList.drop (p + x.length) = R := by
  refine ⟨?_, drop_at h⟩
  unfold takeP takeB
  have hz : (rest s p).size = (x ++ R).length := by rw [← h, ← rest_l]; rfl
  rw [if_pos (by rw [hz, List.length_append]; omega), Int.toNat_natCast]
  have : (rest s p).extract 0 x.length = ⟨x.toArray⟩ := by
    apply ByteArray.ext
    apply Array.ext'
    rw [extract_l, rest_l, h, List.take_left]
  rw [this]
  rfl
theorem index_upto (c : UInt8) : ∀ l : List UInt8, Lib.index l [c] = uptoI c l
  | [] => rfl
  | b :: l => by
    unfold Lib.index uptoI upto
    by_cases h : b = c
    · rw [if_pos (by simp [h]), if_pos h]; rfl
    · rw [if_neg (by simp; exact fun e => h e.symm), if_neg h, index_upto c l]
      unfold uptoI
      cases upto c l with
      | none => rfl
      | some z =>
        simp only [Option.map_some, List.length_cons]
        rw [if_neg (by rw [beq_iff_eq]; omega)]
        omega
theorem cut_at {c : UInt8} {x r : List UInt8} (hx : c ∉ x) : Lib.cut (x ++ c :: r) [c] = (x, r, true) := by
  have h : Lib.index (x ++ c :: r) [c] = (x.length : Int) := by
    rw [index_upto]
    unfold uptoI
    rw [upto_some.2 ⟨rfl, hx⟩]
  unfold Lib.cut
  rw [h, if_pos (by omega), Int.toNat_natCast]
  have := drop_at (l := x ++ c :: r) (p := 0) (x := x ++ [c]) (R := r) (by simp)
  simp only [List.length_append, List.length_singleton, Nat.zero_add] at this
  rw [List.take_left, List.length_singleton, this]
theorem cut_none {c : UInt8} {x : List UInt8} (hx : c ∉ x) : Lib.cut x [c] = (x, [], false) := by
  have h : Lib.index x [c] = -1 := by
    rw [index_upto]
    unfold uptoI
    rw [upto_none.2 hx]
  unfold Lib.cut
  rw [h, if_neg (by decide)]
/-! Tokens, values. -/
theorem allB_mem {s : ByteArray} {p : Nat → Bool} (h : allB s p = true) : ∀ b ∈ s.data.toList, p b.toNat = true := fun b hb => List.all_eq_true.1 h b hb
theorem toNat_ne {b c : UInt8} (h : b.toNat ≠ c.toNat) : b ≠ c := fun e => h (by rw [e])
theorem token_not {s : ByteArray} (h : tokenB s = true) (c : UInt8) (hc : (decide (c.toNat < 128) && tokR c.toNat) = false) : c ∉ s.data.toList := by
  intro hm
  simp only [tokenB, Bool.and_eq_true] at h
  have := allB_mem h.2 c hm
  rw [hc] at this
  cases this
theorem token_pos {s : ByteArray} (h : tokenB s = true) : s.data.toList ≠ [] := by
  simp only [tokenB, Bool.and_eq_true, Bool.not_eq_true'] at h
  intro e
  have h1 := h.1
  rw [ByteArray.toList_eq, e] at h1
  cases h1
theorem value_not {s : ByteArray} (h : valueB s = true) (c : UInt8) (hc : valR c.toNat = true) : c ∉ s.data.toList := by
  intro hm
  simp only [valueB, Bool.and_eq_true] at h
  have := allB_mem h.1 c hm
  simp [hc] at this
theorem trim_fix {p : UInt8 → Bool} {l : List UInt8} (h : (l.reverse.dropWhile p).reverse.dropWhile p = l) : l.reverse.dropWhile p = l.reverse ∧ l.dropWhile p = l := by
  have h1 := (List.dropWhile_sublist (p := p) (l := (l.reverse.dropWhile p).reverse)).length_le
  have h2 := List.dropWhile_sublist (p := p) (l := l.reverse)
  rw [h, List.length_reverse] at h1
  have h3 : l.reverse.dropWhile p = l.reverse := List.Sublist.eq_of_length_le h2 (by rw [List.length_reverse]; exact h1)
  rw [h3, List.reverse_reverse] at h
  exact ⟨h3, h⟩
theorem dropWhile_snoc {p : UInt8 → Bool} {l : List UInt8} (h : l.dropWhile p = l) (b : UInt8) (hb : p b = true) : (l ++ [b]).dropWhile p = if l = [] then [] else l ++ [b] := by
  cases l with
  | nil => simp [hb]
  | cons a l =>
    rw [if_neg (by simp)]
    have : p a = false := by
      by_cases hp : p a = true
      · rw [List.dropWhile_cons_of_pos hp] at h
        have := (List.dropWhile_sublist (p := p) (l := l)).length_le
        rw [h] at this
        simp at this
        omega
      · simpa using hp
    rw [List.cons_append, List.dropWhile_cons_of_neg (by simp [this])]
theorem trim_blank {v : ByteArray} (h : valueB v = true) : (⟨(Lib.trimS (32 :: v.data.toList) [32, 9]).toArray⟩ : ByteArray) = v := by
  simp only [valueB, Bool.and_eq_true, beq_iff_eq] at h
  have h2 := h.2
  rw [ByteArray.toList_eq, ByteArray.toList_eq] at h2
  have h3 : Lib.trimS v.data.toList [32, 9] = v.data.toList := h2
  apply ByteArray.ext
  apply Array.ext'
  show Lib.trimS (32 :: v.data.toList) [32, 9] = v.data.toList
  unfold Lib.trimS Lib.trimLeftS Lib.trimRightS at h3 ⊢
  obtain ⟨g1, g2⟩ := trim_fix h3
  rw [List.reverse_cons, dropWhile_snoc g1 32 (by decide)]
  split
  · rename_i he
    have : v.data.toList = [] := by simpa using he
    rw [this]
    rfl
  · rw [List.reverse_append, List.reverse_reverse]
    show (32 :: v.data.toList).dropWhile _ = _
    rw [List.dropWhile_cons_of_pos (by decide)]
    exact g2
/-! Heads. -/
def HGood (h : Head) : Prop := tokenB h.name = true ∧ valueB h.value = true ∧ h.name.size + 2 + h.value.size ≤ 4096
def countNF (l : List Head) : Nat := (l.filter fun h => !framingB h.name).length
theorem head_at {h : Head} (hg : HGood h) : headOf ⟨(h.name.data.toList ++ 58 :: 32 :: h.value.data.toList).toArray⟩ = h ∧ headOk ⟨(h.name.data.toList ++ 58 :: 32 :: h.value.data.toList).toArray⟩ = true := by
  have hn := token_not hg.1 58 (by decide)
  have hc : Lib.cut (h.name.data.toList ++ 58 :: 32 :: h.value.data.toList) [58] = (h.name.data.toList, 32 :: h.value.data.toList, true) := cut_at hn
  have e1 : headOf ⟨(h.name.data.toList ++ 58 :: 32 :: h.value.data.toList).toArray⟩ = h := by
    unfold headOf
    simp only [hc]
    have := trim_blank hg.2.1
    unfold trimB
    rw [this]
  refine ⟨e1, ?_⟩
  unfold headOk
  rw [e1]
  simp only [hc, hg.1, hg.2.1, Bool.and_self]
theorem heads_at (s : ByteArray) (R : List UInt8) : ∀ (L : List Head) (cnt : Nat) (out : List Head) (q F : Nat), (∀ h ∈ L, HGood h) → s.data.toList.drop q = L.flatMap lineL ++ 13 :: 10 :: R → cnt + countNF L ≤ 64 → L.length < F →
    bindE (lineP s q) (fun x q' => headsGo s F q' cnt out x) = .ok (out ++ L, q + ((L.flatMap lineL).length + 2)) ∧ s.data.toList.drop (q + ((L.flatMap lineL).length + 2)) = R
  | [], cnt, out, q, F, hL, hd, hc, hF => by
    obtain ⟨F, rfl⟩ : ∃ m, F = m + 1 := ⟨F - 1, by simp at hF; omega⟩
    obtain ⟨h1, h2⟩ := lineP_at (x := []) (R := R) (by simpa using hd) (by simp) (by simp)
    refine ⟨?_, by simpa using h2⟩
    rw [h1]
    show headsGo s (F + 1) _ cnt out ⟨#[]⟩ = _
    rw [headsGo, if_pos (show (⟨#[]⟩ : ByteArray).size = 0 from rfl)]
    simp
  | h :: L, cnt, out, q, F, hL, hd, hc, hF => by
    obtain ⟨F, rfl⟩ : ∃ m, F = m + 1 := ⟨F - 1, by simp at hF; omega⟩
    have hg := hL h (by simp)
    obtain ⟨a1, a2⟩ := head_at hg
    have hlen : (h.name.data.toList ++ 58 :: 32 :: h.value.data.toList).length = h.name.size + 2 + h.value.size := by
      have e1 : h.name.data.toList.length = h.name.size := rfl
      have e2 : h.value.data.toList.length = h.value.size := rfl
      simp only [List.length_append, List.length_cons, e1, e2]
      omega
    have hd' : s.data.toList.drop q = (h.name.data.toList ++ 58 :: 32 :: h.value.data.toList) ++ 13 :: 10 :: (L.flatMap lineL ++ 13 :: 10 :: R) := by
      rw [hd]
      simp [lineL]
    obtain ⟨h1, h2⟩ := lineP_at hd' (by
      rw [List.mem_append, List.mem_cons, List.mem_cons]
      rintro (e | e | e | e)
      · exact token_not hg.1 10 (by decide) e
      · cases e
      · cases e
      · exact value_not hg.2.1 10 (by decide) e) (by rw [hlen]; exact hg.2.2)
    have hcn : cnt + countNF (h :: L) = more cnt ⟨(h.name.data.toList ++ 58 :: 32 :: h.value.data.toList).toArray⟩ + countNF L := by
      unfold more countNF
      rw [a1]
      by_cases hf : framingB h.name = true
      · rw [if_pos hf, List.filter_cons_of_neg (by simp [hf])]
      · rw [if_neg hf, List.filter_cons_of_pos (by simp [hf]), List.length_cons]
        omega
    obtain ⟨i1, i2⟩ := heads_at s R L (more cnt ⟨(h.name.data.toList ++ 58 :: 32 :: h.value.data.toList).toArray⟩) (out ++ [h]) (q + ((h.name.data.toList ++ 58 :: 32 :: h.value.data.toList).length + 2)) F (fun x hx => hL x (by simp [hx])) h2 (by omega) (by simp at hF; omega)
    have hfl : ((h :: L).flatMap lineL).length = (h.name.data.toList ++ 58 :: 32 :: h.value.data.toList).length + 2 + (L.flatMap lineL).length := by
      simp [lineL]
      omega
    rw [hfl]
    have hne : (⟨(h.name.data.toList ++ 58 :: 32 :: h.value.data.toList).toArray⟩ : ByteArray).size ≠ 0 := by
      show (h.name.data.toList ++ 58 :: 32 :: h.value.data.toList).toArray.size ≠ 0
      rw [List.size_toArray, hlen]
      omega
    have hm64 : more cnt ⟨(h.name.data.toList ++ 58 :: 32 :: h.value.data.toList).toArray⟩ ≤ 64 := by omega
    clear hcn hd' hd
    generalize (⟨(h.name.data.toList ++ 58 :: 32 :: h.value.data.toList).toArray⟩ : ByteArray) = X at *
    generalize (h.name.data.toList ++ 58 :: 32 :: h.value.data.toList).length = k at *
    refine ⟨?_, ?_⟩
    · have key : bindE (lineP s q) (fun x q' => headsGo s (F + 1) q' cnt out x) = bindE (lineP s (q + (k + 2))) (fun x' q' => headsGo s F q' (more cnt X) (out ++ [h]) x') := by
        rw [h1]
        show headsGo s (F + 1) (q + (k + 2)) cnt out X = _
        rw [headsGo, if_neg hne, if_pos a2, if_pos hm64, a1]
      have e1 : out ++ [h] ++ L = out ++ h :: L := by simp
      have e2 : q + (k + 2) + ((L.flatMap lineL).length + 2) = q + (k + 2 + (L.flatMap lineL).length + 2) := by omega
      rw [key, i1, e1, e2]
    · have e2 : q + (k + 2) + ((L.flatMap lineL).length + 2) = q + (k + 2 + (L.flatMap lineL).length + 2) := by omega
      rw [← e2]
      exact i2
end Go.Proofs.YtjbehnalmgcbpaaGreatDoor.Ht
