/- Plain laws: a message is read as what it was. -/
import Derived.Test.YtjbehnalmgcbpaaGreatDoorAt
set_option linter.unusedVariables false
set_option linter.unusedSimpArgs false
namespace Go.Proofs.YtjbehnalmgcbpaaGreatDoor.Ht
open Go.Proofs Go.Proofs.YtjbehnalmgcbpaaGreatDoor.Gn Go.Proofs.YtjbehnalmgcbpaaGreatDoor.Bs

theorem dec_digits (u : Nat) : Lib.decDigits u ≠ [] ∧ (∀ b ∈ Lib.decDigits u, 48 ≤ b.toNat ∧ b.toNat ≤ 57) ∧ decN (Lib.decDigits u) = u ∧ ∀ k, u < 10 ^ (k + 1) → (Lib.decDigits u).length ≤ k + 1 := by
  induction u using Nat.strongRecOn with
  | _ u ih =>
    have hd : ∀ d, d < 10 → (UInt8.ofNat (48 + d)).toNat = 48 + d := by decide
    rw [Lib.decDigits]
    split
    · rename_i h
      have := hd u h
      refine ⟨by simp, ?_, ?_, ?_⟩
      · intro b hb
        rw [List.mem_singleton.1 hb, this]
        omega
      · show 0 * 10 + ((UInt8.ofNat (48 + u)).toNat - 48) = u
        rw [this]
        omega
      · intro k _; simp
    · rename_i h
      obtain ⟨h1, h2, h3, h4⟩ := ih (u / 10) (by omega)
      have hm := hd (u % 10) (by omega)
      refine ⟨by simp, ?_, ?_, ?_⟩
      · intro b hb
        rcases List.mem_append.1 hb with hb | hb
        · exact h2 b hb
        · rw [List.mem_singleton.1 hb, hm]
          omega
      · unfold decN at h3 ⊢
        rw [List.foldl_append, h3]
        simp only [List.foldl_cons, List.foldl_nil, hm]
        omega
      · intro k hk
        rw [List.length_append, List.length_singleton]
        cases k with
        | zero => omega
        | succ k =>
          have := h4 k (by rw [Nat.pow_succ] at hk; omega)
          omega
theorem itoaB_l (n : Nat) : (itoaB (n : Int)).data.toList = Lib.decDigits n := by
  show Lib.itoa (n : Int) = _
  unfold Lib.itoa
  rw [if_neg (by omega), Int.toNat_natCast]
theorem itoaB_dig (n : Nat) (h : n ≤ 65536) : (itoaB (n : Int)).size ≠ 0 ∧ (itoaB (n : Int)).size ≤ 9 ∧ digB (itoaB (n : Int)) = true ∧ decN (itoaB (n : Int)).data.toList = n := by
  obtain ⟨h1, h2, h3, h4⟩ := dec_digits n
  have e : (itoaB (n : Int)).size = (Lib.decDigits n).length := by rw [← itoaB_l]; rfl
  refine ⟨?_, ?_, ?_, by rw [itoaB_l]; exact h3⟩
  · rw [e]; exact fun h => h1 (List.eq_nil_of_length_eq_zero h)
  · rw [e]; have := h4 4 (by omega); omega
  · unfold digB
    rw [itoaB_l, List.all_eq_true]
    intro b hb
    have := h2 b hb
    simp
    omega
theorem dropWhile_none {p : UInt8 → Bool} {l : List UInt8} (h : ∀ b ∈ l, p b = false) : l.dropWhile p = l := by
  cases l with
  | nil => rfl
  | cons a l => rw [List.dropWhile_cons_of_neg (by simp [h a (by simp)])]
theorem value_digits (v : ByteArray) (h : ∀ b ∈ v.data.toList, 48 ≤ b.toNat ∧ b.toNat ≤ 57) : valueB v = true := by
  have key : ∀ i : Fin 256, (48 ≤ i.val ∧ i.val ≤ 57) → valR i.val = false := by decide +kernel
  have kb : ∀ b ∈ v.data.toList, ([32, 9] : List UInt8).contains b = false := by
    intro b hb
    have h1 := h b hb
    have h2 : b ≠ 32 := toNat_ne (by have : (32 : UInt8).toNat = 32 := rfl; omega)
    have h3 : b ≠ 9 := toNat_ne (by have : (9 : UInt8).toNat = 9 := rfl; omega)
    simp [h2, h3]
  unfold valueB
  rw [Bool.and_eq_true]
  refine ⟨?_, ?_⟩
  · unfold allB
    rw [List.all_eq_true]
    intro b hb
    have := key ⟨b.toNat, b.toNat_lt⟩ (h b hb)
    simp only at this
    show (!valR b.toNat) = true
    rw [this]
    rfl
  · rw [beq_iff_eq, ByteArray.toList_eq, ByteArray.toList_eq]
    show Lib.trimS v.data.toList [32, 9] = v.data.toList
    unfold Lib.trimS Lib.trimLeftS Lib.trimRightS
    rw [dropWhile_none (l := v.data.toList.reverse) (fun b hb => kb b (List.mem_reverse.1 hb)), List.reverse_reverse, dropWhile_none kb]
/-! What is right. -/
theorem rightB_spec {l : List Head} {b : ByteArray} (h : rightB l b = true) : l.length ≤ 64 ∧ b.size ≤ 65536 ∧ ∀ x ∈ l, HGood x ∧ framingB x.name = false := by
  simp only [rightB, Bool.and_eq_true, decide_eq_true_eq, Bool.not_eq_true', List.any_eq_false] at h
  refine ⟨h.1.1, h.2, fun x hx => ?_⟩
  have := h.1.2 x hx
  simp only [badHB, Bool.or_eq_true, decide_eq_true_eq, not_or, Bool.not_eq_true', Bool.not_eq_true, Bool.not_eq_false, Bool.not_eq_eq_eq_not, Nat.not_lt] at this
  obtain ⟨⟨⟨h1, h2⟩, h3⟩, h4⟩ := this
  exact ⟨⟨by simpa using h1, by simpa using h3, by omega⟩, by simpa using h2⟩
theorem framing_not {n : ByteArray} (h : framingB n = false) : calledB lenS n = false ∧ calledB codS n = false := by
  unfold framingB at h
  rw [Bool.or_eq_false_iff] at h
  exact h
def clH (body : ByteArray) : Head := ⟨lenS, itoaB body.size⟩
theorem clH_good (body : ByteArray) (h : body.size ≤ 65536) : HGood (clH body) := by
  obtain ⟨h1, h2, h3, h4⟩ := itoaB_dig body.size h
  refine ⟨?_, ?_, ?_⟩
  · show tokenB lenS = true
    kernel_rfl
  · refine value_digits _ ?_
    show ∀ b ∈ (itoaB body.size).data.toList, _
    rw [itoaB_l]
    exact (dec_digits body.size).2.1
  · show lenS.size + 2 + (itoaB body.size).size ≤ 4096
    have : lenS.size = 14 := rfl
    omega
theorem cl_framing : framingB lenS = true ∧ calledB lenS lenS = true ∧ calledB codS lenS = false := ⟨by kernel_rfl, by kernel_rfl, by kernel_rfl⟩
theorem filter_right {l : List Head} {b : ByteArray} (h : rightB l b = true) : (allH l b).filter (fun h => !framingB h.name) = l := by
  unfold allH
  rw [List.filter_append, List.filter_eq_self.2 (fun x hx => by simp [((rightB_spec h).2.2 x hx).2]), List.filter_cons_of_neg (by simp [cl_framing.1])]
  simp
theorem names_right {l : List Head} {b : ByteArray} (h : rightB l b = true) : hasName codS (allH l b) = [] ∧ hasName lenS (allH l b) = [clH b] := by
  have h1 := (rightB_spec h).2.2
  refine ⟨?_, ?_⟩
  · unfold hasName allH
    rw [List.filter_eq_nil_iff]
    intro x hx
    rcases List.mem_append.1 hx with hx | hx
    · simp [calledH, (framing_not (h1 x hx).2).2]
    · rw [List.mem_singleton.1 hx]
      simp [calledH, cl_framing.2.2]
  · unfold hasName allH
    rw [List.filter_append, List.filter_eq_nil_iff.2 (fun x hx => by simp [calledH, (framing_not (h1 x hx).2).1]), List.filter_cons_of_pos (by simp [calledH, cl_framing.2.1])]
    rfl
theorem body_at {s : ByteArray} {q : Nat} {l : List Head} {body : ByteArray} {R : List UInt8} (h : rightB l body = true) (hd : s.data.toList.drop q = body.data.toList ++ R) (most : Int) (always : Bool) :
    bodyP s q (allH l body) most always = if (body.size : Int) ≤ most then .ok (body, q + body.size) else .error 4 := by
  obtain ⟨n1, n2⟩ := names_right h
  obtain ⟨i1, i2, i3, i4⟩ := itoaB_dig body.size (rightB_spec h).2.1
  unfold bodyP
  rw [n1, n2]
  have hv : val0 [clH body] = itoaB body.size := rfl
  rw [if_neg (by simp), if_neg (by simp), if_pos (by simp), hv, if_pos ⟨i1, i2, i3⟩, i4]
  split
  · have := (takeP_at hd).1
    exact this
  · rfl
theorem indexB_upto (x : ByteArray) (c : UInt8) : Lib.indexB x ⟨#[c]⟩ = uptoI c x.data.toList := by
  unfold Lib.indexB
  exact index_upto c _
theorem split_at (k : Nat) (a b : List UInt8) (ha : (32 : UInt8) ∉ a) : Lib.splitB ⟨#[32]⟩ 0 (k + 1) ⟨(a ++ 32 :: b).toArray⟩ = ⟨a.toArray⟩ :: Lib.splitB ⟨#[32]⟩ 0 k ⟨b.toArray⟩ := by
  have hi : Lib.indexB ⟨(a ++ 32 :: b).toArray⟩ ⟨#[32]⟩ = (a.length : Int) := by
    rw [indexB_upto]
    unfold uptoI
    have : upto 32 (⟨(a ++ 32 :: b).toArray⟩ : ByteArray).data.toList = some (a, b) := upto_some.2 ⟨rfl, ha⟩
    rw [this]
  rw [Lib.splitB_hit _ _ _ _ a.length hi]
  congr 1
  · apply ByteArray.ext
    apply Array.ext'
    rw [extract_l]
    show (a ++ 32 :: b).take _ = a
    rw [Nat.add_zero, List.take_left]
  · congr 1
    apply ByteArray.ext
    apply Array.ext'
    rw [Lib.extract_to_end]
    have := drop_at (l := a ++ 32 :: b) (p := 0) (x := a ++ [32]) (R := b) (by simp)
    rw [List.length_append, Nat.zero_add] at this
    exact this
theorem words_at (a b c : List UInt8) (ha : (32 : UInt8) ∉ a) (hb : (32 : UInt8) ∉ b) : wordsB ⟨(a ++ 32 :: (b ++ 32 :: c)).toArray⟩ = [⟨a.toArray⟩, ⟨b.toArray⟩, ⟨c.toArray⟩] := by
  have hz : (⟨(a ++ 32 :: (b ++ 32 :: c)).toArray⟩ : ByteArray).size = a.length + (b.length + (c.length + 1) + 1) := by
    show (a ++ 32 :: (b ++ 32 :: c)).toArray.size = _
    simp
  unfold wordsB
  rw [hz, show min 3 (a.length + (b.length + (c.length + 1) + 1) + 1) - 1 = 2 from by omega, split_at 1 _ _ ha, split_at 0 _ _ hb, Lib.splitB_zero]
/-- THE MESSAGE IS READ. -/
theorem read_message {γ : Type} (most : Int) (always : Bool) (f : ByteArray → ByteArray → ByteArray → Except Int γ) (first : ByteArray) (l : List Head) (body behind : ByteArray) (x0 x1 x2 : ByteArray) (z : γ)
    (h0 : 0 ≤ most) (h1 : most ≤ 65536) (hf : (10 : UInt8) ∉ first.data.toList) (hl : first.size ≤ 4096) (hw : wordsB first = [x0, x1, x2]) (hz : f x0 x1 x2 = .ok z) (hr : rightB l body = true) :
    readP (messageB first l body ++ behind) most always f = if (body.size : Int) ≤ most then .ok ⟨l, body, (messageB first l body).size, z⟩ else .error 4 := by
  have hs := rightB_spec hr
  have hd0 : (messageB first l body ++ behind).data.toList.drop 0 = first.data.toList ++ 13 :: 10 :: ((allH l body).flatMap lineL ++ 13 :: 10 :: (body.data.toList ++ behind.data.toList)) := by
    rw [List.drop_zero, ByteArray.data_append, Array.toList_append]
    show messageL first l body ++ _ = _
    simp [messageL]
  obtain ⟨p1, p2⟩ := lineP_at hd0 hf hl
  have hge : (messageB first l body).size = first.size + 2 + ((allH l body).flatMap lineL).length + 2 + body.size := by
    show (messageL first l body).toArray.size = _
    have e1 : first.data.toList.length = first.size := rfl
    have e2 : body.data.toList.length = body.size := rfl
    simp only [List.size_toArray, messageL, List.length_append, e1, e2, List.length_cons, List.length_nil]
    omega
  have hlong : ∀ L : List Head, L.length ≤ (L.flatMap lineL).length := by
    intro L
    induction L with
    | nil => simp
    | cons x L ih =>
      rw [List.flatMap_cons, List.length_append, List.length_cons]
      have : 1 ≤ (lineL x).length := by unfold lineL; simp; omega
      omega
  have hL := hlong (allH l body)
  have hcn : countNF (allH l body) ≤ 64 := by unfold countNF; rw [filter_right hr]; exact hs.1
  obtain ⟨q1, q2⟩ := heads_at (messageB first l body ++ behind) (body.data.toList ++ behind.data.toList) (allH l body) 0 [] (0 + (first.data.toList.length + 2)) ((messageB first l body ++ behind).size + 1) (fun x hx => by
    rcases List.mem_append.1 hx with hx | hx
    · exact (hs.2.2 x hx).1
    · rw [List.mem_singleton.1 hx]
      exact clH_good body hs.2.1) p2 (by omega) (by rw [ByteArray.size_append]; omega)
  have e0 : (⟨first.data.toList.toArray⟩ : ByteArray) = first := rfl
  unfold readP
  rw [if_pos ⟨h0, h1⟩, p1, e0]
  dsimp only
  rw [hw]
  unfold readGo
  dsimp only
  rw [hz]
  dsimp only
  unfold readEnd headsP
  rw [q1]
  dsimp only
  unfold readFin
  rw [List.nil_append, body_at hr q2 most always]
  by_cases hb : (body.size : Int) ≤ most
  · rw [if_pos hb, if_pos hb]
    dsimp only
    have e1 : first.data.toList.length = first.size := rfl
    have : 0 + (first.data.toList.length + 2) + (((allH l body).flatMap lineL).length + 2) + body.size = (messageB first l body).size := by omega
    rw [filter_right hr, this]
  · rw [if_neg hb, if_neg hb]
end Go.Proofs.YtjbehnalmgcbpaaGreatDoor.Ht
