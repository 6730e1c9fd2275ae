/- Plain laws: a request, a response is read as what it was. -/
import Derived.Test.YtjbehnalmgcbpaaGreatDoorMg
import Derived.Test.YtjbehnalmgcbpaaGreatDoorRt
set_option linter.unusedVariables false
set_option linter.unusedSimpArgs false
namespace Go.Proofs.YtjbehnalmgcbpaaGreatDoor.Ht
open Go.Proofs Go.Proofs.YtjbehnalmgcbpaaGreatDoor.Gn Go.Proofs.YtjbehnalmgcbpaaGreatDoor.Bs

theorem append_empty (s : ByteArray) : s ++ ⟨#[]⟩ = s := by
  apply ByteArray.ext
  apply Array.ext'
  rw [ByteArray.data_append, Array.toList_append]
  simp
theorem target_not {s : ByteArray} (h : targetB s = true) (c : UInt8) (hc : (decide (c.toNat < 128) && !tgtR c.toNat) = false) : c ∉ s.data.toList := by
  intro hm
  simp only [targetB, Bool.and_eq_true] at h
  have := allB_mem h.2 c hm
  rw [hc] at this
  cases this
theorem firstB_l (m t : ByteArray) : (firstB m t).data.toList = m.data.toList ++ 32 :: (t.data.toList ++ 32 :: httpS.data.toList) := by
  unfold firstB
  simp only [ByteArray.data_append, Array.toList_append]
  simp [httpS]
theorem req_back {m t : ByteArray} {l : List Head} {b : ByteArray} (h : reqOk m t l b = true) (behind : ByteArray) (most : Int) (h0 : 0 ≤ most) (h1 : most ≤ 65536) :
    reqP (messageB (firstB m t) l b ++ behind) most = if (b.size : Int) ≤ most then .ok ⟨l, b, (messageB (firstB m t) l b).size, (m, t)⟩ else .error 4 := by
  simp only [reqOk, Bool.and_eq_true, decide_eq_true_eq] at h
  obtain ⟨⟨⟨hm, ht⟩, hsz⟩, hr⟩ := h
  unfold reqP
  refine read_message most false firstReq (firstB m t) l b behind m t httpS (m, t) h0 h1 ?_ hsz ?_ ?_ hr
  · rw [firstB_l, List.mem_append, List.mem_cons, List.mem_append, List.mem_cons]
    rintro (e | e | e | e | e)
    · exact token_not hm 10 (by decide +kernel) e
    · cases e
    · exact target_not ht 10 (by decide +kernel) e
    · cases e
    · revert e; decide
  · have e : firstB m t = ⟨(m.data.toList ++ 32 :: (t.data.toList ++ 32 :: httpS.data.toList)).toArray⟩ := by
      apply ByteArray.ext
      apply Array.ext'
      exact firstB_l m t
    rw [e, words_at _ _ _ (token_not hm 32 (by decide +kernel)) (target_not ht 32 (by decide +kernel))]
  · unfold firstReq
    rw [if_pos ⟨hm, ht, rfl⟩]
theorem firstP_l (k : Int) : (firstP k).data.toList = httpS.data.toList ++ 32 :: ((itoaB k).data.toList ++ 32 :: (reasonB k).data.toList) := by
  unfold firstP
  simp only [ByteArray.data_append, Array.toList_append]
  simp [httpS]
theorem reason_no10 (k : Int) : (10 : UInt8) ∉ (reasonB k).data.toList := by
  have h : ∀ i : Nat, i ≤ 9 → (10 : UInt8) ∉ (words.getD i ⟨#[]⟩).data.toList := by decide
  have := reasonIx_range k
  exact h _ (by omega)
theorem resp_back {k : Int} {l : List Head} {b : ByteArray} (h : respOk k l b = true) (behind : ByteArray) (most : Int) (h0 : 0 ≤ most) (h1 : most ≤ 65536) :
    respP (messageB (firstP k) l b ++ behind) most = if (b.size : Int) ≤ most then .ok ⟨l, b, (messageB (firstP k) l b).size, k⟩ else .error 4 := by
  simp only [respOk, Bool.and_eq_true, decide_eq_true_eq] at h
  obtain ⟨⟨hk0, hk1⟩, hr⟩ := h
  obtain ⟨n, rfl⟩ : ∃ n : Nat, k = (n : Int) := ⟨k.toNat, by omega⟩
  obtain ⟨d1, d2, d3, d4⟩ := itoaB_dig n (by omega)
  obtain ⟨-, hdig, -, -⟩ := dec_digits n
  have hno : ∀ c : UInt8, c.toNat < 48 → c ∉ (itoaB (n : Int)).data.toList := fun c hc hm => by
    rw [itoaB_l] at hm
    have := hdig c hm
    omega
  unfold respP
  refine read_message most true firstResp (firstP n) l b behind httpS (itoaB n) (reasonB n) (n : Int) h0 h1 ?_ ?_ ?_ ?_ hr
  · rw [firstP_l, List.mem_append, List.mem_cons, List.mem_append, List.mem_cons]
    rintro (e | e | e | e | e)
    · revert e; decide
    · cases e
    · exact hno 10 (by decide) e
    · cases e
    · exact reason_no10 _ e
  · have e1 : (firstP n).size = (firstP n).data.toList.length := rfl
    have e2 := reasonB_size n
    have e3 : (reasonB n).data.toList.length = (reasonB n).size := rfl
    have e4 : (itoaB n).data.toList.length = (itoaB n).size := rfl
    rw [e1, firstP_l]
    simp only [List.length_append, List.length_cons, e3, e4]
    have e5 : httpS.data.toList.length = 8 := rfl
    omega
  · have e : firstP n = ⟨(httpS.data.toList ++ 32 :: ((itoaB n).data.toList ++ 32 :: (reasonB n).data.toList)).toArray⟩ := by
      apply ByteArray.ext
      apply Array.ext'
      exact firstP_l n
    rw [e, words_at _ _ _ (by decide) (hno 32 (by decide))]
  · unfold firstResp
    rw [if_pos rfl, (atoi_digits (itoaB n) d1 d2 d3).1, d4]
    dsimp only
    rw [if_pos ⟨rfl, hk0, hk1⟩]
theorem req_range (s : ByteArray) {most : Int} (h : ¬ (0 ≤ most ∧ most ≤ 65536)) : reqP s most = .error 2 := by
  unfold reqP readP
  rw [if_neg h]
/-- POST / .. -/
theorem post_write (b : ByteArray) : reqOk ⟨#[80, 79, 83, 84]⟩ ⟨#[47]⟩ [] b = decide (b.size ≤ 65536) := by
  unfold reqOk rightB
  have e1 : tokenB ⟨#[80, 79, 83, 84]⟩ = true := by kernel_rfl
  have e2 : targetB ⟨#[47]⟩ = true := by kernel_rfl
  have e3 : decide ((firstB ⟨#[80, 79, 83, 84]⟩ ⟨#[47]⟩).size ≤ 4096) = true := by kernel_rfl
  rw [e1, e2, e3]
  simp
end Go.Proofs.YtjbehnalmgcbpaaGreatDoor.Ht
