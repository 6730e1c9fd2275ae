/- HttpChunks: hexadecimal numbers, a body in chunks (plain laws); the walks of hex and HttpChunks. -/
import Derived.Test.YtjbehnalmgcbpaaGreatDoorBk
import Derived.Test.YtjbehnalmgcbpaaGreatDoorLm
set_option linter.unusedVariables false
set_option linter.unusedSimpArgs false
namespace Go.Proofs.YtjbehnalmgcbpaaGreatDoor.Ht
open Go.Proofs Go.Proofs.YtjbehnalmgcbpaaGreatDoor.Gn Go.Proofs.YtjbehnalmgcbpaaGreatDoor.Bs

def hexT : List UInt8 := [48, 49, 50, 51, 52, 53, 54, 55, 56, 57, 97, 66, 99, 68, 101, 70]
def hexC (d : Nat) : UInt8 := hexT.getD d 0
def hexU (n : Nat) : List UInt8 := if h : n < 16 then [hexC n] else hexU (n / 16) ++ [hexC (n % 16)]
termination_by n
decreasing_by omega
theorem hexC_spec (d : Nat) (h : d < 16) : hexI ((hexC d).toNat : Int) = true ∧ hexD ((hexC d).toNat : Int) = d ∧ hexC d ≠ 59 ∧ hexC d ≠ 10 := by
  have key : ∀ i : Fin 16, hexI ((hexC i.val).toNat : Int) = true ∧ hexD ((hexC i.val).toNat : Int) = (i.val : Int) ∧ hexC i.val ≠ 59 ∧ hexC i.val ≠ 10 := by decide +kernel
  exact key ⟨d, h⟩
theorem hexU_spec (n : Nat) : hexU n ≠ [] ∧ (∀ b ∈ hexU n, hexI (b.toNat : Int) = true ∧ b ≠ 59 ∧ b ≠ 10) ∧ hexN ((hexU n).map fun b => (b.toNat : Int)) = n ∧ ∀ k, n < 16 ^ (k + 1) → (hexU n).length ≤ k + 1 := by
  induction n using Nat.strongRecOn with
  | _ n ih =>
    rw [hexU]
    split
    · rename_i h
      obtain ⟨h1, h2, h3, h4⟩ := hexC_spec n h
      refine ⟨by simp, ?_, ?_, ?_⟩
      · intro b hb
        rw [List.mem_singleton.1 hb]
        exact ⟨h1, h3, h4⟩
      · show 0 * 16 + hexD ((hexC n).toNat : Int) = n
        rw [h2]
        omega
      · intro k _; simp
    · rename_i h
      obtain ⟨h1, h2, h3, h4⟩ := hexC_spec (n % 16) (by omega)
      obtain ⟨i1, i2, i3, i4⟩ := ih (n / 16) (by omega)
      refine ⟨by simp, ?_, ?_, ?_⟩
      · intro b hb
        rcases List.mem_append.1 hb with hb | hb
        · exact i2 b hb
        · rw [List.mem_singleton.1 hb]
          exact ⟨h1, h3, h4⟩
      · unfold hexN at i3 ⊢
        rw [List.map_append, List.foldl_append, i3]
        simp only [List.map_cons, List.map_nil, List.foldl_cons, List.foldl_nil]
        rw [h2]
        omega
      · intro k hk
        rw [List.length_append, List.length_singleton]
        cases k with
        | zero => omega
        | succ k =>
          have := i4 k (by rw [Nat.pow_succ] at hk; omega)
          omega
theorem hexU_step (n : Nat) (h : 16 ≤ n) : hexU n = hexU (n / 16) ++ [hexC (n % 16)] := by rw [hexU, dif_neg (by omega)]
theorem hexU_small (n : Nat) (h : n < 16) : hexU n = [hexC n] := by rw [hexU, dif_pos h]
/-- The line of a chunk. -/
theorem chunk_line (n : Nat) (h : n ≤ 4096) : digitsOf ⟨(hexU n).toArray⟩ = ⟨(hexU n).toArray⟩ ∧ chunkOk ⟨(hexU n).toArray⟩ = true ∧ hexN (bl ⟨(hexU n).toArray⟩) = n ∧ (10 : UInt8) ∉ hexU n ∧ (hexU n).length ≤ 8 := by
  obtain ⟨h1, h2, h3, h4⟩ := hexU_spec n
  have hl : (hexU n).length ≤ 8 := by have := h4 3 (by omega); omega
  have hbl : bl ⟨(hexU n).toArray⟩ = (hexU n).map fun b => (b.toNat : Int) := rfl
  refine ⟨?_, ?_, by rw [hbl]; exact h3, fun hm => (h2 10 hm).2.2 rfl, hl⟩
  · unfold digitsOf
    have : Lib.cut (hexU n) [59] = (hexU n, [], false) := cut_none (fun hm => (h2 59 hm).2.1 rfl)
    show (⟨(Lib.cut (hexU n) [59]).1.toArray⟩ : ByteArray) = _
    rw [this]
  · unfold chunkOk plainH
    rw [hbl]
    simp only [Bool.and_eq_true, Bool.not_eq_true', decide_eq_true_eq]
    refine ⟨⟨?_, ?_⟩, ?_⟩
    · rw [ByteArray.toList_eq, List.isEmpty_eq_false_iff]
      exact h1
    · show (hexU n).toArray.size ≤ 8
      rw [List.size_toArray]
      exact hl
    · rw [List.all_map, List.all_eq_true]
      intro b hb
      exact (h2 b hb).1
def goodP (p : ByteArray) : Bool := decide (p.size ≠ 0) && decide (p.size ≤ 4096)
def chunkT (p : ByteArray) : List UInt8 := hexU p.size ++ [13, 10] ++ p.data.toList ++ [13, 10]
theorem crlfP_at {s : ByteArray} {q : Nat} {R : List UInt8} (h : s.data.toList.drop q = 13 :: 10 :: R) : (∃ x, crlfP s q = .ok (x, q + 2)) ∧ s.data.toList.drop (q + 2) = R := by
  obtain ⟨h1, h2⟩ := takeP_at (x := [13]) (R := 10 :: R) (by simpa using h)
  obtain ⟨h3, h4⟩ := takeP_at (x := [10]) (R := R) (by simpa using h2)
  refine ⟨⟨⟨[10].toArray⟩, ?_⟩, by simpa using h4⟩
  unfold crlfP
  have e1 : takeP s q 1 = .ok (⟨[13].toArray⟩, q + 1) := h1
  have e2 : takeP s (q + 1) 1 = .ok (⟨[10].toArray⟩, q + 1 + 1) := h3
  rw [e1]
  simp only [bindE]
  rw [if_pos (by rfl), e2]
  simp only []
  rw [if_pos (by rfl)]
theorem chunksGo_at (s : ByteArray) (most : Int) (R : List UInt8) : ∀ (L : List ByteArray) (p F : Nat) (acc : List UInt8), (∀ x ∈ L, goodP x = true) → s.data.toList.drop p = L.flatMap chunkT ++ [48, 13, 10, 13, 10] ++ R → (acc.length : Int) ≤ most → L.length < F →
    chunksGo s most F p acc = if ((acc ++ L.flatMap (fun x => x.data.toList)).length : Int) ≤ most then .ok (⟨(acc ++ L.flatMap (fun x => x.data.toList)).toArray⟩, p + (L.flatMap chunkT).length + 5) else .error 4
  | [], p, F, acc, hL, hd, ha, hF => by
    obtain ⟨F, rfl⟩ : ∃ m, F = m + 1 := ⟨F - 1, by simp at hF; omega⟩
    obtain ⟨h1, h2⟩ := lineP_at (x := [48]) (R := 13 :: 10 :: R) (by simpa using hd) (by simp) (by simp)
    obtain ⟨h3, h4⟩ := heads_at s R [] 0 [] (p + 3) (s.size + 1) (by simp) (by simpa using h2) (by simp [countNF]) (by simp)
    rw [chunksGo, h1]
    simp only [bindE]
    have e0 : digitsOf ⟨[48].toArray⟩ = ⟨[48].toArray⟩ := by decide +kernel
    have e1 : chunkOk ⟨[48].toArray⟩ = true := by decide +kernel
    have e2 : hexN (bl ⟨[48].toArray⟩) = 0 := by decide +kernel
    rw [e0, if_pos e1, e2, if_pos (by omega), if_pos rfl]
    have e3 : headsP s (p + (([48] : List UInt8).length + 2)) = .ok ([], p + 3 + 2) := by
      unfold headsP
      exact h3
    rw [e3]
    simp only [List.flatMap_nil, List.append_nil, List.length_nil]
    rw [if_pos ha]
  | x :: L, p, F, acc, hL, hd, ha, hF => by
    obtain ⟨F, rfl⟩ : ∃ m, F = m + 1 := ⟨F - 1, by simp at hF; omega⟩
    have hg := hL x (by simp)
    simp only [goodP, Bool.and_eq_true, decide_eq_true_eq] at hg
    obtain ⟨c1, c2, c3, c4, c5⟩ := chunk_line x.size hg.2
    have hd1 : s.data.toList.drop p = hexU x.size ++ 13 :: 10 :: (x.data.toList ++ (13 :: 10 :: (L.flatMap chunkT ++ [48, 13, 10, 13, 10] ++ R))) := by
      rw [hd]
      simp [chunkT]
    obtain ⟨h1, h2⟩ := lineP_at hd1 c4 (by omega)
    have hxl : x.data.toList.length = x.size := rfl
    obtain ⟨h3, h4⟩ := takeP_at h2
    rw [hxl] at h3 h4
    obtain ⟨⟨y, h5⟩, h6⟩ := crlfP_at h4
    have ih := chunksGo_at s most R L (p + ((hexU x.size).length + 2) + x.size + 2) F (acc ++ x.data.toList) (fun y hy => hL y (by simp [hy])) h6
    rw [chunksGo, h1]
    simp only [bindE]
    rw [c1, if_pos c2, c3]
    by_cases hle : (x.size : Int) ≤ most - acc.length
    · rw [if_pos hle, if_neg (by omega), h3]
      simp only []
      rw [h5]
      simp only []
      rw [ih (by rw [List.length_append, hxl]; omega) (by simp at hF; omega)]
      have e1 : acc ++ x.data.toList ++ L.flatMap (fun x => x.data.toList) = acc ++ (x :: L).flatMap (fun x => x.data.toList) := by simp
      have e2 : p + ((hexU x.size).length + 2) + x.size + 2 + (L.flatMap chunkT).length + 5 = p + ((x :: L).flatMap chunkT).length + 5 := by
        rw [List.flatMap_cons, List.length_append]
        have : (chunkT x).length = (hexU x.size).length + 2 + x.size + 2 := by
          unfold chunkT
          simp only [List.length_append, hxl, List.length_cons, List.length_nil]
        omega
      rw [e1, e2]
    · rw [if_neg hle, if_neg]
      rw [List.length_append, List.flatMap_cons, List.length_append, hxl]
      omega
/-! The whole text. -/
def chunkHead : List UInt8 := [80, 79, 83, 84, 32, 47, 32, 72, 84, 84, 80, 47, 49, 46, 49, 13, 10, 84, 114, 97, 110, 115, 102, 101, 114, 45, 69, 110, 99, 111, 100, 105, 110, 103, 58, 32, 67, 104, 117, 110, 107, 101, 100, 13, 10, 13, 10]
def teH : Head := ⟨codS, ⟨#[67, 104, 117, 110, 107, 101, 100]⟩⟩
def chunkAll (L : List ByteArray) : ByteArray := ⟨(chunkHead ++ L.flatMap chunkT ++ [48, 13, 10, 13, 10]).toArray⟩
def bodyAll (L : List ByteArray) : ByteArray := ⟨(L.flatMap (fun x => x.data.toList)).toArray⟩
theorem chunks_read (L : List ByteArray) (hL : ∀ x ∈ L, goodP x = true) (extra : ByteArray) (most : Int) (h0 : 0 ≤ most) (h1 : most ≤ 65536) :
    reqP (chunkAll L ++ extra) most = if ((bodyAll L).size : Int) ≤ most then .ok ⟨[], bodyAll L, (chunkAll L).size, (⟨#[80, 79, 83, 84]⟩, ⟨#[47]⟩)⟩ else .error 4 := by
  have hd0 : (chunkAll L ++ extra).data.toList.drop 0 = [80, 79, 83, 84, 32, 47, 32, 72, 84, 84, 80, 47, 49, 46, 49] ++ 13 :: 10 :: ([teH].flatMap lineL ++ 13 :: 10 :: (L.flatMap chunkT ++ [48, 13, 10, 13, 10] ++ extra.data.toList)) := by
    rw [List.drop_zero, ByteArray.data_append, Array.toList_append]
    show chunkHead ++ L.flatMap chunkT ++ [48, 13, 10, 13, 10] ++ extra.data.toList = _
    simp [chunkHead, lineL, teH, codS]
  obtain ⟨p1, p2⟩ := lineP_at hd0 (by decide) (by decide)
  have hsz : (chunkAll L).size = 47 + (L.flatMap chunkT).length + 5 := by
    show (chunkHead ++ L.flatMap chunkT ++ [48, 13, 10, 13, 10]).toArray.size = _
    rw [List.size_toArray, List.length_append, List.length_append]
    rfl
  have hlong : L.length ≤ (L.flatMap chunkT).length := by
    have : ∀ M : List ByteArray, M.length ≤ (M.flatMap chunkT).length := by
      intro M
      induction M with
      | nil => simp
      | cons x M ih =>
        rw [List.flatMap_cons, List.length_append, List.length_cons]
        have : 1 ≤ (chunkT x).length := by unfold chunkT; simp; omega
        omega
    exact this L
  obtain ⟨q1, q2⟩ := heads_at (chunkAll L ++ extra) (L.flatMap chunkT ++ [48, 13, 10, 13, 10] ++ extra.data.toList) [teH] 0 [] (0 + (15 + 2)) ((chunkAll L ++ extra).size + 1) (fun x hx => by
    rw [List.mem_singleton.1 hx]
    exact ⟨by kernel_rfl, by kernel_rfl, by decide⟩) p2 (by
      have : countNF [teH] = 0 := by kernel_rfl
      omega) (by rw [ByteArray.size_append]; simp; omega)
  have hfl : ([teH].flatMap lineL).length = 28 := by kernel_rfl
  rw [hfl] at q1 q2
  have hw : wordsB ⟨[80, 79, 83, 84, 32, 47, 32, 72, 84, 84, 80, 47, 49, 46, 49].toArray⟩ = [⟨#[80, 79, 83, 84]⟩, ⟨#[47]⟩, httpS] := by kernel_rfl
  have hz : firstReq ⟨#[80, 79, 83, 84]⟩ ⟨#[47]⟩ httpS = .ok (⟨#[80, 79, 83, 84]⟩, ⟨#[47]⟩) := by kernel_rfl
  have n1 : hasName codS [teH] = [teH] := by kernel_rfl
  have n2 : hasName lenS [teH] = [] := by kernel_rfl
  have n3 : (smallB (val0 [teH])).toList = chkS.toList := by kernel_rfl
  have n4 : [teH].filter (fun h => !framingB h.name) = [] := by kernel_rfl
  have hc := chunksGo_at (chunkAll L ++ extra) most extra.data.toList L 47 ((chunkAll L ++ extra).size + 1) [] hL q2 (by simpa using h0) (by rw [ByteArray.size_append]; omega)
  have hb : bodyP (chunkAll L ++ extra) 47 [teH] most false = if ((bodyAll L).size : Int) ≤ most then .ok (bodyAll L, (chunkAll L).size) else .error 4 := by
    unfold bodyP
    rw [n1, n2, if_pos (by simp), if_pos ⟨by simp, n3, by simp⟩]
    unfold chunksP
    rw [hc, List.nil_append, hsz]
    have e1 : (L.flatMap (fun x => x.data.toList)).length = (bodyAll L).size := by
      show _ = (L.flatMap (fun x => x.data.toList)).toArray.size
      rw [List.size_toArray]
    rw [e1]
    rfl
  unfold reqP readP
  rw [if_pos ⟨h0, h1⟩, p1]
  dsimp only
  rw [hw]
  unfold readGo
  dsimp only
  rw [hz]
  dsimp only
  unfold readEnd headsP
  have e5 : (0 + (List.length ([80, 79, 83, 84, 32, 47, 32, 72, 84, 84, 80, 47, 49, 46, 49] : List UInt8) + 2) : Nat) = 0 + (15 + 2) := rfl
  rw [e5, q1]
  dsimp only
  unfold readFin
  rw [show 0 + (15 + 2) + (28 + 2) = 47 from rfl, List.nil_append, hb]
  by_cases hle : ((bodyAll L).size : Int) ≤ most
  · rw [if_pos hle, if_pos hle]
    dsimp only
    rw [n4]
  · rw [if_neg hle, if_neg hle]
end Go.Proofs.YtjbehnalmgcbpaaGreatDoor.Ht
namespace Go.Proofs.YtjbehnalmgcbpaaGreatDoor.Ht
open Go.Sort Go.RowKit Go.Proofs Go.Proofs.YtjbehnalmgcbpaaGreatDoorW.PrintWords Go.Proofs.YtjbehnalmgcbpaaGreatDoor.Bs Go.Proofs.YtjbehnalmgcbpaaGreatDoor.Ir Go.Proofs.YtjbehnalmgcbpaaGreatDoor.Gn

def hexW : ByteArray := ⟨#[48, 49, 50, 51, 52, 53, 54, 55, 56, 57, 97, 66, 99, 68, 101, 70]⟩
theorem hex_cut (d : Nat) (h : d < 16) : hexW.extract d (d + 1) = ⟨#[hexC d]⟩ := by
  have key : ∀ i : Fin 16, hexW.extract i.val (i.val + 1) = ⟨#[hexC i.val]⟩ := by decide +kernel
  exact key ⟨d, h⟩
def hexA (n : Nat) : ByteArray := ⟨(hexU n).toArray⟩
theorem arr_app (a b : List UInt8) : (⟨a.toArray⟩ : ByteArray) ++ ⟨b.toArray⟩ = ⟨(a ++ b).toArray⟩ := by
  apply ByteArray.ext
  apply Array.ext'
  rw [ByteArray.data_append, Array.toList_append]
set_option maxRecDepth 100000 in
set_option maxHeartbeats 2000000 in
theorem hex_any (n : Nat) (w : World) (h1 : 1 ≤ n) (hn : n ≤ 4096) :
    Calls Tryz.prog 13 #[.int .i64 n] w fun e w' => e = .returned (.string (hexA n)) ∧ w = w' := by
  have hlen : (hexU n).length ≤ 4 := (hexU_spec n).2.2.2 3 (by omega)
  have HL := Lib.hid hlen
  clear hlen
  go_enter Tryz.func13, Tryz.ntmps13
  go_wp2_with fail
  go_loop [0, 3] (fun vn vs => ∃ (k : Nat) (l : List UInt8), vn = .int .i64 k ∧ vs = .string ⟨l.toArray⟩ ∧ k ≤ 4096 ∧ l.length ≤ 4 ∧ Hid ((l = [] → 1 ≤ k) ∧ hexU n = (if k = 0 then [] else hexU k) ++ l)) (fun vn _ => (intOf vn).toNat)
  case atStart => exact ⟨n, [], rfl, rfl, hn, by simp, Lib.hid ⟨fun _ => h1, by rw [if_neg (by omega)]; simp⟩⟩
  case round =>
    obtain ⟨k, l, rfl, rfl, hk, hl, hE⟩ := hrel
    by_cases h0 : k = 0
    · subst h0
      have hne : l ≠ [] := fun e => by have := hE.out.1 e; omega
      have hfin := hE.out.2
      rw [if_pos rfl, List.nil_append] at hfin
      have HF := Lib.hid hfin
      have hemp : (⟨l.toArray⟩ : ByteArray).toList.isEmpty = false := by
        rw [ByteArray.toList_eq, List.isEmpty_eq_false_iff]
        exact hne
      clear hfin hne hE
      generalize hX : (⟨l.toArray⟩ : ByteArray) = X at *
      have HX := Lib.hid hX
      clear hX
      go_wp2_with fail
      go_ret
      refine ⟨?_, rfl⟩
      rw [← HX.out, ← HF.out]
      rfl
    · have hk0 : (0 : Int) < (k : Int) := by omega
      have hk00 : (0 : Int) ≤ (k : Int) := by omega
      have hcut := hex_cut (k % 16) (by omega)
      obtain ⟨r, hr⟩ : ∃ r : Int, (k : Int) % 16 = r := ⟨_, rfl⟩
      have hr0 : 0 ≤ r := by omega
      have hr1 : r + 1 ≤ 16 := by omega
      have hrt : r.toNat = k % 16 := by omega
      have hrt1 : (r + 1).toNat = k % 16 + 1 := by omega
      have hcut2 : (⟨#[48, 49, 50, 51, 52, 53, 54, 55, 56, 57, 97, 66, 99, 68, 101, 70]⟩ : ByteArray).extract r.toNat (r + 1).toNat = ⟨#[hexC (k % 16)]⟩ := by rw [hrt, hrt1]; exact hcut
      obtain ⟨d, hd⟩ : ∃ d : Int, (k : Int) / 16 = d := ⟨_, rfl⟩
      have HD := Lib.hid (show d = ((k / 16 : Nat) : Int) from by omega)
      clear hcut hrt hrt1
      have hE2 := Lib.hid (show hexU n = (if k / 16 = 0 then [] else hexU (k / 16)) ++ (hexC (k % 16) :: l) from by
        rw [hE.out.2, if_neg h0]
        by_cases h16 : k < 16
        · rw [if_pos (by omega), hexU_small k h16, show k % 16 = k from by omega]; rfl
        · rw [if_neg (by omega), hexU_step k (by omega)]; simp)
      have hll := Lib.hid (show (hexC (k % 16) :: l).length ≤ 4 from by
        have e := congrArg List.length hE2.out
        rw [List.length_append] at e
        have := HL.out
        omega)
      have happ := arr_app [hexC (k % 16)] l
      clear hE
      by_cases hle : l = []
      · subst hle
        go_wp2_with fail
        go_goals
        go_round
        case rel => exact ⟨k / 16, [hexC (k % 16)], by rw [HD.out], by first | rfl | (simp [happ]; done), by omega, hll.out, Lib.hid ⟨(fun e => by cases e), hE2.out⟩⟩
        case measure => have := HD.out; simp [intOf]; omega
      · have hemp : (⟨l.toArray⟩ : ByteArray).toList.isEmpty = false := by
          rw [ByteArray.toList_eq, List.isEmpty_eq_false_iff]
          exact hle
        go_wp2_with fail
        go_goals
        go_round
        case rel => exact ⟨k / 16, hexC (k % 16) :: l, by rw [HD.out], by first | rfl | (simp [happ]; done) | exact congrArg Value.string happ, by omega, hll.out, Lib.hid ⟨(fun e => by cases e), hE2.out⟩⟩
        case measure => have := HD.out; simp [intOf]; omega
end Go.Proofs.YtjbehnalmgcbpaaGreatDoor.Ht
namespace Go.Proofs.YtjbehnalmgcbpaaGreatDoor.Ht
open Go.Sort Go.RowKit Go.Proofs Go.Proofs.YtjbehnalmgcbpaaGreatDoorW.PrintWords Go.Proofs.YtjbehnalmgcbpaaGreatDoor.Bs Go.Proofs.YtjbehnalmgcbpaaGreatDoor.Ir Go.Proofs.YtjbehnalmgcbpaaGreatDoor.Gn

def partsS (P : List ByteArray) : ByteArray := ⟨(chunkHead ++ (P.filter goodP).flatMap chunkT).toArray⟩
def partsB (P : List ByteArray) : ByteArray := bodyAll (P.filter goodP)
theorem parts_skip {P : List ByteArray} {x : ByteArray} (h : goodP x = false) : partsS (P ++ [x]) = partsS P ∧ partsB (P ++ [x]) = partsB P := by
  unfold partsS partsB
  rw [List.filter_append, List.filter_cons_of_neg (by simp [h])]
  simp
theorem parts_add {P : List ByteArray} {x : ByteArray} (h : goodP x = true) : partsS (P ++ [x]) = partsS P ++ (hexA x.size ++ ⟨#[13, 10]⟩ ++ x ++ ⟨#[13, 10]⟩) ∧ partsB (P ++ [x]) = partsB P ++ x := by
  refine ⟨?_, ?_⟩
  · apply ByteArray.ext
    apply Array.ext'
    unfold partsS hexA
    rw [List.filter_append, List.filter_cons_of_pos h]
    simp only [ByteArray.data_append, Array.toList_append]
    simp [chunkT]
  · apply ByteArray.ext
    apply Array.ext'
    unfold partsB bodyAll
    rw [List.filter_append, List.filter_cons_of_pos h]
    simp only [ByteArray.data_append, Array.toList_append]
    simp
theorem parts_end (P : List ByteArray) : partsS P ++ ⟨#[48, 13, 10, 13, 10]⟩ = chunkAll (P.filter goodP) := by
  apply ByteArray.ext
  apply Array.ext'
  unfold partsS chunkAll
  simp only [ByteArray.data_append, Array.toList_append]
def sumS (P : List ByteArray) : Nat := (P.map (fun x => x.size)).sum
theorem parts_size (P : List ByteArray) : (partsS P).size ≤ 47 + sumS P + 12 * P.length ∧ (partsB P).size ≤ sumS P := by
  have key : ∀ P : List ByteArray, ((P.filter goodP).flatMap chunkT).length ≤ sumS P + 12 * P.length ∧ ((P.filter goodP).flatMap (fun x => x.data.toList)).length ≤ sumS P := by
    intro P
    induction P with
    | nil => simp
    | cons x P ih =>
      have hs : sumS (x :: P) = x.size + sumS P := by simp [sumS]
      by_cases h : goodP x = true
      · rw [List.filter_cons_of_pos h, List.flatMap_cons, List.flatMap_cons, List.length_append, List.length_append, List.length_cons, hs]
        have hg := h
        simp only [goodP, Bool.and_eq_true, decide_eq_true_eq] at hg
        have h8 := (chunk_line x.size hg.2).2.2.2.2
        have e1 : x.data.toList.length = x.size := rfl
        have : (chunkT x).length = (hexU x.size).length + 2 + x.size + 2 := by
          unfold chunkT
          simp only [List.length_append, e1, List.length_cons, List.length_nil]
        omega
      · rw [List.filter_cons_of_neg (by simpa using h), List.length_cons, hs]
        omega
  have := key P
  refine ⟨?_, ?_⟩
  · show (chunkHead ++ (P.filter goodP).flatMap chunkT).toArray.size ≤ _
    rw [List.size_toArray, List.length_append]
    have : chunkHead.length = 47 := rfl
    omega
  · show ((P.filter goodP).flatMap (fun x => x.data.toList)).toArray.size ≤ _
    rw [List.size_toArray]
    omega
theorem sumS_take (P : List ByteArray) (k : Nat) : sumS (P.take k) ≤ sumS P := by
  have : sumS P = sumS (P.take k) + sumS (P.drop k) := by
    unfold sumS
    rw [← List.sum_append, ← List.map_append, List.take_append_drop]
  omega
theorem at_S {w : World} {A : Option Addr} {n : Nat} {P : List ByteArray} (h : Kd.C Kd.string w A n P) (i : Nat) (hi : i < n) : ∃ ad, A = some ad ∧ w.cell? (ad.add i) = some (.string (P.getD i ⟨#[]⟩)) := by
  obtain ⟨ad, e, hc⟩ := Kd.at_string h (i : Int) (by omega) (by omega)
  rw [Int.toNat_natCast] at hc
  refine ⟨ad, e, ?_⟩
  rw [hc]
  have hl := h.1
  simp [rdOf, hl, hi]
set_option maxRecDepth 100000 in
set_option maxHeartbeats 8000000 in
theorem httpChunks_any (A : Option Addr) (c : Nat) (P : List ByteArray) (most : Int) (extra : ByteArray) (w : World) (G : Gnd w) (hl : P.length ≤ 1048576) (hsum : sumS P ≤ 1048576) (he : extra.size ≤ 1048576) (hC : Kd.C Kd.string w A P.length P) :
    Calls Tryz.prog 4 #[.slice A P.length c, .int .i64 most, .string extra] w fun e w' => e = .returned (.bool true) ∧ Below w.heap.size w w' := by
  have hlv := lives_any w G
  have HG := Lib.hid G
  have HC := Lib.hid hC
  have HSM := Lib.hid hsum
  clear G hC hsum
  go_enter Tryz.func4, Tryz.ntmps4
  go_wp2_with (go_at_call 10; (with_reducible refine hlv.mono ?_); rintro e w1 ⟨rfl, hb1⟩)
  have HB1 := Lib.hid hb1
  clear hlv hb1
  go_loopw [7, 8, 18] (fun vs vb vi wr => ∃ (k : Nat) (S B : ByteArray), vs = .string S ∧ vb = .string B ∧ vi = .int .i64 k ∧ k ≤ P.length ∧ Hid (S = partsS (P.take k)) ∧ Hid (B = partsB (P.take k)) ∧ w1 = wr) (fun _ _ vi _ => P.length - (intOf vi).toNat)
  case atStart => exact ⟨0, _, _, rfl, rfl, rfl, by omega, Lib.hid rfl, Lib.hid rfl, rfl⟩
  case round =>
    obtain ⟨k, S, B, rfl, rfl, rfl, hk, hS, hB, rfl⟩ := hrel
    by_cases hlt : k < P.length
    · obtain ⟨ad, rfl, x0⟩ := at_S (Kd.C_below HC.out HB1.out) k hlt
      have htk : P.take (k + 1) = P.take k ++ [P.getD k ⟨#[]⟩] := by rw [List.take_succ_eq_append_getElem hlt]; simp [hlt]
      have HT := Lib.hid htk
      clear htk
      generalize P.getD k ⟨#[]⟩ = x at *
      have hsk := fun h => (parts_skip (P := P.take k) (x := x) h)
      have had := fun h => (parts_add (P := P.take k) (x := x) h)
      have hps := parts_size (P.take k)
      have hst := sumS_take P k
      have hsx : sumS (P.take (k + 1)) ≤ sumS P := sumS_take P (k + 1)
      have hxz : x.size ≤ 1048576 := by
        rw [HT.out] at hsx
        have : sumS (P.take k ++ [x]) = sumS (P.take k) + x.size := by simp [sumS]
        have := HSM.out
        omega
      have hSz : S.size ≤ 20000000 := by rw [hS.out]; have := HSM.out; have h2 : (P.take k).length ≤ P.length := (by rw [List.length_take]; omega); omega
      have hBz : B.size ≤ 20000000 := by rw [hB.out]; have := HSM.out; omega
      have HSK := Lib.hid hsk
      have HAD := Lib.hid had
      clear hsk had hps hst hsx
      by_cases hx0 : x = ⟨#[]⟩
      · have hg : goodP x = false := by rw [hx0]; rfl
        have HG2 := Lib.hid hg
        clear hg
        subst hx0
        go_wp2_with fail
        go_roundw
        case rel => exact ⟨k + 1, S, B, rfl, rfl, by go_num, by omega, Lib.hid (by rw [HT.out, (HSK.out HG2.out).1]; exact hS.out), Lib.hid (by rw [HT.out, (HSK.out HG2.out).2]; exact hB.out), by first | rfl | trivial⟩
        case measure => simp [intOf]; omega
      · have hz0 : x.size ≠ 0 := fun e => hx0 (ByteArray.size_eq_zero_iff.1 e)
        have hemp : x.toList.isEmpty = false := by
          rw [ByteArray.toList_eq, List.isEmpty_eq_false_iff]
          intro e
          refine hz0 ?_
          show x.data.toList.length = 0
          rw [e]
          rfl
        by_cases hx4 : x.size ≤ 4096
        · have hg : goodP x = true := by simp [goodP, hz0, hx4]
          have hhx := fun W => hex_any x.size W (by omega) hx4
          have hhz : (hexA x.size).size ≤ 8 := (chunk_line x.size hx4).2.2.2.2
          have hd : decide ((4096 : Int) < (x.size : Int)) = false := by simp; omega
          have HSA := Lib.hid (show partsS (P.take (k + 1)) = S ++ (hexA x.size ++ ⟨#[13, 10]⟩ ++ x ++ ⟨#[13, 10]⟩) from by rw [HT.out, (HAD.out hg).1, hS.out])
          have HBA := Lib.hid (show partsB (P.take (k + 1)) = B ++ x from by rw [HT.out, (HAD.out hg).2, hB.out])
          have j1 : ¬ 9223372036854775807 < (hexA x.size).size + 2 := by omega
          have j2 : ¬ 9223372036854775807 < (hexA x.size).size + 2 + x.size := by omega
          have j3 : ¬ 9223372036854775807 < (hexA x.size).size + 2 + x.size + 2 := by omega
          have j4 : ¬ 9223372036854775807 < S.size + ((hexA x.size).size + 2 + x.size + 2) := by omega
          have j5 : ¬ 9223372036854775807 < B.size + x.size := by omega
          clear hg hx0 hz0 HSK HAD
          generalize hexA x.size = hx at *
          go_wp2_with (go_at_call 13; refine (hhx _).mono ?_; rintro e w2 ⟨rfl, rfl⟩)
          go_roundw
          case rel => exact ⟨k + 1, _, _, rfl, rfl, by go_num, by omega, Lib.hid (by rw [HSA.out]), Lib.hid (by rw [HBA.out]), by first | rfl | trivial⟩
          case measure => simp [intOf]; omega
        · have hg : goodP x = false := by simp [goodP, hz0, hx4]
          have HG2 := Lib.hid hg
          have hd : decide ((4096 : Int) < (x.size : Int)) = true := by simp; omega
          clear hg hx0 hz0
          go_wp2_with fail
          go_roundw
          case rel => exact ⟨k + 1, S, B, rfl, rfl, by go_num, by omega, Lib.hid (by rw [HT.out, (HSK.out HG2.out).1]; exact hS.out), Lib.hid (by rw [HT.out, (HSK.out HG2.out).2]; exact hB.out), by first | rfl | trivial⟩
          case measure => simp [intOf]; omega
    · have hkl : k = P.length := by omega
      have hS' := hS.out
      have hB' := hB.out
      rw [hkl, List.take_length] at hS' hB'
      have hend := parts_end P
      rw [← hS'] at hend
      have hps := parts_size P
      rw [← hS', ← hB'] at hps
      have hsm := HSM.out
      have hgd : ∀ x ∈ P.filter goodP, goodP x = true := fun x hx => (List.mem_filter.1 hx).2
      have hrd := fun h0 h1 => chunks_read (P.filter goodP) hgd extra most h0 h1
      rw [← hend, show bodyAll (P.filter goodP) = B from hB'.symm] at hrd
      have hSz : S.size ≤ 20000000 := by omega
      have hBz : B.size ≤ 20000000 := by omega
      have j1 : ¬ 9223372036854775807 < S.size + 5 := by omega
      have j2 : ¬ 9223372036854775807 < S.size + 5 + extra.size := by omega
      have ht5 : (S ++ ⟨#[48, 13, 10, 13, 10]⟩).size = S.size + 5 := by rw [ByteArray.size_append]; rfl
      have hz : (S ++ ⟨#[48, 13, 10, 13, 10]⟩ ++ extra).size ≤ 1073741824 := by rw [ByteArray.size_append, ht5]; omega
      clear hS hB hS' hB' hend hps hsm hgd hkl
      by_cases hm : 0 ≤ most ∧ most ≤ 65536
      · obtain ⟨hm0, hm1⟩ := hm
        have hrd1 := hrd hm0 hm1
        have d1 : decide (most < 0) = false := by simp; omega
        have d2 : decide (65536 < most) = false := by simp; omega
        clear hrd
        by_cases hbm : (B.size : Int) ≤ most
        · rw [if_pos hbm, ht5] at hrd1
          have c1 := rr_ok hrd1 w1 (HG.out.below HB1.out) hz
          dsimp only at c1
          simp only [List.length_nil] at c1
          have d3 : decide (most < (B.size : Int)) = false := by simp; omega
          have hse := str_eq B B
          rw [decide_eq_true rfl] at hse
          clear hrd1 ht5 hz
          go_wp2_with (go_at_call 11; (refine c1.mono ?_); rintro e w3 ⟨A3, c3, rfl, hC3, hb3⟩)
          all_goals (go_ret; have hbw1 := HB1.out; exact ⟨rfl, (by repeat (first | assumption | exact Below.refl _ _ | apply below_drew | apply pw_below_drewN | apply below_alloc | (refine below_via (by assumption) ?_)))⟩)
        · rw [if_neg hbm] at hrd1
          have c1 := rr_err hrd1 w1 (HG.out.below HB1.out) hz
          have d3 : decide (most < (B.size : Int)) = true := by simp; omega
          clear hrd1 ht5 hz
          go_wp2_with (go_at_call 11; (refine c1.mono ?_); rintro e w3 ⟨rfl, hb3⟩)
          all_goals (go_ret; have hbw1 := HB1.out; exact ⟨rfl, (by repeat (first | assumption | exact Below.refl _ _ | apply below_drew | apply pw_below_drewN | apply below_alloc | (refine below_via (by assumption) ?_)))⟩)
      · have hrr := req_range (S ++ ⟨#[48, 13, 10, 13, 10]⟩ ++ extra) hm
        have c1 := rr_err hrr w1 (HG.out.below HB1.out) hz
        clear hrd hrr ht5 hz
        by_cases hneg : most < 0
        · go_wp2_with (go_at_call 11; (refine c1.mono ?_); rintro e w3 ⟨rfl, hb3⟩)
          all_goals (go_ret; have hbw1 := HB1.out; exact ⟨rfl, (by repeat (first | assumption | exact Below.refl _ _ | apply below_drew | apply pw_below_drewN | apply below_alloc | (refine below_via (by assumption) ?_)))⟩)
        · have d1 : decide (most < 0) = false := by simpa using hneg
          have d2 : decide (65536 < most) = true := by simp; omega
          clear hm hneg
          go_wp2_with (go_at_call 11; (refine c1.mono ?_); rintro e w3 ⟨rfl, hb3⟩)
          all_goals (go_ret; have hbw1 := HB1.out; exact ⟨rfl, (by repeat (first | assumption | exact Below.refl _ _ | apply below_drew | apply pw_below_drewN | apply below_alloc | (refine below_via (by assumption) ?_)))⟩)
end Go.Proofs.YtjbehnalmgcbpaaGreatDoor.Ht
