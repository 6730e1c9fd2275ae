/- Package penstockref07: line; Package penstockref07: words; Package penstockref07: head; Package penstockref07: readHeads; Package penstockref07: size; Package penstockref07: chunks. -/
import Derived.Test.YtjbehnalmgcbpaaGreatDoorRb
import Derived.Test.YtjbehnalmgcbpaaGreatDoorUp
import Derived.Test.YtjbehnalmgcbpaaGreatDoorSa
import Derived.Test.YtjbehnalmgcbpaaGreatDoorMf
import Derived.Lib.BufSteps
set_option linter.unusedVariables false
set_option linter.unusedSimpArgs false
namespace Go.Proofs.YtjbehnalmgcbpaaGreatDoor.Ht
section
open Go.Sort Go.RowKit Go.Proofs Go.Proofs.YtjbehnalmgcbpaaGreatDoorW.PrintWords Go.Proofs.YtjbehnalmgcbpaaGreatDoor.Bs Go.Proofs.YtjbehnalmgcbpaaGreatDoor.Ir Go.Proofs.YtjbehnalmgcbpaaGreatDoor.Gn

theorem byI_l (s : ByteArray) (k : Nat) (h : k < s.data.toList.length) : byI s k = (s.data.toList[k].toNat : Int) := by
  unfold byI
  rw [List.getD_eq_getElem?_getD, bl, List.getElem?_map, List.getElem?_eq_getElem h]
  rfl
theorem byI_eq (s : ByteArray) (k : Nat) (h : k < s.data.toList.length) (b : UInt8) : byI s k = (b.toNat : Int) ↔ s.data.toList[k] = b := by
  rw [byI_l s k h]
  constructor
  · intro e; exact UInt8.toNat_inj.1 (by omega)
  · intro e; rw [e]
theorem list_at (l : List UInt8) (i : Nat) (h : i < l.length) : l = l.take i ++ l[i] :: l.drop (i + 1) := by
  rw [List.getElem_cons_drop, List.take_append_drop]
/-- The first b of a text. -/
theorem upto_at (s : ByteArray) (i : Nat) (b : UInt8) (hi : i < s.size) (hn : ∀ j, j < i → byI s j ≠ (b.toNat : Int)) (hb : byI s i = (b.toNat : Int)) : upto b s.data.toList = some (s.data.toList.take i, s.data.toList.drop (i + 1)) := by
  have hi' : i < s.data.toList.length := hi
  refine upto_some.2 ⟨?_, fun hm => ?_⟩
  · have := list_at s.data.toList i hi'
    rwa [(byI_eq s i hi' b).1 hb] at this
  · obtain ⟨j, hj, e⟩ := List.getElem_of_mem hm
    rw [List.length_take] at hj
    rw [List.getElem_take] at e
    exact hn j (by omega) ((byI_eq s j (by omega) b).2 e)
theorem upto_not (s : ByteArray) (b : UInt8) (hn : ∀ j, j < s.size → byI s j ≠ (b.toNat : Int)) : upto b s.data.toList = none := by
  refine upto_none.2 fun hm => ?_
  obtain ⟨j, hj, e⟩ := List.getElem_of_mem hm
  exact hn j hj ((byI_eq s j hj b).2 e)
theorem extract0 (s : ByteArray) (n : Nat) : s.extract 0 n = ⟨(s.data.toList.take n).toArray⟩ := by
  apply ByteArray.ext
  apply Array.ext'
  rw [extract_l]
theorem lineB_at (s : ByteArray) (i : Nat) (hi : i < s.size) (h4 : i < 4098) (hn : ∀ j, j < i → byI s j ≠ 10) (h10 : byI s i = 10) :
    lineB s = if 0 < i ∧ byI s (i - 1) = 13 then .ok (s.extract 0 (i - 1), i + 1) else .error 13 := by
  have hi' : i < s.data.toList.length := hi
  rw [lineB_eq, lineX, upto_at s i 10 hi hn h10]
  dsimp only
  rw [List.length_take, Nat.min_eq_left (by omega), if_pos h4]
  by_cases h : 0 < i ∧ byI s (i - 1) = 13
  · obtain ⟨h0, h13⟩ := h
    have e1 : s.data.toList.take i = s.data.toList.take (i - 1) ++ [13] := by
      have := List.take_succ_eq_append_getElem (l := s.data.toList) (i := i - 1) (by omega)
      rw [(byI_eq s (i - 1) (by omega) 13).1 h13, show i - 1 + 1 = i from by omega] at this
      exact this
    have e2 : Lib.hasSuffix (s.data.toList.take i) [13] = true := by rw [e1]; unfold Lib.hasSuffix; simp
    rw [if_pos e2, if_pos ⟨h0, h13⟩, extract0]
    congr 3
    unfold Lib.trimSuffix
    rw [if_pos e2, e1]
    simp
  · rw [if_neg h, if_neg]
    intro hs
    unfold Lib.hasSuffix at hs
    have hsuf := List.isSuffixOf_iff_suffix.1 hs
    obtain ⟨t, ht⟩ := hsuf
    have hl := congrArg List.length ht
    rw [List.length_append, List.length_take, List.length_singleton] at hl
    apply h
    refine ⟨by omega, ?_⟩
    apply (byI_eq s (i - 1) (by omega) 13).2
    have h2 : (s.data.toList.take i)[i - 1]? = some 13 := by
      rw [← ht, List.getElem?_append_right (by omega)]
      rw [show i - 1 - t.length = 0 from by omega]
      rfl
    rw [List.getElem?_take_of_lt (by omega)] at h2
    exact (List.getElem?_eq_some_iff.1 h2).2
theorem lineB_no (s : ByteArray) (hn : ∀ j, j < s.size → j < 4098 → byI s j ≠ 10) : lineB s = if s.size < 4098 then .error 14 else .error 4 := by
  have hl : s.data.toList.length = s.size := rfl
  rw [lineB_eq, lineX]
  cases h : upto 10 s.data.toList with
  | none => dsimp only; rw [hl]
  | some z =>
    obtain ⟨x, r⟩ := z
    obtain ⟨he, hx⟩ := upto_some.1 h
    have hz := congrArg List.length he
    rw [List.length_append, List.length_cons, hl] at hz
    have hlt : x.length < s.data.toList.length := by omega
    have hb : byI s x.length = 10 := by
      refine (byI_eq s x.length hlt 10).2 ?_
      have h2 : s.data.toList[x.length]? = some 10 := by
        rw [he, List.getElem?_append_right (Nat.le_refl _), Nat.sub_self]
        rfl
      exact (List.getElem?_eq_some_iff.1 h2).2
    have h4 : ¬ x.length < 4098 := fun g => hn x.length (by omega) g hb
    dsimp only
    rw [if_neg h4, if_neg (by omega)]
def lineR : Except Int (ByteArray × Nat) → Value
  | .ok (x, k) => .tuple #[.string x, .int .i64 k, .int .i64 0]
  | .error y => .tuple #[.string ⟨#[]⟩, .int .i64 0, .int .i64 y]
set_option maxRecDepth 100000 in
set_option maxHeartbeats 2000000 in
theorem rline_any (s : ByteArray) (w : World) (hs : s.size ≤ 1073741824) : Calls Tryz.prog 42 #[.string s] w fun e w' => e = .returned (lineR (lineB s)) ∧ w = w' := by
  have HAT := Lib.hid (lineB_at s)
  have HNO := Lib.hid (lineB_no s)
  generalize lineB s = R at *
  go_enter Tryz.func42, Tryz.ntmps42
  go_wp2_with fail
  go_loop [5] (fun v => ∃ k : Nat, v = .int .i64 k ∧ k ≤ s.size ∧ k ≤ 4098 ∧ Hid (∀ j, j < k → byI s j ≠ 10)) (fun v => s.size - (intOf v).toNat)
  case atStart => exact ⟨0, rfl, by omega, by omega, Lib.hid (fun j hj => by omega)⟩
  case round =>
    obtain ⟨k, rfl, hk, hk4, hI⟩ := hrel
    by_cases hlt : k < s.size
    · by_cases h4 : k < 4098
      · have hx := byI_at s k hlt
        by_cases he : byI s k = 10
        · have HE := Lib.hid (HAT.out k hlt h4 hI.out he)
          have hb1 : (byI s k == 10) = true := by rw [beq_iff_eq]; exact he
          clear he
          generalize byI s k = x at *
          by_cases h0 : k = 0
          · subst h0
            have HR := Lib.hid (show R = .error 13 from by rw [HE.out, if_neg (by omega)])
            go_wp2_with fail
            go_ret3
            rw [HR.out]
            exact ⟨rfl, rfl⟩
          · have hz0 : ((k : Int) == 0) = false := by rw [beq_eq_false_iff_ne]; omega
            have hk1 : (0 : Int) ≤ (k : Int) - 1 := by omega
            have hy := byI_at s (k - 1) (by omega)
            have hkn : ((k : Int) - 1).toNat = k - 1 := by omega
            by_cases h13 : byI s (k - 1) = 13
            · have HR := Lib.hid (show R = .ok (s.extract 0 (k - 1), k + 1) from by rw [HE.out, if_pos ⟨by omega, h13⟩])
              have hb2 : (byI s (k - 1) == 13) = true := by rw [beq_iff_eq]; exact h13
              clear h13
              generalize byI s (k - 1) = y at *
              go_wp2_with fail
              go_ret3
              rw [HR.out]
              exact ⟨by simp [lineR], rfl⟩
            · have HR := Lib.hid (show R = .error 13 from by rw [HE.out, if_neg (fun h => h13 h.2)])
              have hb2 : (byI s (k - 1) == 13) = false := by rw [beq_eq_false_iff_ne]; exact h13
              clear h13
              generalize byI s (k - 1) = y at *
              go_wp2_with fail
              go_ret3
              rw [HR.out]
              exact ⟨rfl, rfl⟩
        · have HE := Lib.hid (show ∀ j, j < k + 1 → byI s j ≠ 10 from fun j hj => by
            by_cases e : j = k
            · rw [e]; exact he
            · exact hI.out j (by omega))
          have hb1 : (byI s k == 10) = false := by rw [beq_eq_false_iff_ne]; exact he
          clear he
          generalize byI s k = x at *
          go_wp2_with fail
          go_round
          case rel => exact ⟨k + 1, by go_num, by omega, by omega, HE⟩
          case measure => simp [intOf]; omega
      · have HR := Lib.hid (show R = .error 4 from by rw [HNO.out (fun j h1 h2 => hI.out j (by omega)), if_neg (by omega)])
        go_wp2_with fail
        go_ret3
        rw [HR.out]
        exact ⟨rfl, rfl⟩
    · by_cases h4 : s.size < 4098
      · have HR := Lib.hid (show R = .error 14 from by rw [HNO.out (fun j h1 h2 => hI.out j (by omega)), if_pos h4])
        go_wp2_with fail
        go_ret3
        rw [HR.out]
        exact ⟨rfl, rfl⟩
      · have HR := Lib.hid (show R = .error 4 from by rw [HNO.out (fun j h1 h2 => hI.out j (by omega)), if_neg h4])
        go_wp2_with fail
        go_ret3
        rw [HR.out]
        exact ⟨rfl, rfl⟩
end
section
open Go.Sort Go.RowKit Go.Proofs Go.Proofs.YtjbehnalmgcbpaaGreatDoorW.PrintWords Go.Proofs.YtjbehnalmgcbpaaGreatDoor.Bs Go.Proofs.YtjbehnalmgcbpaaGreatDoor.Ir Go.Proofs.YtjbehnalmgcbpaaGreatDoor.Gn

def wordsR : List ByteArray → Value
  | [x, y, z] => .tuple #[.string x, .string y, .string z, .bool true]
  | _ => .tuple #[.string ⟨#[]⟩, .string ⟨#[]⟩, .string ⟨#[]⟩, .bool false]
theorem bytes_l (s : ByteArray) : s = ⟨s.data.toList.toArray⟩ := by
  apply ByteArray.ext
  simp
theorem extract_mid (s : ByteArray) (a b : Nat) (h : b ≤ s.size) : s.extract a b = ⟨((s.data.toList.drop a).take (b - a)).toArray⟩ := by
  apply ByteArray.ext
  apply Array.ext'
  rw [← ByteArray.toList_eq, Lib.extract_toList]
/-- The first two spaces. -/
theorem words_two (s : ByteArray) (i k : Nat) (hik : i < k) (hk : k < s.size) (hn : ∀ j, j < i → byI s j ≠ 32) (hi : byI s i = 32) (hn2 : ∀ j, i < j → j < k → byI s j ≠ 32) (h2 : byI s k = 32) :
    wordsB s = [s.extract 0 i, s.extract (i + 1) k, s.extract (k + 1) s.size] := by
  have hl : s.data.toList.length = s.size := rfl
  have e1 := upto_some.1 (upto_at s i 32 (by omega) hn hi)
  have hkl : k < s.data.toList.length := hk
  have e3 : s.data.toList.drop (i + 1) = (s.data.toList.drop (i + 1)).take (k - (i + 1)) ++ 32 :: s.data.toList.drop (k + 1) := by
    have := list_at (s.data.toList.drop (i + 1)) (k - (i + 1)) (by rw [List.length_drop]; omega)
    rw [List.getElem_drop, List.drop_drop] at this
    have e : (i + 1 + (k - (i + 1))) = k := by omega
    simp only [e] at this
    rw [(byI_eq s k hkl 32).1 h2, show i + 1 + (k - (i + 1) + 1) = k + 1 from by omega] at this
    exact this
  have hb : (32 : UInt8) ∉ (s.data.toList.drop (i + 1)).take (k - (i + 1)) := by
    intro hm
    obtain ⟨j, hj, e⟩ := List.getElem_of_mem hm
    rw [List.length_take, List.length_drop] at hj
    rw [List.getElem_take, List.getElem_drop] at e
    exact hn2 (i + 1 + j) (by omega) (by omega) ((byI_eq s _ (by omega) 32).2 e)
  have h := words_at (s.data.toList.take i) ((s.data.toList.drop (i + 1)).take (k - (i + 1))) (s.data.toList.drop (k + 1)) e1.2 hb
  rw [← e3, ← e1.1, ← bytes_l] at h
  rw [h, extract0, extract_mid s (i + 1) k (by omega), extract_mid s (k + 1) s.size (by omega), List.take_of_length_le (i := s.size - (k + 1)) (by rw [List.length_drop]; omega)]
theorem splitB_none (s : ByteArray) (k : Nat) (hn : (32 : UInt8) ∉ s.data.toList) : Lib.splitB ⟨#[32]⟩ 0 k s = [s] := by
  refine Lib.splitB_miss _ _ _ _ ?_
  rw [indexB_upto]
  unfold uptoI
  rw [upto_none.2 hn]
theorem words_none (s : ByteArray) (hn : ∀ j, j < s.size → byI s j ≠ 32) : wordsB s = [s] := splitB_none s _ (upto_none.1 (upto_not s 32 hn))
theorem words_one (s : ByteArray) (i : Nat) (hi : i < s.size) (hn : ∀ j, j < i → byI s j ≠ 32) (h1 : byI s i = 32) (hn2 : ∀ j, i < j → j < s.size → byI s j ≠ 32) : ∃ x y, wordsB s = [x, y] := by
  have hl : s.data.toList.length = s.size := rfl
  have e1 := upto_some.1 (upto_at s i 32 hi hn h1)
  have hb : (32 : UInt8) ∉ s.data.toList.drop (i + 1) := by
    intro hm
    obtain ⟨j, hj, e⟩ := List.getElem_of_mem hm
    rw [List.length_drop] at hj
    rw [List.getElem_drop] at e
    exact hn2 (i + 1 + j) (by omega) (by omega) ((byI_eq s _ (by omega) 32).2 e)
  obtain ⟨k, hk⟩ : ∃ k, min 3 (s.size + 1) - 1 = k + 1 := ⟨min 3 (s.size + 1) - 2, by omega⟩
  have h := split_at k (s.data.toList.take i) (s.data.toList.drop (i + 1)) e1.2
  rw [← e1.1, ← bytes_l, splitB_none ⟨(s.data.toList.drop (i + 1)).toArray⟩ k hb] at h
  exact ⟨_, _, by unfold wordsB; rw [hk]; exact h⟩
set_option maxRecDepth 100000 in
set_option maxHeartbeats 4000000 in
theorem rwords_any (s : ByteArray) (w : World) (hs : s.size ≤ 1073741824) : Calls Tryz.prog 43 #[.string s] w fun e w' => e = .returned (wordsR (wordsB s)) ∧ Below w.heap.size w w' := by
  have HT := Lib.hid (words_two s)
  have HO := Lib.hid (words_one s)
  have HN := Lib.hid (words_none s)
  generalize wordsB s = R at *
  go_enter Tryz.func43, Tryz.ntmps43
  go_wp2_with fail
  go_loop [6, 7] (fun v u => ∃ k : Nat, v = .int .i64 k ∧ k ≤ s.size ∧ Hid (∀ j, j < k → byI s j ≠ 32)) (fun v u => s.size - (intOf v).toNat)
  case atStart => exact ⟨0, rfl, by omega, Lib.hid (fun j hj => by omega)⟩
  case round =>
    obtain ⟨i, rfl, hk, hI⟩ := hrel
    by_cases hlt : i < s.size
    · have hx := byI_at s i hlt
      by_cases he : byI s i = 32
      · have HE := Lib.hid he
        have hb1 : (byI s i == 32) = true := by rw [beq_iff_eq]; exact he
        clear he
        generalize hX : byI s i = x at *
        have HX := Lib.hid hX
        clear hX
        go_wp2_with fail
        go_loop [7] (fun u => ∃ k : Nat, u = .int .i64 k ∧ i < k ∧ k ≤ s.size ∧ Hid (∀ j, i < j → j < k → byI s j ≠ 32)) (fun u => s.size - (intOf u).toNat)
        case atStart => exact ⟨i + 1, by go_num, by omega, by omega, Lib.hid (fun j h1 h2 => by omega)⟩
        case round =>
          obtain ⟨k, rfl, hik, hk2, hJ⟩ := hrel
          by_cases hlk : k < s.size
          · have hy := byI_at s k hlk
            by_cases he2 : byI s k = 32
            · have HR := Lib.hid (HT.out i k hik hlk hI.out (HX.out.trans HE.out) hJ.out he2)
              have hb2 : (byI s k == 32) = true := by rw [beq_iff_eq]; exact he2
              clear he2
              generalize byI s k = y at *
              have n0 : ((i : Int)).toNat = i := by omega
              have n1 : ((i : Int) + 1).toNat = i + 1 := by omega
              have n2 : ((k : Int)).toNat = k := by omega
              have n3 : ((k : Int) + 1).toNat = k + 1 := by omega
              have p1 : (i : Int) + 1 ≤ k := by omega
              have p2 : (k : Int) ≤ s.size := by omega
              have p3 : (k : Int) + 1 ≤ s.size := by omega
              go_wp2_with fail
              go_quiet (fail)
              go_wp2_with fail
              refine bodyPost_ret (v := .tuple #[.string (s.extract 0 i), .string (s.extract (i + 1) k), .string (s.extract (k + 1) s.size), .bool true]) (by simp [results, Tryz.results43, go_sem]) rfl ⟨?_, (by repeat (first | assumption | exact Below.refl _ _ | apply below_drew | apply pw_below_drewN | apply below_alloc | (refine below_via (by assumption) ?_)))⟩
              rw [HR.out]
              rfl
            · have HE2 := Lib.hid (show ∀ j, i < j → j < k + 1 → byI s j ≠ 32 from fun j h1 h2 => by
                by_cases e : j = k
                · rw [e]; exact he2
                · exact hJ.out j h1 (by omega))
              have hb2 : (byI s k == 32) = false := by rw [beq_eq_false_iff_ne]; exact he2
              clear he2
              generalize byI s k = y at *
              go_wp2_with fail
              go_round
              case rel => exact ⟨k + 1, by go_num, by omega, by omega, HE2⟩
              case measure => simp [intOf]; omega
          · have HR := Lib.hid (HO.out i hlt hI.out (HX.out.trans HE.out) (fun j h1 h2 => hJ.out j h1 (by omega)))
            go_wp2_with fail
            obtain ⟨a, b, hab⟩ := HR.out
            refine bodyPost_ret (v := .tuple #[.string ⟨#[]⟩, .string ⟨#[]⟩, .string ⟨#[]⟩, .bool false]) (by simp [results, Tryz.results43, go_sem]) rfl ⟨?_, (by repeat (first | assumption | exact Below.refl _ _ | apply below_drew | apply pw_below_drewN | apply below_alloc | (refine below_via (by assumption) ?_)))⟩
            rw [hab]
            rfl
      · have HE := Lib.hid (show ∀ j, j < i + 1 → byI s j ≠ 32 from fun j hj => by
          by_cases e : j = i
          · rw [e]; exact he
          · exact hI.out j (by omega))
        have hb1 : (byI s i == 32) = false := by rw [beq_eq_false_iff_ne]; exact he
        clear he
        generalize byI s i = x at *
        go_wp2_with fail
        go_loop [7] (fun u => True) (fun u => 0)
        case atStart => trivial
        case round =>
          go_wp2_with fail
          go_round
          case rel => exact ⟨i + 1, by go_num, by omega, HE⟩
          case measure => simp [intOf]; omega
    · have HR := Lib.hid (HN.out (fun j hj => hI.out j (by omega)))
      go_wp2_with fail
      refine bodyPost_ret (v := .tuple #[.string ⟨#[]⟩, .string ⟨#[]⟩, .string ⟨#[]⟩, .bool false]) (by simp [results, Tryz.results43, go_sem]) rfl ⟨?_, (by repeat (first | assumption | exact Below.refl _ _ | apply below_drew | apply pw_below_drewN | apply below_alloc | (refine below_via (by assumption) ?_)))⟩
      rw [HR.out]
      rfl
end
section
open Go.Sort Go.RowKit Go.Proofs Go.Proofs.YtjbehnalmgcbpaaGreatDoorW.PrintWords Go.Proofs.YtjbehnalmgcbpaaGreatDoor.Bs Go.Proofs.YtjbehnalmgcbpaaGreatDoor.Ir Go.Proofs.YtjbehnalmgcbpaaGreatDoor.Gn

def headR (x : ByteArray) : Value := if (Lib.cut x.data.toList [58]).2.2 = true then .tuple #[aggH (headOf x), .bool (headOk x)] else .tuple #[aggH zH, .bool false]
theorem size_ne (t : ByteArray) (h : 0 < t.size) : t.toList.isEmpty = false := by
  rw [ByteArray.toList_eq, List.isEmpty_eq_false_iff]
  intro e
  have := congrArg List.length e
  have e2 : t.data.toList.length = t.size := rfl
  rw [List.length_nil] at this
  omega
theorem size_eq0 (t : ByteArray) (h : ¬ 0 < t.size) : t.toList.isEmpty = true := by
  rw [ByteArray.toList_eq, List.isEmpty_iff]
  have e2 : t.data.toList.length = t.size := rfl
  exact List.length_eq_zero_iff.1 (by omega)
def strOf : Value → ByteArray
  | .string b => b
  | _ => ⟨#[]⟩
def blankL (b : UInt8) : Bool := blankI (b.toNat : Int)
theorem blank_contains (b : UInt8) : ([32, 9] : List UInt8).contains b = blankL b := blank_b b
/-- Trimmed as the reference does: from the left first. -/
theorem trim_two (V : List UInt8) (a m : Nat) (ha : a ≤ V.length) (hm : a + m ≤ V.length) (h1 : ∀ j (hj : j < V.length), j < a → blankL V[j] = true) (h2 : ∀ hj : a < V.length, blankL V[a] = false) (h3 : ∀ j (hj : j < V.length), a + m ≤ j → blankL V[j] = true) (h4 : ∀ hj : a + m - 1 < V.length, 0 < m → blankL V[a + m - 1] = false) :
    Lib.trimS V [32, 9] = (V.drop a).take m := by
  unfold Lib.trimS
  by_cases h0 : m = 0
  · subst h0
    have e1 : Lib.trimRightS V [32, 9] = V.take 0 := by
      refine Lib.trimRightS_take V [32, 9] 0 (by omega) (fun j b hj hb => ?_) (fun b h => absurd h (by omega))
      obtain ⟨hlt, rfl⟩ := List.getElem?_eq_some_iff.1 hb
      rw [blank_contains]
      by_cases hja : j < a
      · exact h1 j hlt hja
      · exact h3 j hlt (by omega)
    rw [e1]
    rfl
  · have e1 : Lib.trimRightS V [32, 9] = V.take (a + m) := by
      refine Lib.trimRightS_take V [32, 9] (a + m) hm (fun j b hj hb => ?_) (fun b h hb => ?_)
      · obtain ⟨hlt, rfl⟩ := List.getElem?_eq_some_iff.1 hb
        rw [blank_contains]
        exact h3 j hlt hj
      · obtain ⟨hlt, rfl⟩ := List.getElem?_eq_some_iff.1 hb
        rw [blank_contains]
        exact h4 hlt (by omega)
    have e2 : Lib.trimLeftS (V.take (a + m)) [32, 9] = (V.take (a + m)).drop a := by
      refine Lib.trimLeftS_drop _ [32, 9] a (by rw [List.length_take]; omega) (fun j b hj hb => ?_) (fun b hb => ?_)
      · obtain ⟨hlt, rfl⟩ := List.getElem?_eq_some_iff.1 hb
        rw [List.length_take] at hlt
        rw [blank_contains, List.getElem_take]
        exact h1 j (by omega) hj
      · obtain ⟨hlt, rfl⟩ := List.getElem?_eq_some_iff.1 hb
        rw [List.length_take] at hlt
        rw [blank_contains, List.getElem_take]
        exact h2 (by omega)
    rw [e1, e2, List.drop_take, show a + m - a = m from by omega]
theorem cut_upto (s : ByteArray) (i : Nat) (hi : i < s.size) (hn : ∀ j, j < i → byI s j ≠ 58) (hb : byI s i = 58) : Lib.cut s.data.toList [58] = (s.data.toList.take i, s.data.toList.drop (i + 1), true) := by
  have e := upto_some.1 (upto_at s i 58 hi hn hb)
  have := cut_at (c := 58) (x := s.data.toList.take i) (r := s.data.toList.drop (i + 1)) e.2
  rw [← e.1] at this
  exact this
theorem head_none (s : ByteArray) (hn : ∀ j, j < s.size → byI s j ≠ 58) : headR s = .tuple #[aggH zH, .bool false] := by
  unfold headR
  rw [cut_none (upto_none.1 (upto_not s 58 hn)), if_neg (by simp)]
theorem head_some (s : ByteArray) (i a m : Nat) (hi : i < s.size) (hn : ∀ j, j < i → byI s j ≠ 58) (hb : byI s i = 58) (V : ByteArray) (hV : V = ⟨((((s.data.toList.drop (i + 1)).drop a).take m)).toArray⟩)
    (ht : Lib.trimS (s.data.toList.drop (i + 1)) [32, 9] = (((s.data.toList.drop (i + 1)).drop a).take m)) : headR s = .tuple #[.agg #[.string (s.extract 0 i), .string V], .bool (tokenB (s.extract 0 i) && valueB V)] := by
  have e1 : headOf s = ⟨s.extract 0 i, V⟩ := by
    unfold headOf
    rw [cut_upto s i hi hn hb, hV, extract0]
    unfold trimB
    dsimp only
    rw [ht]
  unfold headR headOk
  rw [e1, cut_upto s i hi hn hb, if_pos rfl, Bool.true_and]
theorem drop_arr (l : List UInt8) : (⟨l.toArray⟩ : ByteArray).extract 1 (⟨l.toArray⟩ : ByteArray).size = ⟨(l.drop 1).toArray⟩ := by
  apply ByteArray.ext
  apply Array.ext'
  rw [Lib.extract_to_end]
theorem take_arr (l : List UInt8) (n : Nat) : (⟨l.toArray⟩ : ByteArray).extract 0 n = ⟨(l.take n).toArray⟩ := by rw [extract0]
theorem size_l (l : List UInt8) : (⟨l.toArray⟩ : ByteArray).size = l.length := size_arr l
theorem byI_arr (l : List UInt8) (k : Nat) (h : k < l.length) : byI ⟨l.toArray⟩ k = (l[k].toNat : Int) := byI_l ⟨l.toArray⟩ k h
set_option maxRecDepth 100000 in
set_option maxHeartbeats 8000000 in
theorem rhead_any (s : ByteArray) (w : World) (hs : s.size ≤ 1073741824) : Calls Tryz.prog 92 #[.string s] w fun e w' => e = .returned (headR s) ∧ Below w.heap.size w w' := by
  have HN := Lib.hid (head_none s)
  have HS := Lib.hid (head_some s)
  have hcb := fun x W => blank_any x W
  generalize headR s = R at *
  go_enter Tryz.func92, Tryz.ntmps92
  go_wp2_with fail
  obtain ⟨w1, hw1⟩ : ∃ w1, w1 = w.alloc (.cells #[.string ⟨#[]⟩, .string ⟨#[]⟩] 61) := ⟨_, rfl⟩
  rw [← hw1]
  have hbw : Below w.heap.size w w1 := by rw [hw1]; exact below_alloc (Below.refl _ _) _
  have hbk : w1.heap[w.heap.size]? = some (.cells #[.string ⟨#[]⟩, .string ⟨#[]⟩] 61 (0, 0)) := by rw [hw1]; exact heap_alloc_new w _
  clear hw1
  have f0 : ∀ i, w1.frozen? ⟨w.heap.size, i, none⟩ = false := fun i => blk_frozen hbk i
  have HBK := Lib.hid hbk
  have r0 : w1.cell? ⟨w.heap.size, 0, none⟩ = some (.string ⟨#[]⟩) := by rw [blk_cell hbk]; rfl
  have r1 : w1.cell? ⟨w.heap.size, 1, none⟩ = some (.string ⟨#[]⟩) := by rw [blk_cell hbk]; rfl
  clear hbk
  go_loop [4, 5] (fun v u => ∃ k : Nat, v = .int .i64 k ∧ k ≤ s.size ∧ Hid (∀ j, j < k → byI s j ≠ 58)) (fun v u => s.size - (intOf v).toNat)
  case atStart => exact ⟨0, rfl, by omega, Lib.hid (fun j hj => by omega)⟩
  case round =>
    obtain ⟨i, rfl, hk, hI⟩ := hrel
    by_cases hlt : i < s.size
    · have hx := byI_at s i hlt
      by_cases he : byI s i = 58
      · have HE := Lib.hid he
        have hb1 : (byI s i == 58) = true := by rw [beq_iff_eq]; exact he
        have n3 : ((i : Int) + 1).toNat = i + 1 := by omega
        have p3 : (i : Int) + 1 ≤ s.size := by omega
        have HV0 := Lib.hid (show s.extract (i + 1) s.size = ⟨(((s.data.toList.drop (i + 1))).drop 0).toArray⟩ from by
          rw [List.drop_zero]
          apply ByteArray.ext
          apply Array.ext'
          rw [Lib.extract_to_end])
        clear he
        have hX := Lib.hid (show byI s i = byI s i from rfl)
        generalize hXX : byI s i = x at *
        have HX := Lib.hid hXX
        clear hXX hX
        have hVl : (s.data.toList.drop (i + 1)).length = s.size - (i + 1) := by rw [List.length_drop]; rfl
        have HSS := Lib.hid (fun a m V h1 h2 => HS.out i a m hlt hI.out (HX.out.trans HE.out) V h1 h2)
        have HVL := Lib.hid hVl
        have hVle : (s.data.toList.drop (i + 1)).length ≤ 1073741824 := by omega
        clear hVl
        generalize s.data.toList.drop (i + 1) = V at *
        go_wp2_with fail
        go_loop [5] (fun u => ∃ (a : Nat) (t : ByteArray), u = .string t ∧ Hid (t = ⟨(V.drop a).toArray⟩) ∧ Hid (t.size = V.length - a) ∧ t.size ≤ 1073741824 ∧ a ≤ V.length ∧ Hid (∀ j (hj : j < V.length), j < a → blankL V[j] = true)) (fun u => (strOf u).size)
        case atStart => exact ⟨0, _, rfl, HV0, Lib.hid (by rw [HV0.out, size_l, List.drop_zero]; omega), by rw [HV0.out, size_l, List.drop_zero]; omega, by omega, Lib.hid (fun j _ hj => by omega)⟩
        case round =>
          obtain ⟨a, t, rfl, hT, HTL, hts, ha, hJ⟩ := hrel
          have htl := HTL.out
          have HY := Lib.hid (fun (h : 0 < t.size) (hj : a < V.length) => show byI t 0 = (V[a].toNat : Int) from by
            rw [hT.out, byI_arr _ 0 (by rw [List.length_drop]; omega), List.getElem_drop]
            rfl)
          have hyr := byI_range t 0
          have hy := byI_at t 0
          have HY0 := Lib.hid hyr
          by_cases hgo : 0 < t.size ∧ blankI (byI t 0) = true
          · obtain ⟨h0, hbl⟩ := hgo
            have hemp : t.toList.isEmpty = false := by
              rw [ByteArray.toList_eq, List.isEmpty_eq_false_iff]
              intro e
              have := congrArg List.length e
              have e2 : t.data.toList.length = t.size := rfl
              rw [List.length_nil] at this
              omega
            have hy := hy h0
            have HJ2 := Lib.hid (show ∀ j (hj : j < V.length), j < a + 1 → blankL V[j] = true from fun j hj hja => by
              by_cases e : j = a
              · subst e
                unfold blankL
                rw [← HY.out h0 hj]
                exact hbl
              · exact hJ.out j hj (by omega))
            have hcb1 := fun W => hcb (byI t 0) W
            rw [hbl] at hcb1
            have hal : a + 1 ≤ V.length := by omega
            clear htl
            have HT2 := Lib.hid (show t.extract 1 t.size = ⟨(V.drop (a + 1)).toArray⟩ from by
              rw [hT.out, drop_arr, List.drop_drop])
            have HT3 := Lib.hid (show (t.extract 1 t.size).size = t.size - 1 from by rw [ByteArray.size_extract, Nat.min_self])
            clear hbl
            generalize byI t 0 = y at *
            go_wp2_with (go_at_call 90; refine (hcb1 _).mono ?_; rintro e w2 ⟨rfl, rfl⟩)
            go_round
            case rel => exact ⟨a + 1, _, rfl, HT2, Lib.hid (by rw [HT3.out]; have := HTL.out; omega), by rw [HT3.out]; omega, by have := HTL.out; omega, HJ2⟩
            case measure => show (t.extract 1 t.size).size < t.size; rw [HT3.out]; omega
          · have H2 := Lib.hid (show ∀ hj : a < V.length, blankL V[a] = false from fun hj => by
              have h0 : 0 < t.size := by omega
              unfold blankL
              rw [← HY.out h0 hj]
              exact Bool.eq_false_iff.2 (fun h => hgo ⟨h0, h⟩))
            have hstop : t.toList.isEmpty = true ∨ (t.toList.isEmpty = false ∧ 0 < t.size ∧ blankI (byI t 0) = false) := by
              by_cases h0 : 0 < t.size
              · refine .inr ⟨?_, h0, Bool.eq_false_iff.2 (fun h => hgo ⟨h0, h⟩)⟩
                rw [ByteArray.toList_eq, List.isEmpty_eq_false_iff]
                intro e
                have := congrArg List.length e
                have e2 : t.data.toList.length = t.size := rfl
                rw [List.length_nil] at this
                omega
              · refine .inl ?_
                rw [ByteArray.toList_eq, List.isEmpty_iff]
                have e2 : t.data.toList.length = t.size := rfl
                exact List.length_eq_zero_iff.1 (by omega)
            clear hgo htl
            rcases hstop with hemp | ⟨hemp, h0, hbl⟩
            rotate_left
            · have hy := hy h0
              have hcb1 := fun W => hcb (byI t 0) W
              rw [hbl] at hcb1
              clear hbl
              generalize byI t 0 = y at *
              go_wp2_with (go_at_call 90; refine (hcb1 _).mono ?_; rintro e w2 ⟨rfl, rfl⟩)
              go_loop [5] (fun u => ∃ (m : Nat) (t : ByteArray), u = .string t ∧ Hid (t = ⟨((V.drop a).take m).toArray⟩) ∧ Hid (t.size = m) ∧ t.size ≤ 1073741824 ∧ a + m ≤ V.length ∧ Hid (∀ j (hj : j < V.length), a + m ≤ j → blankL V[j] = true)) (fun u => (strOf u).size)
              case atStart => exact ⟨V.length - a, t, rfl, Lib.hid (by rw [hT.out, List.take_of_length_le]; rw [List.length_drop]; exact Nat.le_refl _), HTL, hts, by omega, Lib.hid (fun j hj h => by omega)⟩
              case round =>
                clear hemp hts hyr HY HY0
                obtain ⟨m, u, rfl, hU, HUL, hus, ham, hK⟩ := hrel
                have HZ := Lib.hid (fun (h : 0 < m) (hj : a + m - 1 < V.length) => show byI u (u.size - 1) = (V[a + m - 1].toNat : Int) from by
                  have e : a + (m - 1) = a + m - 1 := by omega
                  rw [HUL.out, hU.out, byI_arr _ (m - 1) (by rw [List.length_take, List.length_drop]; omega), List.getElem_take, List.getElem_drop]
                  simp only [e])
                have hyr := byI_range u (u.size - 1)
                have hy := byI_at u (u.size - 1)
                have HY0 := Lib.hid hyr
                by_cases hgo : 0 < u.size ∧ blankI (byI u (u.size - 1)) = true
                · obtain ⟨h0, hbl⟩ := hgo
                  have hemp : u.toList.isEmpty = false := size_ne u h0
                  have hy := hy (by omega)
                  have hk1 : (0 : Int) ≤ (u.size : Int) - 1 := by omega
                  have hkn : ((u.size : Int) - 1).toNat = u.size - 1 := by omega
                  have HK2 := Lib.hid (show ∀ j (hj : j < V.length), a + (m - 1) ≤ j → blankL V[j] = true from fun j hj hja => by
                    by_cases e : j = a + m - 1
                    · subst e
                      unfold blankL
                      rw [← HZ.out (by have := HUL.out; omega) hj]
                      exact hbl
                    · exact hK.out j hj (by omega))
                  have hcb1 := fun W => hcb (byI u (u.size - 1)) W
                  rw [hbl] at hcb1
                  have HT2 := Lib.hid (show u.extract 0 (u.size - 1) = ⟨((V.drop a).take (m - 1)).toArray⟩ from by
                    rw [HUL.out, hU.out, take_arr, List.take_take, Nat.min_eq_left (by omega)])
                  have HT3 := Lib.hid (show (u.extract 0 (u.size - 1)).size = u.size - 1 from by rw [ByteArray.size_extract]; omega)
                  clear hbl
                  generalize byI u (u.size - 1) = y at *
                  go_wp2_with (go_at_call 90; refine (hcb1 _).mono ?_; rintro e w2 ⟨rfl, rfl⟩)
                  go_round
                  case rel => exact ⟨m - 1, _, rfl, HT2, Lib.hid (by rw [HT3.out, HUL.out]), by rw [HT3.out]; omega, by omega, HK2⟩
                  case measure => show (u.extract 0 (u.size - 1)).size < u.size; rw [HT3.out]; omega
                · have H4 := Lib.hid (show ∀ hj : a + m - 1 < V.length, 0 < m → blankL V[a + m - 1] = false from fun hj h0 => by
                    unfold blankL
                    rw [← HZ.out h0 hj]
                    exact Bool.eq_false_iff.2 (fun h => hgo ⟨by have := HUL.out; omega, h⟩))
                  have HR := Lib.hid (HSS.out a m u hU.out (trim_two V a m ha ham hJ.out H2.out hK.out H4.out))
                  have ctok := fun W => rtoken_any (s.extract 0 i) W (by rw [ByteArray.size_extract]; omega)
                  have cval := fun W => rvalue_any u W hus
                  have n4 : ((i : Int)).toNat = i := by omega
                  have hstop : u.toList.isEmpty = true ∨ (u.toList.isEmpty = false ∧ 0 < u.size ∧ blankI (byI u (u.size - 1)) = false) := by
                    by_cases h0 : 0 < u.size
                    · exact .inr ⟨size_ne u h0, h0, Bool.eq_false_iff.2 (fun h => hgo ⟨h0, h⟩)⟩
                    · exact .inl (size_eq0 u h0)
                  clear hgo
                  generalize tokenB (s.extract 0 i) = b1 at *
                  generalize valueB u = b2 at *
                  rcases hstop with hemp | ⟨hemp, h0, hbl⟩
                  rotate_left
                  · have hy := hy (by omega)
                    have hk1 : (0 : Int) ≤ (u.size : Int) - 1 := by omega
                    have hkn : ((u.size : Int) - 1).toNat = u.size - 1 := by omega
                    have hcb1 := fun W => hcb (byI u (u.size - 1)) W
                    rw [hbl] at hcb1
                    clear hbl
                    generalize byI u (u.size - 1) = y at *
                    go_wp2_with (go_at_call 90; refine (hcb1 _).mono ?_; rintro e w2 ⟨rfl, rfl⟩)
                    cases b1
                    · first | (go_region_with (first | (go_at_call 32; refine (ctok _).mono ?_; rintro e w2 ⟨rfl, rfl⟩) | (go_at_call 69; refine (cval _).mono ?_; rintro e w2 ⟨rfl, rfl⟩))) | fail
                      go_wp2_with fail
                      have hw3 : (((w1.setCell ⟨w.heap.size, 0, none⟩ (.string (s.extract 0 i))).setCell ⟨w.heap.size, 1, none⟩ (.string u)).drew).heap[w.heap.size]? = some (.cells #[.string (s.extract 0 i), .string u] 61 (0, 0)) := blk_set (blk_set HBK.out 0 _) 1 _
                      have hbl : Below w.heap.size w (((w1.setCell ⟨w.heap.size, 0, none⟩ (.string (s.extract 0 i))).setCell ⟨w.heap.size, 1, none⟩ (.string u)).drew) := below_drew ((hbw.setCell (Nat.le_refl _) _).setCell (Nat.le_refl _) _)
                      generalize (((w1.setCell ⟨w.heap.size, 0, none⟩ (.string (s.extract 0 i))).setCell ⟨w.heap.size, 1, none⟩ (.string u)).drew) = w3 at *
                      have t0 : w3.cell? ⟨w.heap.size, 0, none⟩ = some (.string (s.extract 0 i)) := by rw [blk_cell hw3]; rfl
                      have t1 : w3.cell? ⟨w.heap.size, 1, none⟩ = some (.string u) := by rw [blk_cell hw3]; rfl
                      refine bodyPost_ret (v := .tuple #[.agg #[.string (s.extract 0 i), .string u], .bool false]) (by simp [results, Tryz.results92, go_sem, t0, t1]) rfl ⟨?_, hbl⟩
                      rw [HR.out]
                      rfl
                    · first | (go_region_with (first | (go_at_call 32; refine (ctok _).mono ?_; rintro e w2 ⟨rfl, rfl⟩) | (go_at_call 69; refine (cval _).mono ?_; rintro e w2 ⟨rfl, rfl⟩))) | fail
                      go_wp2_with fail
                      have hw3 : (((w1.setCell ⟨w.heap.size, 0, none⟩ (.string (s.extract 0 i))).setCell ⟨w.heap.size, 1, none⟩ (.string u)).drew).heap[w.heap.size]? = some (.cells #[.string (s.extract 0 i), .string u] 61 (0, 0)) := blk_set (blk_set HBK.out 0 _) 1 _
                      have hbl : Below w.heap.size w (((w1.setCell ⟨w.heap.size, 0, none⟩ (.string (s.extract 0 i))).setCell ⟨w.heap.size, 1, none⟩ (.string u)).drew) := below_drew ((hbw.setCell (Nat.le_refl _) _).setCell (Nat.le_refl _) _)
                      generalize (((w1.setCell ⟨w.heap.size, 0, none⟩ (.string (s.extract 0 i))).setCell ⟨w.heap.size, 1, none⟩ (.string u)).drew) = w3 at *
                      have t0 : w3.cell? ⟨w.heap.size, 0, none⟩ = some (.string (s.extract 0 i)) := by rw [blk_cell hw3]; rfl
                      have t1 : w3.cell? ⟨w.heap.size, 1, none⟩ = some (.string u) := by rw [blk_cell hw3]; rfl
                      refine bodyPost_ret (v := .tuple #[.agg #[.string (s.extract 0 i), .string u], .bool b2]) (by simp [results, Tryz.results92, go_sem, t0, t1]) rfl ⟨?_, hbl⟩
                      rw [HR.out]
                      rfl
                  · clear hy
                    go_wp2_with fail
                    cases b1
                    · first | (go_region_with (first | (go_at_call 32; refine (ctok _).mono ?_; rintro e w2 ⟨rfl, rfl⟩) | (go_at_call 69; refine (cval _).mono ?_; rintro e w2 ⟨rfl, rfl⟩))) | fail
                      go_wp2_with fail
                      have hw3 : (((w1.setCell ⟨w.heap.size, 0, none⟩ (.string (s.extract 0 i))).setCell ⟨w.heap.size, 1, none⟩ (.string u)).drew).heap[w.heap.size]? = some (.cells #[.string (s.extract 0 i), .string u] 61 (0, 0)) := blk_set (blk_set HBK.out 0 _) 1 _
                      have hbl : Below w.heap.size w (((w1.setCell ⟨w.heap.size, 0, none⟩ (.string (s.extract 0 i))).setCell ⟨w.heap.size, 1, none⟩ (.string u)).drew) := below_drew ((hbw.setCell (Nat.le_refl _) _).setCell (Nat.le_refl _) _)
                      generalize (((w1.setCell ⟨w.heap.size, 0, none⟩ (.string (s.extract 0 i))).setCell ⟨w.heap.size, 1, none⟩ (.string u)).drew) = w3 at *
                      have t0 : w3.cell? ⟨w.heap.size, 0, none⟩ = some (.string (s.extract 0 i)) := by rw [blk_cell hw3]; rfl
                      have t1 : w3.cell? ⟨w.heap.size, 1, none⟩ = some (.string u) := by rw [blk_cell hw3]; rfl
                      refine bodyPost_ret (v := .tuple #[.agg #[.string (s.extract 0 i), .string u], .bool false]) (by simp [results, Tryz.results92, go_sem, t0, t1]) rfl ⟨?_, hbl⟩
                      rw [HR.out]
                      rfl
                    · first | (go_region_with (first | (go_at_call 32; refine (ctok _).mono ?_; rintro e w2 ⟨rfl, rfl⟩) | (go_at_call 69; refine (cval _).mono ?_; rintro e w2 ⟨rfl, rfl⟩))) | fail
                      go_wp2_with fail
                      have hw3 : (((w1.setCell ⟨w.heap.size, 0, none⟩ (.string (s.extract 0 i))).setCell ⟨w.heap.size, 1, none⟩ (.string u)).drew).heap[w.heap.size]? = some (.cells #[.string (s.extract 0 i), .string u] 61 (0, 0)) := blk_set (blk_set HBK.out 0 _) 1 _
                      have hbl : Below w.heap.size w (((w1.setCell ⟨w.heap.size, 0, none⟩ (.string (s.extract 0 i))).setCell ⟨w.heap.size, 1, none⟩ (.string u)).drew) := below_drew ((hbw.setCell (Nat.le_refl _) _).setCell (Nat.le_refl _) _)
                      generalize (((w1.setCell ⟨w.heap.size, 0, none⟩ (.string (s.extract 0 i))).setCell ⟨w.heap.size, 1, none⟩ (.string u)).drew) = w3 at *
                      have t0 : w3.cell? ⟨w.heap.size, 0, none⟩ = some (.string (s.extract 0 i)) := by rw [blk_cell hw3]; rfl
                      have t1 : w3.cell? ⟨w.heap.size, 1, none⟩ = some (.string u) := by rw [blk_cell hw3]; rfl
                      refine bodyPost_ret (v := .tuple #[.agg #[.string (s.extract 0 i), .string u], .bool b2]) (by simp [results, Tryz.results92, go_sem, t0, t1]) rfl ⟨?_, hbl⟩
                      rw [HR.out]
                      rfl
            · clear hy
              go_wp2_with fail
              go_loop [5] (fun u => ∃ (m : Nat) (t : ByteArray), u = .string t ∧ Hid (t = ⟨((V.drop a).take m).toArray⟩) ∧ Hid (t.size = m) ∧ t.size ≤ 1073741824 ∧ a + m ≤ V.length ∧ Hid (∀ j (hj : j < V.length), a + m ≤ j → blankL V[j] = true)) (fun u => (strOf u).size)
              case atStart => exact ⟨V.length - a, t, rfl, Lib.hid (by rw [hT.out, List.take_of_length_le]; rw [List.length_drop]; exact Nat.le_refl _), HTL, hts, by omega, Lib.hid (fun j hj h => by omega)⟩
              case round =>
                clear hemp hts hyr HY HY0
                obtain ⟨m, u, rfl, hU, HUL, hus, ham, hK⟩ := hrel
                have HZ := Lib.hid (fun (h : 0 < m) (hj : a + m - 1 < V.length) => show byI u (u.size - 1) = (V[a + m - 1].toNat : Int) from by
                  have e : a + (m - 1) = a + m - 1 := by omega
                  rw [HUL.out, hU.out, byI_arr _ (m - 1) (by rw [List.length_take, List.length_drop]; omega), List.getElem_take, List.getElem_drop]
                  simp only [e])
                have hyr := byI_range u (u.size - 1)
                have hy := byI_at u (u.size - 1)
                have HY0 := Lib.hid hyr
                by_cases hgo : 0 < u.size ∧ blankI (byI u (u.size - 1)) = true
                · obtain ⟨h0, hbl⟩ := hgo
                  have hemp : u.toList.isEmpty = false := size_ne u h0
                  have hy := hy (by omega)
                  have hk1 : (0 : Int) ≤ (u.size : Int) - 1 := by omega
                  have hkn : ((u.size : Int) - 1).toNat = u.size - 1 := by omega
                  have HK2 := Lib.hid (show ∀ j (hj : j < V.length), a + (m - 1) ≤ j → blankL V[j] = true from fun j hj hja => by
                    by_cases e : j = a + m - 1
                    · subst e
                      unfold blankL
                      rw [← HZ.out (by have := HUL.out; omega) hj]
                      exact hbl
                    · exact hK.out j hj (by omega))
                  have hcb1 := fun W => hcb (byI u (u.size - 1)) W
                  rw [hbl] at hcb1
                  have HT2 := Lib.hid (show u.extract 0 (u.size - 1) = ⟨((V.drop a).take (m - 1)).toArray⟩ from by
                    rw [HUL.out, hU.out, take_arr, List.take_take, Nat.min_eq_left (by omega)])
                  have HT3 := Lib.hid (show (u.extract 0 (u.size - 1)).size = u.size - 1 from by rw [ByteArray.size_extract]; omega)
                  clear hbl
                  generalize byI u (u.size - 1) = y at *
                  go_wp2_with (go_at_call 90; refine (hcb1 _).mono ?_; rintro e w2 ⟨rfl, rfl⟩)
                  go_round
                  case rel => exact ⟨m - 1, _, rfl, HT2, Lib.hid (by rw [HT3.out, HUL.out]), by rw [HT3.out]; omega, by omega, HK2⟩
                  case measure => show (u.extract 0 (u.size - 1)).size < u.size; rw [HT3.out]; omega
                · have H4 := Lib.hid (show ∀ hj : a + m - 1 < V.length, 0 < m → blankL V[a + m - 1] = false from fun hj h0 => by
                    unfold blankL
                    rw [← HZ.out h0 hj]
                    exact Bool.eq_false_iff.2 (fun h => hgo ⟨by have := HUL.out; omega, h⟩))
                  have HR := Lib.hid (HSS.out a m u hU.out (trim_two V a m ha ham hJ.out H2.out hK.out H4.out))
                  have ctok := fun W => rtoken_any (s.extract 0 i) W (by rw [ByteArray.size_extract]; omega)
                  have cval := fun W => rvalue_any u W hus
                  have n4 : ((i : Int)).toNat = i := by omega
                  have hstop : u.toList.isEmpty = true ∨ (u.toList.isEmpty = false ∧ 0 < u.size ∧ blankI (byI u (u.size - 1)) = false) := by
                    by_cases h0 : 0 < u.size
                    · exact .inr ⟨size_ne u h0, h0, Bool.eq_false_iff.2 (fun h => hgo ⟨h0, h⟩)⟩
                    · exact .inl (size_eq0 u h0)
                  clear hgo
                  generalize tokenB (s.extract 0 i) = b1 at *
                  generalize valueB u = b2 at *
                  rcases hstop with hemp | ⟨hemp, h0, hbl⟩
                  rotate_left
                  · have hy := hy (by omega)
                    have hk1 : (0 : Int) ≤ (u.size : Int) - 1 := by omega
                    have hkn : ((u.size : Int) - 1).toNat = u.size - 1 := by omega
                    have hcb1 := fun W => hcb (byI u (u.size - 1)) W
                    rw [hbl] at hcb1
                    clear hbl
                    generalize byI u (u.size - 1) = y at *
                    go_wp2_with (go_at_call 90; refine (hcb1 _).mono ?_; rintro e w2 ⟨rfl, rfl⟩)
                    cases b1
                    · first | (go_region_with (first | (go_at_call 32; refine (ctok _).mono ?_; rintro e w2 ⟨rfl, rfl⟩) | (go_at_call 69; refine (cval _).mono ?_; rintro e w2 ⟨rfl, rfl⟩))) | fail
                      go_wp2_with fail
                      have hw3 : (((w1.setCell ⟨w.heap.size, 0, none⟩ (.string (s.extract 0 i))).setCell ⟨w.heap.size, 1, none⟩ (.string u)).drew).heap[w.heap.size]? = some (.cells #[.string (s.extract 0 i), .string u] 61 (0, 0)) := blk_set (blk_set HBK.out 0 _) 1 _
                      have hbl : Below w.heap.size w (((w1.setCell ⟨w.heap.size, 0, none⟩ (.string (s.extract 0 i))).setCell ⟨w.heap.size, 1, none⟩ (.string u)).drew) := below_drew ((hbw.setCell (Nat.le_refl _) _).setCell (Nat.le_refl _) _)
                      generalize (((w1.setCell ⟨w.heap.size, 0, none⟩ (.string (s.extract 0 i))).setCell ⟨w.heap.size, 1, none⟩ (.string u)).drew) = w3 at *
                      have t0 : w3.cell? ⟨w.heap.size, 0, none⟩ = some (.string (s.extract 0 i)) := by rw [blk_cell hw3]; rfl
                      have t1 : w3.cell? ⟨w.heap.size, 1, none⟩ = some (.string u) := by rw [blk_cell hw3]; rfl
                      refine bodyPost_ret (v := .tuple #[.agg #[.string (s.extract 0 i), .string u], .bool false]) (by simp [results, Tryz.results92, go_sem, t0, t1]) rfl ⟨?_, hbl⟩
                      rw [HR.out]
                      rfl
                    · first | (go_region_with (first | (go_at_call 32; refine (ctok _).mono ?_; rintro e w2 ⟨rfl, rfl⟩) | (go_at_call 69; refine (cval _).mono ?_; rintro e w2 ⟨rfl, rfl⟩))) | fail
                      go_wp2_with fail
                      have hw3 : (((w1.setCell ⟨w.heap.size, 0, none⟩ (.string (s.extract 0 i))).setCell ⟨w.heap.size, 1, none⟩ (.string u)).drew).heap[w.heap.size]? = some (.cells #[.string (s.extract 0 i), .string u] 61 (0, 0)) := blk_set (blk_set HBK.out 0 _) 1 _
                      have hbl : Below w.heap.size w (((w1.setCell ⟨w.heap.size, 0, none⟩ (.string (s.extract 0 i))).setCell ⟨w.heap.size, 1, none⟩ (.string u)).drew) := below_drew ((hbw.setCell (Nat.le_refl _) _).setCell (Nat.le_refl _) _)
                      generalize (((w1.setCell ⟨w.heap.size, 0, none⟩ (.string (s.extract 0 i))).setCell ⟨w.heap.size, 1, none⟩ (.string u)).drew) = w3 at *
                      have t0 : w3.cell? ⟨w.heap.size, 0, none⟩ = some (.string (s.extract 0 i)) := by rw [blk_cell hw3]; rfl
                      have t1 : w3.cell? ⟨w.heap.size, 1, none⟩ = some (.string u) := by rw [blk_cell hw3]; rfl
                      refine bodyPost_ret (v := .tuple #[.agg #[.string (s.extract 0 i), .string u], .bool b2]) (by simp [results, Tryz.results92, go_sem, t0, t1]) rfl ⟨?_, hbl⟩
                      rw [HR.out]
                      rfl
                  · clear hy
                    go_wp2_with fail
                    cases b1
                    · first | (go_region_with (first | (go_at_call 32; refine (ctok _).mono ?_; rintro e w2 ⟨rfl, rfl⟩) | (go_at_call 69; refine (cval _).mono ?_; rintro e w2 ⟨rfl, rfl⟩))) | fail
                      go_wp2_with fail
                      have hw3 : (((w1.setCell ⟨w.heap.size, 0, none⟩ (.string (s.extract 0 i))).setCell ⟨w.heap.size, 1, none⟩ (.string u)).drew).heap[w.heap.size]? = some (.cells #[.string (s.extract 0 i), .string u] 61 (0, 0)) := blk_set (blk_set HBK.out 0 _) 1 _
                      have hbl : Below w.heap.size w (((w1.setCell ⟨w.heap.size, 0, none⟩ (.string (s.extract 0 i))).setCell ⟨w.heap.size, 1, none⟩ (.string u)).drew) := below_drew ((hbw.setCell (Nat.le_refl _) _).setCell (Nat.le_refl _) _)
                      generalize (((w1.setCell ⟨w.heap.size, 0, none⟩ (.string (s.extract 0 i))).setCell ⟨w.heap.size, 1, none⟩ (.string u)).drew) = w3 at *
                      have t0 : w3.cell? ⟨w.heap.size, 0, none⟩ = some (.string (s.extract 0 i)) := by rw [blk_cell hw3]; rfl
                      have t1 : w3.cell? ⟨w.heap.size, 1, none⟩ = some (.string u) := by rw [blk_cell hw3]; rfl
                      refine bodyPost_ret (v := .tuple #[.agg #[.string (s.extract 0 i), .string u], .bool false]) (by simp [results, Tryz.results92, go_sem, t0, t1]) rfl ⟨?_, hbl⟩
                      rw [HR.out]
                      rfl
                    · first | (go_region_with (first | (go_at_call 32; refine (ctok _).mono ?_; rintro e w2 ⟨rfl, rfl⟩) | (go_at_call 69; refine (cval _).mono ?_; rintro e w2 ⟨rfl, rfl⟩))) | fail
                      go_wp2_with fail
                      have hw3 : (((w1.setCell ⟨w.heap.size, 0, none⟩ (.string (s.extract 0 i))).setCell ⟨w.heap.size, 1, none⟩ (.string u)).drew).heap[w.heap.size]? = some (.cells #[.string (s.extract 0 i), .string u] 61 (0, 0)) := blk_set (blk_set HBK.out 0 _) 1 _
                      have hbl : Below w.heap.size w (((w1.setCell ⟨w.heap.size, 0, none⟩ (.string (s.extract 0 i))).setCell ⟨w.heap.size, 1, none⟩ (.string u)).drew) := below_drew ((hbw.setCell (Nat.le_refl _) _).setCell (Nat.le_refl _) _)
                      generalize (((w1.setCell ⟨w.heap.size, 0, none⟩ (.string (s.extract 0 i))).setCell ⟨w.heap.size, 1, none⟩ (.string u)).drew) = w3 at *
                      have t0 : w3.cell? ⟨w.heap.size, 0, none⟩ = some (.string (s.extract 0 i)) := by rw [blk_cell hw3]; rfl
                      have t1 : w3.cell? ⟨w.heap.size, 1, none⟩ = some (.string u) := by rw [blk_cell hw3]; rfl
                      refine bodyPost_ret (v := .tuple #[.agg #[.string (s.extract 0 i), .string u], .bool b2]) (by simp [results, Tryz.results92, go_sem, t0, t1]) rfl ⟨?_, hbl⟩
                      rw [HR.out]
                      rfl
      · have HE := Lib.hid (show ∀ j, j < i + 1 → byI s j ≠ 58 from fun j hj => by
          by_cases e : j = i
          · rw [e]; exact he
          · exact hI.out j (by omega))
        have hb1 : (byI s i == 58) = false := by rw [beq_eq_false_iff_ne]; exact he
        clear he
        generalize byI s i = x at *
        go_wp2_with fail
        go_round
        case rel => exact ⟨i + 1, by go_num, by omega, HE⟩
        case measure => simp [intOf]; omega
    · have HR := Lib.hid (HN.out (fun j hj => hI.out j (by omega)))
      go_wp2_with fail
      have hw3 : ((w1.setCell ⟨w.heap.size, 0, none⟩ (.string ⟨#[]⟩)).setCell ⟨w.heap.size, 1, none⟩ (.string ⟨#[]⟩)).heap[w.heap.size]? = some (.cells #[.string ⟨#[]⟩, .string ⟨#[]⟩] 61 (0, 0)) := blk_set (blk_set HBK.out 0 _) 1 _
      have hbl : Below w.heap.size w ((w1.setCell ⟨w.heap.size, 0, none⟩ (.string ⟨#[]⟩)).setCell ⟨w.heap.size, 1, none⟩ (.string ⟨#[]⟩)) := (hbw.setCell (Nat.le_refl _) _).setCell (Nat.le_refl _) _
      generalize ((w1.setCell ⟨w.heap.size, 0, none⟩ (.string ⟨#[]⟩)).setCell ⟨w.heap.size, 1, none⟩ (.string ⟨#[]⟩)) = w3 at *
      have t0 : w3.cell? ⟨w.heap.size, 0, none⟩ = some (.string ⟨#[]⟩) := by rw [blk_cell hw3]; rfl
      have t1 : w3.cell? ⟨w.heap.size, 1, none⟩ = some (.string ⟨#[]⟩) := by rw [blk_cell hw3]; rfl
      refine bodyPost_ret (v := .tuple #[.agg #[.string ⟨#[]⟩, .string ⟨#[]⟩], .bool false]) (by simp [results, Tryz.results92, go_sem, t0, t1]) rfl ⟨?_, hbl⟩
      rw [HR.out]
      rfl
end
section
open Go.Sort Go.RowKit Go.Proofs Go.Proofs.YtjbehnalmgcbpaaGreatDoorW.PrintWords Go.Proofs.YtjbehnalmgcbpaaGreatDoor.Bs Go.Proofs.YtjbehnalmgcbpaaGreatDoor.Ir Go.Proofs.YtjbehnalmgcbpaaGreatDoor.Gn

theorem headR_shape (x : ByteArray) : ∃ h : Head, headR x = .tuple #[aggH h, .bool (headOk x)] ∧ (headOk x = true → h = headOf x) := by
  unfold headR
  split
  · exact ⟨_, rfl, fun _ => rfl⟩
  · rename_i h
    have e : headOk x = false := by
      unfold headOk
      rw [Bool.eq_false_iff.2 h]
      rfl
    rw [e]
    exact ⟨zH, rfl, fun h => by cases h⟩
def RdPost (w : World) (R : Except Int (List Head × Nat)) (e : Ending) (w' : World) : Prop :=
  Below w.heap.size w w' ∧ match R with
    | .error y => e = .returned (.tuple #[.slice none 0 0, .int .i64 0, .int .i64 y])
    | .ok z => ∃ A c, e = .returned (.tuple #[.slice A z.1.length c, .int .i64 z.2, .int .i64 0]) ∧ Kd.C kH w' A z.1.length z.1
theorem eok_ne {α : Type} {r : Except Int α} (h : EOk r) {y : Int} (e : r = .error y) : (y != 0) = true := by
  rcases h y e with rfl | rfl | rfl <;> rfl
theorem extract_rest (s : ByteArray) (p : Nat) : s.extract p s.size = rest s p := rfl
set_option maxRecDepth 100000 in
set_option maxHeartbeats 8000000 in
theorem readHeads_any (s : ByteArray) (w : World) (hs : s.size ≤ 1073741824) :
    Calls Tryz.prog 73 #[.string s] w fun e w' => RdPost w (headsP s 0) e w' := by
  obtain ⟨R, hR0⟩ : ∃ R, headsP s 0 = R := ⟨_, rfl⟩
  rw [hR0]
  have HR0 := Lib.hid hR0
  clear hR0
  go_enter Tryz.func73, Tryz.ntmps73
  go_wp2_with fail
  go_loopw [5, 6, 7] (fun vo va vc wr => ∃ (out : List Head) (q cnt F : Nat) (A : Option Addr) (cp : Nat),
      vo = .slice A out.length cp ∧ va = .int .i64 q ∧ vc = .int .i64 cnt ∧ q ≤ s.size ∧ cnt ≤ 64 ∧ Hid (rowsV w.heap.size out wr (.slice A out.length cp)) ∧ Hid (out.length ≤ q ∧ s.size < F + q) ∧ Hid (R = bindE (lineP s q) fun x q' => headsGo s F q' cnt out x) ∧ Below w.heap.size w wr)
    (fun _ va _ _ => s.size - (intOf va).toNat)
  case atStart => exact ⟨[], 0, 0, s.size + 1, none, 0, rfl, rfl, rfl, by omega, by omega, Lib.hid (Kd.R_nil _ _ _ _ _), Lib.hid ⟨by simp, by omega⟩, Lib.hid (by rw [← HR0.out]; rfl), Below.refl _ _⟩
  case round =>
    obtain ⟨out, q, cnt, F, A, cp, rfl, rfl, rfl, hq, hcnt, hR, hQ, hE, hb⟩ := hrel
    have hln := fun W => rline_any (rest s q) W (by rw [rest_size]; omega)
    have hqn : ((q : Int)).toNat = q := by omega
    have HLP := Lib.hid (show lineP s q = plus q (lineB (rest s q)) from rfl)
    have hLok := fun x q' => @lineP_ok s x q q' hq
    have HLOK := Lib.hid hLok
    have HEOK := Lib.hid (eok_line s q)
    clear hLok
    generalize lineP s q = LP at *
    generalize hLB : lineB (rest s q) = LB at *
    clear hLB
    cases LB with
    | error y =>
      have HRES := Lib.hid (show R = .error y from by rw [hE.out, HLP.out]; rfl)
      clear hE
      simp only [lineR] at hln
      have hy0 : (y != 0) = true := eok_ne HEOK.out (HLP.out.trans rfl)
      go_wp2_with (go_at_call 42; refine (hln _).mono ?_; rintro e w1 ⟨rfl, rfl⟩)
      go_ret3
      rw [HRES.out]
      exact ⟨(by repeat (first | assumption | exact Below.refl _ _ | apply below_drew | apply pw_below_drewN | apply below_alloc | (refine below_via (by assumption) ?_))), rfl⟩
    | ok z =>
      obtain ⟨x, k⟩ := z
      obtain ⟨hk1, hk2, hxs⟩ := HLOK.out x (q + k) (HLP.out.trans rfl)
      have HE2 := Lib.hid (show R = headsGo s F (q + k) cnt out x from by rw [hE.out, HLP.out]; rfl)
      simp only [lineR] at hln
      obtain ⟨F', rfl⟩ : ∃ F', F = F' + 1 := ⟨F - 1, by have := hQ.out; omega⟩
      clear hE HLP HLOK HEOK
      by_cases hx0 : x.size = 0
      · have hemp : x.toList.isEmpty = true := size_eq0 x (by omega)
        have HRES := Lib.hid (show R = .ok (out, q + k) from by rw [HE2.out, headsGo, if_pos hx0])
        clear hx0 HE2
        go_wp2_with (go_at_call 42; refine (hln _).mono ?_; rintro e w1 ⟨rfl, rfl⟩)
        go_ret3
        rw [HRES.out]
        exact ⟨(by repeat (first | assumption | exact Below.refl _ _ | apply below_drew | apply pw_below_drewN | apply below_alloc | (refine below_via (by assumption) ?_))), A, cp, rfl, (Kd.R_reads' hR.out).2.2⟩
      · have hemp : x.toList.isEmpty = false := size_ne x (by omega)
        have HE3 := Lib.hid (show R = if headOk x then if more cnt x ≤ 64 then bindE (lineP s (q + k)) (fun x'' q'' => headsGo s F' q'' (more cnt x) (out ++ [headOf x]) x'') else .error 4 else .error 13 from by rw [HE2.out, headsGo, if_neg hx0])
        have hhd := fun W => rhead_any x W (by omega)
        obtain ⟨h, hsh, hok⟩ := headR_shape x
        rw [hsh] at hhd
        clear hx0 HE2 hsh
        cases hb1 : headOk x with
        | false =>
          rw [hb1] at hhd
          have HRES := Lib.hid (show R = .error 13 from by rw [HE3.out, hb1]; rfl)
          clear HE3 hok hb1
          go_wp2_with (first | (go_at_call 42; refine (hln _).mono ?_; rintro e w1 ⟨rfl, rfl⟩) | (go_at_call 92; refine (hhd _).mono ?_; rintro e w2 ⟨rfl, hb2⟩))
          go_ret3
          rw [HRES.out]
          exact ⟨(by repeat (first | assumption | exact Below.refl _ _ | apply below_drew | apply pw_below_drewN | apply below_alloc | (refine below_via (by assumption) ?_))), rfl⟩
        | true =>
          rw [hb1] at hhd
          obtain rfl := hok hb1
          obtain ⟨hH1, hH2⟩ := head_ok x (by omega)
          have hfrm := fun W => rframing_any (headOf x).name W hH1
          have HE4 := Lib.hid (show R = if more cnt x ≤ 64 then bindE (lineP s (q + k)) (fun x'' q'' => headsGo s F' q'' (more cnt x) (out ++ [headOf x]) x'') else .error 4 from by rw [HE3.out, hb1]; rfl)
          have HMO := Lib.hid (show more cnt x = if framingB (headOf x).name then cnt else cnt + 1 from rfl)
          clear HE3 hok hb1
          generalize more cnt x = mo at *
          obtain ⟨H, hH⟩ : ∃ H, headOf x = H := ⟨_, rfl⟩
          rw [hH] at HE4 HMO hhd hfrm hH1 hH2
          clear hH
          obtain ⟨nm, vl⟩ := H
          dsimp only [aggH] at hhd hfrm hH1 hH2
          obtain ⟨b4, hb4⟩ : ∃ b4, framingB nm = b4 := ⟨_, rfl⟩
          rw [hb4] at hfrm
          have HMO2 := Lib.hid (show mo = if b4 then cnt else cnt + 1 from by rw [HMO.out]; dsimp only; rw [hb4])
          clear HMO hb4
          obtain ⟨i0, hi, hz0, hz1, hz2⟩ := info_parts inH
          go_wp2_with (first | (go_at_call 42; refine (hln _).mono ?_; rintro e w1 ⟨rfl, rfl⟩) | (go_at_call 92; refine (hhd _).mono ?_; rintro e w2 ⟨rfl, hb2⟩))
          refine (hfrm _).mono ?_
          rintro e w6 ⟨rfl, hb6⟩
          obtain ⟨hbc6, hbf6⟩ := bcell hb6
          have hz6 : w2.heap.size < w6.heap.size := (by have := hb6.size; simp at this; omega)
          have x0 : w6.cell? ⟨w2.heap.size, 0, none⟩ = some (.string nm) := below_cells hb6 0 _ rfl
          have x1 : w6.cell? ⟨w2.heap.size, 1, none⟩ = some (.string vl) := below_cells hb6 1 _ rfl
          have hbw6 : Below wr.heap.size wr w6 := (by repeat (first | assumption | exact Below.refl _ _ | apply below_drew | apply pw_below_drewN | apply below_alloc | (refine below_via (by assumption) ?_)))
          obtain ⟨hk6, inner, hown6, hreps6⟩ := Kd.R_below hR.out hbw6
          clear hln hhd hfrm hbc6 hbf6 hR hb2 hb6
          cases b4
          · by_cases h64 : cnt + 1 ≤ 64
            · have HEN := Lib.hid (show R = bindE (lineP s (q + k)) (fun x'' q'' => headsGo s F' q'' (cnt + 1) (out ++ [⟨nm, vl⟩]) x'') from by rw [HE4.out, HMO2.out]; simp only [Bool.false_eq_true, if_false]; rw [if_pos h64])
              have hd : decide ((64 : Int) < (cnt : Int) + 1) = false := by simp; omega
              clear HE4 HMO2
              go_wp2_with (at_builtin; refine wpList_append_own _ rfl (.tmp 46) (.tmp 48) 23 rfl w.heap.size 61 i0 (.agg #[.string ⟨#[]⟩, .string ⟨#[]⟩]) 2 32 Tu_heads hi hz0 hz1 hz2 rfl (by decide) _ out.length inner rfl (hown6.alloc _) ⟨_, 0, none⟩ 1 1 [.string nm, .string vl] rfl rfl ?c1 ?c2 ?c3 ?c4 ?c5 ?_)
              case c1 =>
                intro j u hj
                rw [add_plain]
                exact cell_new _ _ _ j u (by simpa using hj)
              case c2 =>
                intro u hu
                simp only [List.mem_cons, List.not_mem_nil, or_false] at hu
                rcases hu with rfl | rfl <;> rfl
              case c3 => have := hQ.out; unfold maxLen; omega
              case c4 => have := hQ.out; omega
              case c5 => have := hbw6.size; have := hb.size; simp; omega
              intro v' w7 hown7 hg7 _
              obtain ⟨A', cp', rfl⟩ := own_slice hown7
              have hlo6 : ∀ k, (Value.slice A out.length cp).ownBlock = some k → w.heap.size ≤ k := fun k hk => own_base hown6 k hk
              have hR7 : rowsV w.heap.size (out ++ [⟨nm, vl⟩]) w7 (.slice A' (out.length + 1) cp') := ⟨fun k hk => own_base hown7 k hk, _, by rw [List.length_append]; exact hown7, Reps.snoc (Reps.imp_ hreps6 (fun _ _ h => h)) (kH_mkM _ _ _ ⟨nm, vl⟩) rfl⟩
              have hbb6 : Below w.heap.size w (w6.alloc (.cells #[.string nm, .string vl] 61)) := (by repeat (first | assumption | exact Below.refl _ _ | apply below_drew | apply pw_below_drewN | apply below_alloc | (refine below_via (by assumption) ?_)))
              have hb7 : Below w.heap.size w w7 := hbb6.grown hg7 hbb6.size hlo6
              have eL : (out ++ [(⟨nm, vl⟩ : Head)]).length = out.length + 1 := by rw [List.length_append]; rfl
              have HR7 := Lib.hid (show rowsV w.heap.size (out ++ [⟨nm, vl⟩]) w7 (.slice A' (out ++ [(⟨nm, vl⟩ : Head)]).length cp') from by rw [eL]; exact hR7)
              have HEL := Lib.hid eL
              clear eL
              have HB7 := Lib.hid hb7
              clear hR7 hb7 hown7 hg7 hown6 hreps6 hk6 hlo6 hbb6 hbw6 x0 x1 hz6 hi hz0 hz1 hz2 hb
              go_wp2_with fail
              go_roundw
              case rel =>
                refine ⟨out ++ [⟨nm, vl⟩], q + k, cnt + 1, F', A', cp', ?_, ?_, ?_, hk2, ?_, HR7, ?_, ?_, HB7.out⟩
                · rw [HEL.out]
                · rw [Int.natCast_add]
                · rw [Int.natCast_add]; rfl
                · omega
                · exact Lib.hid ⟨by have := hQ.out; have := HEL.out; omega, by have := hQ.out; omega⟩
                · exact HEN
              case measure => show s.size - ((q : Int) + (k : Int)).toNat < s.size - ((q : Int)).toNat; omega
            · have HRES := Lib.hid (show R = .error 4 from by rw [HE4.out, HMO2.out]; simp only [Bool.false_eq_true, if_false]; rw [if_neg h64])
              have hd : decide ((64 : Int) < (cnt : Int) + 1) = true := by simp; omega
              clear HE4 HMO2 h64
              go_wp2_with fail
              go_ret3
              rw [HRES.out]
              exact ⟨(by repeat (first | assumption | exact Below.refl _ _ | apply below_drew | apply pw_below_drewN | apply below_alloc | (refine below_via (by assumption) ?_))), rfl⟩
          · have HEN := Lib.hid (show R = bindE (lineP s (q + k)) (fun x'' q'' => headsGo s F' q'' cnt (out ++ [⟨nm, vl⟩]) x'') from by rw [HE4.out, HMO2.out]; simp only [if_true]; rw [if_pos hcnt])
            have hd : decide ((64 : Int) < (cnt : Int)) = false := by simp; omega
            clear HE4 HMO2
            go_wp2_with (at_builtin; refine wpList_append_own _ rfl (.tmp 46) (.tmp 48) 23 rfl w.heap.size 61 i0 (.agg #[.string ⟨#[]⟩, .string ⟨#[]⟩]) 2 32 Tu_heads hi hz0 hz1 hz2 rfl (by decide) _ out.length inner rfl (hown6.alloc _) ⟨_, 0, none⟩ 1 1 [.string nm, .string vl] rfl rfl ?c1 ?c2 ?c3 ?c4 ?c5 ?_)
            case c1 =>
              intro j u hj
              rw [add_plain]
              exact cell_new _ _ _ j u (by simpa using hj)
            case c2 =>
              intro u hu
              simp only [List.mem_cons, List.not_mem_nil, or_false] at hu
              rcases hu with rfl | rfl <;> rfl
            case c3 => have := hQ.out; unfold maxLen; omega
            case c4 => have := hQ.out; omega
            case c5 => have := hbw6.size; have := hb.size; simp; omega
            intro v' w7 hown7 hg7 _
            obtain ⟨A', cp', rfl⟩ := own_slice hown7
            have hlo6 : ∀ k, (Value.slice A out.length cp).ownBlock = some k → w.heap.size ≤ k := fun k hk => own_base hown6 k hk
            have hR7 : rowsV w.heap.size (out ++ [⟨nm, vl⟩]) w7 (.slice A' (out.length + 1) cp') := ⟨fun k hk => own_base hown7 k hk, _, by rw [List.length_append]; exact hown7, Reps.snoc (Reps.imp_ hreps6 (fun _ _ h => h)) (kH_mkM _ _ _ ⟨nm, vl⟩) rfl⟩
            have hbb6 : Below w.heap.size w (w6.alloc (.cells #[.string nm, .string vl] 61)) := (by repeat (first | assumption | exact Below.refl _ _ | apply below_drew | apply pw_below_drewN | apply below_alloc | (refine below_via (by assumption) ?_)))
            have hb7 : Below w.heap.size w w7 := hbb6.grown hg7 hbb6.size hlo6
            have eL : (out ++ [(⟨nm, vl⟩ : Head)]).length = out.length + 1 := by rw [List.length_append]; rfl
            have HR7 := Lib.hid (show rowsV w.heap.size (out ++ [⟨nm, vl⟩]) w7 (.slice A' (out ++ [(⟨nm, vl⟩ : Head)]).length cp') from by rw [eL]; exact hR7)
            have HEL := Lib.hid eL
            clear eL
            have HB7 := Lib.hid hb7
            clear hR7 hb7 hown7 hg7 hown6 hreps6 hk6 hlo6 hbb6 hbw6 x0 x1 hz6 hi hz0 hz1 hz2 hb
            go_wp2_with fail
            go_roundw
            case rel =>
              refine ⟨out ++ [⟨nm, vl⟩], q + k, cnt, F', A', cp', ?_, ?_, ?_, hk2, ?_, HR7, ?_, ?_, HB7.out⟩
              · rw [HEL.out]
              · rw [Int.natCast_add]
              · rfl
              · omega
              · exact Lib.hid ⟨by have := hQ.out; have := HEL.out; omega, by have := hQ.out; omega⟩
              · exact HEN
            case measure => show s.size - ((q : Int) + (k : Int)).toNat < s.size - ((q : Int)).toNat; omega
end
section
open Go.Sort Go.RowKit Go.Proofs Go.Proofs.YtjbehnalmgcbpaaGreatDoorW.PrintWords Go.Proofs.YtjbehnalmgcbpaaGreatDoor.Bs Go.Proofs.YtjbehnalmgcbpaaGreatDoor.Ir Go.Proofs.YtjbehnalmgcbpaaGreatDoor.Gn

theorem hexI_59 : hexI 59 = false := by decide
theorem digitsOf_none (s : ByteArray) (h : ∀ j, j < s.size → byI s j ≠ 59) : digitsOf s = s := by
  unfold digitsOf
  rw [cut_none (upto_none.1 (upto_not s 59 h))]
theorem digitsOf_at (s : ByteArray) (i : Nat) (hi : i < s.size) (hn : ∀ j, j < i → byI s j ≠ 59) (hb : byI s i = 59) : digitsOf s = ⟨(s.data.toList.take i).toArray⟩ := by
  have e := upto_some.1 (upto_at s i 59 hi hn hb)
  have := cut_at (c := 59) (x := s.data.toList.take i) (r := s.data.toList.drop (i + 1)) e.2
  rw [← e.1] at this
  unfold digitsOf
  rw [this]
/-- The digits begin with what has no semicolon. -/
theorem digitsOf_pre (s : ByteArray) (k : Nat) (hk : k ≤ s.size) (h : ∀ j, j < k → byI s j ≠ 59) : k ≤ (digitsOf s).size ∧ ∀ j, j < k → byI (digitsOf s) j = byI s j := by
  have hl : s.data.toList.length = s.size := rfl
  by_cases hf : ∀ j, j < s.size → byI s j ≠ 59
  · rw [digitsOf_none s hf]
    exact ⟨hk, fun _ _ => rfl⟩
  · obtain ⟨x, r⟩ : True ∧ True := ⟨trivial, trivial⟩
    cases hu : upto 59 s.data.toList with
    | none =>
      exfalso
      refine hf (fun j hj e => ?_)
      exact upto_none.1 hu (by rw [← (byI_eq s j hj 59).1 e]; exact List.getElem_mem _)
    | some z =>
      obtain ⟨x, r⟩ := z
      obtain ⟨he, hx⟩ := upto_some.1 hu
      have hd : digitsOf s = ⟨x.toArray⟩ := by
        unfold digitsOf
        rw [he, cut_at hx]
      have hxl : x.length < s.data.toList.length := by rw [he]; simp
      have hkx : k ≤ x.length := by
        rcases Nat.lt_or_ge x.length k with hlt | hge
        · exfalso
          refine h x.length hlt ((byI_eq s x.length (by omega) 59).2 ?_)
          have h2 : s.data.toList[x.length]? = some 59 := by
            rw [he, List.getElem?_append_right (Nat.le_refl _), Nat.sub_self]
            rfl
          exact (List.getElem?_eq_some_iff.1 h2).2
        · exact hge
      rw [hd]
      refine ⟨by rw [size_l]; exact hkx, fun j hj => ?_⟩
      rw [byI_arr x j (by omega), byI_l s j (by omega)]
      have h2 : s.data.toList[j]? = x[j]? := by rw [he, List.getElem?_append_left (by omega)]
      rw [List.getElem?_eq_getElem (show j < s.data.toList.length by omega), List.getElem?_eq_getElem (show j < x.length by omega)] at h2
      rw [Option.some.inj h2]
theorem plainH_by (d : ByteArray) : plainH d = d.data.toList.all fun b => hexI (b.toNat : Int) := by
  unfold plainH bl
  rw [List.all_map]
  rfl
theorem ne_bool (d : ByteArray) : (!d.toList.isEmpty) = decide (0 < d.size) := by
  by_cases h : 0 < d.size
  · rw [size_ne d h, decide_eq_true h]; rfl
  · rw [size_eq0 d h, decide_eq_false h]; rfl
theorem size_long (s : ByteArray) (h9 : 9 ≤ s.size) (hall : ∀ j, j < 9 → hexI (byI s j) = true) : chunkOk (digitsOf s) = false := by
  have h1 := (digitsOf_pre s 9 h9 (fun j hj e => by have := hall j hj; rw [e, hexI_59] at this; cases this)).1
  unfold chunkOk
  rw [decide_eq_false (show ¬ (digitsOf s).size ≤ 8 by omega)]
  simp
theorem size_done (s : ByteArray) (k : Nat) (hk : k ≤ s.size) (h8 : k ≤ 8) (hall : ∀ j, j < k → hexI (byI s j) = true) (hstop : k = s.size ∨ (k < s.size ∧ hexI (byI s k) = false)) :
    chunkOk (digitsOf s) = (decide (0 < k) && (decide (k = s.size) || decide (byI s k = 59))) ∧ (chunkOk (digitsOf s) = true → hexN (bl (digitsOf s)) = hexN ((bl s).take k)) := by
  have hn : ∀ j, j < k → byI s j ≠ 59 := fun j hj e => by have := hall j hj; rw [e, hexI_59] at this; cases this
  have key : ∀ d : ByteArray, d.size = k → (∀ j, j < k → byI d j = byI s j) → chunkOk d = decide (0 < k) := by
    intro d hd hj
    unfold chunkOk
    rw [ne_bool, hd, decide_eq_true h8, plainH_by, (all_by d hexI).1 (fun j h => by rw [hj j (by omega)]; exact hall j (by omega))]
    simp
  rcases hstop with rfl | ⟨hlt, hx⟩
  · have e := digitsOf_none s hn
    rw [e, key s rfl (fun _ _ => rfl), decide_eq_true (show s.size = s.size from rfl)]
    refine ⟨by simp, fun _ => ?_⟩
    rw [List.take_of_length_le (by rw [bl_length]; exact Nat.le_refl _)]
  · rw [decide_eq_false (show ¬ k = s.size by omega)]
    by_cases h59 : byI s k = 59
    · have e := digitsOf_at s k hlt hn h59
      have hsz : (digitsOf s).size = k := by
        rw [e, size_l, List.length_take]
        have : s.data.toList.length = s.size := rfl
        omega
      rw [key (digitsOf s) hsz (digitsOf_pre s k hk hn).2, decide_eq_true h59]
      refine ⟨by simp, fun _ => ?_⟩
      rw [e]
      unfold bl
      rw [← List.map_take]
    · have hp := digitsOf_pre s (k + 1) (by omega) (fun j hj => by
        by_cases e : j = k
        · rw [e]; exact h59
        · exact hn j (by omega))
      have hf : plainH (digitsOf s) = false := by
        rw [plainH_by]
        exact not_all_by (digitsOf s) hexI k (by omega) (by rw [hp.2 k (by omega)]; exact hx)
      have : chunkOk (digitsOf s) = false := by unfold chunkOk; rw [hf]; simp
      rw [this, decide_eq_false h59]
      exact ⟨by simp, fun h => by cases h⟩
theorem low_byte (x : Int) (h0 : 0 ≤ x) (h1 : x ≤ 255) : (hexI x = (digI (lowJ x) || (decide (97 ≤ lowJ x) && decide (lowJ x ≤ 102)))) ∧ (hexI x = true → digI (lowJ x) = true → hexD x = lowJ x - 48) ∧ (hexI x = true → digI (lowJ x) = false → hexD x = lowJ x - 97 + 10) ∧ 0 ≤ lowJ x ∧ lowJ x ≤ 255 := by
  have key : ∀ i : Fin 256, (hexI (i.val : Int) = (digI (lowJ i.val) || (decide (97 ≤ lowJ (i.val : Int)) && decide (lowJ (i.val : Int) ≤ 102)))) ∧ (hexI (i.val : Int) = true → digI (lowJ i.val) = true → hexD i.val = lowJ i.val - 48) ∧ (hexI (i.val : Int) = true → digI (lowJ i.val) = false → hexD i.val = lowJ i.val - 97 + 10) ∧ 0 ≤ lowJ (i.val : Int) ∧ lowJ (i.val : Int) ≤ 255 := by decide +kernel
  have := key ⟨x.toNat, by omega⟩
  rwa [show ((x.toNat : Nat) : Int) = x from by omega] at this
theorem low_one (s : ByteArray) (k : Nat) (hk : k < s.size) : (smallB (s.extract k (k + 1))).size = 1 ∧ byI (smallB (s.extract k (k + 1))) 0 = lowJ (byI s k) := by
  have hk' : k < s.data.toList.length := hk
  have e : s.extract k (k + 1) = ⟨#[s.data.toList[k]]⟩ := by
    rw [extract_mid s k (k + 1) (by omega), show k + 1 - k = 1 from by omega, ← List.getElem_cons_drop hk', List.take_succ_cons, List.take_zero]
  rw [e, byI_l s k hk']
  have key : ∀ i : Fin 256, (smallB ⟨#[UInt8.ofNat i.val]⟩).size = 1 ∧ byI (smallB ⟨#[UInt8.ofNat i.val]⟩) 0 = lowJ (i.val : Int) := by decide +kernel
  have := key ⟨s.data.toList[k].toNat, s.data.toList[k].toNat_lt⟩
  rwa [show UInt8.ofNat s.data.toList[k].toNat = s.data.toList[k] from UInt8.ofNat_toNat] at this
theorem hexN_step (l : List Int) (k : Nat) (hk : k < l.length) : hexN (l.take (k + 1)) = hexN (l.take k) * 16 + hexD l[k] := by
  rw [List.take_succ_eq_append_getElem hk]
  unfold hexN
  rw [List.foldl_append]
  rfl
theorem hexD_le (x : Int) (h0 : 0 ≤ x) (h1 : x ≤ 255) (h : hexI x = true) : 0 ≤ hexD x ∧ hexD x ≤ 15 := by
  have key : ∀ i : Fin 256, hexI (i.val : Int) = true → 0 ≤ hexD i.val ∧ hexD i.val ≤ 15 := by decide +kernel
  have := key ⟨x.toNat, by omega⟩
  rw [show ((x.toNat : Nat) : Int) = x from by omega] at this
  exact this h
theorem hexF_le : ∀ (l : List Int) (acc : Int), 0 ≤ acc → (∀ x ∈ l, 0 ≤ x ∧ x ≤ 255 ∧ hexI x = true) → 0 ≤ l.foldl (fun n x => n * 16 + hexD x) acc ∧ l.foldl (fun n x => n * 16 + hexD x) acc + 1 ≤ (acc + 1) * ((16 ^ l.length : Nat) : Int)
  | [], acc, h0, _ => by
    simp only [List.foldl_nil, List.length_nil]
    omega
  | x :: l, acc, h0, h => by
    obtain ⟨g0, g1, g2⟩ := h x (by simp)
    obtain ⟨d0, d1⟩ := hexD_le x g0 g1 g2
    obtain ⟨i0, i1⟩ := hexF_le l (acc * 16 + hexD x) (by omega) (fun y hy => h y (by simp [hy]))
    rw [List.foldl_cons, List.length_cons, Nat.pow_succ]
    refine ⟨i0, Int.le_trans i1 ?_⟩
    have e : (acc + 1) * ((16 ^ l.length * 16 : Nat) : Int) = ((acc + 1) * 16) * ((16 ^ l.length : Nat) : Int) := by rw [Int.natCast_mul, Int.mul_assoc, Int.mul_comm ((16 ^ l.length : Nat) : Int)]; rfl
    rw [e]
    exact Int.mul_le_mul_of_nonneg_right (by omega) (Int.natCast_nonneg _)
theorem hexN_upto (s : ByteArray) (k : Nat) (hk : k ≤ s.size) (h8 : k ≤ 8) (h : ∀ j, j < k → hexI (byI s j) = true) : 0 ≤ hexN ((bl s).take k) ∧ hexN ((bl s).take k) ≤ 4294967296 := by
  have hl := bl_length s
  obtain ⟨h1, h2⟩ := hexF_le ((bl s).take k) 0 (by omega) (fun x hx => by
    obtain ⟨j, hj, rfl⟩ := List.getElem_of_mem hx
    rw [List.length_take] at hj
    rw [List.getElem_take]
    have e : byI s j = (bl s)[j]'(by omega) := by unfold byI; rw [List.getD_eq_getElem?_getD, List.getElem?_eq_getElem (by omega)]; rfl
    rw [← e]
    exact ⟨(byI_range s j).1, (byI_range s j).2, h j (by omega)⟩)
  have hlen : ((bl s).take k).length ≤ 8 := by rw [List.length_take]; omega
  have hp := Nat.pow_le_pow_right (show 0 < 16 by decide) hlen
  have e8 : 16 ^ 8 = 4294967296 := by decide
  unfold hexN
  omega
set_option maxRecDepth 100000 in
set_option maxHeartbeats 4000000 in
theorem rsize_any (s : ByteArray) (w : World) (hs : s.size ≤ 1073741824) : Calls Tryz.prog 123 #[.string s] w fun e w' => (∃ n : Int, e = .returned (.tuple #[.int .i64 n, .bool (chunkOk (digitsOf s))]) ∧ (chunkOk (digitsOf s) = true → n = hexN (bl (digitsOf s)))) ∧ Below w.heap.size w w' := by
  have HL := Lib.hid (size_long s)
  have HD := Lib.hid (size_done s)
  generalize chunkOk (digitsOf s) = R at *
  generalize hexN (bl (digitsOf s)) = N at *
  go_enter Tryz.func123, Tryz.ntmps123
  go_wp2_with fail
  go_loopw [4, 5] (fun vn vk wr => ∃ (k : Nat) (n : Int), vn = .int .i64 n ∧ vk = .int .i64 k ∧ k ≤ s.size ∧ k ≤ 8 ∧ 0 ≤ n ∧ n ≤ 4294967296 ∧ Hid (n = hexN ((bl s).take k)) ∧ Hid (∀ j, j < k → hexI (byI s j) = true) ∧ Below w.heap.size w wr) (fun _ vk _ => s.size - (intOf vk).toNat)
  case atStart => exact ⟨0, 0, rfl, rfl, by omega, by omega, by omega, by omega, Lib.hid rfl, Lib.hid (fun j hj => by omega), Below.refl _ _⟩
  case round =>
    obtain ⟨k, n, rfl, rfl, hk, h8, hn0, hn1, hN, hI, hb⟩ := hrel
    by_cases hlt : k < s.size
    · obtain ⟨o1, o2⟩ := low_one s k hlt
      have hlow := fun W => low_any (s.extract k (k + 1)) W (by rw [ByteArray.size_extract]; omega)
      obtain ⟨g0, g1, g2, g3, g4⟩ := low_byte (byI s k) (byI_range s k).1 (byI_range s k).2
      have p1 : (k : Int) + 1 ≤ s.size := by omega
      have q0 : ((k : Int)).toNat = k := by omega
      have q1 : ((k : Int) + 1).toNat = k + 1 := by omega
      generalize smallB (s.extract k (k + 1)) = t at *
      have ht0 : 0 < t.size := by omega
      have hx := byI_at t 0 ht0
      rw [o2] at hx
      have hdg := fun W => digit_any (lowJ (byI s k)) W
      clear o1 o2
      cases hhx : hexI (byI s k) with
      | false =>
        have HX := Lib.hid (HD.out k hk h8 hI.out (.inr ⟨hlt, hhx⟩))
        rw [hhx] at g0
        have hdf : digI (lowJ (byI s k)) = false := by
          cases h : digI (lowJ (byI s k))
          · rfl
          · rw [h] at g0; simp at g0
        rw [hdf] at hdg g0
        by_cases h97 : lowJ (byI s k) < 97
        · have d97 : decide (lowJ (byI s k) < 97) = true := by simpa using h97
          generalize lowJ (byI s k) = y at *
          clear g0 g1 g2 hhx hdf h97
          have hz := byI_at s k hlt
          by_cases hk0 : 0 < k
          · have d1 : decide ((0 : Int) < (k : Int)) = true := by simp; omega
            have d2 : ((k : Int) == (s.size : Int)) = false := by rw [beq_eq_false_iff_ne]; omega
            by_cases h59 : byI s k = 59
            · have d3 : (byI s k == 59) = true := by rw [beq_iff_eq]; exact h59
              have HRES := Lib.hid (show R = true from by rw [HX.out.1, decide_eq_true hk0, decide_eq_true h59]; simp)
              clear h59
              generalize byI s k = z at *
              go_wp2_with (first | (go_at_call 48; refine (hlow _).mono ?_; rintro e w1 ⟨rfl, hb1⟩) | (go_at_call 47; refine (hdg _).mono ?_; rintro e w2 ⟨rfl, rfl⟩))
              go_quiet (fail)
              go_wp2_with fail
              go_ret2
              rw [HRES.out]
              exact ⟨⟨n, rfl, fun h => by rw [hN.out, HX.out.2 HRES.out]⟩, (by repeat (first | assumption | exact Below.refl _ _ | apply below_drew | apply pw_below_drewN | apply below_alloc | (refine below_via (by assumption) ?_)))⟩
            · have d3 : (byI s k == 59) = false := by rw [beq_eq_false_iff_ne]; exact h59
              have HRES := Lib.hid (show R = false from by rw [HX.out.1, decide_eq_false h59, decide_eq_false (show ¬ k = s.size by omega)]; simp)
              clear h59
              generalize byI s k = z at *
              go_wp2_with (first | (go_at_call 48; refine (hlow _).mono ?_; rintro e w1 ⟨rfl, hb1⟩) | (go_at_call 47; refine (hdg _).mono ?_; rintro e w2 ⟨rfl, rfl⟩))
              go_quiet (fail)
              go_wp2_with fail
              go_ret2
              rw [HRES.out]
              exact ⟨⟨n, rfl, fun h => by cases h⟩, (by repeat (first | assumption | exact Below.refl _ _ | apply below_drew | apply pw_below_drewN | apply below_alloc | (refine below_via (by assumption) ?_)))⟩
          · have d1 : decide ((0 : Int) < (k : Int)) = false := by simp; omega
            have HRES := Lib.hid (show R = false from by rw [HX.out.1, decide_eq_false hk0]; simp)
            clear hz
            generalize byI s k = z at *
            go_wp2_with (first | (go_at_call 48; refine (hlow _).mono ?_; rintro e w1 ⟨rfl, hb1⟩) | (go_at_call 47; refine (hdg _).mono ?_; rintro e w2 ⟨rfl, rfl⟩))
            go_quiet (fail)
            go_wp2_with fail
            go_ret2
            rw [HRES.out]
            exact ⟨⟨n, rfl, fun h => by cases h⟩, (by repeat (first | assumption | exact Below.refl _ _ | apply below_drew | apply pw_below_drewN | apply below_alloc | (refine below_via (by assumption) ?_)))⟩
        · have d97 : decide (lowJ (byI s k) < 97) = false := by simpa using h97
          have d102 : decide (102 < lowJ (byI s k)) = true := by
            rw [decide_eq_true_eq]
            rcases Int.lt_or_le 102 (lowJ (byI s k)) with h | h
            · exact h
            · exfalso
              rw [decide_eq_true (show 97 ≤ lowJ (byI s k) by omega), decide_eq_true h] at g0
              simp at g0
          generalize lowJ (byI s k) = y at *
          clear g0 g1 g2 hhx hdf h97
          have hz := byI_at s k hlt
          by_cases hk0 : 0 < k
          · have d1 : decide ((0 : Int) < (k : Int)) = true := by simp; omega
            have d2 : ((k : Int) == (s.size : Int)) = false := by rw [beq_eq_false_iff_ne]; omega
            by_cases h59 : byI s k = 59
            · have d3 : (byI s k == 59) = true := by rw [beq_iff_eq]; exact h59
              have HRES := Lib.hid (show R = true from by rw [HX.out.1, decide_eq_true hk0, decide_eq_true h59]; simp)
              clear h59
              generalize byI s k = z at *
              go_wp2_with (first | (go_at_call 48; refine (hlow _).mono ?_; rintro e w1 ⟨rfl, hb1⟩) | (go_at_call 47; refine (hdg _).mono ?_; rintro e w2 ⟨rfl, rfl⟩))
              go_quiet (fail)
              go_wp2_with fail
              go_ret2
              rw [HRES.out]
              exact ⟨⟨n, rfl, fun h => by rw [hN.out, HX.out.2 HRES.out]⟩, (by repeat (first | assumption | exact Below.refl _ _ | apply below_drew | apply pw_below_drewN | apply below_alloc | (refine below_via (by assumption) ?_)))⟩
            · have d3 : (byI s k == 59) = false := by rw [beq_eq_false_iff_ne]; exact h59
              have HRES := Lib.hid (show R = false from by rw [HX.out.1, decide_eq_false h59, decide_eq_false (show ¬ k = s.size by omega)]; simp)
              clear h59
              generalize byI s k = z at *
              go_wp2_with (first | (go_at_call 48; refine (hlow _).mono ?_; rintro e w1 ⟨rfl, hb1⟩) | (go_at_call 47; refine (hdg _).mono ?_; rintro e w2 ⟨rfl, rfl⟩))
              go_quiet (fail)
              go_wp2_with fail
              go_ret2
              rw [HRES.out]
              exact ⟨⟨n, rfl, fun h => by cases h⟩, (by repeat (first | assumption | exact Below.refl _ _ | apply below_drew | apply pw_below_drewN | apply below_alloc | (refine below_via (by assumption) ?_)))⟩
          · have d1 : decide ((0 : Int) < (k : Int)) = false := by simp; omega
            have HRES := Lib.hid (show R = false from by rw [HX.out.1, decide_eq_false hk0]; simp)
            clear hz
            generalize byI s k = z at *
            go_wp2_with (first | (go_at_call 48; refine (hlow _).mono ?_; rintro e w1 ⟨rfl, hb1⟩) | (go_at_call 47; refine (hdg _).mono ?_; rintro e w2 ⟨rfl, rfl⟩))
            go_quiet (fail)
            go_wp2_with fail
            go_ret2
            rw [HRES.out]
            exact ⟨⟨n, rfl, fun h => by cases h⟩, (by repeat (first | assumption | exact Below.refl _ _ | apply below_drew | apply pw_below_drewN | apply below_alloc | (refine below_via (by assumption) ?_)))⟩
      | true =>
        have HI2 := Lib.hid (show ∀ j, j < k + 1 → hexI (byI s j) = true from fun j hj => by
          by_cases e : j = k
          · rw [e]; exact hhx
          · exact hI.out j (by omega))
        have HSTEP := Lib.hid (show hexN ((bl s).take (k + 1)) = n * 16 + hexD (byI s k) from by
          rw [hexN_step (bl s) k (by rw [bl_length]; exact hlt), ← hN.out]
          congr 2
          unfold byI
          rw [List.getD_eq_getElem?_getD, List.getElem?_eq_getElem (by rw [bl_length]; exact hlt)]
          rfl)
        rw [hhx] at g0
        cases hdf : digI (lowJ (byI s k)) with
        | true =>
          rw [hdf] at hdg
          have h48 : 48 ≤ lowJ (byI s k) ∧ lowJ (byI s k) ≤ 57 := by unfold digI at hdf; simpa using hdf
          have HNX := Lib.hid (show hexN ((bl s).take (k + 1)) = 16 * n + (lowJ (byI s k) - 48) from by rw [HSTEP.out, g1 hhx hdf]; omega)
          generalize lowJ (byI s k) = y at *
          obtain ⟨h48, h57⟩ := h48
          clear g0 g1 g2 hhx hdf HSTEP
          by_cases h9 : k + 1 ≤ 8
          · have d9 : decide ((8 : Int) < (k : Int) + 1) = false := by simp; omega
            have HB := Lib.hid (hexN_upto s (k + 1) (by omega) h9 HI2.out)
            go_wp2_with (first | (go_at_call 48; refine (hlow _).mono ?_; rintro e w1 ⟨rfl, hb1⟩) | (go_at_call 47; refine (hdg _).mono ?_; rintro e w2 ⟨rfl, rfl⟩))
            go_roundw
            case rel =>
              refine ⟨k + 1, hexN ((bl s).take (k + 1)), ?_, ?_, by omega, by omega, HB.out.1, HB.out.2, Lib.hid rfl, HI2, (by repeat (first | assumption | exact Below.refl _ _ | apply below_drew | apply pw_below_drewN | apply below_alloc | (refine below_via (by assumption) ?_)))⟩
              · rw [HNX.out]
              · rw [Int.natCast_add]; rfl
            case measure => show s.size - ((k : Int) + 1).toNat < s.size - ((k : Int)).toNat; omega
          · have d9 : decide ((8 : Int) < (k : Int) + 1) = true := by simp; omega
            have HRES := Lib.hid (show R = false from HL.out (by omega) (fun j hj => HI2.out j (by omega)))
            go_wp2_with (first | (go_at_call 48; refine (hlow _).mono ?_; rintro e w1 ⟨rfl, hb1⟩) | (go_at_call 47; refine (hdg _).mono ?_; rintro e w2 ⟨rfl, rfl⟩))
            go_ret2
            rw [HRES.out]
            exact ⟨⟨_, rfl, fun h => by cases h⟩, (by repeat (first | assumption | exact Below.refl _ _ | apply below_drew | apply pw_below_drewN | apply below_alloc | (refine below_via (by assumption) ?_)))⟩
        | false =>
          rw [hdf] at hdg g0
          have h97 : 97 ≤ lowJ (byI s k) ∧ lowJ (byI s k) ≤ 102 := by simpa using g0.symm
          have HNX := Lib.hid (show hexN ((bl s).take (k + 1)) = 16 * n + (lowJ (byI s k) - 97) + 10 from by rw [HSTEP.out, g2 hhx hdf]; omega)
          generalize lowJ (byI s k) = y at *
          obtain ⟨h97, h102⟩ := h97
          have d97 : decide (y < 97) = false := by simp; omega
          have d102 : decide (102 < y) = false := by simp; omega
          clear g0 g1 g2 hhx hdf HSTEP
          by_cases h9 : k + 1 ≤ 8
          · have d9 : decide ((8 : Int) < (k : Int) + 1) = false := by simp; omega
            have HB := Lib.hid (hexN_upto s (k + 1) (by omega) h9 HI2.out)
            go_wp2_with (first | (go_at_call 48; refine (hlow _).mono ?_; rintro e w1 ⟨rfl, hb1⟩) | (go_at_call 47; refine (hdg _).mono ?_; rintro e w2 ⟨rfl, rfl⟩))
            go_roundw
            case rel =>
              refine ⟨k + 1, hexN ((bl s).take (k + 1)), ?_, ?_, by omega, by omega, HB.out.1, HB.out.2, Lib.hid rfl, HI2, (by repeat (first | assumption | exact Below.refl _ _ | apply below_drew | apply pw_below_drewN | apply below_alloc | (refine below_via (by assumption) ?_)))⟩
              · rw [HNX.out]
              · rw [Int.natCast_add]; rfl
            case measure => show s.size - ((k : Int) + 1).toNat < s.size - ((k : Int)).toNat; omega
          · have d9 : decide ((8 : Int) < (k : Int) + 1) = true := by simp; omega
            have HRES := Lib.hid (show R = false from HL.out (by omega) (fun j hj => HI2.out j (by omega)))
            go_wp2_with (first | (go_at_call 48; refine (hlow _).mono ?_; rintro e w1 ⟨rfl, hb1⟩) | (go_at_call 47; refine (hdg _).mono ?_; rintro e w2 ⟨rfl, rfl⟩))
            go_ret2
            rw [HRES.out]
            exact ⟨⟨_, rfl, fun h => by cases h⟩, (by repeat (first | assumption | exact Below.refl _ _ | apply below_drew | apply pw_below_drewN | apply below_alloc | (refine below_via (by assumption) ?_)))⟩
    · have hks : k = s.size := by omega
      have HX := Lib.hid (HD.out k hk h8 hI.out (.inl hks))
      have d2 : ((k : Int) == (s.size : Int)) = true := by rw [beq_iff_eq, hks]
      by_cases hk0 : 0 < k
      · have d1 : decide ((0 : Int) < (k : Int)) = true := by simp; omega
        have HRES := Lib.hid (show R = true from by rw [HX.out.1, decide_eq_true hk0, decide_eq_true hks]; simp)
        clear hks
        go_wp2_with fail
        go_quiet (fail)
        go_wp2_with fail
        go_ret2
        rw [HRES.out]
        exact ⟨⟨n, rfl, fun h => by rw [hN.out, HX.out.2 HRES.out]⟩, (by repeat (first | assumption | exact Below.refl _ _ | apply below_drew | apply pw_below_drewN | apply below_alloc | (refine below_via (by assumption) ?_)))⟩
      · have d1 : decide ((0 : Int) < (k : Int)) = false := by simp; omega
        have HRES := Lib.hid (show R = false from by rw [HX.out.1, decide_eq_false hk0]; simp)
        clear hks
        go_wp2_with fail
        go_quiet (fail)
        go_wp2_with fail
        go_ret2
        rw [HRES.out]
        exact ⟨⟨n, rfl, fun h => by cases h⟩, (by repeat (first | assumption | exact Below.refl _ _ | apply below_drew | apply pw_below_drewN | apply below_alloc | (refine below_via (by assumption) ?_)))⟩
end
section
open Go.Sort Go.RowKit Go.Proofs Go.Proofs.YtjbehnalmgcbpaaGreatDoorW.PrintWords Go.Proofs.YtjbehnalmgcbpaaGreatDoor.Bs Go.Proofs.YtjbehnalmgcbpaaGreatDoor.Ir Go.Proofs.YtjbehnalmgcbpaaGreatDoor.Gn

theorem buf_below {B : Nat} {e : TypeId} {v : Value} {n : Nat} {xs : List Value} {W0 w w2 : World} (h : Lib.OwnBuf B e v n xs W0 w) (hb : Below w.heap.size w w2) : Lib.OwnBuf B e v n xs W0 w2 := by
  refine ⟨h.1.kept (grown_of_below hb none) ?_, h.2.1.grown (grown_of_below hb none) h.2.2 (fun k hk => by cases hk), Nat.le_trans h.2.2 hb.size⟩
  cases hv : v.ownBlock with
  | none => exact .inl rfl
  | some k => exact .inr (fun e => by cases e)
theorem buf_reads {B : Nat} {e : TypeId} {v : Value} {n : Nat} {acc : List UInt8} {W0 w : World} (h : Lib.OwnBuf B e v n (Lib.byteCells acc) W0 w) : ∃ A c, v = .slice A n c ∧ ReadsInt w .u8 A n (acc.map fun b => (b.toNat : Int)) := by
  have hl : (acc.map fun b => (b.toNat : Int)).length = n := by
    have := h.1.1
    rw [Lib.byteCells_length] at this
    rw [List.length_map]
    omega
  rcases h.1.2 with ⟨rfl, rfl⟩ | ⟨g, cap, cur, fz, rfl, _, _, _, h1, h2, _⟩
  · exact ⟨none, 0, rfl, hl, by omega, fun hp => absurd hp (by omega)⟩
  · refine ⟨_, cap, rfl, hl, by simp only [maxLen] at h2; omega, fun _ => ⟨_, rfl, fun j hj => h.1.cells (g := g) rfl j _ ?_⟩⟩
    rw [List.length_map] at hl
    unfold Lib.byteCells
    rw [List.getElem?_map, List.getD_eq_getElem?_getD, List.getElem?_map, List.getElem?_eq_getElem (show j < acc.length by omega)]
    rfl
theorem nums_acc (acc : List UInt8) : strOfNums (acc.map fun b => (b.toNat : Int)) = ⟨acc.toArray⟩ := by
  apply ByteArray.ext
  apply Array.ext'
  unfold strOfNums
  simp only [List.map_map]
  refine (List.map_congr_left (g := id) (fun b _ => ?_)).trans (List.map_id _)
  show UInt8.ofNat ((b.toNat : Int)).toNat = b
  rw [Int.toNat_natCast, UInt8.ofNat_toNat]
theorem takeP_by (s : ByteArray) (q : Nat) (n : Int) (hq : q ≤ s.size) (h0 : 0 ≤ n) : takeP s q n = if n ≤ (s.size : Int) - q then .ok (s.extract q (q + n.toNat), q + n.toNat) else .error 14 := by
  unfold takeP takeB
  have hr : (rest s q).size = s.size - q := rest_size
  by_cases h : n ≤ (s.size : Int) - q
  · rw [if_pos h, if_pos (by omega)]
    simp only [plus]
    congr 2
    apply ByteArray.ext
    apply Array.ext'
    rw [extract_l, rest_l, extract_mid s q (q + n.toNat) (by omega), show q + n.toNat - q = n.toNat from by omega]
  · rw [if_neg h, if_neg (by omega)]
    rfl
theorem take1_by (s : ByteArray) (q : Nat) : takeP s q 1 = if q < s.size then .ok (s.extract q (q + 1), q + 1) else (if q ≤ s.size then .error 14 else takeP s q 1) := by
  by_cases h : q ≤ s.size
  · rw [takeP_by s q 1 h (by omega)]
    by_cases h2 : q < s.size
    · rw [if_pos h2, if_pos (by omega)]; rfl
    · rw [if_neg h2, if_neg (by omega), if_pos h]
  · rw [if_neg (by omega), if_neg h]
theorem byte0_by (s : ByteArray) (q : Nat) (h : q < s.size) : byte0 (s.extract q (q + 1)) = byI s q := by
  have hk' : q < s.data.toList.length := h
  have e : s.extract q (q + 1) = ⟨#[s.data.toList[q]]⟩ := by
    rw [extract_mid s q (q + 1) (by omega), show q + 1 - q = 1 from by omega, ← List.getElem_cons_drop hk', List.take_succ_cons, List.take_zero]
  rw [e, byI_l s q hk']
  rfl
theorem crlf_by (s : ByteArray) (q : Nat) (hq : q ≤ s.size) : crlfP s q = if q < s.size then (if byI s q = 13 then (if q + 1 < s.size then (if byI s (q + 1) = 10 then .ok (s.extract (q + 1) (q + 2), q + 2) else .error 13) else .error 14) else .error 13) else .error 14 := by
  unfold crlfP
  rw [take1_by s q]
  by_cases h1 : q < s.size
  · rw [if_pos h1, if_pos h1]
    simp only [bindE]
    rw [byte0_by s q h1]
    by_cases h2 : byI s q = 13
    · rw [if_pos h2, if_pos h2, take1_by s (q + 1)]
      by_cases h3 : q + 1 < s.size
      · rw [if_pos h3, if_pos h3]
        simp only []
        rw [byte0_by s (q + 1) h3]
      · rw [if_neg h3, if_neg h3, if_pos (by omega)]
    · rw [if_neg h2, if_neg h2]
  · rw [if_neg h1, if_neg h1, if_pos hq]
    rfl
def ChPost (w : World) (R : Except Int (ByteArray × Nat)) (e : Ending) (w' : World) : Prop :=
  Below w.heap.size w w' ∧ match R with
    | .error y => ∃ b n, e = .returned (.tuple #[.string b, .int .i64 n, .int .i64 y])
    | .ok z => e = .returned (.tuple #[.string z.1, .int .i64 z.2, .int .i64 0])
set_option maxRecDepth 100000 in
set_option maxHeartbeats 8000000 in
theorem rchunks_any (s : ByteArray) (most : Int) (w : World) (hs : s.size ≤ 1073741824) (hm0 : 0 ≤ most) (hm1 : most ≤ 65536) :
    Calls Tryz.prog 93 #[.string s, .int .i64 most] w fun e w' => ChPost w (chunksP s most 0) e w' := by
  obtain ⟨R, hR0⟩ : ∃ R, chunksP s most 0 = R := ⟨_, rfl⟩
  rw [hR0]
  unfold chunksP at hR0
  have HR0 := Lib.hid hR0.symm
  clear hR0
  obtain ⟨iB, hiB, hiz⟩ := Option.map_eq_some_iff.1 (show (Tryz.prog.info? 5).map (fun i => (i.zero, i.size, i.bytes)) = some (some (.int .u8 0), 1, 1) by kernel_rfl)
  simp only [Prod.mk.injEq] at hiz
  obtain ⟨hz0, hz1, hz2⟩ := hiz
  have HIB := Lib.hid hiB
  clear hiB
  go_enter Tryz.func93, Tryz.ntmps93
  go_wp2_with fail
  go_loopw [7, 8, 17] (fun vo vq vi wr => ∃ (acc : List UInt8) (q F : Nat) (A : Option Addr) (c : Nat), vo = .slice A acc.length c ∧ vq = .int .i64 q ∧ q ≤ s.size ∧ acc.length ≤ 1073741824 ∧ Hid (acc.length ≤ q ∧ s.size < F + q) ∧ Hid (R = chunksGo s most F q acc) ∧ Hid (Lib.OwnBuf w.heap.size 5 (.slice A acc.length c) acc.length (Lib.byteCells acc) w wr)) (fun _ vq _ _ => s.size - (intOf vq).toNat)
  case atStart => exact ⟨[], 0, s.size + 1, none, 0, rfl, rfl, by omega, by simp, Lib.hid ⟨by simp, by omega⟩, HR0, Lib.hid ⟨World.ownsRowF_nil _ _ _ _, Below.refl _ _, Nat.le_refl _⟩⟩
  case round =>
    obtain ⟨acc, q, F, A, c, rfl, rfl, hq, hal, hQ, hE, hO⟩ := hrel
    have hb : Below w.heap.size w wr := hO.out.2.1
    obtain ⟨F', rfl⟩ : ∃ F', F = F' + 1 := ⟨F - 1, by have := hQ.out; omega⟩
    have hln := fun W => rline_any (rest s q) W (by rw [rest_size]; omega)
    have hqn : ((q : Int)).toNat = q := by omega
    have HLP := Lib.hid (show lineP s q = plus q (lineB (rest s q)) from rfl)
    have HLOK := Lib.hid (fun x q' => @lineP_ok s x q q' hq)
    have HEOK := Lib.hid (eok_line s q)
    have hE1 := hE.out
    rw [chunksGo] at hE1
    have HE1 := Lib.hid hE1
    clear hE hE1
    generalize lineP s q = LP at *
    generalize hLB : lineB (rest s q) = LB at *
    clear hLB
    cases LB with
    | error y =>
      have HRES := Lib.hid (show R = .error y from by rw [HE1.out, HLP.out]; rfl)
      clear HE1
      simp only [lineR] at hln
      have hy0 : (y != 0) = true := eok_ne HEOK.out (HLP.out.trans rfl)
      go_wp2_with (go_at_call 42; refine (hln _).mono ?_; rintro e w1 ⟨rfl, rfl⟩)
      go_ret3
      rw [HRES.out]
      exact ⟨(by repeat (first | assumption | exact Below.refl _ _ | apply below_drew | apply pw_below_drewN | apply below_alloc | (refine below_via (by assumption) ?_))), _, _, rfl⟩
    | ok z =>
      obtain ⟨x, k⟩ := z
      obtain ⟨hk1, hk2, hxs⟩ := HLOK.out x (q + k) (HLP.out.trans rfl)
      simp only [lineR] at hln
      have HE2 := Lib.hid (show R = (if chunkOk (digitsOf x) then
        if hexN (bl (digitsOf x)) ≤ most - acc.length then
          if hexN (bl (digitsOf x)) = 0 then bindE (headsP s (q + k)) fun _ q' => .ok (⟨acc.toArray⟩, q')
          else bindE (takeP s (q + k) (hexN (bl (digitsOf x)))) fun t q1 => bindE (crlfP s q1) fun _ q2 => chunksGo s most F' q2 (acc ++ t.data.toList)
        else .error 4
      else .error 13) from by rw [HE1.out, HLP.out]; rfl)
      clear HE1 HLP HLOK HEOK
      have hsz := fun W => rsize_any x W (by omega)
      have HNR := Lib.hid (hexN_range (digitsOf x))
      obtain ⟨N, hN⟩ : ∃ N, hexN (bl (digitsOf x)) = N := ⟨_, rfl⟩
      rw [hN] at HE2 hsz HNR
      clear hN
      generalize hC : chunkOk (digitsOf x) = C at *
      clear hC
      cases C with
      | false =>
        have HRES := Lib.hid (show R = .error 13 from by rw [HE2.out]; rfl)
        clear HE2
        go_wp2_with (first | (go_at_call 42; refine (hln _).mono ?_; rintro e w1 ⟨rfl, rfl⟩) | (go_at_call 123; refine (hsz _).mono ?_; rintro e w2 ⟨⟨n, rfl, _⟩, hb2⟩))
        go_ret3
        rw [HRES.out]
        exact ⟨(by repeat (first | assumption | exact Below.refl _ _ | apply below_drew | apply pw_below_drewN | apply below_alloc | (refine below_via (by assumption) ?_))), _, _, rfl⟩
      | true =>
        have hN0 := (HNR.out rfl).2.2.2.2.1
        have hN1 := (HNR.out rfl).2.2.2.2.2
        have HE3 := Lib.hid (show R = (if N ≤ most - acc.length then
          if N = 0 then bindE (headsP s (q + k)) fun _ q' => .ok (⟨acc.toArray⟩, q')
          else bindE (takeP s (q + k) N) fun t q1 => bindE (crlfP s q1) fun _ q2 => chunksGo s most F' q2 (acc ++ t.data.toList)
        else .error 4) from by rw [HE2.out]; rfl)
        clear HE2 HNR
        by_cases hle : N ≤ most - acc.length
        · have d1 : decide (most - (acc.length : Int) < N) = false := by simp; omega
          have HE4 := Lib.hid (show R = (if N = 0 then bindE (headsP s (q + k)) fun _ q' => .ok (⟨acc.toArray⟩, q')
            else bindE (takeP s (q + k) N) fun t q1 => bindE (crlfP s q1) fun _ q2 => chunksGo s most F' q2 (acc ++ t.data.toList)) from by rw [HE3.out, if_pos hle])
          clear HE3 hle
          have hqk : ((q : Int) + (k : Int)).toNat = q + k := by omega
          have hqk0 : (q : Int) + (k : Int) ≤ s.size := by omega
          by_cases hN00 : N = 0
          · subst hN00
            have HE5 := Lib.hid (show R = bindE (headsP s (q + k)) fun _ q' => .ok (⟨acc.toArray⟩, q') from by rw [HE4.out, if_pos rfl])
            have HSH := Lib.hid (headsP_shift s (q + k) 0 hk2 (by omega))
            have hrh := fun W => readHeads_any (rest s (q + k)) W (by rw [rest_size]; omega)
            have hcv : ∀ W, Below wr.heap.size wr W → (convert 42 9 (.slice A acc.length c)).run Tryz.prog W = .ok (.string ⟨acc.toArray⟩) W := by
              intro W hW
              obtain ⟨A', c', e, hr⟩ := buf_reads (buf_below hO.out hW)
              simp only [Value.slice.injEq] at e
              obtain ⟨rfl, _, rfl⟩ := e
              rw [← nums_acc]
              exact string_of_reads Tu_bytes Tu_byte Tu_string hr
            clear HE4
            have HHO := Lib.hid (fun l q' h => (@headsP_ok (rest s (q + k)) (by rw [rest_size]; omega) 0 (by omega) l q' h).2.2.2)
            generalize headsP (rest s (q + k)) 0 = HP at *
            generalize headsP s (q + k) = HP0 at *
            cases HP with
            | error y =>
              have HRES := Lib.hid (show R = .error y from by rw [HE5.out, HSH.out]; rfl)
              clear HE5
              go_wp2_with (first | (go_at_call 42; refine (hln _).mono ?_; rintro e w1 ⟨rfl, rfl⟩) | (go_at_call 123; refine (hsz _).mono ?_; rintro e w2 ⟨⟨n, rfl, hnN⟩, hb2⟩; obtain rfl := hnN (by trivial)) | (go_at_call 73; refine (hrh _).mono ?_; rintro e w5 ⟨hb5, rfl⟩; have hcv5 := hcv w5 (by repeat (first | assumption | exact Below.refl _ _ | apply below_drew | apply pw_below_drewN | apply below_alloc | (refine below_via (by assumption) ?_)))))
              go_ret3
              rw [HRES.out]
              exact ⟨(by repeat (first | assumption | exact Below.refl _ _ | apply below_drew | apply pw_below_drewN | apply below_alloc | (refine below_via (by assumption) ?_))), _, _, rfl⟩
            | ok z =>
              obtain ⟨l, q'⟩ := z
              have hq5 : q' ≤ 1073741824 := by have := HHO.out l q' rfl; rw [rest_size] at this; omega
              have HRES := Lib.hid (show R = .ok (⟨acc.toArray⟩, q + k + q') from by rw [HE5.out, HSH.out]; rfl)
              clear HE5
              go_wp2_with (first | (go_at_call 42; refine (hln _).mono ?_; rintro e w1 ⟨rfl, rfl⟩) | (go_at_call 123; refine (hsz _).mono ?_; rintro e w2 ⟨⟨n, rfl, hnN⟩, hb2⟩; obtain rfl := hnN (by trivial)) | (go_at_call 73; refine (hrh _).mono ?_; rintro e w5 ⟨hb5, A5, c5, rfl, hC5⟩; have hcv5 := hcv w5 (by repeat (first | assumption | exact Below.refl _ _ | apply below_drew | apply pw_below_drewN | apply below_alloc | (refine below_via (by assumption) ?_)))))
              go_ret3
              rw [HRES.out]
              exact ⟨(by repeat (first | assumption | exact Below.refl _ _ | apply below_drew | apply pw_below_drewN | apply below_alloc | (refine below_via (by assumption) ?_))), by simp⟩
          · have HE5 := Lib.hid (show R = bindE (takeP s (q + k) N) fun t q1 => bindE (crlfP s q1) fun _ q2 => chunksGo s most F' q2 (acc ++ t.data.toList) from by rw [HE4.out, if_neg hN00])
            have HTP := Lib.hid (takeP_by s (q + k) N hk2 hN0)
            clear HE4
            have dN : (N == 0) = false := by rw [beq_eq_false_iff_ne]; exact hN00
            obtain ⟨m, rfl⟩ : ∃ m : Nat, N = (m : Int) := ⟨N.toNat, by omega⟩
            clear hN00 hN0
            by_cases hfit : q + k + m ≤ s.size
            · have HE6 := Lib.hid (show R = bindE (crlfP s (q + k + m)) fun _ q2 => chunksGo s most F' q2 (acc ++ (s.extract (q + k) (q + k + m)).data.toList) from by rw [HE5.out, HTP.out, if_pos (by omega)]; rfl)
              have d2 : decide ((s.size : Int) - ((q : Int) + (k : Int)) < (m : Int)) = false := by simp; omega
              have hqm : ((q : Int) + (k : Int) + (m : Int)).toNat = q + k + m := by omega
              have hqm1 : (q : Int) + (k : Int) + (m : Int) ≤ s.size := by omega
              have hqm2 : (q : Int) + (k : Int) ≤ (q : Int) + (k : Int) + (m : Int) := by omega
              have HCR := Lib.hid (crlf_by s (q + k + m) hfit)
              clear HE5 HTP
              go_wp2_with (first | (go_at_call 42; refine (hln _).mono ?_; rintro e w1 ⟨rfl, rfl⟩) | (go_at_call 123; refine (hsz _).mono ?_; rintro e w2 ⟨⟨n, rfl, hnN⟩, hb2⟩; obtain rfl := hnN (by trivial)) | (at_builtin; refine Lib.wpList_append_text rfl (.tmp 67) (.tmp 73) 42 9 rfl w.heap.size 5 iB Tu_bytes Tu_string HIB.out hz0 hz1 hz2 (.slice A acc.length c) acc.length (Lib.byteCells acc) rfl w (buf_below hO.out hb2) (s.extract (q + k) (q + k + m)) rfl ?c1 ?_))
              case c1 => rw [ByteArray.size_extract]; omega
              intro v' w7 hO7
              rw [Lib.strCells_eq, ← Lib.byteCells_append] at hO7
              have eZ : acc.length + m = (acc ++ (s.extract (q + k) (q + k + m)).data.toList).length := by rw [List.length_append, show (s.extract (q + k) (q + k + m)).data.toList.length = (s.extract (q + k) (q + k + m)).size from rfl, ByteArray.size_extract]; omega
              rw [eZ] at hO7
              obtain ⟨A7, c7, rfl, _⟩ := buf_reads hO7
              have HO7 := Lib.hid hO7
              have HAL := Lib.hid (show (acc ++ (s.extract (q + k) (q + k + m)).data.toList).length = acc.length + m from eZ.symm)
              clear hO7 eZ
              generalize acc ++ (s.extract (q + k) (q + k + m)).data.toList = acc2 at *
              obtain ⟨P, hP⟩ : ∃ P, q + k + m = P := ⟨_, rfl⟩
              have hPi : (q : Int) + (k : Int) + (m : Int) = (P : Int) := by omega
              rw [hP] at HE6 HCR hfit
              have HP := Lib.hid hP
              have HPI := Lib.hid hPi
              clear hP hPi
              go_wp2_with fail
              go_loopw [8, 17] (fun va vi wr2 => ∃ j p : Nat, j ≤ 2 ∧ va = .int .i64 p ∧ vi = .int .i64 j ∧ Hid (p = P + j) ∧ p ≤ s.size ∧ Hid ((0 < j → byI s P = 13) ∧ (1 < j → byI s (P + 1) = 10)) ∧ Hid (Lib.OwnBuf w.heap.size 5 (.slice A7 acc2.length c7) acc2.length (Lib.byteCells acc2) w wr2)) (fun va vi _ => 2 - (intOf vi).toNat)
              case atStart => exact ⟨0, P, by omega, by rw [← HPI.out], rfl, Lib.hid rfl, by omega, Lib.hid ⟨fun h => by omega, fun h => by omega⟩, HO7⟩
              case round =>
                obtain ⟨j, p, hj, rfl, rfl, hp, hPj, hJ, hO2⟩ := hrel
                rcases (show j = 0 ∨ j = 1 ∨ j = 2 by omega) with rfl | rfl | rfl
                · by_cases hat : p < s.size
                  · have hx := byI_at s p hat
                    have hpn : ((p : Int)).toNat = p := by omega
                    have dat : decide ((s.size : Int) ≤ (p : Int)) = false := by simp; omega
                    by_cases hc : byI s p = 13
                    · have dc : (byI s p == 13) = true := by rw [beq_iff_eq]; exact hc
                      have dc2 : (byI s p != (((⟨#[13, 10]⟩ : ByteArray)[0]'(by decide)).toNat : Int)) = false := by rw [bne, show ((((⟨#[13, 10]⟩ : ByteArray)[0]'(by decide)).toNat : Int)) = 13 from rfl, dc]; rfl
                      have HJ2 := Lib.hid (show (0 < 1 → byI s P = 13) ∧ (1 < 1 → byI s (P + 1) = 10) from ⟨fun _ => by have e := hp.out; rw [Nat.add_zero] at e; rw [← e]; exact hc, fun h => by omega⟩)
                      clear hc
                      generalize byI s p = y at *
                      go_wp2_with fail
                      go_quiet (fail)
                      go_wp2_with fail
                      all_goals first | (exact ⟨⟨1, p + 1, by omega, rfl, rfl, Lib.hid (by rw [hp.out]), by omega, HJ2, Lib.hid (hO2.out.drewN _)⟩, by simp [intOf]⟩) | (go_roundw; exact ⟨1, p + 1, by omega, rfl, rfl, Lib.hid (by rw [hp.out]), by omega, HJ2, Lib.hid (hO2.out.drewN _)⟩; simp [intOf])
                    · have dc : (byI s p == 13) = false := by rw [beq_eq_false_iff_ne]; exact hc
                      have dc2 : (byI s p != (((⟨#[13, 10]⟩ : ByteArray)[0]'(by decide)).toNat : Int)) = true := by rw [bne, show ((((⟨#[13, 10]⟩ : ByteArray)[0]'(by decide)).toNat : Int)) = 13 from rfl, dc]; rfl
                      have HRES := Lib.hid (show R = .error 13 from by
                        have e := hp.out
                        rw [Nat.add_zero] at e; subst e; rw [HE6.out, HCR.out, if_pos hat, if_neg hc]; rfl)
                      have hb9 := hO2.out.2.1
                      clear hc
                      generalize byI s p = y at *
                      go_wp2_with fail
                      go_quiet (fail)
                      go_wp2_with fail
                      go_ret3
                      rw [HRES.out]
                      exact ⟨(by repeat (first | assumption | exact Below.refl _ _ | apply below_drew | apply pw_below_drewN | apply below_alloc | (refine below_via (by assumption) ?_))), _, _, rfl⟩
                  · have dat : decide ((s.size : Int) ≤ (p : Int)) = true := by simp; omega
                    have HRES := Lib.hid (show R = .error 14 from by
                      have e := hp.out
                      rw [Nat.add_zero] at e; subst e; rw [HE6.out, HCR.out, if_neg hat]; rfl)
                    have hb9 := hO2.out.2.1
                    go_wp2_with fail
                    go_ret3
                    rw [HRES.out]
                    exact ⟨(by repeat (first | assumption | exact Below.refl _ _ | apply below_drew | apply pw_below_drewN | apply below_alloc | (refine below_via (by assumption) ?_))), _, _, rfl⟩
                · by_cases hat : p < s.size
                  · have hx := byI_at s p hat
                    have hpn : ((p : Int)).toNat = p := by omega
                    have dat : decide ((s.size : Int) ≤ (p : Int)) = false := by simp; omega
                    by_cases hc : byI s p = 10
                    · have dc : (byI s p == 10) = true := by rw [beq_iff_eq]; exact hc
                      have dc2 : (byI s p != (((⟨#[13, 10]⟩ : ByteArray)[1]'(by decide)).toNat : Int)) = false := by rw [bne, show ((((⟨#[13, 10]⟩ : ByteArray)[1]'(by decide)).toNat : Int)) = 10 from rfl, dc]; rfl
                      have HJ2 := Lib.hid (show (0 < 2 → byI s P = 13) ∧ (1 < 2 → byI s (P + 1) = 10) from ⟨fun _ => hJ.out.1 (by omega), fun _ => by rw [← hp.out]; exact hc⟩)
                      clear hc
                      generalize byI s p = y at *
                      go_wp2_with fail
                      go_quiet (fail)
                      go_wp2_with fail
                      all_goals first | (exact ⟨⟨2, p + 1, by omega, rfl, rfl, Lib.hid (by rw [hp.out]), by omega, HJ2, Lib.hid (hO2.out.drewN _)⟩, by simp [intOf]⟩) | (go_roundw; exact ⟨2, p + 1, by omega, rfl, rfl, Lib.hid (by rw [hp.out]), by omega, HJ2, Lib.hid (hO2.out.drewN _)⟩; simp [intOf])
                    · have dc : (byI s p == 10) = false := by rw [beq_eq_false_iff_ne]; exact hc
                      have dc2 : (byI s p != (((⟨#[13, 10]⟩ : ByteArray)[1]'(by decide)).toNat : Int)) = true := by rw [bne, show ((((⟨#[13, 10]⟩ : ByteArray)[1]'(by decide)).toNat : Int)) = 10 from rfl, dc]; rfl
                      have HRES := Lib.hid (show R = .error 13 from by
                        have e := hp.out
                        subst e; rw [HE6.out, HCR.out, if_pos (by omega), if_pos (hJ.out.1 (by omega)), if_pos hat, if_neg hc]; rfl)
                      have hb9 := hO2.out.2.1
                      clear hc
                      generalize byI s p = y at *
                      go_wp2_with fail
                      go_quiet (fail)
                      go_wp2_with fail
                      go_ret3
                      rw [HRES.out]
                      exact ⟨(by repeat (first | assumption | exact Below.refl _ _ | apply below_drew | apply pw_below_drewN | apply below_alloc | (refine below_via (by assumption) ?_))), _, _, rfl⟩
                  · have dat : decide ((s.size : Int) ≤ (p : Int)) = true := by simp; omega
                    have HRES := Lib.hid (show R = .error 14 from by
                      have e := hp.out
                      subst e; rw [HE6.out, HCR.out, if_pos (by omega), if_pos (hJ.out.1 (by omega)), if_neg hat]; rfl)
                    have hb9 := hO2.out.2.1
                    go_wp2_with fail
                    go_ret3
                    rw [HRES.out]
                    exact ⟨(by repeat (first | assumption | exact Below.refl _ _ | apply below_drew | apply pw_below_drewN | apply below_alloc | (refine below_via (by assumption) ?_))), _, _, rfl⟩
                · have HEN := Lib.hid (show R = chunksGo s most F' p acc2 from by
                    have e := hp.out
                    subst e
                    rw [HE6.out, HCR.out, if_pos (by omega), if_pos (hJ.out.1 (by omega)), if_pos (by omega), if_pos (hJ.out.2 (by omega))]
                    rfl)
                  have hpq : q < p := by have := hp.out; have := HP.out; omega
                  have hal2 : acc2.length ≤ p := by have := hp.out; have := HP.out; have := HAL.out; have := hQ.out; omega
                  have HQ2 := Lib.hid (show acc2.length ≤ p ∧ s.size < F' + p from ⟨hal2, by have := hQ.out; omega⟩)
                  have HAL2 := Lib.hid (show acc2.length ≤ 1073741824 by omega)
                  clear hal2
                  go_wp2_with fail
                  go_roundw
                  case rel => exact ⟨acc2, p, F', A7, c7, rfl, rfl, hPj, HAL2.out, HQ2, HEN, hO2⟩
                  case measure => show s.size - ((p : Int)).toNat < s.size - ((q : Int)).toNat; omega
            · have HRES := Lib.hid (show R = .error 14 from by rw [HE5.out, HTP.out, if_neg (by omega)]; rfl)
              have d2 : decide ((s.size : Int) - ((q : Int) + (k : Int)) < (m : Int)) = true := by simp; omega
              clear HE5 HTP hfit
              go_wp2_with (first | (go_at_call 42; refine (hln _).mono ?_; rintro e w1 ⟨rfl, rfl⟩) | (go_at_call 123; refine (hsz _).mono ?_; rintro e w2 ⟨⟨n, rfl, hnN⟩, hb2⟩; obtain rfl := hnN (by trivial)))
              go_ret3
              rw [HRES.out]
              exact ⟨(by repeat (first | assumption | exact Below.refl _ _ | apply below_drew | apply pw_below_drewN | apply below_alloc | (refine below_via (by assumption) ?_))), _, _, rfl⟩
        · have d1 : decide (most - (acc.length : Int) < N) = true := by simp; omega
          have HRES := Lib.hid (show R = .error 4 from by rw [HE3.out, if_neg hle])
          clear HE3 hle
          go_wp2_with (first | (go_at_call 42; refine (hln _).mono ?_; rintro e w1 ⟨rfl, rfl⟩) | (go_at_call 123; refine (hsz _).mono ?_; rintro e w2 ⟨⟨n, rfl, hnN⟩, hb2⟩; obtain rfl := hnN (by trivial)))
          go_ret3
          rw [HRES.out]
          exact ⟨(by repeat (first | assumption | exact Below.refl _ _ | apply below_drew | apply pw_below_drewN | apply below_alloc | (refine below_via (by assumption) ?_))), _, _, rfl⟩
end
end Go.Proofs.YtjbehnalmgcbpaaGreatDoor.Ht
