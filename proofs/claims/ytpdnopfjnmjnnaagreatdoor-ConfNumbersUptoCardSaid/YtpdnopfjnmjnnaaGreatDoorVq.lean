/- The reference's numbers with units; The reference's Millis and Bytes. -/
import Derived.Test.YtpdnopfjnmjnnaaGreatDoorVd
set_option linter.unusedVariables false
set_option linter.unusedSimpArgs false
namespace Go.Proofs.YtpdnopfjnmjnnaaGreatDoor.Cn
section
open Go.Sort Go.RowKit Go.Proofs Go.Proofs.YtpdnopfjnmjnnaaGreatDoorW.PrintWords Go.Proofs.YtpdnopfjnmjnnaaGreatDoor.Bs Go.Proofs.YtpdnopfjnmjnnaaGreatDoor.Ir Go.Proofs.YtpdnopfjnmjnnaaGreatDoor.Cz

theorem digit_any (b : UInt8) (w : World) : Calls Tryz.prog 36 #[.int .u8 (b.toNat : Int)] w fun e w' => e = .returned (.bool (isDig b)) ∧ w = w' := by
  have hlt := b.toNat_lt
  unfold isDig
  generalize b.toNat = n at *
  by_cases h1 : 48 ≤ n
  all_goals by_cases h2 : n ≤ 57
  all_goals first
    | (exfalso; omega; done)
    | (go_enter Tryz.func36, Tryz.ntmps36
       go_wp2_with fail
       go_ret
       exact ⟨by simp [h1, h2] <;> omega, rfl⟩)
theorem numOf_snoc (l : List UInt8) (c : UInt8) : ∀ a, numOf a (l ++ [c]) = numOf a l * 10 + (c.toNat - 48) := by
  induction l with
  | nil => intro a; rfl
  | cons b r ih => intro a; exact ih (a * 10 + (b.toNat - 48))
/-- The digits at the head, what they are worth, what is behind them; none if they are more than nine. -/
def numL (l : List UInt8) : Nat × List UInt8 × Bool := if 9 < (digS l).length then (0, [], false) else (numOf 0 (digS l), restS l, !(digS l).isEmpty)
theorem take_dig (l : List UInt8) (k : Nat) (hk : k < l.length) (h : k ≤ (digS l).length) (hd : isDig l[k] = true) : k + 1 ≤ (digS l).length := by
  rcases Nat.lt_or_ge k (digS l).length with h1 | h1
  · exact h1
  · exfalso
    have e : k = (digS l).length := by omega
    have h2 := takeWhile_end isDig 120 (by decide) l (by
      show (digS l).length < _
      simp
      omega)
    have h3 : (List.takeWhile isDig l).length = k := e.symm
    simp only [h3] at h2
    rw [List.getElem_append_left hk, hd] at h2
    cases h2
theorem end_dig (l : List UInt8) (k : Nat) (hk : k < l.length) (h : k ≤ (digS l).length) (hd : isDig l[k] = false) : k = (digS l).length := by
  rcases Nat.lt_or_ge k (digS l).length with h1 | h1
  · exfalso
    have h2 := digS_all l (digS l)[k] (List.getElem_mem h1)
    have h3 : (digS l)[k] = l[k] := by
      have := (dig_split l).1
      have e : (digS l)[k]'h1 = (l.take (digS l).length)[k]'(by rw [this]; exact h1) := by simp [this]
      rw [e, List.getElem_take]
    rw [h3, hd] at h2
    cases h2
  · omega
theorem take_eq (l : List UInt8) (k : Nat) (h : k = (digS l).length) : l.take k = digS l := by rw [h]; exact (dig_split l).1
theorem num_end (s : ByteArray) (R : Nat × List UInt8 × Bool) (hR : R = numL s.data.toList) (k : Nat) (hke : k = (digS s.data.toList).length) (hk9 : k ≤ 9) : R.1 = numOf 0 (s.data.toList.take k) ∧ bsOf R.2.1 = s.extract k s.size ∧ R.2.2 = decide (0 < k) := by
  have e : R = (numOf 0 (s.data.toList.take k), restS s.data.toList, !(digS s.data.toList).isEmpty) := by
    rw [hR]
    unfold numL
    rw [if_neg (by omega), take_eq _ _ hke]
  have hx1 : s.extract k s.size = bsOf (restS s.data.toList) := by
    rw [← (dig_split s.data.toList).2, ← hke]
    apply ByteArray.ext
    apply Array.ext'
    simp [bsOf]
    refine List.take_of_length_le ?_
    rw [List.length_drop]
    exact Nat.le_refl _
  have hk0 : decide (0 < k) = !(digS s.data.toList).isEmpty := by
    rw [hke]
    cases digS s.data.toList <;> simp
  rw [e, hx1, hk0]
  exact ⟨rfl, rfl, rfl⟩
set_option maxRecDepth 100000 in
set_option maxHeartbeats 2000000 in
theorem number_any (s : ByteArray) (w : World) (hs : s.size ≤ 1073741824) : Calls Tryz.prog 22 #[.string s] w fun e w' => e = .returned (.tuple #[.int .u64 ((numL s.data.toList).1 : Int), .string (bsOf (numL s.data.toList).2.1), .bool (numL s.data.toList).2.2]) ∧ Below w.heap.size w w' := by
  have hsz : s.data.toList.length = s.size := rfl
  obtain ⟨R, hR⟩ : ∃ R, R = numL s.data.toList := ⟨_, rfl⟩
  rw [← hR]
  have HR := Lib.hid hR
  have HSZ := Lib.hid hsz
  clear hR hsz
  go_enter Tryz.func22, Tryz.ntmps22
  go_wp2_with fail
  go_loopw [5, 6] (fun nv iv wr => ∃ k : Nat, k ≤ (digS s.data.toList).length ∧ k ≤ 9 ∧ k ≤ s.size ∧ nv = .int .u64 (numOf 0 (s.data.toList.take k) : Nat) ∧ iv = .int .i64 k ∧ w = wr) (fun _ iv _ => s.size - (intOf iv).toNat)
  case atStart => exact ⟨0, Nat.zero_le _, by omega, Nat.zero_le _, rfl, rfl, rfl⟩
  case round =>
    obtain ⟨k, hk, hk9, hks, rfl, rfl, rfl⟩ := hrel
    have hwr : IntKind.i64.wrap ((k : Int) + 1) = (k : Int) + 1 := IntWalk.i64_in _ (by omega)
    by_cases hlt : k < s.size
    · have hdg := digit_any (s[k]'hlt) w
      obtain ⟨b, hb⟩ : ∃ b, b = isDig (s[k]'hlt) := ⟨_, rfl⟩
      rw [← hb] at hdg
      have hsk : s[k]'hlt = s.data.toList[k]'(by rw [HSZ.out]; exact hlt) := rfl
      cases b
      · have hke := end_dig s.data.toList k (by rw [HSZ.out]; exact hlt) hk (by rw [← hsk]; exact hb.symm)
        have HRE := Lib.hid (num_end s R HR.out k hke hk9)
        have hkz : k ≤ s.size := hks
        clear hb hsk hke hk
        go_wp2_with (go_at_call 36; refine hdg.mono ?_; rintro e w1 ⟨rfl, rfl⟩)
        clear hdg
        go_quiet (fail)
        go_wp2_with fail
        refine bodyPost_ret (v := .tuple #[.int .u64 ((numOf 0 (s.data.toList.take k) : Nat) : Int), .string (s.extract k s.size), .bool (decide (0 < k))]) (by simp [results, Tryz.results22, go_sem]) rfl ⟨by rw [HRE.out.1, HRE.out.2.1, HRE.out.2.2], pw_below_drewN (Below.refl _ _) nq⟩
      · have hke := take_dig s.data.toList k (by rw [HSZ.out]; exact hlt) hk (by rw [← hsk]; exact hb.symm)
        by_cases h9 : k = 9
        · subst h9
          have hr : R = (0, [], false) := by
            rw [HR.out]
            unfold numL
            rw [if_pos (by omega)]
          have HRE := Lib.hid hr
          clear hb hsk hke hr
          go_wp2_with (go_at_call 36; refine hdg.mono ?_; rintro e w1 ⟨rfl, rfl⟩)
          refine bodyPost_ret (v := .tuple #[.int .u64 0, .string ⟨#[]⟩, .bool false]) (by simp [results, Tryz.results22, go_sem]) rfl ⟨by rw [HRE.out]; rfl, Below.refl _ _⟩
        · have hk9' : ((k : Int) == 9) = false := by simp; omega
          have hdb : isDig (s[k]'hlt) = true := hb.symm
          have hbd : 48 ≤ (s[k]'hlt).toNat ∧ (s[k]'hlt).toNat ≤ 57 := by
            unfold isDig at hdb
            simpa using hdb
          have hnk : numOf 0 (s.data.toList.take (k + 1)) = numOf 0 (s.data.toList.take k) * 10 + ((s[k]'hlt).toNat - 48) := by
            rw [← List.take_append_getElem (by rw [HSZ.out]; exact hlt), numOf_snoc]
            rfl
          have hbn : numOf 0 (s.data.toList.take k) < 10 ^ 9 := by
            have h1 := numOf_lt (s.data.toList.take k) 0 0 (fun b hb => digS_all s.data.toList b (by
              have : s.data.toList.take k = (digS s.data.toList).take k := by
                rw [← (dig_split s.data.toList).1, List.take_take, Nat.min_eq_left hk]
              rw [this] at hb
              exact List.mem_of_mem_take hb)) (by decide)
            rw [List.length_take] at h1
            exact Nat.lt_of_lt_of_le h1 (Nat.pow_le_pow_right (by decide) (by omega))
          have hsn : (s[k]'hlt).toNat < 256 := (s[k]'hlt).toNat_lt
          have HNK := Lib.hid hnk
          have HKE := Lib.hid hke
          clear hb hsk hke hnk hdb
          have HK8 := Lib.hid (show k + 1 ≤ 9 by omega)
          obtain ⟨m, hm⟩ : ∃ m, m = numOf 0 (s.data.toList.take k) := ⟨_, rfl⟩
          rw [← hm] at hbn
          obtain ⟨z, hz⟩ : ∃ z, z = (s[k]'hlt).toNat - 48 := ⟨_, rfl⟩
          have hw0 : IntKind.u8.wrap (((s[k]'hlt).toNat : Int) - 48) = (z : Int) := by
            rw [show (((s[k]'hlt).toNat : Int) - 48) = (z : Int) by omega]
            exact IntWalk.u8_in _ (by omega)
          have hw1 : IntKind.u64.wrap (10 * (m : Int)) = 10 * (m : Int) := IntWalk.u64_in _ (by omega)
          have hw2 : IntKind.u64.wrap (z : Int) = (z : Int) := IntWalk.u64_in _ (by omega)
          have hw3 : IntKind.u64.wrap (10 * (m : Int) + (z : Int)) = 10 * (m : Int) + (z : Int) := IntWalk.u64_in _ (by omega)
          have HNZ := Lib.hid (show ((numOf 0 (s.data.toList.take (k + 1)) : Nat) : Int) = 10 * (m : Int) + (z : Int) by rw [HNK.out, ← hm]; omega)
          rw [← hm]
          clear hm hz hbd hbn hsn h9
          go_wp2_with (go_at_call 36; refine hdg.mono ?_; rintro e w1 ⟨rfl, rfl⟩)
          go_roundw
          case rel => exact ⟨k + 1, HKE.out, HK8.out, by omega, by rw [HNZ.out], by simp, trivial⟩
          case measure => simp [intOf]; omega
    · have hkl : k = s.size := by omega
      have hke : k = (digS s.data.toList).length := by
        have : (digS s.data.toList).length ≤ s.data.toList.length := (List.takeWhile_prefix isDig).length_le
        have := HSZ.out
        omega
      have HRE := Lib.hid (num_end s R HR.out k hke hk9)
      have hkz : k ≤ s.size := hks
      clear hke hk hkl
      go_wp2_with fail
      go_quiet (fail)
      go_wp2_with fail
      refine bodyPost_ret (v := .tuple #[.int .u64 ((numOf 0 (s.data.toList.take k) : Nat) : Int), .string (s.extract k s.size), .bool (decide (0 < k))]) (by simp [results, Tryz.results22, go_sem]) rfl ⟨by rw [HRE.out.1, HRE.out.2.1, HRE.out.2.2], pw_below_drewN (Below.refl _ _) nq⟩
end
section
open Go.Sort Go.RowKit Go.Proofs Go.Proofs.YtpdnopfjnmjnnaaGreatDoorW.PrintWords Go.Proofs.YtpdnopfjnmjnnaaGreatDoor.Bs Go.Proofs.YtpdnopfjnmjnnaaGreatDoor.Ir Go.Proofs.YtpdnopfjnmjnnaaGreatDoor.Cz

theorem ne_lit {u a : List UInt8} (h : u ≠ a) : ((bsOf u).toList == a) = false := by
  rw [Lib.toList_data]
  rw [beq_eq_false_iff_ne]
  exact h
/-- What the number at the head says of the whole. -/
theorem num_cases (c : Nat) (l : List UInt8) : (numL l = (0, [], false) ∨ ∃ n u, numL l = (n, u, false)) ∧ unitL c l = none ∨ ∃ n, n < 1000000000 ∧ numL l = (n, restS l, true) ∧ unitL c l = if c = 0 then none else some (n * c) := by
  unfold numL unitL
  by_cases h9 : 9 < (digS l).length
  · left
    rw [if_pos h9]
    refine ⟨.inl rfl, ?_⟩
    rw [if_pos (by simp [h9])]
  · rw [if_neg h9]
    cases he : (digS l).isEmpty
    · right
      refine ⟨numOf 0 (digS l), ?_, rfl, ?_⟩
      · have := numOf_lt (digS l) 0 0 (digS_all l) (by decide)
        exact Nat.lt_of_lt_of_le this (Nat.pow_le_pow_right (by decide) (by omega : 0 + (digS l).length ≤ 9))
      · by_cases hc : c = 0
        · rw [if_pos (by simp [hc]), if_pos hc]
        · rw [if_neg (by simp [hc]; omega), if_neg hc]
    · left
      exact ⟨.inr ⟨_, _, rfl⟩, by rw [if_pos (by simp)]⟩
set_option maxRecDepth 100000 in
theorem rmillis_any (s : ByteArray) (w : World) (hs : s.size ≤ 1073741824) : Calls Tryz.prog 11 #[.string s] w fun e w' => e = .returned (unitV (millisL s.data.toList)) ∧ Below w.heap.size w w' := by
  have hn := number_any s w hs
  obtain ⟨R, hR⟩ : ∃ R, R = unitV (millisL s.data.toList) := ⟨_, rfl⟩
  rw [← hR]
  rcases num_cases (tabN millisT (restS s.data.toList)) s.data.toList with ⟨h1, h2⟩ | ⟨n, hlt, h1, h2⟩
  · obtain ⟨n0, u0, h1⟩ : ∃ n0 u0, numL s.data.toList = (n0, u0, false) := by
      rcases h1 with h1 | ⟨n0, u0, h1⟩
      · exact ⟨_, _, h1⟩
      · exact ⟨_, _, h1⟩
    rw [h1] at hn
    have HR := Lib.hid (show R = .tuple #[.int .u64 0, .int .i64 15] by rw [hR]; unfold millisL; rw [h2]; rfl)
    clear h1 h2 hR
    go_enter Tryz.func11, Tryz.ntmps11
    go_wp2_with (go_at_call 22; refine hn.mono ?_; rintro e w1 ⟨rfl, hb1⟩)
    refine bodyPost_ret (v := .tuple #[.int .u64 0, .int .i64 15]) (by simp [results, Tryz.results11, go_sem]) rfl ⟨by rw [HR.out], hb1⟩
  · rw [h1] at hn
    have hR2 : R = unitV (if tabN millisT (restS s.data.toList) = 0 then none else some (n * tabN millisT (restS s.data.toList))) := by rw [hR]; unfold millisL; rw [h2]
    clear h1 h2 hR
    generalize restS s.data.toList = u at *
    by_cases u0 : u = [109, 115]
    · subst u0
      rw [show tabN millisT [109, 115] = 1 from rfl, if_neg (by decide)] at hR2
      have HR := Lib.hid (show R = .tuple #[.int .u64 (n : Int), .int .i64 0] by rw [hR2]; show Value.tuple #[.int .u64 ((n * 1 : Nat) : Int), .int .i64 0] = _; rw [show ((n * 1 : Nat) : Int) = (n : Int) by omega])
      clear hR2
      rw [show bsOf [109, 115] = ⟨#[109, 115]⟩ from rfl] at hn
      go_enter Tryz.func11, Tryz.ntmps11
      go_wp2_with (go_at_call 22; refine hn.mono ?_; rintro e w1 ⟨rfl, hb1⟩)
      refine bodyPost_ret (v := .tuple #[.int .u64 (n), .int .i64 0]) (by simp [results, Tryz.results11, go_sem]) rfl ⟨by rw [HR.out], hb1⟩
    by_cases u1 : u = [115]
    · subst u1
      rw [show tabN millisT [115] = 1000 from rfl, if_neg (by decide)] at hR2
      have HR := Lib.hid (show R = .tuple #[.int .u64 (1000 * (n : Int) : Int), .int .i64 0] by rw [hR2]; show Value.tuple #[.int .u64 ((n * 1000 : Nat) : Int), .int .i64 0] = _; rw [show ((n * 1000 : Nat) : Int) = (1000 * (n : Int) : Int) by omega])
      clear hR2
      rw [show bsOf [115] = ⟨#[115]⟩ from rfl] at hn
      have hw : IntKind.u64.wrap (1000 * (n : Int)) = 1000 * (n : Int) := IntWalk.u64_in _ (by omega)
      go_enter Tryz.func11, Tryz.ntmps11
      go_wp2_with (go_at_call 22; refine hn.mono ?_; rintro e w1 ⟨rfl, hb1⟩)
      refine bodyPost_ret (v := .tuple #[.int .u64 (1000 * (n : Int)), .int .i64 0]) (by simp [results, Tryz.results11, go_sem]) rfl ⟨by rw [HR.out], hb1⟩
    by_cases u2 : u = [109]
    · subst u2
      rw [show tabN millisT [109] = 60000 from rfl, if_neg (by decide)] at hR2
      have HR := Lib.hid (show R = .tuple #[.int .u64 (60000 * (n : Int) : Int), .int .i64 0] by rw [hR2]; show Value.tuple #[.int .u64 ((n * 60000 : Nat) : Int), .int .i64 0] = _; rw [show ((n * 60000 : Nat) : Int) = (60000 * (n : Int) : Int) by omega])
      clear hR2
      rw [show bsOf [109] = ⟨#[109]⟩ from rfl] at hn
      have hw : IntKind.u64.wrap (60000 * (n : Int)) = 60000 * (n : Int) := IntWalk.u64_in _ (by omega)
      go_enter Tryz.func11, Tryz.ntmps11
      go_wp2_with (go_at_call 22; refine hn.mono ?_; rintro e w1 ⟨rfl, hb1⟩)
      refine bodyPost_ret (v := .tuple #[.int .u64 (60000 * (n : Int)), .int .i64 0]) (by simp [results, Tryz.results11, go_sem]) rfl ⟨by rw [HR.out], hb1⟩
    by_cases u3 : u = [104]
    · subst u3
      rw [show tabN millisT [104] = 3600000 from rfl, if_neg (by decide)] at hR2
      have HR := Lib.hid (show R = .tuple #[.int .u64 (3600000 * (n : Int) : Int), .int .i64 0] by rw [hR2]; show Value.tuple #[.int .u64 ((n * 3600000 : Nat) : Int), .int .i64 0] = _; rw [show ((n * 3600000 : Nat) : Int) = (3600000 * (n : Int) : Int) by omega])
      clear hR2
      rw [show bsOf [104] = ⟨#[104]⟩ from rfl] at hn
      have hw : IntKind.u64.wrap (3600000 * (n : Int)) = 3600000 * (n : Int) := IntWalk.u64_in _ (by omega)
      go_enter Tryz.func11, Tryz.ntmps11
      go_wp2_with (go_at_call 22; refine hn.mono ?_; rintro e w1 ⟨rfl, hb1⟩)
      refine bodyPost_ret (v := .tuple #[.int .u64 (3600000 * (n : Int)), .int .i64 0]) (by simp [results, Tryz.results11, go_sem]) rfl ⟨by rw [HR.out], hb1⟩
    have ht : tabN millisT u = 0 := by
      unfold tabN millisT
      simp [u0, u1, u2, u3]
    rw [ht, if_pos rfl] at hR2
    have HR := Lib.hid (show R = .tuple #[.int .u64 0, .int .i64 15] from hR2)
    have n0 : ((bsOf u).toList == ([109, 115] : List UInt8)) = false := ne_lit u0
    have n1 : ((bsOf u).toList == ([115] : List UInt8)) = false := ne_lit u1
    have n2 : ((bsOf u).toList == ([109] : List UInt8)) = false := ne_lit u2
    have n3 : ((bsOf u).toList == ([104] : List UInt8)) = false := ne_lit u3
    clear hR2 ht u0 u1 u2 u3
    go_enter Tryz.func11, Tryz.ntmps11
    go_wp2_with (go_at_call 22; refine hn.mono ?_; rintro e w1 ⟨rfl, hb1⟩)
    refine bodyPost_ret (v := .tuple #[.int .u64 0, .int .i64 15]) (by simp [results, Tryz.results11, go_sem]) rfl ⟨by rw [HR.out], hb1⟩
set_option maxRecDepth 100000 in
theorem rbytes_any (s : ByteArray) (w : World) (hs : s.size ≤ 1073741824) : Calls Tryz.prog 13 #[.string s] w fun e w' => e = .returned (unitV (bytesL s.data.toList)) ∧ Below w.heap.size w w' := by
  have hn := number_any s w hs
  obtain ⟨R, hR⟩ : ∃ R, R = unitV (bytesL s.data.toList) := ⟨_, rfl⟩
  rw [← hR]
  rcases num_cases (tabN bytesT (restS s.data.toList)) s.data.toList with ⟨h1, h2⟩ | ⟨n, hlt, h1, h2⟩
  · obtain ⟨n0, u0, h1⟩ : ∃ n0 u0, numL s.data.toList = (n0, u0, false) := by
      rcases h1 with h1 | ⟨n0, u0, h1⟩
      · exact ⟨_, _, h1⟩
      · exact ⟨_, _, h1⟩
    rw [h1] at hn
    have HR := Lib.hid (show R = .tuple #[.int .u64 0, .int .i64 15] by rw [hR]; unfold bytesL; rw [h2]; rfl)
    clear h1 h2 hR
    go_enter Tryz.func13, Tryz.ntmps13
    go_wp2_with (go_at_call 22; refine hn.mono ?_; rintro e w1 ⟨rfl, hb1⟩)
    refine bodyPost_ret (v := .tuple #[.int .u64 0, .int .i64 15]) (by simp [results, Tryz.results13, go_sem]) rfl ⟨by rw [HR.out], hb1⟩
  · rw [h1] at hn
    have hR2 : R = unitV (if tabN bytesT (restS s.data.toList) = 0 then none else some (n * tabN bytesT (restS s.data.toList))) := by rw [hR]; unfold bytesL; rw [h2]
    clear h1 h2 hR
    generalize restS s.data.toList = u at *
    by_cases u0 : u = []
    · subst u0
      rw [show tabN bytesT [] = 1 from rfl, if_neg (by decide)] at hR2
      have HR := Lib.hid (show R = .tuple #[.int .u64 (n : Int), .int .i64 0] by rw [hR2]; show Value.tuple #[.int .u64 ((n * 1 : Nat) : Int), .int .i64 0] = _; rw [show ((n * 1 : Nat) : Int) = (n : Int) by omega])
      clear hR2
      rw [show bsOf [] = ⟨#[]⟩ from rfl] at hn
      go_enter Tryz.func13, Tryz.ntmps13
      go_wp2_with (go_at_call 22; refine hn.mono ?_; rintro e w1 ⟨rfl, hb1⟩)
      refine bodyPost_ret (v := .tuple #[.int .u64 (n), .int .i64 0]) (by simp [results, Tryz.results13, go_sem]) rfl ⟨by rw [HR.out], hb1⟩
    by_cases u1 : u = [66]
    · subst u1
      rw [show tabN bytesT [66] = 1 from rfl, if_neg (by decide)] at hR2
      have HR := Lib.hid (show R = .tuple #[.int .u64 (n : Int), .int .i64 0] by rw [hR2]; show Value.tuple #[.int .u64 ((n * 1 : Nat) : Int), .int .i64 0] = _; rw [show ((n * 1 : Nat) : Int) = (n : Int) by omega])
      clear hR2
      rw [show bsOf [66] = ⟨#[66]⟩ from rfl] at hn
      go_enter Tryz.func13, Tryz.ntmps13
      go_wp2_with (go_at_call 22; refine hn.mono ?_; rintro e w1 ⟨rfl, hb1⟩)
      refine bodyPost_ret (v := .tuple #[.int .u64 (n), .int .i64 0]) (by simp [results, Tryz.results13, go_sem]) rfl ⟨by rw [HR.out], hb1⟩
    by_cases u2 : u = [75, 105, 66]
    · subst u2
      rw [show tabN bytesT [75, 105, 66] = 1024 from rfl, if_neg (by decide)] at hR2
      have HR := Lib.hid (show R = .tuple #[.int .u64 (1024 * (n : Int) : Int), .int .i64 0] by rw [hR2]; show Value.tuple #[.int .u64 ((n * 1024 : Nat) : Int), .int .i64 0] = _; rw [show ((n * 1024 : Nat) : Int) = (1024 * (n : Int) : Int) by omega])
      clear hR2
      rw [show bsOf [75, 105, 66] = ⟨#[75, 105, 66]⟩ from rfl] at hn
      have hw : IntKind.u64.wrap (1024 * (n : Int)) = 1024 * (n : Int) := IntWalk.u64_in _ (by omega)
      go_enter Tryz.func13, Tryz.ntmps13
      go_wp2_with (go_at_call 22; refine hn.mono ?_; rintro e w1 ⟨rfl, hb1⟩)
      refine bodyPost_ret (v := .tuple #[.int .u64 (1024 * (n : Int)), .int .i64 0]) (by simp [results, Tryz.results13, go_sem]) rfl ⟨by rw [HR.out], hb1⟩
    by_cases u3 : u = [77, 105, 66]
    · subst u3
      rw [show tabN bytesT [77, 105, 66] = 1048576 from rfl, if_neg (by decide)] at hR2
      have HR := Lib.hid (show R = .tuple #[.int .u64 (1048576 * (n : Int) : Int), .int .i64 0] by rw [hR2]; show Value.tuple #[.int .u64 ((n * 1048576 : Nat) : Int), .int .i64 0] = _; rw [show ((n * 1048576 : Nat) : Int) = (1048576 * (n : Int) : Int) by omega])
      clear hR2
      rw [show bsOf [77, 105, 66] = ⟨#[77, 105, 66]⟩ from rfl] at hn
      have hw : IntKind.u64.wrap (1048576 * (n : Int)) = 1048576 * (n : Int) := IntWalk.u64_in _ (by omega)
      go_enter Tryz.func13, Tryz.ntmps13
      go_wp2_with (go_at_call 22; refine hn.mono ?_; rintro e w1 ⟨rfl, hb1⟩)
      refine bodyPost_ret (v := .tuple #[.int .u64 (1048576 * (n : Int)), .int .i64 0]) (by simp [results, Tryz.results13, go_sem]) rfl ⟨by rw [HR.out], hb1⟩
    by_cases u4 : u = [71, 105, 66]
    · subst u4
      rw [show tabN bytesT [71, 105, 66] = 1073741824 from rfl, if_neg (by decide)] at hR2
      have HR := Lib.hid (show R = .tuple #[.int .u64 (1073741824 * (n : Int) : Int), .int .i64 0] by rw [hR2]; show Value.tuple #[.int .u64 ((n * 1073741824 : Nat) : Int), .int .i64 0] = _; rw [show ((n * 1073741824 : Nat) : Int) = (1073741824 * (n : Int) : Int) by omega])
      clear hR2
      rw [show bsOf [71, 105, 66] = ⟨#[71, 105, 66]⟩ from rfl] at hn
      have hw : IntKind.u64.wrap (1073741824 * (n : Int)) = 1073741824 * (n : Int) := IntWalk.u64_in _ (by omega)
      go_enter Tryz.func13, Tryz.ntmps13
      go_wp2_with (go_at_call 22; refine hn.mono ?_; rintro e w1 ⟨rfl, hb1⟩)
      refine bodyPost_ret (v := .tuple #[.int .u64 (1073741824 * (n : Int)), .int .i64 0]) (by simp [results, Tryz.results13, go_sem]) rfl ⟨by rw [HR.out], hb1⟩
    have ht : tabN bytesT u = 0 := by
      unfold tabN bytesT
      simp [u0, u1, u2, u3, u4]
    rw [ht, if_pos rfl] at hR2
    have HR := Lib.hid (show R = .tuple #[.int .u64 0, .int .i64 15] from hR2)
    have n0 : ((bsOf u).toList == ([] : List UInt8)) = false := ne_lit u0
    have n1 : ((bsOf u).toList == ([66] : List UInt8)) = false := ne_lit u1
    have n2 : ((bsOf u).toList == ([75, 105, 66] : List UInt8)) = false := ne_lit u2
    have n3 : ((bsOf u).toList == ([77, 105, 66] : List UInt8)) = false := ne_lit u3
    have n4 : ((bsOf u).toList == ([71, 105, 66] : List UInt8)) = false := ne_lit u4
    clear hR2 ht u0 u1 u2 u3 u4
    go_enter Tryz.func13, Tryz.ntmps13
    go_wp2_with (go_at_call 22; refine hn.mono ?_; rintro e w1 ⟨rfl, hb1⟩)
    refine bodyPost_ret (v := .tuple #[.int .u64 0, .int .i64 15]) (by simp [results, Tryz.results13, go_sem]) rfl ⟨by rw [HR.out], hb1⟩
end
end Go.Proofs.YtpdnopfjnmjnnaaGreatDoor.Cn
