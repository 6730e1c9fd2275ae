/- ConfUnits' walk. -/
import Derived.Test.YtpdnopfjnmjnnaaGreatDoorVu
import Derived.Test.YtpdnopfjnmjnnaaGreatDoorVo
import Derived.Test.YtpdnopfjnmjnnaaGreatDoorKg
set_option linter.unusedVariables false
set_option linter.unusedSimpArgs false
namespace Go.Proofs.YtpdnopfjnmjnnaaGreatDoor.Cn
open Go.Sort Go.RowKit Go.Proofs Go.Proofs.YtpdnopfjnmjnnaaGreatDoorW.PrintWords Go.Proofs.YtpdnopfjnmjnnaaGreatDoor.Bs Go.Proofs.YtpdnopfjnmjnnaaGreatDoor.Ir Go.Proofs.YtpdnopfjnmjnnaaGreatDoor.Cz

theorem bs_cat (a b : List UInt8) : bsOf a ++ bsOf b = bsOf (a ++ b) := by
  apply ByteArray.ext
  simp [bsOf]
theorem bs_cat' (a b : List UInt8) : bsOf a ++ (⟨⟨b⟩⟩ : ByteArray) = bsOf (a ++ b) := bs_cat a b
theorem unit_next {n x q r : Nat} {sl : List UInt8} (hn : n ≤ 65535) (h : DigP n x sl) (hq : q = x / 10) (hr : r = x % 10) (hsl : sl.length ≤ 4) (c : UInt8) (hc : c.toNat = 48 + r) :
    ∃ (x' : Nat) (sl' : List UInt8) (m : Bool), Value.string (bsOf (c :: sl)) = .string (bsOf sl') ∧ Value.int .u16 (q : Int) = .int .u16 (x' : Int) ∧ Value.bool (decide (0 < q)) = .bool m ∧ x' ≤ 65535 ∧ Hid (DigP n x' sl' ∧ (m = false → x' = 0 ∧ sl' ≠ [])) ∧ sl'.length ≤ 5 ∧ Hid (m = true → sl'.length ≤ 4) := by
  have h2 : DigP n q (c :: sl) := by rw [hq]; exact h.step c (by rw [hc, hr])
  have hx : q ≤ 65535 := by
    have := h2.sum
    have h3 : q * 1 ≤ q * 10 ^ (c :: sl).length := Nat.mul_le_mul_left _ (Nat.pow_pos (by decide))
    omega
  refine ⟨q, c :: sl, decide (0 < q), rfl, rfl, rfl, hx, Lib.hid ⟨h2, fun hm => ⟨by have := of_decide_eq_false hm; omega, by simp⟩⟩, by simp; omega, Lib.hid fun hm => ?_⟩
  have := of_decide_eq_true hm
  exact h2.len hn (by omega)

set_option maxRecDepth 100000 in
set_option maxHeartbeats 4000000 in
theorem confUnits_any (n : Nat) (hn : n ≤ 65535) (tx : ByteArray) (w : World) (hm : Mx w) (hv : Ev w) (hlow : 1 < w.heap.size) : Calls Tryz.prog 8 #[.int .u16 (n : Int), .string tx] w fun e w' => e = .returned (.bool true) ∧ Below w.heap.size w w' := by
  have hlv := lives_any w hm hv hlow
  have HMV := Lib.hid (And.intro hv hlow)
  clear hm hv hlow
  go_enter Tryz.func8, Tryz.ntmps8
  go_wp2_with (go_at_call 14; refine hlv.mono ?_; rintro e w1 ⟨rfl, hb1⟩)
  clear hlv
  have HB1 := Lib.hid hb1
  clear hb1
  go_loopw [5, 6, 7] (fun sv xv mv wr => ∃ (x : Nat) (sl : List UInt8) (m : Bool), sv = .string (bsOf sl) ∧ xv = .int .u16 (x : Int) ∧ mv = .bool m ∧ x ≤ 65535 ∧ Hid (DigP n x sl ∧ (m = false → x = 0 ∧ sl ≠ [])) ∧ sl.length ≤ 5 ∧ Hid (m = true → sl.length ≤ 4) ∧ w1 = wr) (fun _ xv mv _ => (intOf xv).toNat + (match mv with | .bool true => 1 | _ => 0))
  case atStart =>
    refine ⟨n, [], true, rfl, rfl, rfl, hn, Lib.hid ⟨⟨fun b hb => absurd hb List.not_mem_nil, ?_⟩, fun h => by cases h⟩, by simp, Lib.hid (fun _ => by simp), rfl⟩
    rw [List.length_nil, Nat.pow_zero, Nat.mul_one]
    have z : numOf 0 [] = 0 := by unfold numOf; rfl
    rw [z, Nat.zero_add]
  case round =>
    obtain ⟨x, sl, m, rfl, rfl, rfl, hx, HD, hsl, HL, rfl⟩ := hrel
    cases m
    case true =>
      have hl4 := HL.out rfl
      have hbs : (bsOf sl).size = sl.length := rfl
      obtain ⟨q, hq⟩ : ∃ q, q = x / 10 := ⟨_, rfl⟩
      have hquo : Int.tdiv (x : Int) 10 = (q : Int) := by rw [hq, Int.tdiv_eq_ediv_of_nonneg (by omega)]; omega
      have hwq : IntKind.u16.wrap (q : Int) = (q : Int) := IntWalk.u16_in _ (by omega)
      have hrl : x % 10 < 10 := Nat.mod_lt x (by decide)
      have hrem0 : Int.tmod (x : Int) 10 = ((x % 10 : Nat) : Int) := by rw [Int.tmod_eq_emod_of_nonneg (by omega)]; omega
      have hms : q + (if 0 < q then 1 else 0) < x + 1 := by split <;> omega
      obtain ⟨r, hr⟩ : ∃ r, r = x % 10 := ⟨_, rfl⟩
      rw [← hr] at hrl hrem0
      have HN := Lib.hid (fun c hc => unit_next hn HD.out.1 hq hr hl4 c hc)
      have HM := Lib.hid hms
      clear hq hr hms
      obtain ⟨c, hc, hen⟩ : ∃ c : UInt8, c.toNat = 48 + r ∧ ∀ h, Utf8.encode (((⟨#[48, 49, 50, 51, 52, 53, 54, 55, 56, 57]⟩ : ByteArray)[r]'h).toNat : Int) = ⟨⟨[c]⟩⟩ := by
        have hcs : r = 0 ∨ r = 1 ∨ r = 2 ∨ r = 3 ∨ r = 4 ∨ r = 5 ∨ r = 6 ∨ r = 7 ∨ r = 8 ∨ r = 9 := by omega
        clear HN HM hrem0 hquo
        rcases hcs with rfl | rfl | rfl | rfl | rfl | rfl | rfl | rfl | rfl | rfl
        · exact ⟨48, rfl, fun _ => by kernel_rfl⟩
        · exact ⟨49, rfl, fun _ => by kernel_rfl⟩
        · exact ⟨50, rfl, fun _ => by kernel_rfl⟩
        · exact ⟨51, rfl, fun _ => by kernel_rfl⟩
        · exact ⟨52, rfl, fun _ => by kernel_rfl⟩
        · exact ⟨53, rfl, fun _ => by kernel_rfl⟩
        · exact ⟨54, rfl, fun _ => by kernel_rfl⟩
        · exact ⟨55, rfl, fun _ => by kernel_rfl⟩
        · exact ⟨56, rfl, fun _ => by kernel_rfl⟩
        · exact ⟨57, rfl, fun _ => by kernel_rfl⟩
      have HQ := Lib.hid (HN.out c hc)
      clear HN hc
      have hdsz : (⟨#[48, 49, 50, 51, 52, 53, 54, 55, 56, 57]⟩ : ByteArray).size = 10 := rfl
      have happ : ((⟨⟨[c]⟩⟩ : ByteArray) ++ bsOf sl) = bsOf (c :: sl) := bs_cat [c] sl
      have hc1 : (⟨⟨[c]⟩⟩ : ByteArray).size = 1 := rfl
      go_wp2_with fail
      refine ⟨?_, ?_⟩
      · obtain ⟨x', sl', m', e1, e2, e3, z1, z2, z3, z4⟩ := HQ.out
        exact ⟨x', sl', m', e1, e2, e3, z1, z2, z3, z4, trivial⟩
      · have h := HM.out
        clear HQ HM hquo hwq
        by_cases hq0 : 0 < q
        · rw [if_pos hq0] at h
          simp only [hq0, decide_true, intOf, Int.toNat_natCast]
          omega
        · rw [if_neg hq0] at h
          simp only [hq0, decide_false, intOf, Int.toNat_natCast]
          omega
    case false =>
      obtain ⟨rfl, hne⟩ := HD.out.2 rfl
      have hdec : DecP n sl := ⟨HD.out.1.dig, by have := HD.out.1.sum; rwa [Nat.zero_mul, Nat.add_zero] at this, hne, hsl⟩
      obtain ⟨d1, d2, d3, d4, d5, d6, d7⟩ := dec_units hdec
      have len : ∀ z : List UInt8, z.length ≤ 11 → (sl ++ z).length ≤ 1073741824 := fun z hz => by rw [List.length_append]; omega
      have HC1 := Lib.hid (fun W hv hl => millis_any W (sl ++ [115]) (len _ (by decide)) hv hl)
      have HC2 := Lib.hid (fun W hv hl => millis_any W (sl ++ [48, 48, 48, 109, 115]) (len _ (by decide)) hv hl)
      have HC3 := Lib.hid (fun W hv hl => millis_any W (sl ++ [109]) (len _ (by decide)) hv hl)
      have HC4 := Lib.hid (fun W hv hl => bytes_any W (sl ++ [75, 105, 66]) (len _ (by decide)) hv hl)
      have HC5 := Lib.hid (fun W hv hl => bytes_any W sl (by omega) hv hl)
      have HC6 := Lib.hid (fun W hv hl => millis_any W (sl ++ [48, 48, 48, 48, 48, 48, 48, 48, 48, 48, 115]) (len _ (by decide)) hv hl)
      have HC7 := Lib.hid (fun W hv hl => bytes_any W [75, 105, 66] (by decide) hv hl)
      rw [d1] at HC1
      rw [d2] at HC2
      rw [d3] at HC3
      rw [d4] at HC4
      rw [d5] at HC5
      rw [d6] at HC6
      rw [d7] at HC7
      unfold unitV at HC1 HC2 HC3 HC4 HC5 HC6 HC7
      simp only at HC1 HC2 HC3 HC4 HC5 HC6 HC7
      rw [← bs_cat'] at HC1 HC2 HC3 HC4 HC6
      rw [show bsOf [75, 105, 66] = ⟨⟨[75, 105, 66]⟩⟩ from rfl] at HC7
      have hbs : (bsOf sl).size = sl.length := rfl
      clear d1 d2 d3 d4 d5 d6 d7 len hdec HD HL
      have u0 : IntKind.u64.wrap (n : Int) = (n : Int) := IntWalk.u64_in _ (by omega)
      have u1 : IntKind.u64.wrap (1000 * (n : Int)) = ((n * 1000 : Nat) : Int) := by rw [IntWalk.u64_in _ (by omega)]; omega
      have u3 : IntKind.u64.wrap (60 * ((n * 1000 : Nat) : Int)) = ((n * 60000 : Nat) : Int) := by rw [IntWalk.u64_in _ (by omega)]; omega
      have u4 : IntKind.u64.wrap (1024 * (n : Int)) = ((n * 1024 : Nat) : Int) := by rw [IntWalk.u64_in _ (by omega)]; omega
      generalize ((n * 1000 : Nat) : Int) = v1 at *
      generalize ((n * 60000 : Nat) : Int) = v3 at *
      generalize ((n * 1024 : Nat) : Int) = v4 at *
      have HU := Lib.hid (And.intro u0 (And.intro u1 (And.intro u3 u4)))
      clear u0 u1 u3 u4
      obtain ⟨hv, hlow⟩ := HMV.out
      have hb0 := HB1.out
      have hq1 := HC1.out w1 (hv.below hb0 hlow) (Nat.lt_of_lt_of_le hlow hb0.size)
      go_wp2_with fail
      refine hq1.mono ?_
      rintro e w2 ⟨rfl, hx1⟩
      have hb1 := hb0.trans (hx1.mono hb0.size)
      clear hq1 hx1 hb0 HC1
      have hq2 := HC2.out w2 (hv.below hb1 hlow) (Nat.lt_of_lt_of_le hlow hb1.size)
      go_wp2_with fail
      refine hq2.mono ?_
      rintro e w3 ⟨rfl, hx2⟩
      have hb2 := hb1.trans (hx2.mono hb1.size)
      clear hq2 hx2 hb1 HC2
      have hq3 := HC3.out w3 (hv.below hb2 hlow) (Nat.lt_of_lt_of_le hlow hb2.size)
      go_wp2_with fail
      refine hq3.mono ?_
      rintro e w4 ⟨rfl, hx3⟩
      have hb3 := hb2.trans (hx3.mono hb2.size)
      clear hq3 hx3 hb2 HC3
      have hq4 := HC4.out w4 (hv.below hb3 hlow) (Nat.lt_of_lt_of_le hlow hb3.size)
      go_wp2_with fail
      refine hq4.mono ?_
      rintro e w5 ⟨rfl, hx4⟩
      have hb4 := hb3.trans (hx4.mono hb3.size)
      clear hq4 hx4 hb3 HC4
      have hq5 := HC5.out w5 (hv.below hb4 hlow) (Nat.lt_of_lt_of_le hlow hb4.size)
      go_wp2_with fail
      refine hq5.mono ?_
      rintro e w6 ⟨rfl, hx5⟩
      have hb5 := hb4.trans (hx5.mono hb4.size)
      clear hq5 hx5 hb4 HC5
      have hq6 := HC6.out w6 (hv.below hb5 hlow) (Nat.lt_of_lt_of_le hlow hb5.size)
      go_wp2_with fail
      refine hq6.mono ?_
      rintro e w7 ⟨rfl, hx6⟩
      have hb6 := hb5.trans (hx6.mono hb5.size)
      clear hq6 hx6 hb5 HC6
      have hq7 := HC7.out w7 (hv.below hb6 hlow) (Nat.lt_of_lt_of_le hlow hb6.size)
      go_wp2_with fail
      refine hq7.mono ?_
      rintro e w8 ⟨rfl, hx7⟩
      have hb7 := hb6.trans (hx7.mono hb6.size)
      clear hq7 hx7 hb6 HC7
      have HBF := Lib.hid hb7
      obtain ⟨u0, u1, u3, u4⟩ := HU.out
      clear hb7 hv hlow
      go_wp2_with fail
      all_goals go_ret
      all_goals exact ⟨rfl, HBF.out⟩
theorem confUnits_s (n : Int) (tx : ByteArray) (W : World) (g : Kg.Gk W) (hz : 0 ≤ n) (hu : n ≤ 65535) : Calls Tryz.prog 8 #[.int .u16 n, .string tx] W fun e w' => e = .returned (.bool true) ∧ Below W.heap.size W w' := by
  obtain ⟨k, rfl⟩ := Int.eq_ofNat_of_zero_le hz
  exact confUnits_any k (by omega) tx W g.mx g.ev g.low
end Go.Proofs.YtpdnopfjnmjnnaaGreatDoor.Cn
