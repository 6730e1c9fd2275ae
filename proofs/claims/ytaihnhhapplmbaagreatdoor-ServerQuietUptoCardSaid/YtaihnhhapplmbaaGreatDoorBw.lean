/- Package http: the cursor: body: the walk. -/
import Derived.Test.YtaihnhhapplmbaaGreatDoorCk
import Derived.Test.YtaihnhhapplmbaaGreatDoorBp
set_option linter.unusedVariables false
set_option linter.unusedSimpArgs false
namespace Go.Proofs.YtaihnhhapplmbaaGreatDoor.Ht
open Go.Sort Go.RowKit Go.Proofs Go.Proofs.YtaihnhhapplmbaaGreatDoorW.PrintWords Go.Proofs.YtaihnhhapplmbaaGreatDoor.Bs Go.Proofs.YtaihnhhapplmbaaGreatDoor.Ir Go.Proofs.YtaihnhhapplmbaaGreatDoor.Gn

set_option maxRecDepth 100000 in
set_option maxHeartbeats 4000000 in
theorem body_any (b p : Nat) (s : ByteArray) (A : Option Addr) (c : Nat) (l : List Head) (most : Int) (always : Bool) (w : World) (G : Gnd w) (hb64 : lowG ≤ b) (hs : s.size ≤ 1073741824) (hp : p ≤ s.size) (hm0 : 0 ≤ most) (hm1 : most ≤ 65536) (hc : CurAt b s p w)
    (hl : l.length ≤ 1073741824) (hC : Kd.C kH w A l.length l) (hok : ∀ h ∈ l, HOk h) :
    Calls Tryz.prog 65 #[.pointer (some ⟨b, 0, none⟩), .slice A l.length c, .int .i64 most, .bool always] w fun e w' => OutP strV b s w (bodyP s p l most always) e w' := by
  have hbw := blk_lt hc
  have hcodS : codS.size ≤ 1073741824 := by decide
  have hlenS : lenS.size ≤ 1073741824 := by decide
  obtain ⟨w0, hw0⟩ : ∃ w0, w0 = w.alloc (.cells #[.slice A l.length c] 49) := ⟨_, rfl⟩
  have hcell : w0.cell? ⟨w.heap.size, 0, none⟩ = some (.slice A l.length c) := by rw [hw0]; exact cell_new _ _ _ 0 _ rfl
  have hb0 : Below w.heap.size w w0 := by rw [hw0]; exact below_alloc (Below.refl _ _) _
  have hsz0 : w.heap.size < w0.heap.size := by rw [hw0]; simp
  have n1 := named_any codS w.heap.size A c l w0 hl (Kd.C_below hC hb0) hok hcodS hcell
  have n2 := fun W (hb : Below w0.heap.size w0 W) => named_any lenS w.heap.size A c l W hl (Kd.C_below (Kd.C_below hC hb0) hb) hok hlenS ((hb.cell hsz0).trans hcell)
  have HO1 := Lib.hid (hasName_ok codS l hok)
  have HO2 := Lib.hid (hasName_ok lenS l hok)
  have hL1 := hasName_len codS l
  have hL2 := hasName_len lenS l
  obtain ⟨R, hR⟩ : ∃ R, R = bodyP s p l most always := ⟨_, rfl⟩
  rw [← hR]
  unfold bodyP at hR
  generalize hasName codS l = cs at *
  generalize hasName lenS l = ls at *
  have HRR := Lib.hid hR
  clear hR
  have HG := Lib.hid G
  have HC := Lib.hid (CurAt.below hc hb0)
  have HB0 := Lib.hid hb0
  unfold codS at n1
  unfold lenS at n2
  clear hC hok G hc hcell hb0
  go_enter Tryz.func65, Tryz.ntmps65
  go_wp2_with fail
  rw [← hw0]
  have hw2 : ∀ W, Below w0.heap.size w0 W → W.heap.size > w.heap.size := fun W hb => by have := hb.size; omega
  refine n1.mono ?_
  rintro e w1 ⟨A1, c1, rfl, hle1, hC1, hb1⟩
  go_wp2_with fail
  refine (n2 w1 hb1).mono ?_
  rintro e w2 ⟨A2, c2, rfl, hle2, hC2, hb2⟩
  have hb12 : Below w0.heap.size w0 w2 := hb1.trans (hb2.mono hb1.size)
  have hbw2 : Below w.heap.size w w2 := below_via hb12 HB0.out
  have HGw := Lib.hid (grown_of_below hbw2 (some b))
  have hC1' := Kd.C_below hC1 hb2
  have HCu := Lib.hid (CurAt.below HC.out hb12)
  have HGn := Lib.hid (gnd_grown HG.out HGw.out hb64)
  clear n1 n2 hw2 hC1 hb1 hb2 hb12 hbw2 HC HB0 HG hw0
  match cs, hL1, HO1, HRR, hC1', hle1 with
  | [], _, _, HRR, _, _ =>
    clear hC1' HO1 hL1 hle1
    match ls, hL2, HO2, HRR, hC2, hle2 with
    | [], _, _, HRR, _, _ =>
      cases always with
      | false =>
        have HRES := Lib.hid (show R = .ok (⟨#[]⟩, p) from by rw [HRR.out]; simp)
        go_wp2_with fail
        go_ret
        rw [HRES.out]
        exact ⟨HGw.out, ⟨_, rfl, rfl⟩, HCu.out, hp⟩
      | true =>
        have HRES := Lib.hid (show R = .error 13 from by rw [HRR.out]; simp)
        go_wp2_with (go_at_call 33; refine (must_f _ _ _ (by first | (simp; done) | (simp; omega))).mono ?_; rintro e w9 ⟨rfl, rfl⟩)
        refine ⟨rfl, ?_⟩
        rw [HRES.out]
        exact ⟨HGw.out, rfl⟩
    | h1 :: h2 :: r, _, _, HRR, _, _ =>
      have HRES := Lib.hid (show R = .error 13 from by rw [HRR.out]; simp)
      clear hC2 HRR
      go_wp2_with (go_at_call 33; refine (must_f _ _ _ (by first | (simp; done) | (simp; omega))).mono ?_; rintro e w9 ⟨rfl, rfl⟩)
      refine ⟨rfl, ?_⟩
      rw [HRES.out]
      exact ⟨HGw.out, rfl⟩
    | [hd], _, HO2, HRR, hC2, _ =>
      obtain ⟨ad, rfl, h0, h1⟩ := at_H hC2 0 (by simp)
      have hv := (HO2.out hd (by simp)).2
      have ez : ad.add (0 * 2) = ad := by simp [Addr.add]
      rw [ez] at h0 h1
      have HRV := Lib.hid (show R = if hd.value.size ≠ 0 ∧ hd.value.size ≤ 9 ∧ digB hd.value = true then (if (decN hd.value.data.toList : Int) ≤ most then takeP s p (decN hd.value.data.toList) else .error 4) else .error 13 from by rw [HRR.out]; simp [val0])
      simp only [List.getD_cons_zero] at h0 h1
      have ht := fun W => trimD_any hd.value W hv
      have hte : (⟨(Lib.trimS hd.value.data.toList digS.data.toList).toArray⟩ : ByteArray).toList.isEmpty = digB hd.value := by rw [ByteArray.toList_eq]; exact trim_digits _
      unfold digS at ht hte
      have hat := fun W => atoi_any hd.value W
      have hdn := fun h0 h9 h => (atoi_digits hd.value h0 h9 h).2
      have hemp : hd.value.toList.isEmpty = decide (hd.value.size = 0) := by
        rw [ByteArray.toList_eq, Bool.eq_iff_iff, List.isEmpty_iff, decide_eq_true_eq]
        exact ⟨fun e => by show hd.value.data.toList.length = 0; rw [e]; rfl, fun e => List.eq_nil_of_length_eq_zero e⟩
      generalize (⟨(Lib.trimS hd.value.data.toList (⟨#[48, 49, 50, 51, 52, 53, 54, 55, 56, 57]⟩ : ByteArray).data.toList).toArray⟩ : ByteArray) = t at *
      generalize hd.value = v at *
      generalize decN v.data.toList = n at *
      generalize digB v = dg at *
      clear hC2 HO2 HRR hle2 hL2 ez
      by_cases hv0 : v.size = 0
      · have HRES := Lib.hid (show R = .error 13 from by rw [HRV.out, if_neg (by simp [hv0])])
        have he : v.toList.isEmpty = true := by rw [hemp]; simpa using hv0
        clear HRV hemp hat hdn hv0
        go_wp2_with (first | (go_at_call 33; refine (must_t _ _ _ (by first | (simp; done) | (simp; omega))).mono ?_; rintro e w9 ⟨rfl, rfl⟩) | (go_at_call 33; refine (must_f _ _ _ (by first | (simp; done) | (simp; omega))).mono ?_; rintro e w9 ⟨rfl, rfl⟩))
        refine ⟨rfl, ?_⟩
        rw [HRES.out]
        exact ⟨HGw.out, rfl⟩
      have he : v.toList.isEmpty = false := by rw [hemp]; simpa using hv0
      clear hemp
      by_cases hv9 : (v.size : Int) ≤ 9
      · have hv9d : decide ((v.size : Int) ≤ 9) = true := by simpa using hv9
        cases dg with
        | false =>
          have HRES := Lib.hid (show R = .error 13 from by rw [HRV.out, if_neg (by simp)])
          clear HRV hat hdn hv0
          go_wp2_with (first | (go_at_call 88; refine (ht _).mono ?_; rintro e w3 ⟨rfl, hb3⟩) | (go_at_call 33; refine (must_t _ _ _ (by first | (simp; done) | (simp; omega))).mono ?_; rintro e w9 ⟨rfl, rfl⟩) | (go_at_call 33; refine (must_f _ _ _ (by first | (simp; done) | (simp; omega))).mono ?_; rintro e w9 ⟨rfl, rfl⟩))
          refine ⟨rfl, ?_⟩
          rw [HRES.out]
          exact ⟨grown_below HGw.out hb3, rfl⟩
        | true =>
          have hat' := fun W => hat W hv0 (by omega) rfl
          have hn := hdn hv0 (by omega) rfl
          have HRV2 := Lib.hid (show R = if (n : Int) ≤ most then takeP s p n else .error 4 from by rw [HRV.out, if_pos ⟨hv0, by omega, rfl⟩])
          clear HRV hat hdn hv0
          by_cases hnm : (n : Int) ≤ most
          · have HRES := Lib.hid (show R = takeP s p n from by rw [HRV2.out, if_pos hnm])
            have htk := fun W hc => takeP_any b p s n W hs (by omega) (by omega) hp hc
            clear HRV2
            go_wp2_with (first | (go_at_call 88; refine (ht _).mono ?_; rintro e w3 ⟨rfl, hb3⟩) | (go_at_call 33; refine (must_t _ _ _ (by first | (simp; done) | (simp; omega))).mono ?_; rintro e w9 ⟨rfl, rfl⟩) | (go_at_call 32; refine (hat' _).mono ?_; rintro e w4 ⟨rfl, hb4⟩))
            have hG4 := grown_below (grown_below HGw.out hb3) hb4
            have htk4 := htk _ (CurAt.below (CurAt.below HCu.out hb3) hb4)
            clear htk
            cases htp : takeP s p n with
            | error y =>
              rw [htp] at htk4
              go_wp2_with (go_at_call 97; refine htk4.mono ?_; rintro e w6 ⟨hg6, rfl⟩; unfold pv)
              refine ⟨rfl, ?_⟩
              rw [HRES.out, htp]
              exact ⟨grown_step hG4 hg6, rfl⟩
            | ok z =>
              obtain ⟨x, q⟩ := z
              rw [htp] at htk4
              have HTP := Lib.hid htp
              clear htp
              go_wp2_with (go_at_call 97; refine htk4.mono ?_; rintro e w6 ⟨hg6, ⟨_, rfl, rfl⟩, hc6, hq6⟩)
              go_ret
              rw [HRES.out, HTP.out]
              exact ⟨grown_step hG4 hg6, ⟨_, rfl, rfl⟩, hc6, hq6⟩
          · have HRES := Lib.hid (show R = .error 4 from by rw [HRV2.out, if_neg hnm])
            clear HRV2
            go_wp2_with (first | (go_at_call 88; refine (ht _).mono ?_; rintro e w3 ⟨rfl, hb3⟩) | (go_at_call 33; refine (must_t _ _ _ (by first | (simp; done) | (simp; omega))).mono ?_; rintro e w9 ⟨rfl, rfl⟩) | (go_at_call 33; refine (must_f _ _ _ (by first | (simp; done) | (simp; omega))).mono ?_; rintro e w9 ⟨rfl, rfl⟩) | (go_at_call 32; refine (hat' _).mono ?_; rintro e w4 ⟨rfl, hb4⟩))
            refine ⟨rfl, ?_⟩
            rw [HRES.out]
            exact ⟨grown_below (grown_below HGw.out hb3) hb4, rfl⟩
      · have HRES := Lib.hid (show R = .error 13 from by rw [HRV.out, if_neg (by intro h; omega)])
        have hv9d : decide ((v.size : Int) ≤ 9) = false := by simpa using hv9
        clear HRV hat hdn hv0
        go_wp2_with (first | (go_at_call 33; refine (must_t _ _ _ (by first | (simp; done) | (simp; omega))).mono ?_; rintro e w9 ⟨rfl, rfl⟩) | (go_at_call 33; refine (must_f _ _ _ (by first | (simp; done) | (simp; omega))).mono ?_; rintro e w9 ⟨rfl, rfl⟩))
        refine ⟨rfl, ?_⟩
        rw [HRES.out]
        exact ⟨HGw.out, rfl⟩
  | h1 :: h2 :: r, _, _, HRR, _, _ =>
    have HRES := Lib.hid (show R = .error 13 from by rw [HRR.out]; simp)
    clear hC2 HRR hC1'
    go_wp2_with (go_at_call 33; refine (must_f _ _ _ (by first | (simp; done) | (simp; omega))).mono ?_; rintro e w9 ⟨rfl, rfl⟩)
    refine ⟨rfl, ?_⟩
    rw [HRES.out]
    exact ⟨HGw.out, rfl⟩
  | [hd], _, HO1, HRR, hC1, _ =>
    obtain ⟨ad, rfl, h0, h1⟩ := at_H hC1 0 (by simp)
    have hv := (HO1.out hd (by simp)).2
    have ez : ad.add (0 * 2) = ad := by simp [Addr.add]
    rw [ez] at h0 h1
    have HRV := Lib.hid (show R = if (smallB hd.value).toList = chkS.toList ∧ ls.length = 0 then chunksP s most p else .error 13 from by rw [HRR.out]; simp [val0])
    simp only [List.getD_cons_zero] at h0 h1
    have hsm := fun W => small_any hd.value W (by omega)
    have hch := fun W G hc => chunks_any b p s most W G hb64 hs hp hm0 hm1 hc
    have hchk : chkS.toList = [99, 104, 117, 110, 107, 101, 100] := by rw [ByteArray.toList_eq]; rfl
    rw [hchk] at HRV
    clear hchk
    generalize smallB hd.value = sv at *
    generalize hd.value = v at *
    clear hC1 HO1 HRR hle1 hL1 ez hC2 HO2 hle2
    by_cases hsv : sv.toList = [99, 104, 117, 110, 107, 101, 100]
    · have hse : (sv.toList == [99, 104, 117, 110, 107, 101, 100]) = true := by rw [hsv]; exact beq_self_eq_true _
      have HSE := Lib.hid hse
      by_cases hls : ls.length = 0
      · have HRES := Lib.hid (show R = chunksP s most p from by rw [HRV.out, if_pos ⟨hsv, hls⟩])
        clear HRV hsv
        obtain rfl : ls = [] := List.eq_nil_of_length_eq_zero hls
        clear hls
        go_wp2_with (first | (go_at_call 60; refine (hsm _).mono ?_; rintro e w3 ⟨rfl, hb3⟩) | (go_at_call 33; refine (must_t _ _ _ (by first | (simp; done) | (simp; omega))).mono ?_; rintro e w9 ⟨rfl, rfl⟩))
        have hG3 := grown_below HGw.out hb3
        have htk4 := hch _ (gnd_grown HGn.out (grown_below (grown_refl _ (some b)) hb3) hb64) (CurAt.below HCu.out hb3)
        clear hch
        cases htp : chunksP s most p with
        | error y =>
          rw [htp] at htk4
          go_wp2_with (go_at_call 96; refine htk4.mono ?_; rintro e w6 ⟨hg6, rfl⟩; unfold pv)
          refine ⟨rfl, ?_⟩
          rw [HRES.out, htp]
          exact ⟨grown_step hG3 hg6, rfl⟩
        | ok z =>
          obtain ⟨x, q⟩ := z
          rw [htp] at htk4
          have HTP := Lib.hid htp
          clear htp
          go_wp2_with (go_at_call 96; refine htk4.mono ?_; rintro e w6 ⟨hg6, ⟨_, rfl, rfl⟩, hc6, hq6⟩)
          go_ret
          rw [HRES.out, HTP.out]
          exact ⟨grown_step hG3 hg6, ⟨_, rfl, rfl⟩, hc6, hq6⟩
      · have HRES := Lib.hid (show R = .error 13 from by rw [HRV.out, if_neg (fun h => hls h.2)])
        have hld : ((ls.length : Int) == 0) = false := by rw [beq_eq_false_iff_ne]; omega
        clear HRV hsv
        go_wp2_with (first | (go_at_call 60; refine (hsm _).mono ?_; rintro e w3 ⟨rfl, hb3⟩) | (go_at_call 33; refine (must_f _ _ _ (by first | (simp; done) | (simp; omega))).mono ?_; rintro e w9 ⟨rfl, rfl⟩))
        refine ⟨rfl, ?_⟩
        rw [HRES.out]
        exact ⟨grown_below HGw.out hb3, rfl⟩
    · have hse : (sv.toList == [99, 104, 117, 110, 107, 101, 100]) = false := by rw [beq_eq_false_iff_ne]; exact hsv
      have HRES := Lib.hid (show R = .error 13 from by rw [HRV.out, if_neg (fun h => hsv h.1)])
      clear HRV hsv
      go_wp2_with (first | (go_at_call 60; refine (hsm _).mono ?_; rintro e w3 ⟨rfl, hb3⟩) | (go_at_call 33; refine (must_f _ _ _ (by first | (simp; done) | (simp; omega))).mono ?_; rintro e w9 ⟨rfl, rfl⟩))
      refine ⟨rfl, ?_⟩
      rw [HRES.out]
      exact ⟨grown_below HGw.out hb3, rfl⟩
end Go.Proofs.YtaihnhhapplmbaaGreatDoor.Ht
