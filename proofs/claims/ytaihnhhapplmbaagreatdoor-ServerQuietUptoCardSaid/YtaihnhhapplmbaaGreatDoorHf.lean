/- Package http: the cursor: heads: the walk. -/
import Derived.Test.YtaihnhhapplmbaaGreatDoorHe
set_option linter.unusedVariables false
set_option linter.unusedSimpArgs false
namespace Go.Proofs.YtaihnhhapplmbaaGreatDoor.Ht
open Go.Sort Go.RowKit Go.Proofs Go.Proofs.YtaihnhhapplmbaaGreatDoorW.PrintWords Go.Proofs.YtaihnhhapplmbaaGreatDoor.Bs Go.Proofs.YtaihnhhapplmbaaGreatDoor.Ir Go.Proofs.YtaihnhhapplmbaaGreatDoor.Gn

theorem head_ok (x : ByteArray) (h : x.size ≤ 1073741824) : HOk (headOf x) := by
  have := cut_sizes x 58
  refine ⟨by show (⟨_⟩ : ByteArray).size ≤ _; rw [size_arr]; omega, ?_⟩
  show (⟨_⟩ : ByteArray).size ≤ _
  rw [size_arr]
  have h3 : ∀ (l c : List UInt8), (Lib.trimS l c).length ≤ l.length := by
    intro l c
    have h1 := (List.dropWhile_sublist (p := (c.contains ·)) (l := (l.reverse.dropWhile (c.contains ·)).reverse)).length_le
    have h2 := (List.dropWhile_sublist (p := (c.contains ·)) (l := l.reverse)).length_le
    unfold Lib.trimS Lib.trimLeftS Lib.trimRightS
    simp only [List.length_reverse] at h1 h2 ⊢
    omega
  refine Nat.le_trans (h3 _ _) ?_
  simp only
  omega

set_option maxRecDepth 100000 in
set_option maxHeartbeats 1000000 in
theorem heads_any (b p : Nat) (s : ByteArray) (w : World) (G : Gnd w) (hb64 : lowG ≤ b) (hs : s.size ≤ 1073741824) (hp : p ≤ s.size) (hc : CurAt b s p w) :
    Calls Tryz.prog 64 #[.pointer (some ⟨b, 0, none⟩)] w fun e w' => OutP (rowsV w.heap.size) b s w (headsP s p) e w' := by
  have hbw := blk_lt hc
  have hl := (line_any b p s w hs hp hc).mono (fun e w' h => OutP.of h)
  rw [show plus p (lineB (rest s p)) = lineP s p from rfl] at hl
  unfold headsP
  cases hlp : lineP s p with
  | error y =>
    rw [hlp] at hl
    dsimp only [bindE]
    go_enter Tryz.func64, Tryz.ntmps64
    go_wp2_with (go_at_call 63; refine hl.mono ?_; rintro e w1 ⟨hg, rfl⟩; unfold pv)
    exact ⟨rfl, hg, rfl⟩
  | ok z =>
    obtain ⟨x, q⟩ := z
    rw [hlp] at hl
    dsimp only [bindE]
    obtain ⟨hq1, hq2, hx⟩ := lineP_ok hp hlp
    have HG0 := Lib.hid G
    clear hc hlp G
    go_enter Tryz.func64, Tryz.ntmps64
    go_wp2_with (go_at_call 63; refine hl.mono ?_; rintro e w1 ⟨hg, ⟨_, rfl, rfl⟩, hc1, hq1'⟩)
    have HC1 := Lib.hid hc1
    have HG1 := Lib.hid hg
    clear hl hc1 hg
    go_loopw [3, 4, 5] (fun vo vc vx wr => ∃ (out : List Head) (q' cnt F : Nat) (x' : ByteArray) (A : Option Addr) (cp : Nat),
        vo = .slice A out.length cp ∧ vc = .int .i64 cnt ∧ vx = .string x' ∧ Hid (rowsV w.heap.size out wr (.slice A out.length cp)) ∧ Hid (CurAt b s q' wr) ∧ Hid (q' ≤ s.size ∧ out.length ≤ q' ∧ s.size < F + q') ∧ x'.size ≤ s.size ∧ cnt ≤ 64 ∧ Hid (headsGo s (s.size + 1) q 0 [] x = headsGo s F q' cnt out x') ∧ Hid (w.grownBy wr (some b)))
      (fun _ _ _ wr => match wr.cell? ⟨b, 1, none⟩ with | some (.int _ q') => s.size - q'.toNat | _ => 0)
    case atStart => exact ⟨[], q, 0, s.size + 1, x, none, 0, rfl, rfl, rfl, Lib.hid (Kd.R_nil _ _ _ _ _), HC1, Lib.hid ⟨hq2, by simp, by omega⟩, hx, by omega, Lib.hid rfl, HG1⟩
    case round =>
      obtain ⟨out, q', cnt, F, x', A, cp, rfl, rfl, rfl, hR, hC, hQ, hx', hcnt, hE, hGw⟩ := hrel
      obtain ⟨F', rfl⟩ : ∃ F', F = F' + 1 := ⟨F - 1, by have := hQ.out; omega⟩
      by_cases hx0 : x' = ⟨#[]⟩
      · have HRES := Lib.hid (show headsGo s (s.size + 1) q 0 [] x = .ok (out, q') from by rw [hE.out, headsGo, if_pos (by rw [hx0]; rfl)])
        clear hE
        subst hx0
        go_wp2_with fail
        go_ret
        rw [HRES.out]
        exact ⟨hGw.out, ⟨_, rfl, hR.out⟩, hC.out, hQ.out.1⟩
      have hx1 : ¬ x'.size = 0 := fun e => hx0 (ByteArray.size_eq_zero_iff.1 e)
      have hemp : x'.toList.isEmpty = false := by
        rw [ByteArray.toList_eq, List.isEmpty_eq_false_iff]
        intro e
        refine hx1 ?_
        show x'.data.toList.length = 0
        rw [e]
        rfl
      have hcut := cut_any x' 58 wr (gnd_grown HG0.out hGw.out hb64) (by omega)
      have hH := head_ok x' (by omega)
      have hE2 : headsGo s (F' + 1) q' cnt out x' = if headOk x' then if more cnt x' ≤ 64 then bindE (lineP s q') (fun x'' q'' => headsGo s F' q'' (more cnt x') (out ++ [headOf x']) x'') else .error 4 else .error 13 := by rw [headsGo, if_neg hx1]
      have hE3 := hE.out.trans hE2
      clear hE hE2 hx1
      unfold headOk more at hE3
      unfold headOf at hE3 hH
      have hrvs : (⟨(Lib.cut x'.data.toList [58]).2.1.toArray⟩ : ByteArray).size ≤ 1073741824 := by rw [size_arr]; have := cut_sizes x' 58; omega
      generalize (⟨(Lib.cut x'.data.toList [58]).1.toArray⟩ : ByteArray) = nm at *
      generalize (⟨(Lib.cut x'.data.toList [58]).2.1.toArray⟩ : ByteArray) = rv at *
      generalize (Lib.cut x'.data.toList [58]).2.2 = b1 at *
      have htrim := fun W => trim_any rv W hrvs
      generalize trimB rv = vl at *
      obtain ⟨hH1, hH2⟩ := hH
      dsimp only at hE3 hH1 hH2
      have htok := fun W => token_any nm W
      have hval := fun W => value_any vl W hH2
      have hfrm := fun W => framing_any nm vl W hH1
      generalize tokenB nm = b2 at *
      generalize valueB vl = b3 at *
      generalize framingB nm = b4 at *
      clear hrvs
      have HX0 := Lib.hid hx0
      cases b1
      · have HRES := Lib.hid (show headsGo s (s.size + 1) q 0 [] x = .error 13 from by rw [hE3]; rfl)
        clear hE3
        go_wp2_with (first | (go_at_call 93; refine hcut.mono ?_; rintro e w2 ⟨rfl, hb2⟩) | (go_at_call 88; refine (htrim _).mono ?_; rintro e w3 ⟨rfl, hb3⟩) | (go_at_call 33; refine (must_no _ _).mono ?_; rintro e w9 ⟨rfl, rfl⟩))
        refine ⟨rfl, ?_⟩
        rw [HRES.out]
        exact ⟨grown_below hGw.out (by repeat (first | assumption | exact Below.refl _ _ | apply below_drew | apply pw_below_drewN | apply below_alloc | (refine below_via (by assumption) ?_))), rfl⟩
      cases b2
      · have HRES := Lib.hid (show headsGo s (s.size + 1) q 0 [] x = .error 13 from by rw [hE3]; rfl)
        clear hE3
        go_wp2_with (first | (go_at_call 93; refine hcut.mono ?_; rintro e w2 ⟨rfl, hb2⟩) | (go_at_call 88; refine (htrim _).mono ?_; rintro e w3 ⟨rfl, hb3⟩) | (go_at_call 24; refine (htok _).mono ?_; rintro e w4 ⟨rfl, hb4⟩; obtain ⟨hbc4, hbf4⟩ := bcell hb4; have hz4 : w3.heap.size < w4.heap.size := (by have := hb4.size; simp at this; omega)) | (go_at_call 33; refine (must_no _ _).mono ?_; rintro e w9 ⟨rfl, rfl⟩))
        refine ⟨rfl, ?_⟩
        rw [HRES.out]
        exact ⟨grown_below hGw.out (by repeat (first | assumption | exact Below.refl _ _ | apply below_drew | apply pw_below_drewN | apply below_alloc | (refine below_via (by assumption) ?_))), rfl⟩
      cases b3
      · have HRES := Lib.hid (show headsGo s (s.size + 1) q 0 [] x = .error 13 from by rw [hE3]; rfl)
        clear hE3
        go_wp2_with (first | (go_at_call 93; refine hcut.mono ?_; rintro e w2 ⟨rfl, hb2⟩) | (go_at_call 88; refine (htrim _).mono ?_; rintro e w3 ⟨rfl, hb3⟩) | (go_at_call 24; refine (htok _).mono ?_; rintro e w4 ⟨rfl, hb4⟩; obtain ⟨hbc4, hbf4⟩ := bcell hb4; have hz4 : w3.heap.size < w4.heap.size := (by have := hb4.size; simp at this; omega)) | (go_at_call 54; refine (hval _).mono ?_; rintro e w5 ⟨rfl, hb5⟩; obtain ⟨hbc5, hbf5⟩ := bcell hb5; have hz5 : w3.heap.size < w5.heap.size := (by have := hb5.size; omega)) | (go_at_call 33; refine (must_no _ _).mono ?_; rintro e w9 ⟨rfl, rfl⟩))
        refine ⟨rfl, ?_⟩
        rw [HRES.out]
        exact ⟨grown_below hGw.out (by repeat (first | assumption | exact Below.refl _ _ | apply below_drew | apply pw_below_drewN | apply below_alloc | (refine below_via (by assumption) ?_))), rfl⟩
      have hcnt0 : (0 : Int) ≤ cnt := by omega
      have hcnt0 : (0 : Int) ≤ cnt := by omega
      have HE3 := Lib.hid hE3
      clear hE3
      go_wp2_with (first | (go_at_call 93; refine hcut.mono ?_; rintro e w2 ⟨rfl, hb2⟩) | (go_at_call 88; refine (htrim _).mono ?_; rintro e w3 ⟨rfl, hb3⟩) | (go_at_call 24; refine (htok _).mono ?_; rintro e w4 ⟨rfl, hb4⟩; obtain ⟨hbc4, hbf4⟩ := bcell hb4; have hz4 : w3.heap.size < w4.heap.size := (by have := hb4.size; simp at this; omega)) | (go_at_call 54; refine (hval _).mono ?_; rintro e w5 ⟨rfl, hb5⟩; obtain ⟨hbc5, hbf5⟩ := bcell hb5; have hz5 : w3.heap.size < w5.heap.size := (by have := hb5.size; omega)) | (go_at_call 33; refine (must_ok _ _).mono ?_; rintro e w8 ⟨rfl, rfl⟩))
      refine (hfrm _).mono ?_
      rintro e w6 ⟨rfl, hb6⟩
      obtain ⟨hbc6, hbf6⟩ := bcell hb6
      have hz6 : w3.heap.size < w6.heap.size := (by have := hb6.size; omega)
      clear hcut htrim htok hval hfrm
      have hbw6 : Below wr.heap.size wr w6 := (by repeat (first | assumption | exact Below.refl _ _ | apply below_drew | apply pw_below_drewN | apply below_alloc | (refine below_via (by assumption) ?_)))
      obtain ⟨hk6, inner, hown6, hreps6⟩ := Kd.R_below hR.out hbw6
      obtain ⟨i0, hi, hz0, hz1, hz2⟩ := info_parts inH
      have HC0 := hC
      have hE3' := trivial
      cases b4
      · by_cases h64 : cnt + 1 ≤ 64
        · have hd : decide ((cnt : Int) + 1 ≤ 64) = true := by simp; omega
          have hEn := Lib.hid (show headsGo s (s.size + 1) q 0 [] x = bindE (lineP s q') (fun x'' q'' => headsGo s F' q'' (cnt + 1) (out ++ [⟨nm, vl⟩]) x'') from by rw [HE3.out]; simp only [Bool.and_self, if_true, Bool.false_eq_true, if_false]; rw [if_pos h64])
          clear HE3
          go_wp2_with (first | (go_at_call 33; refine (must_ok _ _).mono ?_; rintro e w8 ⟨rfl, rfl⟩) | (at_builtin; refine wpList_append_own _ rfl (.tmp 45) (.tmp 47) 49 rfl w.heap.size 82 i0 (.agg #[.string ⟨#[]⟩, .string ⟨#[]⟩]) 2 32 Tu_heads hi hz0 hz1 hz2 rfl (by decide) _ out.length inner rfl (hown6.alloc _) ⟨_, 0, none⟩ 1 1 [.string nm, .string vl] rfl rfl ?c1 ?c2 ?c3 ?c4 ?c5 ?_))
          case c1 =>
            intro j u hj
            rw [add_plain]
            exact cell_new _ _ _ j u (by simpa using hj)
          case c2 =>
            intro u hu
            simp only [List.mem_cons, List.not_mem_nil, or_false] at hu
            rcases hu with rfl | rfl <;> rfl
          case c3 => have := hQ.out; unfold maxLen; omega
          case c4 => have := hQ.out; omega
          case c5 => have := hbw6.size; have := hGw.out.size; simp; omega
          intro v' w7 hown7 hg7 _
          obtain ⟨A', cp', rfl⟩ := own_slice hown7
          have hlo6 : ∀ k, (Value.slice A out.length cp).ownBlock = some k → w.heap.size ≤ k := fun k hk => own_base hown6 k hk
          have hcur7 : CurAt b s q' w7 := CurAt.grown (CurAt.below (CurAt.below hC.out hbw6) (below_alloc (Below.refl _ _) _)) hg7 (fun e => by have := hlo6 b e.symm; omega)
          have HGw7 := Lib.hid (grown_far (grown_below hGw.out (below_alloc hbw6 _)) hg7 hlo6)
          have HR7 := Lib.hid (show rowsV w.heap.size (out ++ [⟨nm, vl⟩]) w7 (.slice A' (out.length + 1) cp') from ⟨fun k hk => own_base hown7 k hk, _, by rw [List.length_append]; exact hown7, Reps.snoc (Reps.imp_ hreps6 (fun _ _ h => h)) (kH_mkM _ _ _ ⟨nm, vl⟩) rfl⟩)
          have hl2 := (line_any b q' s w7 hs hQ.out.1 hcur7).mono (fun e w' h => OutP.of h)
          rw [show plus q' (lineB (rest s q')) = lineP s q' from rfl] at hl2
          have HQ := hQ
          clear hown7 hg7 hown6 hreps6 hk6 hlo6 hb2 hb3 hb4 hb5 hb6 hbc4 hbf4 hbc5 hbf5 hbc6 hbf6 hz4 hz5 hz6 hR hC hE3'
          cases hlp : lineP s q' with
          | error y =>
            rw [hlp] at hl2
            have HRES := Lib.hid (show headsGo s (s.size + 1) q 0 [] x = .error y from by rw [hEn.out, hlp]; rfl)
            clear hEn hlp
            go_wp2_with (go_at_call 63; refine hl2.mono ?_; rintro e w8 ⟨hg8, rfl⟩; unfold pv)
            refine ⟨rfl, ?_⟩
            rw [HRES.out]
            exact ⟨grown_step HGw7.out hg8, rfl⟩
          | ok z =>
            obtain ⟨x'', q''⟩ := z
            rw [hlp] at hl2
            obtain ⟨hq3, hq4, hx3⟩ := lineP_ok hQ.out.1 hlp
            have HEN := Lib.hid (show headsGo s (s.size + 1) q 0 [] x = headsGo s F' q'' (cnt + 1) (out ++ [⟨nm, vl⟩]) x'' from by rw [hEn.out, hlp]; rfl)
            clear hEn hlp
            have hm0 := HC0.out.c1
            go_wp2_with (go_at_call 63; refine hl2.mono ?_; rintro e w8 ⟨hg8, ⟨_, rfl, rfl⟩, hc8, _⟩)
            have hm1 := hc8.c1
            have hR8 : rowsV w.heap.size (out ++ [⟨nm, vl⟩]) w8 (.slice A' (out.length + 1) cp') := Kd.R_grown HR7.out hg8 (fun k hk e => by have := Option.some.inj e; omega)
            go_roundw
            case rel => exact ⟨out ++ [⟨nm, vl⟩], q'', cnt + 1, F', x'', A', cp', by simp, by go_num, rfl, Lib.hid (by simpa using hR8), Lib.hid hc8, Lib.hid ⟨hq4, by have := HQ.out; simp; omega, by have := HQ.out; omega⟩, hx3, by omega, HEN, Lib.hid (grown_step HGw7.out hg8)⟩
            case measure => rw [hm0, hm1]; simp; omega
        · have HRES := Lib.hid (show headsGo s (s.size + 1) q 0 [] x = .error 4 from by rw [HE3.out]; simp only [Bool.and_self, if_true, Bool.false_eq_true, if_false]; rw [if_neg h64])
          have hd : decide ((cnt : Int) + 1 ≤ 64) = false := by simp; omega
          clear HE3 h64
          go_wp2_with ((go_at_call 33; refine (must_no _ _).mono ?_; rintro e w9 ⟨rfl, rfl⟩))
          refine ⟨rfl, ?_⟩
          rw [HRES.out]
          exact ⟨grown_below hGw.out (by repeat (first | assumption | exact Below.refl _ _ | apply below_drew | apply pw_below_drewN | apply below_alloc | (refine below_via (by assumption) ?_))), rfl⟩
      · have hd : decide ((cnt : Int) ≤ 64) = true := by simp; omega
        have hEn := Lib.hid (show headsGo s (s.size + 1) q 0 [] x = bindE (lineP s q') (fun x'' q'' => headsGo s F' q'' (cnt) (out ++ [⟨nm, vl⟩]) x'') from by rw [HE3.out]; simp only [Bool.and_self, if_true, Bool.false_eq_true, if_false]; rw [if_pos hcnt])
        clear HE3
        go_wp2_with (first | (go_at_call 33; refine (must_ok _ _).mono ?_; rintro e w8 ⟨rfl, rfl⟩) | (at_builtin; refine wpList_append_own _ rfl (.tmp 45) (.tmp 47) 49 rfl w.heap.size 82 i0 (.agg #[.string ⟨#[]⟩, .string ⟨#[]⟩]) 2 32 Tu_heads hi hz0 hz1 hz2 rfl (by decide) _ out.length inner rfl (hown6.alloc _) ⟨_, 0, none⟩ 1 1 [.string nm, .string vl] rfl rfl ?c1 ?c2 ?c3 ?c4 ?c5 ?_))
        case c1 =>
          intro j u hj
          rw [add_plain]
          exact cell_new _ _ _ j u (by simpa using hj)
        case c2 =>
          intro u hu
          simp only [List.mem_cons, List.not_mem_nil, or_false] at hu
          rcases hu with rfl | rfl <;> rfl
        case c3 => have := hQ.out; unfold maxLen; omega
        case c4 => have := hQ.out; omega
        case c5 => have := hbw6.size; have := hGw.out.size; simp; omega
        intro v' w7 hown7 hg7 _
        obtain ⟨A', cp', rfl⟩ := own_slice hown7
        have hlo6 : ∀ k, (Value.slice A out.length cp).ownBlock = some k → w.heap.size ≤ k := fun k hk => own_base hown6 k hk
        have hcur7 : CurAt b s q' w7 := CurAt.grown (CurAt.below (CurAt.below hC.out hbw6) (below_alloc (Below.refl _ _) _)) hg7 (fun e => by have := hlo6 b e.symm; omega)
        have HGw7 := Lib.hid (grown_far (grown_below hGw.out (below_alloc hbw6 _)) hg7 hlo6)
        have HR7 := Lib.hid (show rowsV w.heap.size (out ++ [⟨nm, vl⟩]) w7 (.slice A' (out.length + 1) cp') from ⟨fun k hk => own_base hown7 k hk, _, by rw [List.length_append]; exact hown7, Reps.snoc (Reps.imp_ hreps6 (fun _ _ h => h)) (kH_mkM _ _ _ ⟨nm, vl⟩) rfl⟩)
        have hl2 := (line_any b q' s w7 hs hQ.out.1 hcur7).mono (fun e w' h => OutP.of h)
        rw [show plus q' (lineB (rest s q')) = lineP s q' from rfl] at hl2
        have HQ := hQ
        clear hown7 hg7 hown6 hreps6 hk6 hlo6 hb2 hb3 hb4 hb5 hb6 hbc4 hbf4 hbc5 hbf5 hbc6 hbf6 hz4 hz5 hz6 hR hC hE3'
        cases hlp : lineP s q' with
        | error y =>
          rw [hlp] at hl2
          have HRES := Lib.hid (show headsGo s (s.size + 1) q 0 [] x = .error y from by rw [hEn.out, hlp]; rfl)
          clear hEn hlp
          go_wp2_with (go_at_call 63; refine hl2.mono ?_; rintro e w8 ⟨hg8, rfl⟩; unfold pv)
          refine ⟨rfl, ?_⟩
          rw [HRES.out]
          exact ⟨grown_step HGw7.out hg8, rfl⟩
        | ok z =>
          obtain ⟨x'', q''⟩ := z
          rw [hlp] at hl2
          obtain ⟨hq3, hq4, hx3⟩ := lineP_ok hQ.out.1 hlp
          have HEN := Lib.hid (show headsGo s (s.size + 1) q 0 [] x = headsGo s F' q'' (cnt) (out ++ [⟨nm, vl⟩]) x'' from by rw [hEn.out, hlp]; rfl)
          clear hEn hlp
          have hm0 := HC0.out.c1
          go_wp2_with (go_at_call 63; refine hl2.mono ?_; rintro e w8 ⟨hg8, ⟨_, rfl, rfl⟩, hc8, _⟩)
          have hm1 := hc8.c1
          have hR8 : rowsV w.heap.size (out ++ [⟨nm, vl⟩]) w8 (.slice A' (out.length + 1) cp') := Kd.R_grown HR7.out hg8 (fun k hk e => by have := Option.some.inj e; omega)
          go_roundw
          case rel => exact ⟨out ++ [⟨nm, vl⟩], q'', cnt, F', x'', A', cp', by simp, by go_num, rfl, Lib.hid (by simpa using hR8), Lib.hid hc8, Lib.hid ⟨hq4, by have := HQ.out; simp; omega, by have := HQ.out; omega⟩, hx3, by omega, HEN, Lib.hid (grown_step HGw7.out hg8)⟩
          case measure => rw [hm0, hm1]; simp; omega
end Go.Proofs.YtaihnhhapplmbaaGreatDoor.Ht
