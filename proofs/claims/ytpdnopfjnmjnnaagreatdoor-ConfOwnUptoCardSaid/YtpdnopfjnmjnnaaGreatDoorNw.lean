/- Package conf: own. -/
import Derived.Test.YtpdnopfjnmjnnaaGreatDoorNx
import Derived.BigRegion
set_option linter.unusedVariables false
set_option linter.unusedSimpArgs false
namespace Go.Proofs.YtpdnopfjnmjnnaaGreatDoor.Cn
open Go.Sort Go.RowKit Go.Proofs Go.Proofs.YtpdnopfjnmjnnaaGreatDoorW.PrintWords Go.Proofs.YtpdnopfjnmjnnaaGreatDoor.Bs Go.Proofs.YtpdnopfjnmjnnaaGreatDoor.Ir Go.Proofs.YtpdnopfjnmjnnaaGreatDoor.Cz

set_option maxRecDepth 100000 in
set_option maxHeartbeats 2000000 in
theorem own_any (x : Kn) (hx : Fit x) : ∀ (A3 : Option Addr) (c3 : Nat) (A4 : Option Addr) (c4 : Nat) (w : World), Kd.string.C w A3 x.f3.length x.f3 → kK.C w A4 x.f4.length x.f4 →
    Calls Tryz.prog 32 #[.agg #[.int .u8 x.f1, .string x.f2, .slice A3 x.f3.length c3, .slice A4 x.f4.length c4]] w (OwnQ x w) := by
  induction hx with
  | mk x h3 h4 _ ih =>
    intro A3 c3 A4 c4 w hC3 hC4
    have HIH := Lib.hid ih
    clear ih
    obtain ⟨wa, hwa⟩ : ∃ wa, wa = (w.alloc (.cells #[.int .u8 x.f1, .string x.f2, .slice A3 x.f3.length c3, .slice A4 x.f4.length c4] 32)).alloc (.cells #[.int .u8 0, .string ⟨#[]⟩, .slice none 0 0, .slice none 0 0] 32) := ⟨_, rfl⟩
    have hba : Below w.heap.size w wa := by rw [hwa]; exact below_alloc (below_alloc (Below.refl _ _) _) _
    have hk0 : wa.heap[w.heap.size]? = some (.cells #[.int .u8 x.f1, .string x.f2, .slice A3 x.f3.length c3, .slice A4 x.f4.length c4] 32 (0, 0)) := by rw [hwa, Below.heap_alloc _ _ _ (by simp)]; exact heap_alloc_new w _
    have e1 : (w.alloc (.cells #[.int .u8 x.f1, .string x.f2, .slice A3 x.f3.length c3, .slice A4 x.f4.length c4] 32)).heap.size = w.heap.size + 1 := by simp
    have hk1 : wa.heap[w.heap.size + 1]? = some (.cells #[.int .u8 0, .string ⟨#[]⟩, .slice none 0 0, .slice none 0 0] 32 (0, 0)) := by rw [hwa, ← e1]; exact heap_alloc_new _ _
    have hsz : wa.heap.size = w.heap.size + 1 + 1 := by rw [hwa]; simp
    have HW := Lib.hid hwa
    have HK0 := Lib.hid hk0
    have HK1 := Lib.hid hk1
    have HBA := Lib.hid hba
    have HSZ := Lib.hid hsz
    have cS : ∀ W, Below w.heap.size w W → Calls Tryz.prog 56 #[.slice A3 x.f3.length c3] W (fun e w' => ∃ v inner, e = .returned v ∧ w'.ownsRow W.heap.size 9 1 v x.f3.length inner ∧ Reps (Kd.string.K w) 1 x.f3 inner ∧ Below W.heap.size W w') := fun W hb => clone_S (Kd.string.K w) (fun _ _ h => Kd.string.K_one h) (fun _ _ h => Kd.string.K_len h) A3 c3 x.f3 W h3 (hC3.imp_ hb (fun _ _ hp => hp))
    have cK : ∀ W, Below w.heap.size w W → Calls Tryz.prog 57 #[.slice A4 x.f4.length c4] W (fun e w' => ∃ v inner, e = .returned v ∧ w'.ownsRow W.heap.size 44 5 v x.f4.length inner ∧ Reps (kK.K w) 5 x.f4 inner ∧ Below W.heap.size W w') := fun W hb => clone_K (kK.K w) (fun _ _ h => kK.K_one h) (fun _ _ h => kK.K_len h) A4 c4 x.f4 W h4 (hC4.imp_ hb (fun _ _ hp => hp))
    clear hwa hba hk0 e1 hk1 hsz hC3 hC4
    go_enter Tryz.func32, Tryz.ntmps32
    go_wp2_with fail
    rw [← HW.out]
    have b2 := blk_cell HK0.out 2
    have b3 := blk_cell HK0.out 3
    refine Code.wp_mono (Q := Exit.then (fun a W => ∃ s2 B3 d3 B4 d4, a = { tmps := #[.agg #[.int .u8 x.f1, .string x.f2, .slice A3 x.f3.length c3, .slice A4 x.f4.length c4], .pointer (some ⟨w.heap.size, 0, none⟩), .pointer (some ⟨w.heap.size + 1, 0, none⟩), undef, .pointer (some ⟨w.heap.size, 2, none⟩), .slice A3 x.f3.length c3, .slice B3 x.f3.length d3, .pointer (some ⟨w.heap.size, 3, none⟩), .slice A4 x.f4.length c4, .slice B4 x.f4.length d4, .pointer (some ⟨w.heap.size, 2, none⟩), .pointer (some ⟨w.heap.size, 3, none⟩), undef, undef, undef, undef, undef, undef, undef, undef, undef, undef, undef, undef, undef, undef, undef, undef, undef, undef, undef, undef], defers := [] } ∧ OwnP x w W s2 (.slice B3 x.f3.length d3) (.slice B4 x.f4.length d4) 0) (fun _ _ _ => False)) (fun e a W h => ?_) ?_
    · cases e <;> first | exact h.elim | skip
      obtain ⟨s2, B3, d3, B4, d4, rfl, hP⟩ := h
      have HP := Lib.hid hP
      have b3 := blk_cell hP.box 3
      clear hP cS cK
      go_wp2_with fail
      clear b2 b3
      have HC34 := Lib.hid (And.intro h3 h4)
      go_loopw [15] (fun iv wr => ∃ i : Nat, iv = .int .i64 i ∧ i ≤ x.f4.length ∧ Hid (OwnP x w wr s2 (.slice B3 x.f3.length d3) (.slice B4 x.f4.length d4) i)) (fun iv _ => x.f4.length - (intOf iv).toNat)
      case atStart => exact ⟨0, rfl, Nat.zero_le _, HP⟩
      case round =>
        obtain ⟨i, rfl, hi, HPi⟩ := hrel
        by_cases hlt : i < x.f4.length
        · obtain ⟨g, A, c, A', c', rfl, hgs, hcap, k1, k2, k3, k4, kf, hC3, hC4⟩ := HPi.out.elem hlt
          have hbw : Below w.heap.size w wr.drew := below_drew HPi.out.bel
          have hcall := HIH.out (x.f4[i]) (List.getElem_mem hlt) A c A' c' wr.drew (hC3.imp_ hbw (fun _ _ hp => Kd.string.K_below hbw hp)) (hC4.imp_ hbw (fun _ _ hp => kK.K_below hbw hp))
          have b3 := blk_cell HPi.out.box 3
          have hgl : g < wr.heap.size := World.block_lt_of_cell? wr _ k1
          obtain ⟨y, hy⟩ : ∃ y, y = x.f4[i] := ⟨_, rfl⟩
          rw [← hy] at k1 k2 k3 k4 hcall
          have HY := Lib.hid hy
          have HG := Lib.hid hgl
          have hwr : IntKind.i64.wrap ((i : Int) + 1) = (i : Int) + 1 := IntWalk.i64_in _ (by omega)
          have f1 := kf (i * 5 + 1)
          have f2 := kf (i * 5 + 2)
          have f3 := kf (i * 5 + 3)
          have f4 := kf (i * 5 + 4)
          obtain ⟨dn, rs, hos, -, -⟩ := HPi.out.keys
          obtain ⟨cs, hcs⟩ := own_typed hos g rfl
          have HCS := Lib.hid hcs
          have HK1 := Lib.hid (And.intro k1 (And.intro k2 (And.intro k3 k4)))
          clear hC3 hC4 hbw hy hgl hgs kf hos hcs
          go_wp2_with fail
          go_region_with (go_at_call 32; refine hcall.mono ?_; rintro e WR ⟨vL, vK, rfl, hL, hK, hb⟩; obtain ⟨AL, cL, rfl⟩ := Kd.R_slice hL; obtain ⟨AK, cK, rfl⟩ := Kd.R_slice hK; have r3 := blk_cell ((hb.block _ (blk_lt HPi.out.box)).trans HPi.out.box) 3; have hcw := (hb.block g HG.out).trans HCS.out; have q1 := (hb.cell (p := ⟨g, i * 5 + 1, none⟩) HG.out).trans HK1.out.1; have q2 := (hb.cell (p := ⟨g, i * 5 + 2, none⟩) HG.out).trans HK1.out.2.1; have q3 := (hb.cell (p := ⟨g, i * 5 + 3, none⟩) HG.out).trans HK1.out.2.2.1; have q4 := (hb.cell (p := ⟨g, i * 5 + 4, none⟩) HG.out).trans HK1.out.2.2.2; have z1 := blk_frozen hcw (i * 5 + 1); have z2 := blk_frozen hcw (i * 5 + 2); have z3 := blk_frozen hcw (i * 5 + 3); have z4 := blk_frozen hcw (i * 5 + 4); have HX := Lib.hid (And.intro hL (And.intro hK hb)); clear hL hK hb hcw)
          all_goals clear k1 k2 k3 k4 f1 f2 f3 f4 b3 r3 q1 q2 q3 q4 z1 z2 z3 z4 hcall
          all_goals go_wp2_with fail
          all_goals go_roundw
          all_goals first
            | (simp [intOf]; omega; done)
            | exact ⟨i + 1, by simp, by omega, Lib.hid (HPi.out.next hlt (by have e := HY.out; subst e; exact HX.out.1) (by have e := HY.out; subst e; exact HX.out.2.1) HX.out.2.2 (by have e := HY.out; subst e; rfl))⟩
        · have hin : i = x.f4.length := by omega
          subst hin
          have HD := Lib.hid (HPi.out.res)
          have b0 := blk_cell HPi.out.box 0
          have b1 := blk_cell HPi.out.box 1
          have b2 := blk_cell HPi.out.box 2
          have b3 := blk_cell HPi.out.box 3
          have r0 := blk_cell HD.out 0
          have r1 := blk_cell HD.out 1
          have r2 := blk_cell HD.out 2
          have r3 := blk_cell HD.out 3
          have z0 := blk_frozen HD.out 0
          have z1 := blk_frozen HD.out 1
          have z2 := blk_frozen HD.out 2
          have z3 := blk_frozen HD.out 3
          go_wp2_with fail
          clear b0 b1 b2 b3 r0 r1 r2 r3 z0 z1 z2 z3
          have d0 := node_set HD.out (.int .u8 x.f1) (.string x.f2) (.slice B3 x.f3.length d3) (.slice B4 x.f4.length d4)
          have hfar : ∀ k, k ≠ w.heap.size + 1 → (wr.setCells (w.heap.size + 1) 0 [.int .u8 x.f1, .string x.f2, .slice B3 x.f3.length d3, .slice B4 x.f4.length d4]).heap[k]? = wr.heap[k]? := fun k hk => node_far _ _ _ _ hk
          have hbw : Below w.heap.size wr (wr.setCells (w.heap.size + 1) 0 [.int .u8 x.f1, .string x.f2, .slice B3 x.f3.length d3, .slice B4 x.f4.length d4]) := ((((Below.refl _ wr).setCell (p := ⟨w.heap.size + 1, 0, none⟩) (by simp) _).setCell (p := ⟨w.heap.size + 1, 1, none⟩) (by simp) _).setCell (p := ⟨w.heap.size + 1, 2, none⟩) (by simp) _).setCell (p := ⟨w.heap.size + 1, 3, none⟩) (by simp) _
          have hdone := HPi.out.done hfar hbw
          obtain ⟨WF, hWF⟩ : ∃ WF, WF = wr.setCells (w.heap.size + 1) 0 [.int .u8 x.f1, .string x.f2, .slice B3 x.f3.length d3, .slice B4 x.f4.length d4] := ⟨_, rfl⟩
          rw [← hWF] at d0 hdone
          have hgo : ((((wr.setCell ⟨w.heap.size + 1, 0, none⟩ (.int .u8 x.f1)).setCell ⟨w.heap.size + 1, 1, none⟩ (.string x.f2)).setCell ⟨w.heap.size + 1, 2, none⟩ (.slice B3 x.f3.length d3)).setCell ⟨w.heap.size + 1, 3, none⟩ (.slice B4 x.f4.length d4)) = WF := hWF.symm
          rw [hgo]
          clear hgo hWF hfar hbw
          have c0 := blk_cell d0 0
          have c1 := blk_cell d0 1
          have c2 := blk_cell d0 2
          have c3 := blk_cell d0 3
          refine bodyPost_ret (v := .agg #[.int .u8 x.f1, .string x.f2, .slice B3 x.f3.length d3, .slice B4 x.f4.length d4]) (by simp [results, Tryz.results32, go_sem, c0, c1, c2, c3]) rfl ⟨_, _, rfl, hdone.1, hdone.2.1, hdone.2.2⟩
    go_region_with (first
      | (go_at_call 56; refine (cS _ (below_drew HBA.out)).mono ?_; rintro e w2 ⟨v3, in3, rfl, ho3, hr3, hb2⟩; obtain ⟨B3, d3, rfl⟩ := own_cut ho3; have HK2 := Lib.hid ((hb2.block _ (blk_lt HK0.out)).trans HK0.out); have HO2 := Lib.hid (And.intro ho3 (And.intro hr3 hb2)); clear ho3 hr3 hb2; have f3 := blk_cell HK2.out 3)
      | (go_at_call 57; refine (cK _ ((below_drew HBA.out).trans (HO2.out.2.2.mono HBA.out.size))).mono ?_; rintro e w5 ⟨v4, in4, rfl, ho4, hr4, hb5⟩; obtain ⟨B4, d4, rfl⟩ := own_cut ho4; have HK5 := Lib.hid ((hb5.block _ (blk_lt HK2.out)).trans HK2.out); have HO5 := Lib.hid (And.intro ho4 (And.intro hr4 hb5)); clear ho4 hr4 hb5; have g2 := blk_cell HK5.out 2; have g3 := blk_cell HK5.out 3; have gf2 := blk_frozen HK5.out 2; have gf3 := blk_frozen HK5.out 3))
    all_goals exact ⟨w2.heap.size, B3, d3, B4, d4, rfl, own_start HBA.out HSZ.out HK1.out HO2.out.1 HO2.out.2.1 HO2.out.2.2 HK5.out HO5.out.1 HO5.out.2.1 HO5.out.2.2⟩
end Go.Proofs.YtpdnopfjnmjnnaaGreatDoor.Cn
