/- Package http: read: the walk. -/
import Derived.Test.YtaihnhhapplmbaaGreatDoorRw
import Derived.Deep.RegionHeld3
set_option linter.unusedVariables false
set_option linter.unusedSimpArgs false
namespace Go.Proofs.YtaihnhhapplmbaaGreatDoor.Ht
open Go.Sort Go.RowKit Go.Proofs Go.Proofs.YtaihnhhapplmbaaGreatDoorW.PrintWords Go.Proofs.YtaihnhhapplmbaaGreatDoor.Bs Go.Proofs.YtaihnhhapplmbaaGreatDoor.Ir Go.Proofs.YtaihnhhapplmbaaGreatDoor.Gn

def ReadPost {γ : Type} (rb : Nat) (Fin : γ → World → Prop) (s : ByteArray) (w : World) (r : Except Int (ReadOk γ)) (e : Ending) (w' : World) : Prop :=
  w.grownBy w' (some rb) ∧ match r with
    | .error y => e = .returned (readE y)
    | .ok r => (∃ A c, e = .returned (.tuple #[.slice A r.heads.length c, .string r.body, .int .i64 r.n, .int .i64 0]) ∧ Kd.C kH w' A r.heads.length r.heads ∧ ∀ ad, A = some ad → w.heap.size ≤ ad.block) ∧ Fin r.got w' ∧ r.n ≤ s.size

set_option maxRecDepth 100000 in
set_option maxHeartbeats 4000000 in
theorem read_any {γ : Type} (s : ByteArray) (most : Int) (always : Bool) (g : Nat) (lb : Array Value) (rb : Nat) (I : World → Prop) (Fin : γ → World → Prop) (f : ByteArray → ByteArray → ByteArray → Except Int γ) (w : World)
    (eg : ∀ args w, (callFunc g args).run Tryz.prog w = .ok (.enter g args) w) (G : Gnd w) (hb64 : lowG ≤ w.heap.size) (hs : s.size ≤ 1073741824) (hrb : rb < w.heap.size) (hrb64 : lowG ≤ rb) (hI : ∀ W, W.heap[rb]? = w.heap[rb]? → I W) (hF : ∀ z W W', Fin z W → W'.heap[rb]? = W.heap[rb]? → Fin z W') (hf : FirstOk g lb rb I Fin f) :
    Calls Tryz.prog 30 #[.string s, .int .i64 most, .bool always, .func (.func g) #[] lb] w fun e w' => ReadPost rb Fin s w (readP s most always f) e w' := by
  by_cases hm : 0 ≤ most ∧ most ≤ 65536
  · obtain ⟨R, hR⟩ : ∃ R, R = readP s most always f := ⟨_, rfl⟩
    rw [← hR]
    unfold readP at hR
    rw [if_pos hm] at hR
    obtain ⟨hm0, hm1⟩ := hm
    have hmf : ∀ (fn : Fn) (first cap : Array Value) (w : World), (Instr.makeFunc fn first cap).run Tryz.prog w = .ok (.func fn first cap) w := fun _ _ _ _ => rfl
    obtain ⟨w5, hw5⟩ : ∃ w5, w5 = (w4 w).alloc (.cells #[.string s, .int .i64 0] 121) := ⟨_, rfl⟩
    have hbl5 : Below w.heap.size w w5 := by rw [hw5]; exact below_alloc (w4_below w) _
    have hcu : CurAt (w.heap.size + 1 + 1 + 1 + 1) s 0 w5 := by
      rw [hw5, ← w4_size w]
      exact heap_alloc_new (w4 w) _
    have hres : ResAt w.heap.size w5 (.slice none 0 0) (.string ⟨#[]⟩) (.int .i64 0) (.int .i64 0) := by rw [hw5]; exact (w4_res w).below (below_alloc (Below.refl _ _) _)
    have hl := lineP_any (w.heap.size + 1 + 1 + 1 + 1) 0 s w5 hs (Nat.zero_le _) hcu
    have HG5 := Lib.hid (G.below hbl5)
    have HB5 := Lib.hid hbl5
    have HRS := Lib.hid hres
    have hmd0 : decide (0 ≤ most) = true := by simpa using hm0
    have hmd1 : decide (most ≤ 65536) = true := by simpa using hm1
    have hw5c : w5 = ((((w.alloc (.cells #[.slice none 0 0] 49)).alloc (.cells #[.string ⟨#[]⟩] 9)).alloc (.cells #[.int .i64 0] 3)).alloc (.cells #[.int .i64 0] 28)).alloc (.cells #[.string s, .int .i64 0] 121) := hw5
    have HW5 := Lib.hid hw5c
    clear hbl5 hres hcu hw5 hw5c
    cases hlp : lineP s 0 with
    | error y =>
      rw [hlp] at hl hR
      have HRES := Lib.hid (show R = .error y from hR)
      clear hR hlp
      go_enter_defers Tryz.func30, Tryz.ntmps30
      go_wp2_with (go_at_call 33; refine (must_t _ _ _ (by first | (simp; done) | (simp; omega))).mono ?_; rintro e w9 ⟨rfl, rfl⟩)
      rw [← HW5.out]
      refine hl.mono ?_
      rintro e w6 ⟨hg6, rfl⟩
      unfold pv
      go_wp2_with fail
      refine read_dies w.heap.size w6 _ _ _ _ y _ (HRS.out.grown hg6 (fun k hk => by have := Option.some.inj hk; omega)) _ ⟨rfl, rfl, rfl, rfl⟩ (fun w' hb => ?_)
      rw [HRES.out]
      exact ⟨grown_of_below ((HB5.out.grown hg6 HB5.out.size (fun k hk => by have := Option.some.inj hk; omega)).trans hb) _, rfl⟩
    | ok z =>
      obtain ⟨x, q⟩ := z
      rw [hlp] at hl hR
      obtain ⟨-, hq, hx⟩ := lineP_ok (Nat.zero_le _) hlp
      dsimp only at hR
      have HR2 := Lib.hid hR
      clear hR hlp
      have hwd := fun W G => words_any x W G (by omega)
      have HWS := Lib.hid (wordsB_size x)
      go_enter_defers Tryz.func30, Tryz.ntmps30
      go_wp2_with (go_at_call 33; refine (must_t _ _ _ (by first | (simp; done) | (simp; omega))).mono ?_; rintro e w9 ⟨rfl, rfl⟩)
      rw [← HW5.out]
      refine hl.mono ?_
      rintro e w6 ⟨hg6, ⟨_, rfl, rfl⟩, hc6, _⟩
      have HB6 := Lib.hid (HB5.out.grown hg6 HB5.out.size (fun k hk => by have := Option.some.inj hk; omega))
      have HRS6 := Lib.hid (HRS.out.grown hg6 (fun k hk => by have := Option.some.inj hk; omega))
      have hG6 := gnd_grown HG5.out hg6 (by omega)
      have HC6 := Lib.hid hc6
      have HG6 := Lib.hid hG6
      clear hl hg6 hc6 HRS HB5 HG5
      go_wp2_with (go_at_call 62; refine (hwd _ hG6).mono ?_; rintro e w7 ⟨c7, rfl, hcw, hb7⟩)
      have HB7 := Lib.hid (HB6.out.trans (hb7.mono (by have := HB6.out.size; omega)))
      have HRS7 := Lib.hid (HRS6.out.below hb7)
      have HC7 := Lib.hid (CurAt.below HC6.out hb7)
      have HG7 := Lib.hid (HG6.out.below hb7)
      have dies : ∀ (W : World) (v0 v1 v2 v3 : Value) (y : Int) (tmps : Array Value), ResAt w.heap.size W v0 v1 v2 v3 → R = .error y → w.grownBy W (some rb) → (tmps[8]? = some (.pointer (some ⟨w.heap.size, 0, none⟩)) ∧ tmps[9]? = some (.pointer (some ⟨w.heap.size + 1, 0, none⟩)) ∧ tmps[10]? = some (.pointer (some ⟨w.heap.size + 1 + 1, 0, none⟩)) ∧ tmps[11]? = some (.pointer (some ⟨w.heap.size + 1 + 1 + 1, 0, none⟩))) →
          bodyPostD Tryz.prog Tryz.f30 (fun e w' => ReadPost rb Fin s w R e w') (.panic [{ v := .iface 28 (.int .i64 y), recovered := false }]) { tmps := tmps, defers := [{ target := Target.fn (.func 61) #[.pointer (some ⟨w.heap.size, 0, none⟩), .pointer (some ⟨w.heap.size + 1, 0, none⟩), .pointer (some ⟨w.heap.size + 1 + 1, 0, none⟩), .pointer (some ⟨w.heap.size + 1 + 1 + 1, 0, none⟩)], args := #[] }] } W := fun W v0 v1 v2 v3 y tmps hr he hg ht => read_dies w.heap.size W v0 v1 v2 v3 y tmps hr _ ht (fun w' hb => by
        rw [he]
        exact ⟨grown_belowB hg hb, rfl⟩)
      clear hwd hb7 HB6 HRS6 HC6 HG6 hG6
      match wordsB x, HR2, HWS, hcw with
      | [x0, x1, x2], HR2, HWS, hcw =>
        have hk0 := hcw 0 x0 rfl
        have hk1 := hcw 1 x1 rfl
        have hk2 := hcw 2 x2 rfl
        have hz0 := HWS.out x0 (by simp)
        have hz1 := HWS.out x1 (by simp)
        have hz2 := HWS.out x2 (by simp)
        have hfst := hf w7 w6.heap.size c7 x0 x1 x2 hk0 hk1 hk2 (by omega) (by omega) (by omega) (hI w7 (HB7.out.block rb hrb)) HG7.out
        clear hcw hk0 hk1 hk2 HWS
        cases hfx : f x0 x1 x2 with
        | error y =>
          rw [hfx] at hfst
          have HRES := Lib.hid (show R = .error y from by rw [HR2.out, readGo, hfx])
          clear HR2 hfx
          go_wp2_with (first | (go_at_call 33; refine (must_t _ _ _ (by first | (simp; done) | (simp; omega))).mono ?_; rintro e w9 ⟨rfl, rfl⟩) | (go_at_fn g; refine hfst.mono ?_; rintro e w8 ⟨hg8, rfl⟩; unfold pv))
          exact dies _ _ _ _ _ y _ (HRS7.out.grown hg8 (fun k hk => by have := Option.some.inj hk; omega)) HRES.out (grown_step (grown_of_below HB7.out _) hg8) ⟨rfl, rfl, rfl, rfl⟩
        | ok z =>
          rw [hfx] at hfst
          have HR3 := Lib.hid (show R = readEnd s most always q z from by rw [HR2.out, readGo, hfx])
          clear HR2 hfx
          go_wp2_with (first | (go_at_call 33; refine (must_t _ _ _ (by first | (simp; done) | (simp; omega))).mono ?_; rintro e w9 ⟨rfl, rfl⟩) | (go_at_fn g; refine hfst.mono ?_; rintro e w8 ⟨hg8, rfl, hfin8⟩))
          have HGr8 := Lib.hid (grown_step (grown_of_below HB7.out (some rb)) hg8)
          have HRS8 := Lib.hid (HRS7.out.grown hg8 (fun k hk => by have := Option.some.inj hk; omega))
          have HC8 := Lib.hid (CurAt.grown HC7.out hg8 (fun e => by have := Option.some.inj e; omega))
          have HG8 := Lib.hid (gnd_grown HG7.out hg8 hrb64)
          have hhd := heads_any (w.heap.size + 1 + 1 + 1 + 1) q s w8 HG8.out (by omega) hs hq HC8.out
          have hz8 : w.heap.size + 1 + 1 + 1 + 1 < w8.heap.size := blk_lt HC8.out
          clear hfst hg8
          cases hhp : headsP s q with
          | error y =>
            rw [hhp] at hhd
            have HRES := Lib.hid (show R = .error y from by rw [HR3.out, readEnd, hhp])
            clear HR3 hhp
            go_wp2_with (go_at_call 64; refine hhd.mono ?_; rintro e w9 ⟨hg9, rfl⟩; unfold pv)
            exact dies _ _ _ _ _ y _ (HRS8.out.grown hg9 (fun k hk => by have := Option.some.inj hk; omega)) HRES.out (grown_far HGr8.out hg9 (fun k hk => by have := Option.some.inj hk; omega)) ⟨rfl, rfl, rfl, rfl⟩
          | ok zz =>
            obtain ⟨l, q2⟩ := zz
            rw [hhp] at hhd
            have HOKS := Lib.hid (headsP_ok hs hq hhp)
            have HR4 := Lib.hid (show R = readFin s most always l q2 z from by rw [HR3.out, readEnd, hhp])
            clear HR3 hhp
            have c80 : ∀ W, ResAt w.heap.size W (.slice none 0 0) (.string ⟨#[]⟩) (.int .i64 0) (.int .i64 0) → W.cell? ⟨w.heap.size, 0, none⟩ = some (.slice none 0 0) ∧ W.frozen? ⟨w.heap.size, 0, none⟩ = false := fun W h => ⟨by rw [blk_cell h.r0]; rfl, blk_frozen h.r0 _⟩
            go_wp2_with (go_at_call 64; refine hhd.mono ?_; rintro e w9 ⟨hg9, ⟨v9, rfl, hR9⟩, hc9, hq9⟩; obtain ⟨A9, c9, rfl, hlc9, hC9⟩ := Kd.R_reads hR9; obtain ⟨hx9, hf9⟩ := c80 w9 (HRS8.out.grown hg9 (fun k hk => by have := Option.some.inj hk; omega)))
            obtain ⟨w10, hw10⟩ : ∃ w10, w10 = w9.setCell ⟨w.heap.size, 0, none⟩ (.slice A9 l.length c9) := ⟨_, rfl⟩
            rw [← hw10]
            have hgs : w9.grownBy w10 (some w.heap.size) := by rw [hw10]; exact grown_set (grown_refl _ _)
            have HR9 := HRS8.out.grown hg9 (fun k hk => by have := Option.some.inj hk; omega)
            have HRS10 := Lib.hid (show ResAt w.heap.size w10 (.slice A9 l.length c9) (.string ⟨#[]⟩) (.int .i64 0) (.int .i64 0) from by
              rw [hw10]
              exact ⟨blk_set HR9.r0 0 _, blk_far HR9.r1 (by simp) _, blk_far HR9.r2 (by simp; omega) _, blk_far HR9.r3 (by simp; omega) _⟩)
            have hR10 : rowsV w8.heap.size l w10 (.slice A9 l.length c9) := Kd.R_grown hR9 hgs (fun k hk e => by have := Option.some.inj e; omega)
            have hc10 : CurAt (w.heap.size + 1 + 1 + 1 + 1) s q2 w10 := CurAt.grown hc9 hgs (fun e => by have := Option.some.inj e; omega)
            have hG10 := gnd_grown (gnd_grown HG8.out hg9 (by omega)) hgs hb64
            have HGr10 := Lib.hid (grown_far (grown_far HGr8.out hg9 (fun k hk => by have := Option.some.inj hk; omega)) hgs (fun k hk => by have := Option.some.inj hk; omega))
            have HRb10 := Lib.hid (show w10.heap[rb]? = w8.heap[rb]? from (hgs.block rb (by have := hg9.size; omega) (fun e => by have := Option.some.inj e; omega)).trans (hg9.block rb (by omega) (fun e => by have := Option.some.inj e; omega)))
            have hz10 : w8.heap.size ≤ w10.heap.size := Nat.le_trans hg9.size hgs.size
            have hbd := body_any (w.heap.size + 1 + 1 + 1 + 1) q2 s A9 c9 l most always w10 hG10 (by omega) hs HOKS.out.2.2.2 hm0 hm1 hc10 (by have := HOKS.out.2.1; omega) (Kd.R_reads' hR10).2.2 HOKS.out.1
            have HRo := Lib.hid hR10
            clear hw10 hgs HR9 hR10 hR9 hC9 hg9 hG10 HGr8 HRS8 HC8 HG8 hx9 hf9 c80 hc9 hc10 hhd HRS7 HC7 HG7 HB7 hlc9
            cases hbp : bodyP s q2 l most always with
            | error y =>
              rw [hbp] at hbd
              have HRES := Lib.hid (show R = .error y from by rw [HR4.out, readFin, hbp])
              clear HR4 hbp
              refine hbd.mono ?_
              rintro e w11 ⟨hg11, rfl⟩
              unfold pv
              go_wp2_with fail
              exact dies _ _ _ _ _ y _ (HRS10.out.grown hg11 (fun k hk => by have := Option.some.inj hk; omega)) HRES.out (grown_far HGr10.out hg11 (fun k hk => by have := Option.some.inj hk; omega)) ⟨rfl, rfl, rfl, rfl⟩
            | ok zb =>
              obtain ⟨bx, q3⟩ := zb
              rw [hbp] at hbd
              have HRES := Lib.hid (show R = .ok ⟨l.filter (fun h => !framingB h.name), bx, q3, z⟩ from by rw [HR4.out, readFin, hbp])
              clear HR4 hbp dies
              refine hbd.mono ?_
              rintro e w11 ⟨hg11, ⟨_, rfl, rfl⟩, hc11, hq11⟩
              have HRS11 := HRS10.out.grown hg11 (fun k hk => by have := Option.some.inj hk; omega)
              have hx11 : w11.cell? ⟨w.heap.size + 1, 0, none⟩ = some (.string ⟨#[]⟩) ∧ w11.frozen? ⟨w.heap.size + 1, 0, none⟩ = false := ⟨by rw [blk_cell HRS11.r1]; rfl, blk_frozen HRS11.r1 _⟩
              obtain ⟨hx11, hf11⟩ := hx11
              have HR11 := Lib.hid HRS11
              have HC11 := Lib.hid hc11
              have HG11 := Lib.hid hg11
              clear HRS11 hc11 hg11 hbd
              go_wp2_with fail
              obtain ⟨w12, hw12⟩ : ∃ w12, w12 = w11.setCell ⟨w.heap.size + 1, 0, none⟩ (.string bx) := ⟨_, rfl⟩
              rw [← hw12]
              have hgs : w11.grownBy w12 (some (w.heap.size + 1)) := by rw [hw12]; exact grown_set (grown_refl _ _)
              have HR12 := HR11.out
              have HRS12 : ResAt w.heap.size w12 (.slice A9 l.length c9) (.string bx) (.int .i64 0) (.int .i64 0) := by
                rw [hw12]
                exact ⟨blk_far HR12.r0 (by simp) _, blk_set HR12.r1 0 _, blk_far HR12.r2 (by simp) _, blk_far HR12.r3 (by simp; omega) _⟩
              have hc12 : CurAt (w.heap.size + 1 + 1 + 1 + 1) s q3 w12 := CurAt.grown HC11.out hgs (fun e => by have := Option.some.inj e; omega)
              have hg12 := grown_far (grown_far HGr10.out HG11.out (fun k hk => by have := Option.some.inj hk; omega)) hgs (fun k hk => by have := Option.some.inj hk; omega)
              have HRb12 := Lib.hid (show w12.heap[rb]? = w8.heap[rb]? from ((hgs.block rb (by have := HG11.out.size; omega) (fun e => by have := Option.some.inj e; omega)).trans (HG11.out.block rb (by omega) (fun e => by have := Option.some.inj e; omega))).trans HRb10.out)
              have hz12 : w8.heap.size ≤ w12.heap.size := Nat.le_trans hz10 (Nat.le_trans HG11.out.size hgs.size)
              have hR12 : rowsV w8.heap.size l w12 (.slice A9 l.length c9) := Kd.R_grown (Kd.R_grown HRo.out HG11.out (fun k hk e => by have := Option.some.inj e; omega)) hgs (fun k hk e => by have := Option.some.inj e; omega)
              have hR12 : Kd.R kH 82 w12 w8.heap.size (fun _ => True) (.slice A9 l.length c9) l := Kd.R_mono hR12 (fun _ _ => trivial)
              have hdf : ∀ W, Below w12.heap.size w12 W → Calls Tryz.prog 66 #[.slice A9 l.length c9, .func (.func 53) #[] #[]] W fun e w' => ∃ A c, e = .returned (.slice A (l.filter (fun h => !framingB h.name)).length c) ∧ Hid (Kd.C kH w' A (l.filter (fun h => !framingB h.name)).length (l.filter (fun h => !framingB h.name))) ∧ Hid ((∀ ad, A = some ad → w8.heap.size ≤ ad.block) ∧ Below w8.heap.size w12 w') ∧
                  (w'.cell? ⟨w.heap.size, 0, none⟩ = some (.slice A9 l.length c9) ∧ w'.cell? ⟨w.heap.size + 1, 0, none⟩ = some (.string bx) ∧ w'.cell? ⟨w.heap.size + 1 + 1, 0, none⟩ = some (.int .i64 0) ∧ w'.cell? ⟨w.heap.size + 1 + 1 + 1, 0, none⟩ = some (.int .i64 0) ∧ w'.cell? ⟨w.heap.size + 1 + 1 + 1 + 1, 1, none⟩ = some (.int .i64 q3)) ∧
                  (w'.frozen? ⟨w.heap.size, 0, none⟩ = false ∧ w'.frozen? ⟨w.heap.size + 1, 0, none⟩ = false ∧ w'.frozen? ⟨w.heap.size + 1 + 1, 0, none⟩ = false ∧ w'.frozen? ⟨w.heap.size + 1 + 1 + 1, 0, none⟩ = false) := fun W hb => (deleteFunc_H 53 #[] (fun args w => by kernel_rfl) (fun h => framingB h.name) (.slice A9 l.length c9) l w8.heap.size W (Nat.le_trans hz12 hb.size) (by have := HOKS.out.2.1; omega) (Kd.R_below hR12 hb) HOKS.out.1 (fun W' h hh _ => framing_any h.name h.value W' hh.1)).mono (by
                  rintro e w' ⟨A, c, rfl, _, hC, hA, hb'⟩
                  have hB : Below w8.heap.size w12 w' := (hb.mono hz12).trans hb'
                  have hr : ResAt w.heap.size w' (.slice A9 l.length c9) (.string bx) (.int .i64 0) (.int .i64 0) := ⟨(hB.block _ (by omega)).trans HRS12.r0, (hB.block _ (by omega)).trans HRS12.r1, (hB.block _ (by omega)).trans HRS12.r2, (hB.block _ (by omega)).trans HRS12.r3⟩
                  have hcc : CurAt (w.heap.size + 1 + 1 + 1 + 1) s q3 w' := (hB.block _ (by omega)).trans hc12
                  exact ⟨A, c, rfl, Lib.hid hC, Lib.hid ⟨hA, hB⟩, ⟨by rw [blk_cell hr.r0]; rfl, by rw [blk_cell hr.r1]; rfl, by rw [blk_cell hr.r2]; rfl, by rw [blk_cell hr.r3]; rfl, hcc.c1⟩, blk_frozen hr.r0 _, blk_frozen hr.r1 _, blk_frozen hr.r2 _, blk_frozen hr.r3 _⟩)
              have k0 : w12.cell? ⟨w.heap.size, 0, none⟩ = some (.slice A9 l.length c9) := by rw [blk_cell HRS12.r0]; rfl
              have k1 : w12.cell? ⟨w.heap.size + 1, 0, none⟩ = some (.string bx) := by rw [blk_cell HRS12.r1]; rfl
              have k4 : w12.cell? ⟨w.heap.size + 1 + 1 + 1 + 1, 1, none⟩ = some (.int .i64 q3) := hc12.c1
              have HX := Lib.hid hg12
              have HRS := Lib.hid HRS12
              clear hw12 hgs HR12 HRS12 hc12 hg12 hR12 hx11 hf11 HR11 HC11 HG11 HRo HRS10 hz10
              refine wp_region_noPanic ?_
              go_region_with (go_at_call 66; refine (hdf _ (by repeat (first | assumption | exact Below.refl _ _ | apply below_drew | apply pw_below_drewN | apply below_alloc | (refine below_via (by assumption) ?_)))).mono ?_; rintro e w13 ⟨A13, c13, rfl, hC13, hB13, ⟨n0, n1, n2, n3, n4⟩, m0, m1, m2, m3⟩)
              all_goals (refine NoPanic.normal ?_; go_wp2_with fail)
              all_goals
                refine read_ends w.heap.size _ (.slice A13 (l.filter (fun h => !framingB h.name)).length c13) (.string bx) (.int .i64 q3) (.int .i64 0) _ ?_ _ ⟨rfl, rfl, rfl, rfl⟩ ?_
                · have hB := hB13.out.2
                  have hr := HRS.out
                  exact ResAt.set4 (v0 := .slice A9 l.length c9) (v1 := .string bx) (v2 := .int .i64 0) (v3 := .int .i64 0) ⟨(hB.block _ (by omega)).trans hr.r0, (hB.block _ (by omega)).trans hr.r1, (hB.block _ (by omega)).trans hr.r2, (hB.block _ (by omega)).trans hr.r3⟩ _ _ _ _
                · have hB := hB13.out.2
                  have hr := HRS.out
                  rw [HRES.out]
                  refine ⟨grown_set4 (grown_belowB HX.out (hB.mono (by omega))) (Nat.le_refl _) _ _ _ _, ⟨A13, c13, rfl, kC_set4 (v0 := .slice A9 l.length c9) (v1 := .string bx) (v2 := .int .i64 0) (v3 := .int .i64 0) ⟨(hB.block _ (by omega)).trans hr.r0, (hB.block _ (by omega)).trans hr.r1, (hB.block _ (by omega)).trans hr.r2, (hB.block _ (by omega)).trans hr.r3⟩ hC13.out _ _ _ _, fun ad e => by have := hB13.out.1 ad e; omega⟩, ?_, hq11⟩
                  refine hF z w8 _ hfin8 ?_
                  rw [Below.heap_setCell _ _ _ _ (show rb ≠ _ from by simp; omega), Below.heap_setCell _ _ _ _ (show rb ≠ _ from by simp; omega), Below.heap_setCell _ _ _ _ (show rb ≠ _ from by simp; omega), Below.heap_setCell _ _ _ _ (show rb ≠ _ from by simp; omega)]
                  exact (hB.block rb (by omega)).trans HRb12.out
      | [], HR2, _, _ | [_], HR2, _, _ | [_, _], HR2, _, _ | _ :: _ :: _ :: _ :: _, HR2, _, _ =>
        go_wp2_with (go_at_call 33; refine (must_f _ _ _ (by first | (simp; done) | (simp; omega))).mono ?_; rintro e w9 ⟨rfl, rfl⟩)
        exact dies _ _ _ _ _ 13 _ HRS7.out HR2.out (grown_of_below HB7.out _) ⟨rfl, rfl, rfl, rfl⟩
  · refine (read_range s most always (.func (.func g) #[] lb) w hm).mono ?_
    rintro e w' ⟨rfl, hb⟩
    unfold readP
    rw [if_neg hm]
    exact ⟨grown_of_below hb _, rfl⟩
end Go.Proofs.YtaihnhhapplmbaaGreatDoor.Ht
