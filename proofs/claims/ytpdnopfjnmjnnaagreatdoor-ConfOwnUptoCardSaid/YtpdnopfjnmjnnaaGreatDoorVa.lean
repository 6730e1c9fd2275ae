/- Package conf: Get. -/
import Derived.Test.YtpdnopfjnmjnnaaGreatDoorNw
set_option linter.unusedVariables false
set_option linter.unusedSimpArgs false
namespace Go.Proofs.YtpdnopfjnmjnnaaGreatDoor.Cn
open Go.Sort Go.RowKit Go.Proofs Go.Proofs.YtpdnopfjnmjnnaaGreatDoorW.PrintWords Go.Proofs.YtpdnopfjnmjnnaaGreatDoor.Bs Go.Proofs.YtpdnopfjnmjnnaaGreatDoor.Ir Go.Proofs.YtpdnopfjnmjnnaaGreatDoor.Cz

theorem get1_any (x : Kn) (A3 A4 : Option Addr) (c3 c4 : Nat) (k : ByteArray) (b : Nat) (w : World) (hk : w.cell? ⟨b, 0, none⟩ = some (.string k)) : Calls Tryz.prog 31 #[.agg #[.string x.f0, .int .u8 x.f1, .string x.f2, .slice A3 x.f3.length c3, .slice A4 x.f4.length c4], .pointer (some ⟨b, 0, none⟩)] w fun e w' => e = .returned (.bool (x.f0.data.toList == k.data.toList)) ∧ Below w.heap.size w w' := by
  have hk' := cell_past w (.cells #[.string x.f0, .int .u8 x.f1, .string x.f2, .slice A3 x.f3.length c3, .slice A4 x.f4.length c4] 44) _ _ hk
  go_enter Tryz.func31, Tryz.ntmps31
  go_wp2_with fail
  go_ret
  exact ⟨by rw [← Lib.toList_data, ← Lib.toList_data]; rfl, below_alloc (Below.refl _ _) _⟩
def isKey (p : ByteArray) (y : Kn) : Bool := y.f0.data.toList == p.data.toList
/-- What a path leads to. -/
def getL : Kn → List ByteArray → Option Kn
  | x, [] => some x
  | x, p :: ps => if idxK (isKey p) x.f4 < 0 ∨ x.f1 ≠ 0 then none else getL (x.f4.getD (idxK (isKey p) x.f4).toNat zKn) ps
/-- The box of the node that the path has led to. -/
structure GetP (x : Kn) (path : List ByteArray) (w W : World) (y : Kn) (A3 A4 : Option Addr) (c3 c4 i : Nat) : Prop where
  box : W.heap[w.heap.size]? = some (.cells #[.int .u8 y.f1, .string y.f2, .slice A3 y.f3.length c3, .slice A4 y.f4.length c4] 32 (0, 0))
  res : W.heap[w.heap.size + 1]? = some (.cells #[.int .u8 0, .string ⟨#[]⟩, .slice none 0 0, .slice none 0 0] 32 (0, 0))
  cl : Kd.string.C w A3 y.f3.length y.f3
  ck : kK.C w A4 y.f4.length y.f4
  fit : Fit y
  eq : getL x path = getL y (path.drop i)
  bel : Below w.heap.size w W
def GetQ (x : Kn) (path : List ByteArray) (w : World) (e : Ending) (w' : World) : Prop :=
  Below w.heap.size w w' ∧ match getL x path with
    | none => e = .returned (.tuple #[.agg #[.int .u8 0, .string ⟨#[]⟩, .slice none 0 0, .slice none 0 0], .bool false])
    | some y => ∃ v3 v4, e = .returned (.tuple #[.agg #[.int .u8 y.f1, .string y.f2, v3, v4], .bool true]) ∧ Kd.string.R 9 w' w.heap.size (fun k => w.heap.size ≤ k) v3 y.f3 ∧ kK.R 44 w' w.heap.size (fun k => w.heap.size ≤ k) v4 y.f4
theorem idxK_lt (p : Kn → Bool) (l : List Kn) (h : 0 ≤ idxK p l) : (idxK p l).toNat < l.length := by
  unfold idxK at h ⊢
  cases e : l.findIdx? p with
  | none => rw [e] at h; exact absurd h (by decide)
  | some i =>
    rw [List.findIdx?_eq_some_iff_getElem] at e
    obtain ⟨hi, _⟩ := e
    simpa using hi
theorem get_next {x y : Kn} {path : List ByteArray} {w wr w2 WF : World} {B3 B4 : Option Addr} {d3 d4 i : Nat} {z : Kn} {D3 D4 : Option Addr} {e3 e4 : Nat} (h : GetP x path w wr y B3 B4 d3 d4 i) (hb : Below wr.heap.size wr w2) (hz : Fit z) (h3 : Kd.string.C w D3 z.f3.length z.f3) (h4 : kK.C w D4 z.f4.length z.f4) (he : getL x path = getL z (path.drop (i + 1)))
    (hWF : WF = (((w2.setCell ⟨w.heap.size, 0, none⟩ (.int .u8 z.f1)).setCell ⟨w.heap.size, 1, none⟩ (.string z.f2)).setCell ⟨w.heap.size, 2, none⟩ (.slice D3 z.f3.length e3)).setCell ⟨w.heap.size, 3, none⟩ (.slice D4 z.f4.length e4)) : GetP x path w WF z D3 D4 e3 e4 (i + 1) := by
  have hbox := (hb.block _ (blk_lt h.box)).trans h.box
  have hres := (hb.block _ (blk_lt h.res)).trans h.res
  have hW : WF = w2.setCells w.heap.size 0 [.int .u8 z.f1, .string z.f2, .slice D3 z.f3.length e3, .slice D4 z.f4.length e4] := hWF
  refine ⟨by rw [hW]; exact node_set hbox _ _ _ _, by rw [hW]; exact (node_far _ _ _ _ (by omega)).trans hres, h3, h4, hz, he, ?_⟩
  rw [hWF]
  exact (((((h.bel.trans (hb.mono h.bel.size)).setCell (p := ⟨w.heap.size, 0, none⟩) (Nat.le_refl _) _).setCell (p := ⟨w.heap.size, 1, none⟩) (Nat.le_refl _) _).setCell (p := ⟨w.heap.size, 2, none⟩) (Nat.le_refl _) _).setCell (p := ⟨w.heap.size, 3, none⟩) (Nat.le_refl _) _)
set_option maxRecDepth 100000 in
set_option maxHeartbeats 2000000 in
theorem get_any (x : Kn) (hx : Fit x) (A3 : Option Addr) (c3 : Nat) (A4 : Option Addr) (c4 : Nat) (Ap : Option Addr) (cp : Nat) (path : List ByteArray) (w : World) (hC3 : Kd.string.C w A3 x.f3.length x.f3) (hC4 : kK.C w A4 x.f4.length x.f4) (hCp : Kd.string.C w Ap path.length path) (hp : path.length ≤ 1073741824) :
    Calls Tryz.prog 19 #[.agg #[.int .u8 x.f1, .string x.f2, .slice A3 x.f3.length c3, .slice A4 x.f4.length c4], .slice Ap path.length cp] w (GetQ x path w) := by
  have HCP := Lib.hid hCp
  have HC := Lib.hid (And.intro hC3 hC4)
  have HF := Lib.hid hx
  clear hCp hC3 hC4 hx
  obtain ⟨wa, hwa⟩ : ∃ wa, wa = (w.alloc (.cells #[.int .u8 x.f1, .string x.f2, .slice A3 x.f3.length c3, .slice A4 x.f4.length c4] 32)).alloc (.cells #[.int .u8 0, .string ⟨#[]⟩, .slice none 0 0, .slice none 0 0] 32) := ⟨_, rfl⟩
  have hP : GetP x path w wa x A3 A4 c3 c4 0 := by
    have e1 : (w.alloc (.cells #[.int .u8 x.f1, .string x.f2, .slice A3 x.f3.length c3, .slice A4 x.f4.length c4] 32)).heap.size = w.heap.size + 1 := by simp
    refine ⟨by rw [hwa, Below.heap_alloc _ _ _ (by simp)]; exact heap_alloc_new w _, by rw [hwa, ← e1]; exact heap_alloc_new _ _, HC.out.1, HC.out.2, HF.out, rfl, by rw [hwa]; exact below_alloc (below_alloc (Below.refl _ _) _) _⟩
  have HP := Lib.hid hP
  have HW := Lib.hid hwa
  clear hP hwa
  go_enter Tryz.func19, Tryz.ntmps19
  go_wp2_with fail
  rw [← HW.out]
  go_loopw [11] (fun iv wr => ∃ i : Nat, iv = .int .i64 i ∧ i ≤ path.length ∧ ∃ (y : Kn) (A3 A4 : Option Addr) (c3 c4 : Nat), Hid (GetP x path w wr y A3 A4 c3 c4 i)) (fun iv _ => path.length - (intOf iv).toNat)
  case atStart => exact ⟨0, rfl, Nat.zero_le _, x, A3, A4, c3, c4, HP⟩
  case round =>
    obtain ⟨i, rfl, hi, y, B3, B4, d3, d4, HPi⟩ := hrel
    have hwr : IntKind.i64.wrap ((i : Int) + 1) = (i : Int) + 1 := IntWalk.i64_in _ (by omega)
    by_cases hlt : i < path.length
    · obtain ⟨ad, cc, e0, -, hK, hcc⟩ := Kd.C_get HCP.out (⟨#[]⟩ : ByteArray) (i : Int) (by omega) (by omega)
      subst e0
      have hcs : cc = [Value.string (path.getD (i : Int).toNat ⟨#[]⟩)] := hK
      obtain ⟨p, hpp⟩ : ∃ p, p = path.getD i ⟨#[]⟩ := ⟨_, rfl⟩
      rw [Int.toNat_natCast, ← hpp] at hcs
      have q0 := hcc 0 (.string p) (by rw [hcs]; rfl)
      rw [Int.toNat_natCast] at q0
      have q1 : wr.cell? (ad.add i) = some (.string p) := by
        have e : i * Kd.string.sz + 0 = i := Nat.mul_one i
        rw [e] at q0
        exact (HPi.out.bel.cell (World.block_lt_of_cell? w _ q0)).trans q0
      obtain ⟨wp, hwp⟩ : ∃ wp, wp = wr.alloc (.cells #[.string p] 9) := ⟨_, rfl⟩
      have hbp : Below wr.heap.size wr wp := by rw [hwp]; exact below_alloc (Below.refl _ _) _
      have hpk : wp.heap[wr.heap.size]? = some (.cells #[.string p] 9 (0, 0)) := by rw [hwp]; exact heap_alloc_new wr _
      have hbwp : Below w.heap.size w wp := HPi.out.bel.trans (hbp.mono HPi.out.bel.size)
      have hfit : y.f4.length ≤ 1073741824 := by cases HPi.out.fit; assumption
      have hix := indexFunc_K 31 #[.pointer (some ⟨wr.heap.size, 0, none⟩)] (fun args w => by kernel_rfl) (isKey p) B4 d4 y.f4 wp hfit (HPi.out.ck.imp_ hbwp (fun _ _ hp => kK.K_below hbwp hp)) (fun W z A3 A4 c3 c4 hb => get1_any z A3 A4 c3 c4 p wr.heap.size W ((hb.cell (p := ⟨wr.heap.size, 0, none⟩) (blk_lt hpk)).trans (blk_cell hpk 0)))
      have b3 := blk_cell ((hbp.block _ (blk_lt HPi.out.box)).trans HPi.out.box) 3
      have HWP := Lib.hid hwp
      have HBP := Lib.hid hbp
      have HPP := Lib.hid hpp
      rw [hwp] at b3
      clear q0 hcc hcs hK hwp hbp hpk hbwp hfit hpp
      go_wp2_with fail
      rw [← HWP.out]
      refine hix.mono ?_
      rintro e w2 ⟨rfl, hb2⟩
      have hb3 := HBP.out.trans (hb2.mono HBP.out.size)
      have hbox2 := (hb3.block _ (blk_lt HPi.out.box)).trans HPi.out.box
      have hres2 := (hb3.block _ (blk_lt HPi.out.res)).trans HPi.out.res
      have HB3 := Lib.hid hb3
      have HBX := Lib.hid hbox2
      have HRS := Lib.hid hres2
      clear hix hb2 b3 q1 hb3 hbox2 hres2
      obtain ⟨ix, hxx⟩ : ∃ ix, ix = idxK (isKey p) y.f4 := ⟨_, rfl⟩
      rw [← hxx]
      have HX := Lib.hid hxx
      clear hxx
      have hdrop : path.drop i = p :: path.drop (i + 1) := by
        rw [List.drop_eq_getElem_cons hlt, HPP.out]
        simp [List.getElem?_eq_getElem hlt]
      have hE : getL x path = if ix < 0 ∨ y.f1 ≠ 0 then none else getL (y.f4.getD ix.toNat zKn) (path.drop (i + 1)) := by
        rw [HPi.out.eq, hdrop, getL, HX.out]
      by_cases hneg : ix < 0
      · rw [if_pos (.inl hneg)] at hE
        have HE := Lib.hid hE
        clear hE hdrop
        have r0 := blk_cell HRS.out 0
        have r1 := blk_cell HRS.out 1
        have r2 := blk_cell HRS.out 2
        have r3 := blk_cell HRS.out 3
        have z0 := blk_frozen HRS.out 0
        have z1 := blk_frozen HRS.out 1
        have z2 := blk_frozen HRS.out 2
        have z3 := blk_frozen HRS.out 3
        have b0 := blk_cell HBX.out 0
        go_wp2_with fail
        clear r0 r1 r2 r3 z0 z1 z2 z3 b0
        have d0 := node_set HRS.out (.int .u8 0) (.string ⟨#[]⟩) (.slice none 0 0) (.slice none 0 0)
        have hbw : Below w.heap.size w (w2.setCells (w.heap.size + 1) 0 [.int .u8 0, .string ⟨#[]⟩, .slice none 0 0, .slice none 0 0]) := (((((HPi.out.bel.trans (HB3.out.mono HPi.out.bel.size)).setCell (p := ⟨w.heap.size + 1, 0, none⟩) (by simp) _).setCell (p := ⟨w.heap.size + 1, 1, none⟩) (by simp) _).setCell (p := ⟨w.heap.size + 1, 2, none⟩) (by simp) _).setCell (p := ⟨w.heap.size + 1, 3, none⟩) (by simp) _)
        obtain ⟨WF, hWF⟩ : ∃ WF, WF = w2.setCells (w.heap.size + 1) 0 [.int .u8 0, .string ⟨#[]⟩, .slice none 0 0, .slice none 0 0] := ⟨_, rfl⟩
        rw [← hWF] at d0 hbw
        have hgo : ((((w2.setCell ⟨w.heap.size + 1, 0, none⟩ (.int .u8 0)).setCell ⟨w.heap.size + 1, 1, none⟩ (.string ⟨#[]⟩)).setCell ⟨w.heap.size + 1, 2, none⟩ (.slice none 0 0)).setCell ⟨w.heap.size + 1, 3, none⟩ (.slice none 0 0)) = WF := hWF.symm
        rw [hgo]
        clear hgo hWF
        have c0 := blk_cell d0 0
        have c1 := blk_cell d0 1
        have c2 := blk_cell d0 2
        have c3 := blk_cell d0 3
        refine bodyPost_ret (v := .tuple #[.agg #[.int .u8 0, .string ⟨#[]⟩, .slice none 0 0, .slice none 0 0], .bool false]) (by simp [results, Tryz.results19, go_sem, c0, c1, c2, c3]) rfl ⟨hbw, ?_⟩
        rw [HE.out]
      · by_cases hk : y.f1 ≠ 0
        · rw [if_pos (.inr hk)] at hE
          have HE := Lib.hid hE
          have hk1 : (y.f1 != 0) = true := by rw [bne_iff_ne]; exact hk
          clear hE hdrop
          have r0 := blk_cell HRS.out 0
          have r1 := blk_cell HRS.out 1
          have r2 := blk_cell HRS.out 2
          have r3 := blk_cell HRS.out 3
          have z0 := blk_frozen HRS.out 0
          have z1 := blk_frozen HRS.out 1
          have z2 := blk_frozen HRS.out 2
          have z3 := blk_frozen HRS.out 3
          have b0 := blk_cell HBX.out 0
          go_wp2_with fail
          clear r0 r1 r2 r3 z0 z1 z2 z3 b0
          have d0 := node_set HRS.out (.int .u8 0) (.string ⟨#[]⟩) (.slice none 0 0) (.slice none 0 0)
          have hbw : Below w.heap.size w (w2.setCells (w.heap.size + 1) 0 [.int .u8 0, .string ⟨#[]⟩, .slice none 0 0, .slice none 0 0]) := (((((HPi.out.bel.trans (HB3.out.mono HPi.out.bel.size)).setCell (p := ⟨w.heap.size + 1, 0, none⟩) (by simp) _).setCell (p := ⟨w.heap.size + 1, 1, none⟩) (by simp) _).setCell (p := ⟨w.heap.size + 1, 2, none⟩) (by simp) _).setCell (p := ⟨w.heap.size + 1, 3, none⟩) (by simp) _)
          obtain ⟨WF, hWF⟩ : ∃ WF, WF = w2.setCells (w.heap.size + 1) 0 [.int .u8 0, .string ⟨#[]⟩, .slice none 0 0, .slice none 0 0] := ⟨_, rfl⟩
          rw [← hWF] at d0 hbw
          have hgo : ((((w2.setCell ⟨w.heap.size + 1, 0, none⟩ (.int .u8 0)).setCell ⟨w.heap.size + 1, 1, none⟩ (.string ⟨#[]⟩)).setCell ⟨w.heap.size + 1, 2, none⟩ (.slice none 0 0)).setCell ⟨w.heap.size + 1, 3, none⟩ (.slice none 0 0)) = WF := hWF.symm
          rw [hgo]
          clear hgo hWF
          have c0 := blk_cell d0 0
          have c1 := blk_cell d0 1
          have c2 := blk_cell d0 2
          have c3 := blk_cell d0 3
          refine bodyPost_ret (v := .tuple #[.agg #[.int .u8 0, .string ⟨#[]⟩, .slice none 0 0, .slice none 0 0], .bool false]) (by simp [results, Tryz.results19, go_sem, c0, c1, c2, c3]) rfl ⟨hbw, ?_⟩
          rw [HE.out]
        · rw [if_neg (by simp [hneg, hk])] at hE
          have HE := Lib.hid hE
          have hk1 : (y.f1 != 0) = false := by simpa using hk
          have hil : ix.toNat < y.f4.length := by rw [HX.out]; exact idxK_lt _ _ (by rw [← HX.out]; omega)
          clear hE hdrop
          obtain ⟨ad4, D3, e3, D4, e4, hB4, k0, k1, k2, k3, k4, -, g3, -, g4⟩ := at_K HPi.out.ck ix (by omega) (by omega)
          subst hB4
          have hzz : rd_K y.f4 ix = y.f4[ix.toNat] := by simp [rd_K, List.getElem?_eq_getElem hil]
          have hfz : Fit (rd_K y.f4 ix) := by
            rw [hzz]
            cases HPi.out.fit with
            | mk _ _ _ hall => exact hall _ (List.getElem_mem hil)
          have HEz := Lib.hid (show getL x path = getL (rd_K y.f4 ix) (path.drop (i + 1)) from HE.out)
          have HGZ := Lib.hid (And.intro hfz (And.intro g3 g4))
          clear hzz hfz g3 g4 HE
          generalize rd_K y.f4 ix = z at *
          have hbw2 : Below w.heap.size w w2 := HPi.out.bel.trans (HB3.out.mono HPi.out.bel.size)
          replace k1 := (hbw2.cell (World.block_lt_of_cell? w _ k1)).trans k1
          replace k2 := (hbw2.cell (World.block_lt_of_cell? w _ k2)).trans k2
          replace k3 := (hbw2.cell (World.block_lt_of_cell? w _ k3)).trans k3
          replace k4 := (hbw2.cell (World.block_lt_of_cell? w _ k4)).trans k4
          have b0 := blk_cell HBX.out 0
          have b1 := blk_cell HBX.out 1
          have b2 := blk_cell HBX.out 2
          have b3 := blk_cell HBX.out 3
          have z0 := blk_frozen HBX.out 0
          have z1 := blk_frozen HBX.out 1
          have z2 := blk_frozen HBX.out 2
          have z3 := blk_frozen HBX.out 3
          have hix0 : 0 ≤ ix := by omega
          have hixl : ix < (y.f4.length : Int) := by omega
          clear k0 hbw2 hneg
          go_wp2_with fail
          go_roundw
          case rel => exact ⟨i + 1, by simp, by omega, z, D3, D4, e3, e4, Lib.hid (get_next HPi.out HB3.out HGZ.out.1 HGZ.out.2.1 HGZ.out.2.2 HEz.out rfl)⟩
          case measure => simp [intOf]; omega
    · have hin : i = path.length := by omega
      subst hin
      have hE : getL x path = some y := by rw [HPi.out.eq, List.drop_length]; rfl
      have HE := Lib.hid hE
      have b0 := blk_cell HPi.out.box 0
      have b1 := blk_cell HPi.out.box 1
      have b2 := blk_cell HPi.out.box 2
      have b3 := blk_cell HPi.out.box 3
      have hown := own_any y HPi.out.fit B3 d3 B4 d4 wr (HPi.out.cl.imp_ HPi.out.bel (fun _ _ hp => Kd.string.K_below HPi.out.bel hp)) (HPi.out.ck.imp_ HPi.out.bel (fun _ _ hp => kK.K_below HPi.out.bel hp))
      clear hE
      go_wp2_with fail
      refine hown.mono ?_
      rintro e w2 ⟨v3, v4, rfl, hL, hK, hb⟩
      obtain ⟨E3, f3, rfl⟩ := Kd.R_slice hL
      obtain ⟨E4, f4, rfl⟩ := Kd.R_slice hK
      have hres2 := (hb.block _ (blk_lt HPi.out.res)).trans HPi.out.res
      have HRS := Lib.hid hres2
      have HX := Lib.hid (And.intro hL (And.intro hK hb))
      have r0 := blk_cell hres2 0
      have r1 := blk_cell hres2 1
      have r2 := blk_cell hres2 2
      have r3 := blk_cell hres2 3
      have z0 := blk_frozen hres2 0
      have z1 := blk_frozen hres2 1
      have z2 := blk_frozen hres2 2
      have z3 := blk_frozen hres2 3
      clear hL hK hb hres2 b0 b1 b2 b3 hown
      go_wp2_with fail
      clear r0 r1 r2 r3 z0 z1 z2 z3
      have hlt2 := blk_lt HPi.out.res
      have d0 := node_set HRS.out (.int .u8 y.f1) (.string y.f2) (.slice E3 y.f3.length f3) (.slice E4 y.f4.length f4)
      have hfar : ∀ k, k ≠ w.heap.size + 1 → (w2.setCells (w.heap.size + 1) 0 [.int .u8 y.f1, .string y.f2, .slice E3 y.f3.length f3, .slice E4 y.f4.length f4]).heap[k]? = w2.heap[k]? := fun k hk => node_far _ _ _ _ hk
      have hbw : Below w.heap.size w (w2.setCells (w.heap.size + 1) 0 [.int .u8 y.f1, .string y.f2, .slice E3 y.f3.length f3, .slice E4 y.f4.length f4]) := (((((HPi.out.bel.trans (HX.out.2.2.mono HPi.out.bel.size)).setCell (p := ⟨w.heap.size + 1, 0, none⟩) (by simp) _).setCell (p := ⟨w.heap.size + 1, 1, none⟩) (by simp) _).setCell (p := ⟨w.heap.size + 1, 2, none⟩) (by simp) _).setCell (p := ⟨w.heap.size + 1, 3, none⟩) (by simp) _)
      obtain ⟨WF, hWF⟩ : ∃ WF, WF = w2.setCells (w.heap.size + 1) 0 [.int .u8 y.f1, .string y.f2, .slice E3 y.f3.length f3, .slice E4 y.f4.length f4] := ⟨_, rfl⟩
      rw [← hWF] at d0 hbw hfar
      have hgo : ((((w2.setCell ⟨w.heap.size + 1, 0, none⟩ (.int .u8 y.f1)).setCell ⟨w.heap.size + 1, 1, none⟩ (.string y.f2)).setCell ⟨w.heap.size + 1, 2, none⟩ (.slice E3 y.f3.length f3)).setCell ⟨w.heap.size + 1, 3, none⟩ (.slice E4 y.f4.length f4)) = WF := hWF.symm
      rw [hgo]
      clear hgo hWF
      have c0 := blk_cell d0 0
      have c1 := blk_cell d0 1
      have c2 := blk_cell d0 2
      have c3 := blk_cell d0 3
      refine bodyPost_ret (v := .tuple #[.agg #[.int .u8 y.f1, .string y.f2, .slice E3 y.f3.length f3, .slice E4 y.f4.length f4], .bool true]) (by simp [results, Tryz.results19, go_sem, c0, c1, c2, c3]) rfl ⟨hbw, ?_⟩
      rw [HE.out]
      exact ⟨_, _, rfl, Kd.R_mono (Kd.R_lower (Kd.R_move HX.out.1 (fun k hk => hfar k (by omega))) (by omega)) (fun k hk => by omega), Kd.R_mono (Kd.R_lower (Kd.R_move HX.out.2.1 (fun k hk => hfar k (by omega))) (by omega)) (fun k hk => by omega)⟩
end Go.Proofs.YtpdnopfjnmjnnaaGreatDoor.Cn
