/- Package penstockref12: Copy. -/
import Derived.Test.YtpdnopfjnmjnnaaGreatDoorWb
import Derived.Deep.RegionLaw
set_option linter.unusedVariables false
set_option linter.unusedSimpArgs false
namespace Go.Proofs.YtpdnopfjnmjnnaaGreatDoor.Cn
open Go.Sort Go.RowKit Go.Proofs Go.Proofs.YtpdnopfjnmjnnaaGreatDoorW.PrintWords Go.Proofs.YtpdnopfjnmjnnaaGreatDoor.Bs Go.Proofs.YtpdnopfjnmjnnaaGreatDoor.Ir Go.Proofs.YtpdnopfjnmjnnaaGreatDoor.Cz

theorem R_slice_n {α : Type} {d : Kd α} {e : TypeId} {w : World} {base : Nat} {ok : Nat → Prop} {v : Value} {xs : List α} (h : d.R e w base ok v xs) (n : Nat) (hn : xs.length = n) : ∃ A c, v = .slice A n c := by
  subst hn
  exact Kd.R_slice h
structure CopyP (x : Kn) (A4 : Option Addr) (c4 : Nat) (w W : World) (s2 : Nat) (v3 : Value) (B : Option Addr) (d i : Nat) : Prop where
  box : W.heap[w.heap.size]? = some (.cells #[.int .u8 x.f1, .string x.f2, v3, .slice A4 x.f4.length c4] 32 (0, 0))
  res : W.heap[w.heap.size + 1]? = some (.cells #[.int .u8 0, .string ⟨#[]⟩, .slice none 0 0, .slice none 0 0] 32 (0, 0))
  list : Kd.string.R 9 W (w.heap.size + 2) (fun k => w.heap.size + 2 ≤ k ∧ k < s2) v3 x.f3
  low : w.heap.size + 2 ≤ s2
  le : s2 ≤ W.heap.size
  keys : kK.R 44 W s2 (fun k => s2 ≤ k) (.slice B i d) (x.f4.take i)
  bel : Below w.heap.size w W
theorem CopyP.own {x : Kn} {A4 : Option Addr} {c4 : Nat} {w W : World} {s2 : Nat} {v3 : Value} {B : Option Addr} {d i : Nat} (h : CopyP x A4 c4 w W s2 v3 B d i) : ∀ k, W.heap.size ≤ k → s2 ≤ k ∧ some k ≠ (Value.slice B i d).ownBlock := by
  intro k hk
  refine ⟨Nat.le_trans h.le hk, fun e => ?_⟩
  obtain ⟨inner, ho, _⟩ := h.keys.2
  have := own_lt ho k e.symm
  omega
theorem CopyP.next {x : Kn} {A4 : Option Addr} {c4 : Nat} {w W W' : World} {s2 : Nat} {v3 : Value} {B B' : Option Addr} {d d' i : Nat} (h : CopyP x A4 c4 w W s2 v3 B d i) (hb : Below s2 W W') (hk : kK.R 44 W' s2 (fun k => s2 ≤ k) (.slice B' (i + 1) d') (x.f4.take (i + 1))) : CopyP x A4 c4 w W' s2 v3 B' d' (i + 1) := by
  have hlow := h.low
  exact ⟨(hb.block _ (by omega)).trans h.box, (hb.block _ (by omega)).trans h.res, Kd.R_move h.list (fun k hk => hb.block k hk.2), h.low, Nat.le_trans h.le hb.size, hk, h.bel.trans (hb.mono (by omega))⟩
theorem copy_start {x : Kn} {A4 : Option Addr} {c4 : Nat} {w wa w2 WF : World} {B3 : Option Addr} {d3 : Nat} {o3 : Value} (hba : Below w.heap.size w wa) (hsz : wa.heap.size = w.heap.size + 1 + 1) (hk0 : wa.heap[w.heap.size]? = some (.cells #[.int .u8 x.f1, .string x.f2, o3, .slice A4 x.f4.length c4] 32 (0, 0)))
    (hk1 : wa.heap[w.heap.size + 1]? = some (.cells #[.int .u8 0, .string ⟨#[]⟩, .slice none 0 0, .slice none 0 0] 32 (0, 0)))
    (hR : Kd.string.R 9 w2 (w.heap.size + 1 + 1) (fun k => w.heap.size + 1 + 1 ≤ k) (.slice B3 x.f3.length d3) x.f3) (hB : Below (w.heap.size + 1 + 1) wa w2) (hW : WF = w2.setCell ⟨w.heap.size, 2, none⟩ (.slice B3 x.f3.length d3)) :
    CopyP x A4 c4 w WF w2.heap.size (.slice B3 x.f3.length d3) none 0 0 := by
  have hs := hB.size
  have hz : WF.heap.size = w2.heap.size := by rw [hW]; simp [World.setCell]
  have hk : ∀ k, k ≠ w.heap.size → WF.heap[k]? = w2.heap[k]? := fun k hne => by rw [hW, Below.heap_setCell _ _ _ k (by exact hne)]
  refine ⟨?_, (hk _ (by omega)).trans ((hB.block _ (by omega)).trans hk1), ?_, by omega, by omega, Kd.R_nil _ _ _ _ _, ?_⟩
  · rw [hW]
    have d2 := blk_set ((hB.block _ (by omega)).trans hk0) 2 (.slice B3 x.f3.length d3)
    have e2 : (#[.int .u8 x.f1, .string x.f2, o3, .slice A4 x.f4.length c4] : Array Value).setIfInBounds 2 (.slice B3 x.f3.length d3) = #[.int .u8 x.f1, .string x.f2, .slice B3 x.f3.length d3, .slice A4 x.f4.length c4] := by simp
    rw [e2] at d2
    exact d2
  · refine Kd.R_mono (Kd.R_move (Kd.R_bound hR) (fun k hk' => ?_)) (fun k hk' => ?_)
    · have := hk'.1
      exact hk k (by omega)
    · obtain ⟨h1, _, h2, _⟩ := hk'
      exact ⟨by omega, h2⟩
  · rw [hW]
    exact (hba.trans (hB.mono (by omega))).setCell (p := ⟨w.heap.size, 2, none⟩) (Nat.le_refl _) _
theorem CopyP.done {x : Kn} {A4 : Option Addr} {c4 : Nat} {w W WF : World} {s2 : Nat} {v3 : Value} {B : Option Addr} {d : Nat} (h : CopyP x A4 c4 w W s2 v3 B d x.f4.length) (hk : ∀ k, k ≠ w.heap.size → k ≠ w.heap.size + 1 → WF.heap[k]? = W.heap[k]?) (hb : Below w.heap.size W WF) :
    Kd.string.R 9 WF w.heap.size (fun k => w.heap.size ≤ k) v3 x.f3 ∧ kK.R 44 WF w.heap.size (fun k => w.heap.size ≤ k) (.slice B x.f4.length d) x.f4 ∧ Below w.heap.size w WF := by
  have hlow := h.low
  have h4 := h.keys
  rw [List.take_length] at h4
  refine ⟨Kd.R_mono (Kd.R_lower (Kd.R_move h.list (fun k hk' => hk k (by omega) (by omega))) (by omega)) (fun k hk' => by have := hk'.1; omega), Kd.R_mono (Kd.R_lower (Kd.R_move h4 (fun k hk' => hk k (by omega) (by omega))) (by omega)) (fun k hk' => by omega), h.bel.trans hb⟩
theorem copy_elem {x y : Kn} {A4 : Option Addr} {c4 : Nat} {w W w5 w6 : World} {s2 : Nat} {v3 vL vK : Value} {B : Option Addr} {d i : Nat} (h : CopyP x A4 c4 w W s2 v3 B d i) (hb5 : Below W.heap.size W w5) (hL : Kd.string.R 9 w6 w5.drew.heap.size (fun k => w5.drew.heap.size ≤ k) vL y.f3) (hK : kK.R 44 w6 w5.drew.heap.size (fun k => w5.drew.heap.size ≤ k) vK y.f4) (hb : Below w5.drew.heap.size w5.drew w6) :
    kK.M w6 s2 (fun k => W.heap.size ≤ k) y [.string y.f0, .int .u8 y.f1, .string y.f2, vL, vK] ∧ kK.R 44 w6 s2 (fun k => s2 ≤ k) (.slice B i d) (x.f4.take i) ∧ Below s2 W w6 ∧ s2 ≤ w6.heap.size ∧ (∀ k, w6.heap.size ≤ k → s2 ≤ k) ∧ Below W.heap.size W w6 := by
  have h5 : W.heap.size ≤ w5.drew.heap.size := hb5.size
  have hle := h.le
  have hbW : Below W.heap.size W w6 := (below_drew hb5).trans (hb.mono h5)
  have hs := hbW.size
  exact ⟨kK_mkM w6 s2 _ y (Kd.R_mono (Kd.R_lower hL (by omega)) (fun k hk => by omega)) (Kd.R_mono (Kd.R_lower hK (by omega)) (fun k hk => by omega)), Kd.R_below h.keys hbW, hbW.mono hle, by omega, fun k hk => by omega, hbW⟩
set_option maxRecDepth 100000 in
set_option maxHeartbeats 2000000 in
theorem copy_any (x : Kn) (hx : Fit x) : ∀ (A3 : Option Addr) (c3 : Nat) (A4 : Option Addr) (c4 : Nat) (w : World), Kd.string.C w A3 x.f3.length x.f3 → kK.C w A4 x.f4.length x.f4 →
    Calls Tryz.prog 20 #[.agg #[.int .u8 x.f1, .string x.f2, .slice A3 x.f3.length c3, .slice A4 x.f4.length c4]] w (OwnQ x w) := by
  induction hx with
  | mk x h3 h4 _ ih =>
    intro A3 c3 A4 c4 w hC3 hC4
    have HIH := Lib.hid ih
    clear ih
    obtain ⟨wa, hwa⟩ : ∃ wa, wa = (w.alloc (.cells #[.int .u8 x.f1, .string x.f2, .slice A3 x.f3.length c3, .slice A4 x.f4.length c4] 32)).alloc (.cells #[.int .u8 0, .string ⟨#[]⟩, .slice none 0 0, .slice none 0 0] 32) := ⟨_, rfl⟩
    have hba : Below w.heap.size w wa := by rw [hwa]; exact below_alloc (below_alloc (Below.refl _ _) _) _
    have hk0 : wa.heap[w.heap.size]? = some (.cells #[.int .u8 x.f1, .string x.f2, .slice A3 x.f3.length c3, .slice A4 x.f4.length c4] 32 (0, 0)) := by rw [hwa, Below.heap_alloc _ _ _ (by simp)]; exact heap_alloc_new w _
    have e1 : (w.alloc (.cells #[.int .u8 x.f1, .string x.f2, .slice A3 x.f3.length c3, .slice A4 x.f4.length c4] 32)).heap.size = w.heap.size + 1 := by simp
    have hk1 : wa.heap[w.heap.size + 1]? = some (.cells #[.int .u8 0, .string ⟨#[]⟩, .slice none 0 0, .slice none 0 0] 32 (0, 0)) := by rw [hwa, ← e1]; exact heap_alloc_new _ _
    have hsz : wa.heap.size = w.heap.size + 1 + 1 := by rw [hwa]; simp
    have hbb : Below (w.heap.size + 1 + 1) wa (wa.alloc (.cells #[] 9)) := by rw [← hsz]; exact below_alloc (Below.refl _ _) _
    have hRo : Kd.string.R 9 (wa.alloc (.cells #[] 9)) (w.heap.size + 1 + 1) (fun k => w.heap.size + 1 + 1 ≤ k) (.slice (some ⟨w.heap.size + 1 + 1, 0, none⟩) 0 0) [] := by
      rw [← hsz]
      refine ⟨fun k hk => ?_, [], World.ownsRow_made wa #[] 0 (Nat.le_refl _) (by unfold maxLen; omega) rfl, Reps.none _ _⟩
      simp only [Value.ownBlock, Option.some.injEq] at hk
      omega
    have hrd : ReadsRow (Kd.string.K w) Kd.string.sz (wa.alloc (.cells #[] 9)) A3 x.f3.length x.f3 := hC3.imp_ (below_alloc hba _) (fun _ _ hp => hp)
    have hbs : w.heap.size + 1 + 1 ≤ (wa.alloc (.cells #[] 9)).heap.size := by rw [← hsz]; simp
    have HK := Lib.hid (And.intro hba (And.intro hsz (And.intro hk0 hk1)))
    have HWA := Lib.hid hwa
    have HC4 := Lib.hid hC4
    rw [hwa] at hRo hrd hbs
    have hbb' := hbb
    rw [show wa.alloc (.cells #[] 9) = ((w.alloc (.cells #[.int .u8 x.f1, .string x.f2, .slice A3 x.f3.length c3, .slice A4 x.f4.length c4] 32)).alloc (.cells #[.int .u8 0, .string ⟨#[]⟩, .slice none 0 0, .slice none 0 0] 32)).alloc (.cells #[] 9) by rw [hwa]] at hbb'
    have HRO := Lib.hid (And.intro hRo (And.intro hrd (And.intro hbs hbb')))
    have H34 := Lib.hid (And.intro h3 h4)
    clear hba hk0 e1 hk1 hsz hbb hRo hrd hbs hbb' hC3 hC4 hwa h3
    go_enter Tryz.func20, Tryz.ntmps20
    go_wp2_with (at_builtin; refine Kd.R_append_rows Kd.string (Rr := Kd.string.K w) (w0 := wa) (w.heap.size + 1 + 1) rfl (.tmp 6) (.tmp 8) 29 9 (.string ⟨#[]⟩) 16 rfl Tu_texts inS rfl (by decide) (by decide) (.slice (some ⟨w.heap.size + 1 + 1, 0, none⟩) 0 0) [] x.f3 A3 x.f3.length c3 (fun k => w.heap.size + 1 + 1 ≤ k) (fun _ => False) rfl rfl HRO.out.1 HRO.out.2.1 (fun _ _ h => h) (fun _ h => h.elim) (fun k hk => Nat.le_trans HRO.out.2.2.1 hk) HRO.out.2.2.2 HRO.out.2.2.1 (by have := H34.out.1; rw [List.length_nil]; omega) ?_)
    intro v3 w2 hR3 hB3 _ _
    obtain ⟨B3, d3, rfl⟩ := R_slice_n hR3 _ rfl
    have g2 := blk_cell ((hB3.block _ (by omega)).trans HK.out.2.2.1) 2
    have g3 := blk_cell ((hB3.block _ (by omega)).trans HK.out.2.2.1) 3
    have z2 := blk_frozen ((hB3.block _ (by omega)).trans HK.out.2.2.1) 2
    have HR3 := Lib.hid (And.intro hR3 hB3)
    clear hR3 hB3 HRO
    go_wp2_with fail
    obtain ⟨W0, hW0⟩ : ∃ W0, W0 = w2.setCell ⟨w.heap.size, 2, none⟩ (.slice B3 x.f3.length d3) := ⟨_, rfl⟩
    have HP0 := Lib.hid (copy_start HK.out.1 HK.out.2.1 HK.out.2.2.1 HK.out.2.2.2 HR3.out.1 HR3.out.2 hW0)
    rw [← hW0]
    clear g2 g3 z2 hW0 HR3
    generalize w2.heap.size = s2 at *
    go_loopw [3, 14] (fun kv iv wr => ∃ (i : Nat) (B : Option Addr) (d : Nat), kv = .slice B i d ∧ iv = .int .i64 i ∧ i ≤ x.f4.length ∧ Hid (CopyP x A4 c4 w wr s2 (.slice B3 x.f3.length d3) B d i)) (fun _ iv _ => x.f4.length - (intOf iv).toNat)
    case atStart => exact ⟨0, none, 0, rfl, rfl, Nat.zero_le _, HP0⟩
    case round =>
      obtain ⟨i, B, d, rfl, rfl, hi, HPi⟩ := hrel
      by_cases hlt : i < x.f4.length
      · obtain ⟨ad, D3, e3, D4, e4, hA4, p0, p1, p2, p3, p4, -, g3, -, g4⟩ := at_K HC4.out (i : Int) (by omega) (by simpa using hlt)
        simp only [Int.toNat_natCast] at p0 p1 p2 p3 p4
        have hyy : rd_K x.f4 (i : Int) = x.f4[i] := by simp [rd_K, List.getElem?_eq_getElem hlt]
        have htk : x.f4.take i ++ [rd_K x.f4 (i : Int)] = x.f4.take (i + 1) := by rw [hyy]; exact List.take_append_getElem hlt
        have hih := HIH.out (x.f4[i]) (List.getElem_mem hlt) D3 e3 D4 e4
        rw [← hyy] at hih
        clear hyy
        generalize rd_K x.f4 (i : Int) = y at *
        have hbw := HPi.out.bel
        replace p0 := (hbw.cell (World.block_lt_of_cell? w _ p0)).trans p0
        replace p1 := (hbw.cell (World.block_lt_of_cell? w _ p1)).trans p1
        replace p2 := (hbw.cell (World.block_lt_of_cell? w _ p2)).trans p2
        replace p3 := (hbw.cell (World.block_lt_of_cell? w _ p3)).trans p3
        replace p4 := (hbw.cell (World.block_lt_of_cell? w _ p4)).trans p4
        obtain ⟨w5, hw5⟩ : ∃ w5, w5 = wr.alloc (.cells #[.string y.f0, .int .u8 y.f1, .string y.f2, .slice D3 y.f3.length e3, .slice D4 y.f4.length e4] 44) := ⟨_, rfl⟩
        have hb5 : Below wr.heap.size wr w5 := by rw [hw5]; exact below_alloc (Below.refl _ _) _
        have hk5 : w5.heap[wr.heap.size]? = some (.cells #[.string y.f0, .int .u8 y.f1, .string y.f2, .slice D3 y.f3.length e3, .slice D4 y.f4.length e4] 44 (0, 0)) := by rw [hw5]; exact heap_alloc_new wr _
        have hbw5 := hbw.trans (hb5.mono hbw.size)
        have hcall := hih w5.drew (Kd.C_below g3 (below_drew hbw5)) (Kd.C_below g4 (below_drew hbw5))
        have q0 := blk_cell hk5 0
        have q1 := blk_cell hk5 1
        have q2 := blk_cell hk5 2
        have q3 := blk_cell hk5 3
        have q4 := blk_cell hk5 4
        have hwr : IntKind.i64.wrap ((i : Int) + 1) = (i : Int) + 1 := IntWalk.i64_in _ (by omega)
        have hli : (i : Int) < (x.f4.length : Int) := by omega
        have H5 := Lib.hid (And.intro hb5 (And.intro hk5 htk))
        have HW5 := Lib.hid hw5
        rw [hw5] at hcall q0 q1 q2 q3 q4
        clear hw5 hb5 hk5 hbw hbw5 hih htk g3 g4
        subst hA4
        go_wp2_with fail
        clear p0 p1 p2 p3 p4
        have HOW := Lib.hid (HPi.out.own)
        go_region_law (first
          | (refine Kd.R_append_step kK (w0 := wr) (W := w6) s2 rfl (.tmp 18) (.tmp 25) 30 44 (.agg #[.string ⟨#[]⟩, .int .u8 0, .string ⟨#[]⟩, .slice none 0 0, .slice none 0 0]) 88 rfl Tu_keys inK rfl (by decide) (by decide) (.slice B i d) (x.f4.take i) y [.string y.f0, .int .u8 y.f1, .string y.f2, .slice AL y.f3.length cL, .slice AK y.f4.length cK] (fun k => s2 ≤ k) (fun k => wr.heap.size ≤ k) rfl rfl HX.out.1 HOW.out HX.out.2.2.2.2.1 HX.out.2.1 HX.out.2.2.1 HX.out.2.2.2.1 (by have := H34.out.2; rw [List.length_take]; omega) ?_; intro v1 w7 hR7 hB7 _ _; rw [H5.out.2.2] at hR7; obtain ⟨B', d', rfl⟩ := R_slice_n hR7 (i + 1) (by simp; omega); have HX7 := Lib.hid (And.intro hR7 hB7); clear hR7 hB7)
          | (go_simp; go_wp2_with (go_at_call 20; refine hcall.mono ?_; rintro e w6 ⟨vL, vK, rfl, hL, hK, hb⟩; obtain ⟨AL, cL, rfl⟩ := Kd.R_slice hL; obtain ⟨AK, cK, rfl⟩ := Kd.R_slice hK; have hkk : w6.heap[wr.heap.size]? = some (.cells #[.string y.f0, .int .u8 y.f1, .string y.f2, .slice D3 y.f3.length e3, .slice D4 y.f4.length e4] 44 (0, 0)) := (by have h1 := H5.out.2.1; rw [HW5.out] at h1; exact (hb.block _ (blk_lt h1)).trans h1); have r0 := blk_cell hkk 0; have HX := Lib.hid (copy_elem HPi.out H5.out.1 (by rw [HW5.out]; exact hL) (by rw [HW5.out]; exact hK) (by rw [HW5.out]; exact hb)); clear hL hK hb hkk)))
        all_goals clear q0 q1 q2 q3 q4 r0 hcall
        all_goals go_wp2_with fail
        all_goals go_roundw
        all_goals first
          | (simp [intOf]; omega; done)
          | exact ⟨i + 1, B', d', rfl, by simp, by omega, Lib.hid (HPi.out.next HX7.out.2 HX7.out.1)⟩
      · have hin : i = x.f4.length := by omega
        subst hin
        have g0 := blk_cell HPi.out.box 0
        have g1 := blk_cell HPi.out.box 1
        have g2 := blk_cell HPi.out.box 2
        have g3 := blk_cell HPi.out.box 3
        have gf := fun j => blk_frozen HPi.out.box j
        have k0 := blk_cell HPi.out.res 0
        have k1 := blk_cell HPi.out.res 1
        have k2 := blk_cell HPi.out.res 2
        have k3 := blk_cell HPi.out.res 3
        have z0 := blk_frozen HPi.out.res 0
        have z1 := blk_frozen HPi.out.res 1
        have z2 := blk_frozen HPi.out.res 2
        have z3 := blk_frozen HPi.out.res 3
        have y3 := gf 3
        clear gf
        go_wp2_with fail
        clear g0 g1 g2 g3 y3 k0 k1 k2 k3 z0 z1 z2 z3
        obtain ⟨W1, hW1⟩ : ∃ W1, W1 = wr.setCell ⟨w.heap.size, 3, none⟩ (.slice B x.f4.length d) := ⟨_, rfl⟩
        rw [← hW1]
        have hr1 : W1.heap[w.heap.size + 1]? = some (.cells #[.int .u8 0, .string ⟨#[]⟩, .slice none 0 0, .slice none 0 0] 32 (0, 0)) := by rw [hW1, Below.heap_setCell _ _ _ _ (by simp)]; exact HPi.out.res
        have d0 := node_set hr1 (.int .u8 x.f1) (.string x.f2) (.slice B3 x.f3.length d3) (.slice B x.f4.length d)
        obtain ⟨WF, hWF⟩ : ∃ WF, WF = W1.setCells (w.heap.size + 1) 0 [.int .u8 x.f1, .string x.f2, .slice B3 x.f3.length d3, .slice B x.f4.length d] := ⟨_, rfl⟩
        have hfar : ∀ k, k ≠ w.heap.size → k ≠ w.heap.size + 1 → WF.heap[k]? = wr.heap[k]? := fun k h1 h2 => by
          rw [hWF, node_far _ _ _ _ h2, hW1]
          exact Below.heap_setCell _ _ _ k h1
        have hbw : Below w.heap.size wr WF := by
          rw [hWF, hW1]
          exact (((((Below.refl _ wr).setCell (p := ⟨w.heap.size, 3, none⟩) (Nat.le_refl _) _).setCell (p := ⟨w.heap.size + 1, 0, none⟩) (by simp) _).setCell (p := ⟨w.heap.size + 1, 1, none⟩) (by simp) _).setCell (p := ⟨w.heap.size + 1, 2, none⟩) (by simp) _).setCell (p := ⟨w.heap.size + 1, 3, none⟩) (by simp) _
        have hdone := HPi.out.done hfar hbw
        rw [← hWF] at d0
        have hgo : ((((W1.setCell ⟨w.heap.size + 1, 0, none⟩ (.int .u8 x.f1)).setCell ⟨w.heap.size + 1, 1, none⟩ (.string x.f2)).setCell ⟨w.heap.size + 1, 2, none⟩ (.slice B3 x.f3.length d3)).setCell ⟨w.heap.size + 1, 3, none⟩ (.slice B x.f4.length d)) = WF := hWF.symm
        rw [hgo]
        clear hgo hWF hfar hbw hW1 hr1
        have c0 := blk_cell d0 0
        have c1 := blk_cell d0 1
        have c2 := blk_cell d0 2
        have c3 := blk_cell d0 3
        refine bodyPost_ret (v := .agg #[.int .u8 x.f1, .string x.f2, .slice B3 x.f3.length d3, .slice B x.f4.length d]) (by simp [results, Tryz.results20, go_sem, c0, c1, c2, c3]) rfl ⟨_, _, rfl, hdone.1, hdone.2.1, hdone.2.2⟩
end Go.Proofs.YtpdnopfjnmjnnaaGreatDoor.Cn
