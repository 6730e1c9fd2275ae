/- Package conf: the reader's put, of a key that has no value. -/
import Derived.Test.YtpdnopfjnmjnnaaGreatDoorOa
set_option linter.unusedVariables false
set_option linter.unusedSimpArgs false
namespace Go.Proofs.YtpdnopfjnmjnnaaGreatDoor.Cn
open Go.Sort Go.RowKit Go.Proofs Go.Proofs.YtpdnopfjnmjnnaaGreatDoorW.PrintWords Go.Proofs.YtpdnopfjnmjnnaaGreatDoor.Bs Go.Proofs.YtpdnopfjnmjnnaaGreatDoor.Ir Go.Proofs.YtpdnopfjnmjnnaaGreatDoor.Cz


set_option maxRecDepth 100000 in
set_option maxHeartbeats 100000000 in
theorem put_no (w : World) (base fl rt rb : Nat) (s : St) (l : Ln) (h : ZsO w base fl rt rb s) (hbase : base ≤ w.heap.size) (hfl : fl ≤ w.heap.size) (h0 : 0 ≤ l.indent) (h1 : l.indent ≤ 1073741824) (hl : l.text.length ≤ 1073741824) (hm : Mx w) (hlow : 2 < base) (k : List UInt8) (v : Val) (path : List Lv) (cur : List Kn) (hrd : readL l.text = .ok (k, v)) (hpl : placeL l.indent s = some (path, cur)) (hhv : hasV v = false) :
    Calls Tryz.prog 28 #[.pointer (some ⟨rb, 0, none⟩), .agg #[.int .i64 l.indent, .int .i64 l.number, .string (bsOf l.text)]] w fun e w' => PutQ base fl rt rb w (putL l.indent l.text s) e w' := by
  obtain ⟨i, n, tx⟩ := l
  dsimp only at *
  obtain ⟨wa, hwa⟩ : ∃ wa, wa = w.alloc (.cells #[.int .i64 i, .int .i64 n, .string (bsOf tx)] 75) := ⟨_, rfl⟩
  have hba : Below w.heap.size w wa := by rw [hwa]; exact below_alloc (Below.refl _ _) _
  have hla : wa.heap[w.heap.size]? = some (.cells #[.int .i64 i, .int .i64 n, .string (bsOf tx)] 75 (0, 0)) := by rw [hwa]; exact heap_alloc_new w _
  have hZA := h.keep hba
  have hra := read_any (bsOf tx) wa (hm.below hba) (by have := hba.size; omega) hl
  rw [show (bsOf tx).data.toList = tx from rfl] at hra
  have HWA := Lib.hid hwa
  have HBA := Lib.hid hba
  have HWB := Lib.hid (Nat.le_trans hbase hba.size)
  have HWF := Lib.hid (Nat.le_trans hfl hba.size)
  have HLA := Lib.hid hla
  have HZA := Lib.hid hZA
  have HM := Lib.hid hm
  have HLOW := Lib.hid hlow
  clear hwa hba hla hZA hm hlow h
  rw [hrd] at hra
  have hll := readL_list hrd
  have HRD := Lib.hid hrd
  have hv0 : ∀ W u, readV wa.heap.size (k, v) W u → _ := fun W u hu => readV_node hu
  obtain ⟨hs, hhs⟩ : ∃ hs, hs = hasV v := ⟨_, rfl⟩
  obtain ⟨x, hx⟩ : ∃ x, x = leaf k v := ⟨_, rfl⟩
  have HHS := Lib.hid hhs
  have HX := Lib.hid hx
  rw [← hhs, ← hx] at hv0
  rw [← hx] at hll
  have ehs := hhs.trans hhv
  clear hhs hx hrd hhv
  subst ehs
  have hxl : x.f3.length ≤ 1073741824 := by omega
  rw [putL_some HRD.out hpl, ← HHS.out, ← HX.out]
  unfold putC
  by_cases c1 : path.length + 1 ≤ 8
  case neg =>
    rw [if_pos (by simpa using c1)]
    have hc1 : decide ((path.length : Int) + 1 ≤ 8) = false := by simp; omega
    clear c1
    go_enter Tryz.func28, Tryz.ntmps28
    go_wp2_with fail
    rw [← HWA.out]
    refine hra.mono ?_
    rintro e w2 ⟨hb2, u, rfl, hu⟩
    obtain ⟨ls, rfl, hR2, hf4, hop2⟩ := hv0 w2 u hu
    obtain ⟨Al, cl, rfl⟩ := Kd.R_slice hR2
    have HB2 := Lib.hid hb2
    have HR2 := Lib.hid hR2
    have HOP2 := Lib.hid hop2
    have HF4 := Lib.hid hf4
    have hl2 := (hb2.block _ (blk_lt HLA.out)).trans HLA.out
    obtain ⟨w3, hw3⟩ : ∃ w3, w3 = (w2.alloc (.cells #[.string x.f0] 9)).alloc (.cells #[.int .u8 x.f1, .string x.f2, .slice Al x.f3.length cl, .slice none 0 0] 32) := ⟨_, rfl⟩
    have hb3 : Below w2.heap.size w2 w3 := by rw [hw3]; exact below_alloc (below_alloc (Below.refl _ _) _) _
    have hk3 : w3.heap[w2.heap.size]? = some (.cells #[.string x.f0] 9 (0, 0)) := by rw [hw3, Below.heap_alloc _ _ _ (by simp)]; exact heap_alloc_new w2 _
    have hn3 : w3.heap[w2.heap.size + 1]? = some (.cells #[.int .u8 x.f1, .string x.f2, .slice Al x.f3.length cl, .slice none 0 0] 32 (0, 0)) := by
      have e1 : (w2.alloc (.cells #[.string x.f0] 9)).heap.size = w2.heap.size + 1 := by simp
      rw [hw3, ← e1]; exact heap_alloc_new _ _
    have HW3 := Lib.hid hw3
    have HS3 := Lib.hid (Nat.le_trans hb2.size hb3.size)
    have HBW := Lib.hid (show Below w.heap.size w w3 from (HBA.out.trans (hb2.mono HBA.out.size)).trans (hb3.mono (Nat.le_trans HBA.out.size hb2.size)))
    have HZ3 := Lib.hid ((HZA.out.keep hb2).keep hb3)
    have HR3 := Lib.hid (Kd.R_below HR2.out hb3)
    have HK3 := Lib.hid hk3
    have HN3 := Lib.hid hn3
    have HL3 := Lib.hid ((hb3.block _ (blk_lt hl2)).trans hl2)
    have l0 := blk_cell HL3.out 0
    rw [HW3.out] at l0
    clear hw3 hb3 hk3 hn3 hb2 hu hR2 hop2 hl2 hf4
    go_wp2_with fail
    rw [← HW3.out]
    obtain ⟨N, bs, ads, vk, vL, hz3, ho3⟩ := HZ3.out
    refine (place_any w3 base fl rt rb N bs ads vk vL s.path s.cur s.opn i hz3 (Nat.le_trans hbase HBW.out.size) h0 h1 ho3).mono ?_
    rw [show (⟨s.path, s.cur, s.opn⟩ : St) = s from rfl, hpl]
    clear hz3 ho3 l0
    rintro e w4 ⟨hb4, hkt, rfl, N4, bs4, ads4, vk4, vL4, hz4⟩
    have hr4 := R_keepT HR3.out hkt
    have hk4 := Keeps.cells hkt (by decide) HK3.out
    have hn4 := Keeps.cells hkt (by decide) HN3.out
    obtain ⟨g, cap, ⟨ab, ao, asp⟩, ads', rfl, hsp, rfl, hcap, hbg, ⟨lc, hlc⟩, -, -⟩ := hz4.top
    dsimp only at hsp
    subst hsp
    have HB4 := Lib.hid ((BK.of HBW.out hbase).put hb4 hkt)
    have HZ4 := Lib.hid hz4
    have HS4 := Lib.hid (Nat.le_trans HS3.out hb4.size)
    have HR4 := Lib.hid hr4
    have HK4 := Lib.hid hk4
    have HN4 := Lib.hid hn4
    have HSZ := Lib.hid (show base ≤ w2.heap.size from Nat.le_trans hbase (Nat.le_trans HBA.out.size HB2.out.size))
    generalize w2.heap.size = kb at *
    have r0 := blk_cell hz4.rd 0
    have n1 := blk_cell hn4 1
    have n2 := blk_cell hn4 2
    have hdeep := hz4.deep
    clear hb4 hkt hz4 hr4 hk4 hn4 hlc HBW HZ3 HR3 HK3 HN3 HL3 HLA HBA HB2 HR2 hbg
    go_wp2_with fail
    refine (must_no _ _).mono ?_
    rintro e w9 ⟨rfl, rfl⟩
    unfold pf
    go_wp2_with fail
    exact ⟨rfl, HB4.out, rfl⟩
  rw [if_neg (by simpa using c1)]
  have hc1 : decide ((path.length : Int) + 1 ≤ 8) = true := by simp; omega
  have HC1 := Lib.hid c1
  unfold longK
  by_cases c2 : x.f2.size ≤ 4096
  case neg =>
    rw [if_pos (by simp [c2])]
    have hc2 : decide ((x.f2.size : Int) ≤ 4096) = false := by simp; omega
    clear c2
    go_enter Tryz.func28, Tryz.ntmps28
    go_wp2_with fail
    rw [← HWA.out]
    refine hra.mono ?_
    rintro e w2 ⟨hb2, u, rfl, hu⟩
    obtain ⟨ls, rfl, hR2, hf4, hop2⟩ := hv0 w2 u hu
    obtain ⟨Al, cl, rfl⟩ := Kd.R_slice hR2
    have HB2 := Lib.hid hb2
    have HR2 := Lib.hid hR2
    have HOP2 := Lib.hid hop2
    have HF4 := Lib.hid hf4
    have hl2 := (hb2.block _ (blk_lt HLA.out)).trans HLA.out
    obtain ⟨w3, hw3⟩ : ∃ w3, w3 = (w2.alloc (.cells #[.string x.f0] 9)).alloc (.cells #[.int .u8 x.f1, .string x.f2, .slice Al x.f3.length cl, .slice none 0 0] 32) := ⟨_, rfl⟩
    have hb3 : Below w2.heap.size w2 w3 := by rw [hw3]; exact below_alloc (below_alloc (Below.refl _ _) _) _
    have hk3 : w3.heap[w2.heap.size]? = some (.cells #[.string x.f0] 9 (0, 0)) := by rw [hw3, Below.heap_alloc _ _ _ (by simp)]; exact heap_alloc_new w2 _
    have hn3 : w3.heap[w2.heap.size + 1]? = some (.cells #[.int .u8 x.f1, .string x.f2, .slice Al x.f3.length cl, .slice none 0 0] 32 (0, 0)) := by
      have e1 : (w2.alloc (.cells #[.string x.f0] 9)).heap.size = w2.heap.size + 1 := by simp
      rw [hw3, ← e1]; exact heap_alloc_new _ _
    have HW3 := Lib.hid hw3
    have HS3 := Lib.hid (Nat.le_trans hb2.size hb3.size)
    have HBW := Lib.hid (show Below w.heap.size w w3 from (HBA.out.trans (hb2.mono HBA.out.size)).trans (hb3.mono (Nat.le_trans HBA.out.size hb2.size)))
    have HZ3 := Lib.hid ((HZA.out.keep hb2).keep hb3)
    have HR3 := Lib.hid (Kd.R_below HR2.out hb3)
    have HK3 := Lib.hid hk3
    have HN3 := Lib.hid hn3
    have HL3 := Lib.hid ((hb3.block _ (blk_lt hl2)).trans hl2)
    have l0 := blk_cell HL3.out 0
    rw [HW3.out] at l0
    clear hw3 hb3 hk3 hn3 hb2 hu hR2 hop2 hl2 hf4
    go_wp2_with fail
    rw [← HW3.out]
    obtain ⟨N, bs, ads, vk, vL, hz3, ho3⟩ := HZ3.out
    refine (place_any w3 base fl rt rb N bs ads vk vL s.path s.cur s.opn i hz3 (Nat.le_trans hbase HBW.out.size) h0 h1 ho3).mono ?_
    rw [show (⟨s.path, s.cur, s.opn⟩ : St) = s from rfl, hpl]
    clear hz3 ho3 l0
    rintro e w4 ⟨hb4, hkt, rfl, N4, bs4, ads4, vk4, vL4, hz4⟩
    have hr4 := R_keepT HR3.out hkt
    have hk4 := Keeps.cells hkt (by decide) HK3.out
    have hn4 := Keeps.cells hkt (by decide) HN3.out
    obtain ⟨g, cap, ⟨ab, ao, asp⟩, ads', rfl, hsp, rfl, hcap, hbg, ⟨lc, hlc⟩, -, -⟩ := hz4.top
    dsimp only at hsp
    subst hsp
    have HB4 := Lib.hid ((BK.of HBW.out hbase).put hb4 hkt)
    have HZ4 := Lib.hid hz4
    have HS4 := Lib.hid (Nat.le_trans HS3.out hb4.size)
    have HR4 := Lib.hid hr4
    have HK4 := Lib.hid hk4
    have HN4 := Lib.hid hn4
    have HSZ := Lib.hid (show base ≤ w2.heap.size from Nat.le_trans hbase (Nat.le_trans HBA.out.size HB2.out.size))
    generalize w2.heap.size = kb at *
    have r0 := blk_cell hz4.rd 0
    have n1 := blk_cell hn4 1
    have n2 := blk_cell hn4 2
    have hdeep := hz4.deep
    clear hb4 hkt hz4 hr4 hk4 hn4 hlc HBW HZ3 HR3 HK3 HN3 HL3 HLA HBA HB2 HR2 hbg
    go_wp2_with fail
    refine (must_ok _ _).mono ?_
    rintro e w9 ⟨rfl, rfl⟩
    go_wp2_with fail
    refine (must_no _ _).mono ?_
    rintro e w9 ⟨rfl, rfl⟩
    unfold pf
    go_wp2_with fail
    exact ⟨rfl, HB4.out, rfl⟩
  have hc2 : decide ((x.f2.size : Int) ≤ 4096) = true := by simp; omega
  cases hany : x.f3.any (fun s => decide (4096 < s.size))
  case true =>
    have HANY := Lib.hid hany
    rw [if_pos (by simp [c2])]
    clear c2 hany
    go_enter Tryz.func28, Tryz.ntmps28
    go_wp2_with fail
    rw [← HWA.out]
    refine hra.mono ?_
    rintro e w2 ⟨hb2, u, rfl, hu⟩
    obtain ⟨ls, rfl, hR2, hf4, hop2⟩ := hv0 w2 u hu
    obtain ⟨Al, cl, rfl⟩ := Kd.R_slice hR2
    have HB2 := Lib.hid hb2
    have HR2 := Lib.hid hR2
    have HOP2 := Lib.hid hop2
    have HF4 := Lib.hid hf4
    have hl2 := (hb2.block _ (blk_lt HLA.out)).trans HLA.out
    obtain ⟨w3, hw3⟩ : ∃ w3, w3 = (w2.alloc (.cells #[.string x.f0] 9)).alloc (.cells #[.int .u8 x.f1, .string x.f2, .slice Al x.f3.length cl, .slice none 0 0] 32) := ⟨_, rfl⟩
    have hb3 : Below w2.heap.size w2 w3 := by rw [hw3]; exact below_alloc (below_alloc (Below.refl _ _) _) _
    have hk3 : w3.heap[w2.heap.size]? = some (.cells #[.string x.f0] 9 (0, 0)) := by rw [hw3, Below.heap_alloc _ _ _ (by simp)]; exact heap_alloc_new w2 _
    have hn3 : w3.heap[w2.heap.size + 1]? = some (.cells #[.int .u8 x.f1, .string x.f2, .slice Al x.f3.length cl, .slice none 0 0] 32 (0, 0)) := by
      have e1 : (w2.alloc (.cells #[.string x.f0] 9)).heap.size = w2.heap.size + 1 := by simp
      rw [hw3, ← e1]; exact heap_alloc_new _ _
    have HW3 := Lib.hid hw3
    have HS3 := Lib.hid (Nat.le_trans hb2.size hb3.size)
    have HBW := Lib.hid (show Below w.heap.size w w3 from (HBA.out.trans (hb2.mono HBA.out.size)).trans (hb3.mono (Nat.le_trans HBA.out.size hb2.size)))
    have HZ3 := Lib.hid ((HZA.out.keep hb2).keep hb3)
    have HR3 := Lib.hid (Kd.R_below HR2.out hb3)
    have HK3 := Lib.hid hk3
    have HN3 := Lib.hid hn3
    have HL3 := Lib.hid ((hb3.block _ (blk_lt hl2)).trans hl2)
    have l0 := blk_cell HL3.out 0
    rw [HW3.out] at l0
    clear hw3 hb3 hk3 hn3 hb2 hu hR2 hop2 hl2 hf4
    go_wp2_with fail
    rw [← HW3.out]
    obtain ⟨N, bs, ads, vk, vL, hz3, ho3⟩ := HZ3.out
    refine (place_any w3 base fl rt rb N bs ads vk vL s.path s.cur s.opn i hz3 (Nat.le_trans hbase HBW.out.size) h0 h1 ho3).mono ?_
    rw [show (⟨s.path, s.cur, s.opn⟩ : St) = s from rfl, hpl]
    clear hz3 ho3 l0
    rintro e w4 ⟨hb4, hkt, rfl, N4, bs4, ads4, vk4, vL4, hz4⟩
    have hr4 := R_keepT HR3.out hkt
    have hk4 := Keeps.cells hkt (by decide) HK3.out
    have hn4 := Keeps.cells hkt (by decide) HN3.out
    obtain ⟨g, cap, ⟨ab, ao, asp⟩, ads', rfl, hsp, rfl, hcap, hbg, ⟨lc, hlc⟩, -, -⟩ := hz4.top
    dsimp only at hsp
    subst hsp
    have HB4 := Lib.hid ((BK.of HBW.out hbase).put hb4 hkt)
    have HZ4 := Lib.hid hz4
    have HS4 := Lib.hid (Nat.le_trans HS3.out hb4.size)
    have HR4 := Lib.hid hr4
    have HK4 := Lib.hid hk4
    have HN4 := Lib.hid hn4
    have HSZ := Lib.hid (show base ≤ w2.heap.size from Nat.le_trans hbase (Nat.le_trans HBA.out.size HB2.out.size))
    generalize w2.heap.size = kb at *
    have r0 := blk_cell hz4.rd 0
    have n1 := blk_cell hn4 1
    have n2 := blk_cell hn4 2
    have hdeep := hz4.deep
    clear hb4 hkt hz4 hr4 hk4 hn4 hlc HBW HZ3 HR3 HK3 HN3 HL3 HLA HBA HB2 HR2 hbg
    go_wp2_with fail
    refine (must_ok _ _).mono ?_
    rintro e w9 ⟨rfl, rfl⟩
    go_wp2_with fail
    obtain ⟨_, _, e2, -, hC2⟩ := Kd.R_reads HR4.out
    injection e2 with e2 _ e3
    subst e2
    subst e3
    have hcs := containsFunc_S 50 #[] (fun args w => by kernel_rfl) (fun s => decide (4096 < s.size)) Al cl x.f3 w4 hxl hC2 (fun W s hb => by simpa using put1_any s W)
    rw [HANY.out] at hcs
    clear hC2
    refine hcs.mono ?_
    rintro e w5 ⟨rfl, hb5⟩
    have hz5 := HZ4.out.keep hb5
    have hr5 := Kd.R_below HR4.out hb5
    have hk5 := (hb5.block _ (blk_lt HK4.out)).trans HK4.out
    have hn5 := (hb5.block _ (blk_lt HN4.out)).trans HN4.out
    have HB5 := Lib.hid (HB4.out.step hb5 hbase)
    have HS5 := Lib.hid (Nat.le_trans HS4.out hb5.size)
    have HZ5 := Lib.hid hz5
    have HR5 := Lib.hid hr5
    have HK5 := Lib.hid hk5
    have HN5 := Lib.hid hn5
    have r0 := blk_cell hz5.rd 0
    have n2 := blk_cell hn5 2
    clear hb5 hz5 hr5 hk5 hn5 HZ4 HR4 HK4 HN4 HB4 hcs n1
    go_wp2_with fail
    refine (must_no _ _).mono ?_
    rintro e w9 ⟨rfl, rfl⟩
    unfold pf
    go_wp2_with fail
    exact ⟨rfl, HB5.out, rfl⟩
  have HANY := Lib.hid hany
  rw [if_neg (by simp [c2])]
  clear c2 hany
  by_cases c3 : 256 < x.f3.length
  case pos =>
    rw [if_pos c3]
    have hc3 : decide ((x.f3.length : Int) ≤ 256) = false := by simp; omega
    clear c3
    go_enter Tryz.func28, Tryz.ntmps28
    go_wp2_with fail
    rw [← HWA.out]
    refine hra.mono ?_
    rintro e w2 ⟨hb2, u, rfl, hu⟩
    obtain ⟨ls, rfl, hR2, hf4, hop2⟩ := hv0 w2 u hu
    obtain ⟨Al, cl, rfl⟩ := Kd.R_slice hR2
    have HB2 := Lib.hid hb2
    have HR2 := Lib.hid hR2
    have HOP2 := Lib.hid hop2
    have HF4 := Lib.hid hf4
    have hl2 := (hb2.block _ (blk_lt HLA.out)).trans HLA.out
    obtain ⟨w3, hw3⟩ : ∃ w3, w3 = (w2.alloc (.cells #[.string x.f0] 9)).alloc (.cells #[.int .u8 x.f1, .string x.f2, .slice Al x.f3.length cl, .slice none 0 0] 32) := ⟨_, rfl⟩
    have hb3 : Below w2.heap.size w2 w3 := by rw [hw3]; exact below_alloc (below_alloc (Below.refl _ _) _) _
    have hk3 : w3.heap[w2.heap.size]? = some (.cells #[.string x.f0] 9 (0, 0)) := by rw [hw3, Below.heap_alloc _ _ _ (by simp)]; exact heap_alloc_new w2 _
    have hn3 : w3.heap[w2.heap.size + 1]? = some (.cells #[.int .u8 x.f1, .string x.f2, .slice Al x.f3.length cl, .slice none 0 0] 32 (0, 0)) := by
      have e1 : (w2.alloc (.cells #[.string x.f0] 9)).heap.size = w2.heap.size + 1 := by simp
      rw [hw3, ← e1]; exact heap_alloc_new _ _
    have HW3 := Lib.hid hw3
    have HS3 := Lib.hid (Nat.le_trans hb2.size hb3.size)
    have HBW := Lib.hid (show Below w.heap.size w w3 from (HBA.out.trans (hb2.mono HBA.out.size)).trans (hb3.mono (Nat.le_trans HBA.out.size hb2.size)))
    have HZ3 := Lib.hid ((HZA.out.keep hb2).keep hb3)
    have HR3 := Lib.hid (Kd.R_below HR2.out hb3)
    have HK3 := Lib.hid hk3
    have HN3 := Lib.hid hn3
    have HL3 := Lib.hid ((hb3.block _ (blk_lt hl2)).trans hl2)
    have l0 := blk_cell HL3.out 0
    rw [HW3.out] at l0
    clear hw3 hb3 hk3 hn3 hb2 hu hR2 hop2 hl2 hf4
    go_wp2_with fail
    rw [← HW3.out]
    obtain ⟨N, bs, ads, vk, vL, hz3, ho3⟩ := HZ3.out
    refine (place_any w3 base fl rt rb N bs ads vk vL s.path s.cur s.opn i hz3 (Nat.le_trans hbase HBW.out.size) h0 h1 ho3).mono ?_
    rw [show (⟨s.path, s.cur, s.opn⟩ : St) = s from rfl, hpl]
    clear hz3 ho3 l0
    rintro e w4 ⟨hb4, hkt, rfl, N4, bs4, ads4, vk4, vL4, hz4⟩
    have hr4 := R_keepT HR3.out hkt
    have hk4 := Keeps.cells hkt (by decide) HK3.out
    have hn4 := Keeps.cells hkt (by decide) HN3.out
    obtain ⟨g, cap, ⟨ab, ao, asp⟩, ads', rfl, hsp, rfl, hcap, hbg, ⟨lc, hlc⟩, -, -⟩ := hz4.top
    dsimp only at hsp
    subst hsp
    have HB4 := Lib.hid ((BK.of HBW.out hbase).put hb4 hkt)
    have HZ4 := Lib.hid hz4
    have HS4 := Lib.hid (Nat.le_trans HS3.out hb4.size)
    have HR4 := Lib.hid hr4
    have HK4 := Lib.hid hk4
    have HN4 := Lib.hid hn4
    have HSZ := Lib.hid (show base ≤ w2.heap.size from Nat.le_trans hbase (Nat.le_trans HBA.out.size HB2.out.size))
    generalize w2.heap.size = kb at *
    have r0 := blk_cell hz4.rd 0
    have n1 := blk_cell hn4 1
    have n2 := blk_cell hn4 2
    have hdeep := hz4.deep
    clear hb4 hkt hz4 hr4 hk4 hn4 hlc HBW HZ3 HR3 HK3 HN3 HL3 HLA HBA HB2 HR2 hbg
    go_wp2_with fail
    refine (must_ok _ _).mono ?_
    rintro e w9 ⟨rfl, rfl⟩
    go_wp2_with fail
    obtain ⟨_, _, e2, -, hC2⟩ := Kd.R_reads HR4.out
    injection e2 with e2 _ e3
    subst e2
    subst e3
    have hcs := containsFunc_S 50 #[] (fun args w => by kernel_rfl) (fun s => decide (4096 < s.size)) Al cl x.f3 w4 hxl hC2 (fun W s hb => by simpa using put1_any s W)
    rw [HANY.out] at hcs
    clear hC2
    refine hcs.mono ?_
    rintro e w5 ⟨rfl, hb5⟩
    have hz5 := HZ4.out.keep hb5
    have hr5 := Kd.R_below HR4.out hb5
    have hk5 := (hb5.block _ (blk_lt HK4.out)).trans HK4.out
    have hn5 := (hb5.block _ (blk_lt HN4.out)).trans HN4.out
    have HB5 := Lib.hid (HB4.out.step hb5 hbase)
    have HS5 := Lib.hid (Nat.le_trans HS4.out hb5.size)
    have HZ5 := Lib.hid hz5
    have HR5 := Lib.hid hr5
    have HK5 := Lib.hid hk5
    have HN5 := Lib.hid hn5
    have r0 := blk_cell hz5.rd 0
    have n2 := blk_cell hn5 2
    clear hb5 hz5 hr5 hk5 hn5 HZ4 HR4 HK4 HN4 HB4 hcs n1
    go_wp2_with fail
    refine (must_ok _ _).mono ?_
    rintro e w9 ⟨rfl, rfl⟩
    go_wp2_with fail
    refine (must_no _ _).mono ?_
    rintro e w9 ⟨rfl, rfl⟩
    unfold pf
    go_wp2_with fail
    exact ⟨rfl, HB5.out, rfl⟩
  rw [if_neg c3]
  have hc3 : decide ((x.f3.length : Int) ≤ 256) = true := by simp; omega
  have HC3 := Lib.hid c3
  clear c3
  cases hdup : cur.any (fun y => y.f0.data.toList == x.f0.data.toList)
  case true =>
    rw [if_pos rfl]
    have HDUP := Lib.hid hdup
    clear hdup
    go_enter Tryz.func28, Tryz.ntmps28
    go_wp2_with fail
    rw [← HWA.out]
    refine hra.mono ?_
    rintro e w2 ⟨hb2, u, rfl, hu⟩
    obtain ⟨ls, rfl, hR2, hf4, hop2⟩ := hv0 w2 u hu
    obtain ⟨Al, cl, rfl⟩ := Kd.R_slice hR2
    have HB2 := Lib.hid hb2
    have HR2 := Lib.hid hR2
    have HOP2 := Lib.hid hop2
    have HF4 := Lib.hid hf4
    have hl2 := (hb2.block _ (blk_lt HLA.out)).trans HLA.out
    obtain ⟨w3, hw3⟩ : ∃ w3, w3 = (w2.alloc (.cells #[.string x.f0] 9)).alloc (.cells #[.int .u8 x.f1, .string x.f2, .slice Al x.f3.length cl, .slice none 0 0] 32) := ⟨_, rfl⟩
    have hb3 : Below w2.heap.size w2 w3 := by rw [hw3]; exact below_alloc (below_alloc (Below.refl _ _) _) _
    have hk3 : w3.heap[w2.heap.size]? = some (.cells #[.string x.f0] 9 (0, 0)) := by rw [hw3, Below.heap_alloc _ _ _ (by simp)]; exact heap_alloc_new w2 _
    have hn3 : w3.heap[w2.heap.size + 1]? = some (.cells #[.int .u8 x.f1, .string x.f2, .slice Al x.f3.length cl, .slice none 0 0] 32 (0, 0)) := by
      have e1 : (w2.alloc (.cells #[.string x.f0] 9)).heap.size = w2.heap.size + 1 := by simp
      rw [hw3, ← e1]; exact heap_alloc_new _ _
    have HW3 := Lib.hid hw3
    have HS3 := Lib.hid (Nat.le_trans hb2.size hb3.size)
    have HBW := Lib.hid (show Below w.heap.size w w3 from (HBA.out.trans (hb2.mono HBA.out.size)).trans (hb3.mono (Nat.le_trans HBA.out.size hb2.size)))
    have HZ3 := Lib.hid ((HZA.out.keep hb2).keep hb3)
    have HR3 := Lib.hid (Kd.R_below HR2.out hb3)
    have HK3 := Lib.hid hk3
    have HN3 := Lib.hid hn3
    have HL3 := Lib.hid ((hb3.block _ (blk_lt hl2)).trans hl2)
    have l0 := blk_cell HL3.out 0
    rw [HW3.out] at l0
    clear hw3 hb3 hk3 hn3 hb2 hu hR2 hop2 hl2 hf4
    go_wp2_with fail
    rw [← HW3.out]
    obtain ⟨N, bs, ads, vk, vL, hz3, ho3⟩ := HZ3.out
    refine (place_any w3 base fl rt rb N bs ads vk vL s.path s.cur s.opn i hz3 (Nat.le_trans hbase HBW.out.size) h0 h1 ho3).mono ?_
    rw [show (⟨s.path, s.cur, s.opn⟩ : St) = s from rfl, hpl]
    clear hz3 ho3 l0
    rintro e w4 ⟨hb4, hkt, rfl, N4, bs4, ads4, vk4, vL4, hz4⟩
    have hr4 := R_keepT HR3.out hkt
    have hk4 := Keeps.cells hkt (by decide) HK3.out
    have hn4 := Keeps.cells hkt (by decide) HN3.out
    obtain ⟨g, cap, ⟨ab, ao, asp⟩, ads', rfl, hsp, rfl, hcap, hbg, ⟨lc, hlc⟩, -, -⟩ := hz4.top
    dsimp only at hsp
    subst hsp
    have HB4 := Lib.hid ((BK.of HBW.out hbase).put hb4 hkt)
    have HZ4 := Lib.hid hz4
    have HS4 := Lib.hid (Nat.le_trans HS3.out hb4.size)
    have HR4 := Lib.hid hr4
    have HK4 := Lib.hid hk4
    have HN4 := Lib.hid hn4
    have HSZ := Lib.hid (show base ≤ w2.heap.size from Nat.le_trans hbase (Nat.le_trans HBA.out.size HB2.out.size))
    generalize w2.heap.size = kb at *
    have r0 := blk_cell hz4.rd 0
    have n1 := blk_cell hn4 1
    have n2 := blk_cell hn4 2
    have hdeep := hz4.deep
    clear hb4 hkt hz4 hr4 hk4 hn4 hlc HBW HZ3 HR3 HK3 HN3 HL3 HLA HBA HB2 HR2 hbg
    go_wp2_with fail
    refine (must_ok _ _).mono ?_
    rintro e w9 ⟨rfl, rfl⟩
    go_wp2_with fail
    obtain ⟨_, _, e2, -, hC2⟩ := Kd.R_reads HR4.out
    injection e2 with e2 _ e3
    subst e2
    subst e3
    have hcs := containsFunc_S 50 #[] (fun args w => by kernel_rfl) (fun s => decide (4096 < s.size)) Al cl x.f3 w4 hxl hC2 (fun W s hb => by simpa using put1_any s W)
    rw [HANY.out] at hcs
    clear hC2
    refine hcs.mono ?_
    rintro e w5 ⟨rfl, hb5⟩
    have hz5 := HZ4.out.keep hb5
    have hr5 := Kd.R_below HR4.out hb5
    have hk5 := (hb5.block _ (blk_lt HK4.out)).trans HK4.out
    have hn5 := (hb5.block _ (blk_lt HN4.out)).trans HN4.out
    have HB5 := Lib.hid (HB4.out.step hb5 hbase)
    have HS5 := Lib.hid (Nat.le_trans HS4.out hb5.size)
    have HZ5 := Lib.hid hz5
    have HR5 := Lib.hid hr5
    have HK5 := Lib.hid hk5
    have HN5 := Lib.hid hn5
    have r0 := blk_cell hz5.rd 0
    have n2 := blk_cell hn5 2
    clear hb5 hz5 hr5 hk5 hn5 HZ4 HR4 HK4 HN4 HB4 hcs n1
    go_wp2_with fail
    refine (must_ok _ _).mono ?_
    rintro e w9 ⟨rfl, rfl⟩
    go_wp2_with fail
    refine (must_ok _ _).mono ?_
    rintro e w9 ⟨rfl, rfl⟩
    go_wp2_with fail
    obtain ⟨_, _, _, _, e4, -, e5, -, -, -, t0, t1⟩ := HZ5.out.top
    injection e4 with e4 _
    subst e4
    injection e5 with e5
    injection e5 with e5
    injection e5 with e5
    subst e5
    have hwr : IntKind.i64.wrap ((path.length : Nat) : Int) = (path.length : Nat) := IntWalk.i64_in _ (by omega)
    go_quiet (fail)
    have hb6 : Below w5.heap.size w5 (w5.drewN nq) := pw_below_drewN (Below.refl _ _) nq
    have hz6 := HZ5.out.keep hb6
    have hr6 := Kd.R_below HR5.out hb6
    have hk6 := (hb6.block _ (blk_lt HK5.out)).trans HK5.out
    have hn6 := (hb6.block _ (blk_lt HN5.out)).trans HN5.out
    have HB6 := Lib.hid (HB5.out.step hb6 hbase)
    have HS6 := Lib.hid (Nat.le_trans HS5.out hb6.size)
    generalize w5.drewN nq = w6 at *
    have HZ6 := Lib.hid hz6
    have HR6 := Lib.hid hr6
    have HK6 := Lib.hid hk6
    have HN6 := Lib.hid hn6
    obtain ⟨-, k0, -⟩ := hz6.zp.keys
    obtain ⟨Ak, ck, rfl, hck, hCk⟩ := hz6.cu.reads
    have kc := blk_cell hk6 0
    have hmany := hz6.many
    have hcf := containsFunc_K 52 #[.pointer (some ⟨kb, 0, none⟩)] (fun args w => by kernel_rfl) (fun y => y.f0.data.toList == x.f0.data.toList) Ak ck cur w6 (by omega) hCk (fun W y A3 A4 c3 c4 hb => put2_any y A3 A4 c3 c4 x.f0 kb W ((hb.cell (p := ⟨kb, 0, none⟩) (blk_lt HK6.out)).trans kc))
    rw [HDUP.out] at hcf
    clear hb6 hz6 hr6 hk6 hn6 HZ5 HR5 HK5 HN5 HB5 r0 n2 t0 t1 hCk kc
    go_wp2_with fail
    refine hcf.mono ?_
    rintro e w7 ⟨rfl, hb7⟩
    have hz7 := HZ6.out.keep hb7
    have hr7 := Kd.R_below HR6.out hb7
    have hk7 := (hb7.block _ (blk_lt HK6.out)).trans HK6.out
    have hn7 := (hb7.block _ (blk_lt HN6.out)).trans HN6.out
    have HB7 := Lib.hid (HB6.out.step hb7 hbase)
    have HS7 := Lib.hid (Nat.le_trans HS6.out hb7.size)
    have HZ7 := Lib.hid hz7
    have HR7 := Lib.hid hr7
    have HK7 := Lib.hid hk7
    have HN7 := Lib.hid hn7
    obtain ⟨-, k0, kf0⟩ := hz7.zp.keys
    clear hb7 hz7 hr7 hk7 hn7 HZ6 HR6 HK6 HN6 HB6 hcf
    go_wp2_with fail
    refine (must_no _ _).mono ?_
    rintro e w9 ⟨rfl, rfl⟩
    unfold pf
    go_wp2_with fail
    exact ⟨rfl, HB7.out, rfl⟩
  rw [if_neg (by decide)]
  have HDUP := Lib.hid hdup
  clear hdup
  by_cases c4 : 256 ≤ cur.length
  case pos =>
    rw [if_pos c4]
    have hc4 : decide ((cur.length : Int) < 256) = false := by simp; omega
    clear c4
    go_enter Tryz.func28, Tryz.ntmps28
    go_wp2_with fail
    rw [← HWA.out]
    refine hra.mono ?_
    rintro e w2 ⟨hb2, u, rfl, hu⟩
    obtain ⟨ls, rfl, hR2, hf4, hop2⟩ := hv0 w2 u hu
    obtain ⟨Al, cl, rfl⟩ := Kd.R_slice hR2
    have HB2 := Lib.hid hb2
    have HR2 := Lib.hid hR2
    have HOP2 := Lib.hid hop2
    have HF4 := Lib.hid hf4
    have hl2 := (hb2.block _ (blk_lt HLA.out)).trans HLA.out
    obtain ⟨w3, hw3⟩ : ∃ w3, w3 = (w2.alloc (.cells #[.string x.f0] 9)).alloc (.cells #[.int .u8 x.f1, .string x.f2, .slice Al x.f3.length cl, .slice none 0 0] 32) := ⟨_, rfl⟩
    have hb3 : Below w2.heap.size w2 w3 := by rw [hw3]; exact below_alloc (below_alloc (Below.refl _ _) _) _
    have hk3 : w3.heap[w2.heap.size]? = some (.cells #[.string x.f0] 9 (0, 0)) := by rw [hw3, Below.heap_alloc _ _ _ (by simp)]; exact heap_alloc_new w2 _
    have hn3 : w3.heap[w2.heap.size + 1]? = some (.cells #[.int .u8 x.f1, .string x.f2, .slice Al x.f3.length cl, .slice none 0 0] 32 (0, 0)) := by
      have e1 : (w2.alloc (.cells #[.string x.f0] 9)).heap.size = w2.heap.size + 1 := by simp
      rw [hw3, ← e1]; exact heap_alloc_new _ _
    have HW3 := Lib.hid hw3
    have HS3 := Lib.hid (Nat.le_trans hb2.size hb3.size)
    have HBW := Lib.hid (show Below w.heap.size w w3 from (HBA.out.trans (hb2.mono HBA.out.size)).trans (hb3.mono (Nat.le_trans HBA.out.size hb2.size)))
    have HZ3 := Lib.hid ((HZA.out.keep hb2).keep hb3)
    have HR3 := Lib.hid (Kd.R_below HR2.out hb3)
    have HK3 := Lib.hid hk3
    have HN3 := Lib.hid hn3
    have HL3 := Lib.hid ((hb3.block _ (blk_lt hl2)).trans hl2)
    have l0 := blk_cell HL3.out 0
    rw [HW3.out] at l0
    clear hw3 hb3 hk3 hn3 hb2 hu hR2 hop2 hl2 hf4
    go_wp2_with fail
    rw [← HW3.out]
    obtain ⟨N, bs, ads, vk, vL, hz3, ho3⟩ := HZ3.out
    refine (place_any w3 base fl rt rb N bs ads vk vL s.path s.cur s.opn i hz3 (Nat.le_trans hbase HBW.out.size) h0 h1 ho3).mono ?_
    rw [show (⟨s.path, s.cur, s.opn⟩ : St) = s from rfl, hpl]
    clear hz3 ho3 l0
    rintro e w4 ⟨hb4, hkt, rfl, N4, bs4, ads4, vk4, vL4, hz4⟩
    have hr4 := R_keepT HR3.out hkt
    have hk4 := Keeps.cells hkt (by decide) HK3.out
    have hn4 := Keeps.cells hkt (by decide) HN3.out
    obtain ⟨g, cap, ⟨ab, ao, asp⟩, ads', rfl, hsp, rfl, hcap, hbg, ⟨lc, hlc⟩, -, -⟩ := hz4.top
    dsimp only at hsp
    subst hsp
    have HB4 := Lib.hid ((BK.of HBW.out hbase).put hb4 hkt)
    have HZ4 := Lib.hid hz4
    have HS4 := Lib.hid (Nat.le_trans HS3.out hb4.size)
    have HR4 := Lib.hid hr4
    have HK4 := Lib.hid hk4
    have HN4 := Lib.hid hn4
    have HSZ := Lib.hid (show base ≤ w2.heap.size from Nat.le_trans hbase (Nat.le_trans HBA.out.size HB2.out.size))
    generalize w2.heap.size = kb at *
    have r0 := blk_cell hz4.rd 0
    have n1 := blk_cell hn4 1
    have n2 := blk_cell hn4 2
    have hdeep := hz4.deep
    clear hb4 hkt hz4 hr4 hk4 hn4 hlc HBW HZ3 HR3 HK3 HN3 HL3 HLA HBA HB2 HR2 hbg
    go_wp2_with fail
    refine (must_ok _ _).mono ?_
    rintro e w9 ⟨rfl, rfl⟩
    go_wp2_with fail
    obtain ⟨_, _, e2, -, hC2⟩ := Kd.R_reads HR4.out
    injection e2 with e2 _ e3
    subst e2
    subst e3
    have hcs := containsFunc_S 50 #[] (fun args w => by kernel_rfl) (fun s => decide (4096 < s.size)) Al cl x.f3 w4 hxl hC2 (fun W s hb => by simpa using put1_any s W)
    rw [HANY.out] at hcs
    clear hC2
    refine hcs.mono ?_
    rintro e w5 ⟨rfl, hb5⟩
    have hz5 := HZ4.out.keep hb5
    have hr5 := Kd.R_below HR4.out hb5
    have hk5 := (hb5.block _ (blk_lt HK4.out)).trans HK4.out
    have hn5 := (hb5.block _ (blk_lt HN4.out)).trans HN4.out
    have HB5 := Lib.hid (HB4.out.step hb5 hbase)
    have HS5 := Lib.hid (Nat.le_trans HS4.out hb5.size)
    have HZ5 := Lib.hid hz5
    have HR5 := Lib.hid hr5
    have HK5 := Lib.hid hk5
    have HN5 := Lib.hid hn5
    have r0 := blk_cell hz5.rd 0
    have n2 := blk_cell hn5 2
    clear hb5 hz5 hr5 hk5 hn5 HZ4 HR4 HK4 HN4 HB4 hcs n1
    go_wp2_with fail
    refine (must_ok _ _).mono ?_
    rintro e w9 ⟨rfl, rfl⟩
    go_wp2_with fail
    refine (must_ok _ _).mono ?_
    rintro e w9 ⟨rfl, rfl⟩
    go_wp2_with fail
    obtain ⟨_, _, _, _, e4, -, e5, -, -, -, t0, t1⟩ := HZ5.out.top
    injection e4 with e4 _
    subst e4
    injection e5 with e5
    injection e5 with e5
    injection e5 with e5
    subst e5
    have hwr : IntKind.i64.wrap ((path.length : Nat) : Int) = (path.length : Nat) := IntWalk.i64_in _ (by omega)
    go_quiet (fail)
    have hb6 : Below w5.heap.size w5 (w5.drewN nq) := pw_below_drewN (Below.refl _ _) nq
    have hz6 := HZ5.out.keep hb6
    have hr6 := Kd.R_below HR5.out hb6
    have hk6 := (hb6.block _ (blk_lt HK5.out)).trans HK5.out
    have hn6 := (hb6.block _ (blk_lt HN5.out)).trans HN5.out
    have HB6 := Lib.hid (HB5.out.step hb6 hbase)
    have HS6 := Lib.hid (Nat.le_trans HS5.out hb6.size)
    generalize w5.drewN nq = w6 at *
    have HZ6 := Lib.hid hz6
    have HR6 := Lib.hid hr6
    have HK6 := Lib.hid hk6
    have HN6 := Lib.hid hn6
    obtain ⟨-, k0, -⟩ := hz6.zp.keys
    obtain ⟨Ak, ck, rfl, hck, hCk⟩ := hz6.cu.reads
    have kc := blk_cell hk6 0
    have hmany := hz6.many
    have hcf := containsFunc_K 52 #[.pointer (some ⟨kb, 0, none⟩)] (fun args w => by kernel_rfl) (fun y => y.f0.data.toList == x.f0.data.toList) Ak ck cur w6 (by omega) hCk (fun W y A3 A4 c3 c4 hb => put2_any y A3 A4 c3 c4 x.f0 kb W ((hb.cell (p := ⟨kb, 0, none⟩) (blk_lt HK6.out)).trans kc))
    rw [HDUP.out] at hcf
    clear hb6 hz6 hr6 hk6 hn6 HZ5 HR5 HK5 HN5 HB5 r0 n2 t0 t1 hCk kc
    go_wp2_with fail
    refine hcf.mono ?_
    rintro e w7 ⟨rfl, hb7⟩
    have hz7 := HZ6.out.keep hb7
    have hr7 := Kd.R_below HR6.out hb7
    have hk7 := (hb7.block _ (blk_lt HK6.out)).trans HK6.out
    have hn7 := (hb7.block _ (blk_lt HN6.out)).trans HN6.out
    have HB7 := Lib.hid (HB6.out.step hb7 hbase)
    have HS7 := Lib.hid (Nat.le_trans HS6.out hb7.size)
    have HZ7 := Lib.hid hz7
    have HR7 := Lib.hid hr7
    have HK7 := Lib.hid hk7
    have HN7 := Lib.hid hn7
    obtain ⟨-, k0, kf0⟩ := hz7.zp.keys
    clear hb7 hz7 hr7 hk7 hn7 HZ6 HR6 HK6 HN6 HB6 hcf
    go_wp2_with fail
    refine (must_ok _ _).mono ?_
    rintro e w9 ⟨rfl, rfl⟩
    go_wp2_with fail
    refine (must_no _ _).mono ?_
    rintro e w9 ⟨rfl, rfl⟩
    unfold pf
    go_wp2_with fail
    exact ⟨rfl, HB7.out, rfl⟩
  rw [if_neg c4]
  have hc4 : decide ((cur.length : Int) < 256) = true := by simp; omega
  have HC4 := Lib.hid c4
  clear c4
  go_enter Tryz.func28, Tryz.ntmps28
  go_wp2_with fail
  rw [← HWA.out]
  refine hra.mono ?_
  rintro e w2 ⟨hb2, u, rfl, hu⟩
  obtain ⟨ls, rfl, hR2, hf4, hop2⟩ := hv0 w2 u hu
  obtain ⟨Al, cl, rfl⟩ := Kd.R_slice hR2
  have HB2 := Lib.hid hb2
  have HR2 := Lib.hid hR2
  have HOP2 := Lib.hid hop2
  have HF4 := Lib.hid hf4
  have hl2 := (hb2.block _ (blk_lt HLA.out)).trans HLA.out
  obtain ⟨w3, hw3⟩ : ∃ w3, w3 = (w2.alloc (.cells #[.string x.f0] 9)).alloc (.cells #[.int .u8 x.f1, .string x.f2, .slice Al x.f3.length cl, .slice none 0 0] 32) := ⟨_, rfl⟩
  have hb3 : Below w2.heap.size w2 w3 := by rw [hw3]; exact below_alloc (below_alloc (Below.refl _ _) _) _
  have hk3 : w3.heap[w2.heap.size]? = some (.cells #[.string x.f0] 9 (0, 0)) := by rw [hw3, Below.heap_alloc _ _ _ (by simp)]; exact heap_alloc_new w2 _
  have hn3 : w3.heap[w2.heap.size + 1]? = some (.cells #[.int .u8 x.f1, .string x.f2, .slice Al x.f3.length cl, .slice none 0 0] 32 (0, 0)) := by
    have e1 : (w2.alloc (.cells #[.string x.f0] 9)).heap.size = w2.heap.size + 1 := by simp
    rw [hw3, ← e1]; exact heap_alloc_new _ _
  have HW3 := Lib.hid hw3
  have HS3 := Lib.hid (Nat.le_trans hb2.size hb3.size)
  have HBW := Lib.hid (show Below w.heap.size w w3 from (HBA.out.trans (hb2.mono HBA.out.size)).trans (hb3.mono (Nat.le_trans HBA.out.size hb2.size)))
  have HZ3 := Lib.hid ((HZA.out.keep hb2).keep hb3)
  have HR3 := Lib.hid (Kd.R_below HR2.out hb3)
  have HK3 := Lib.hid hk3
  have HN3 := Lib.hid hn3
  have HL3 := Lib.hid ((hb3.block _ (blk_lt hl2)).trans hl2)
  have l0 := blk_cell HL3.out 0
  rw [HW3.out] at l0
  clear hw3 hb3 hk3 hn3 hb2 hu hR2 hop2 hl2 hf4
  go_wp2_with fail
  rw [← HW3.out]
  obtain ⟨N, bs, ads, vk, vL, hz3, ho3⟩ := HZ3.out
  refine (place_any w3 base fl rt rb N bs ads vk vL s.path s.cur s.opn i hz3 (Nat.le_trans hbase HBW.out.size) h0 h1 ho3).mono ?_
  rw [show (⟨s.path, s.cur, s.opn⟩ : St) = s from rfl, hpl]
  clear hz3 ho3 l0
  rintro e w4 ⟨hb4, hkt, rfl, N4, bs4, ads4, vk4, vL4, hz4⟩
  have hr4 := R_keepT HR3.out hkt
  have hk4 := Keeps.cells hkt (by decide) HK3.out
  have hn4 := Keeps.cells hkt (by decide) HN3.out
  obtain ⟨g, cap, ⟨ab, ao, asp⟩, ads', rfl, hsp, rfl, hcap, hbg, ⟨lc, hlc⟩, -, -⟩ := hz4.top
  dsimp only at hsp
  subst hsp
  have HB4 := Lib.hid ((BK.of HBW.out hbase).put hb4 hkt)
  have HZ4 := Lib.hid hz4
  have HS4 := Lib.hid (Nat.le_trans HS3.out hb4.size)
  have HR4 := Lib.hid hr4
  have HK4 := Lib.hid hk4
  have HN4 := Lib.hid hn4
  have HSZ := Lib.hid (show base ≤ w2.heap.size from Nat.le_trans hbase (Nat.le_trans HBA.out.size HB2.out.size))
  generalize w2.heap.size = kb at *
  have r0 := blk_cell hz4.rd 0
  have n1 := blk_cell hn4 1
  have n2 := blk_cell hn4 2
  have hdeep := hz4.deep
  clear hb4 hkt hz4 hr4 hk4 hn4 hlc HBW HZ3 HR3 HK3 HN3 HL3 HLA HBA HB2 HR2 hbg
  go_wp2_with fail
  refine (must_ok _ _).mono ?_
  rintro e w9 ⟨rfl, rfl⟩
  go_wp2_with fail
  obtain ⟨_, _, e2, -, hC2⟩ := Kd.R_reads HR4.out
  injection e2 with e2 _ e3
  subst e2
  subst e3
  have hcs := containsFunc_S 50 #[] (fun args w => by kernel_rfl) (fun s => decide (4096 < s.size)) Al cl x.f3 w4 hxl hC2 (fun W s hb => by simpa using put1_any s W)
  rw [HANY.out] at hcs
  clear hC2
  refine hcs.mono ?_
  rintro e w5 ⟨rfl, hb5⟩
  have hz5 := HZ4.out.keep hb5
  have hr5 := Kd.R_below HR4.out hb5
  have hk5 := (hb5.block _ (blk_lt HK4.out)).trans HK4.out
  have hn5 := (hb5.block _ (blk_lt HN4.out)).trans HN4.out
  have HB5 := Lib.hid (HB4.out.step hb5 hbase)
  have HS5 := Lib.hid (Nat.le_trans HS4.out hb5.size)
  have HZ5 := Lib.hid hz5
  have HR5 := Lib.hid hr5
  have HK5 := Lib.hid hk5
  have HN5 := Lib.hid hn5
  have r0 := blk_cell hz5.rd 0
  have n2 := blk_cell hn5 2
  clear hb5 hz5 hr5 hk5 hn5 HZ4 HR4 HK4 HN4 HB4 hcs n1
  go_wp2_with fail
  refine (must_ok _ _).mono ?_
  rintro e w9 ⟨rfl, rfl⟩
  go_wp2_with fail
  refine (must_ok _ _).mono ?_
  rintro e w9 ⟨rfl, rfl⟩
  go_wp2_with fail
  obtain ⟨_, _, _, _, e4, -, e5, -, -, -, t0, t1⟩ := HZ5.out.top
  injection e4 with e4 _
  subst e4
  injection e5 with e5
  injection e5 with e5
  injection e5 with e5
  subst e5
  have hwr : IntKind.i64.wrap ((path.length : Nat) : Int) = (path.length : Nat) := IntWalk.i64_in _ (by omega)
  go_quiet (fail)
  have hb6 : Below w5.heap.size w5 (w5.drewN nq) := pw_below_drewN (Below.refl _ _) nq
  have hz6 := HZ5.out.keep hb6
  have hr6 := Kd.R_below HR5.out hb6
  have hk6 := (hb6.block _ (blk_lt HK5.out)).trans HK5.out
  have hn6 := (hb6.block _ (blk_lt HN5.out)).trans HN5.out
  have HB6 := Lib.hid (HB5.out.step hb6 hbase)
  have HS6 := Lib.hid (Nat.le_trans HS5.out hb6.size)
  generalize w5.drewN nq = w6 at *
  have HZ6 := Lib.hid hz6
  have HR6 := Lib.hid hr6
  have HK6 := Lib.hid hk6
  have HN6 := Lib.hid hn6
  obtain ⟨-, k0, -⟩ := hz6.zp.keys
  obtain ⟨Ak, ck, rfl, hck, hCk⟩ := hz6.cu.reads
  have kc := blk_cell hk6 0
  have hmany := hz6.many
  have hcf := containsFunc_K 52 #[.pointer (some ⟨kb, 0, none⟩)] (fun args w => by kernel_rfl) (fun y => y.f0.data.toList == x.f0.data.toList) Ak ck cur w6 (by omega) hCk (fun W y A3 A4 c3 c4 hb => put2_any y A3 A4 c3 c4 x.f0 kb W ((hb.cell (p := ⟨kb, 0, none⟩) (blk_lt HK6.out)).trans kc))
  rw [HDUP.out] at hcf
  clear hb6 hz6 hr6 hk6 hn6 HZ5 HR5 HK5 HN5 HB5 r0 n2 t0 t1 hCk kc
  go_wp2_with fail
  refine hcf.mono ?_
  rintro e w7 ⟨rfl, hb7⟩
  have hz7 := HZ6.out.keep hb7
  have hr7 := Kd.R_below HR6.out hb7
  have hk7 := (hb7.block _ (blk_lt HK6.out)).trans HK6.out
  have hn7 := (hb7.block _ (blk_lt HN6.out)).trans HN6.out
  have HB7 := Lib.hid (HB6.out.step hb7 hbase)
  have HS7 := Lib.hid (Nat.le_trans HS6.out hb7.size)
  have HZ7 := Lib.hid hz7
  have HR7 := Lib.hid hr7
  have HK7 := Lib.hid hk7
  have HN7 := Lib.hid hn7
  obtain ⟨-, k0, kf0⟩ := hz7.zp.keys
  clear hb7 hz7 hr7 hk7 hn7 HZ6 HR6 HK6 HN6 HB6 hcf
  go_wp2_with fail
  refine (must_ok _ _).mono ?_
  rintro e w9 ⟨rfl, rfl⟩
  go_wp2_with fail
  refine (must_ok _ _).mono ?_
  rintro e w9 ⟨rfl, rfl⟩
  go_wp2_with fail
  clear k0 kf0 hmany
  refine put_end w w7 base fl rt rb wa.heap.size kb ab ao x N4 bs4 ads' Ak ck _ path cur s.opn false Al cl (bsOf k) HZ7 HF4 HR7 HWB (Lib.hid (by have := HC4.out; omega)) hbase HB7 HWF HS7 HK7 HN7 (Lib.hid ?_) _ _ rfl ?_ _ _ _ _ _ _ _ _ _ _ _ _ _ _ _ _ _ _ _ _ _ _ _ _ _ _ _ _ _ _ _ _ _ _ _ _ _ _ _ _ _ _ _ _ _ _ _ _ _ _ _ _ _ _ _ _ _ _ _ _ _ _ _ _ _ _ _ _
  · exact fun _ => ⟨(HOP2.out (by first | trivial | rfl)).1, (HOP2.out (by first | trivial | rfl)).2, HC1.out⟩
  · first | assumption | (intro a W h; rename_i hKK; exact hKK a W h)
end Go.Proofs.YtpdnopfjnmjnnaaGreatDoor.Cn
