/- Package conf: the reader's put. -/
import Derived.Test.YtpdnopfjnmjnnaaGreatDoorNo
import Derived.Test.YtpdnopfjnmjnnaaGreatDoorNp
set_option linter.unusedVariables false
set_option linter.unusedSimpArgs false
namespace Go.Proofs.YtpdnopfjnmjnnaaGreatDoor.Cn
open Go.Sort Go.RowKit Go.Proofs Go.Proofs.YtpdnopfjnmjnnaaGreatDoorW.PrintWords Go.Proofs.YtpdnopfjnmjnnaaGreatDoor.Bs Go.Proofs.YtpdnopfjnmjnnaaGreatDoor.Ir Go.Proofs.YtpdnopfjnmjnnaaGreatDoor.Cz


set_option maxRecDepth 100000 in
set_option maxHeartbeats 100000000 in
theorem put_any (w : World) (base fl rt rb : Nat) (s : St) (l : Ln) (h : ZsO w base fl rt rb s) (hbase : base ≤ w.heap.size) (hfl : fl ≤ w.heap.size) (h0 : 0 ≤ l.indent) (h1 : l.indent ≤ 1073741824) (hl : l.text.length ≤ 1073741824) (hm : Mx w) (hlow : 2 < base) :
    Calls Tryz.prog 28 #[.pointer (some ⟨rb, 0, none⟩), .agg #[.int .i64 l.indent, .int .i64 l.number, .string (bsOf l.text)]] w fun e w' => PutQ base fl rt rb w (putL l.indent l.text s) e w' := by
  obtain ⟨i, n, tx⟩ := l
  dsimp only at *
  obtain ⟨wa, hwa⟩ : ∃ wa, wa = w.alloc (.cells #[.int .i64 i, .int .i64 n, .string (bsOf tx)] 75) := ⟨_, rfl⟩
  have hba : Below w.heap.size w wa := by rw [hwa]; exact below_alloc (Below.refl _ _) _
  have hla : wa.heap[w.heap.size]? = some (.cells #[.int .i64 i, .int .i64 n, .string (bsOf tx)] 75 (0, 0)) := by rw [hwa]; exact heap_alloc_new w _
  have H0 := Lib.hid h
  have hZA := h.keep hba
  have hra := read_any (bsOf tx) wa (hm.below hba) (by have := hba.size; omega) hl
  rw [show (bsOf tx).data.toList = tx from rfl] at hra
  have HWA := Lib.hid hwa
  have HBA := Lib.hid hba
  have HWB := Lib.hid (Nat.le_trans hbase hba.size)
  have HWF := Lib.hid (Nat.le_trans hfl hba.size)
  have HLA := Lib.hid hla
  have HZA := Lib.hid hZA
  have HM := Lib.hid hm
  have HLOW := Lib.hid hlow
  clear hwa hba hla hZA hm hlow h
  cases hrd : readL tx with
  | error y =>
    rw [hrd] at hra
    rw [putL_err hrd]
    clear hrd
    go_enter Tryz.func28, Tryz.ntmps28
    go_wp2_with fail
    rw [← HWA.out]
    refine hra.mono ?_
    rintro e w2 ⟨hb2, rfl⟩
    unfold pf
    go_wp2_with fail
    exact ⟨rfl, BK.of (HBA.out.trans (hb2.mono HBA.out.size)) hbase, rfl⟩
  | ok z =>
    obtain ⟨k, v⟩ := z
    rw [hrd] at hra
    have hll := readL_list hrd
    have HRD := Lib.hid hrd
    have hv0 : ∀ W u, readV wa.heap.size (k, v) W u → _ := fun W u hu => readV_node hu
    obtain ⟨hs, hhs⟩ : ∃ hs, hs = hasV v := ⟨_, rfl⟩
    obtain ⟨x, hx⟩ : ∃ x, x = leaf k v := ⟨_, rfl⟩
    have HHS := Lib.hid hhs
    have HX := Lib.hid hx
    rw [← hhs, ← hx] at hv0
    rw [← hx] at hll
    clear hhs hx hrd
    have hxl : x.f3.length ≤ 1073741824 := by omega
    cases hpl : placeL i s with
    | none =>
      rw [putL_none HRD.out hpl]
      go_enter Tryz.func28, Tryz.ntmps28
      go_wp2_with fail
      rw [← HWA.out]
      refine hra.mono ?_
      rintro e w2 ⟨hb2, u, rfl, hu⟩
      obtain ⟨ls, rfl, hR2, hf4, hop2⟩ := hv0 w2 u hu
      obtain ⟨Al, cl, rfl⟩ := Kd.R_slice hR2
      have HB2 := Lib.hid hb2
      have HR2 := Lib.hid hR2
      have HOP2 := Lib.hid hop2
      have HF4 := Lib.hid hf4
      have hl2 := (hb2.block _ (blk_lt HLA.out)).trans HLA.out
      obtain ⟨w3, hw3⟩ : ∃ w3, w3 = (w2.alloc (.cells #[.string x.f0] 9)).alloc (.cells #[.int .u8 x.f1, .string x.f2, .slice Al x.f3.length cl, .slice none 0 0] 32) := ⟨_, rfl⟩
      have hb3 : Below w2.heap.size w2 w3 := by rw [hw3]; exact below_alloc (below_alloc (Below.refl _ _) _) _
      have hk3 : w3.heap[w2.heap.size]? = some (.cells #[.string x.f0] 9 (0, 0)) := by rw [hw3, Below.heap_alloc _ _ _ (by simp)]; exact heap_alloc_new w2 _
      have hn3 : w3.heap[w2.heap.size + 1]? = some (.cells #[.int .u8 x.f1, .string x.f2, .slice Al x.f3.length cl, .slice none 0 0] 32 (0, 0)) := by
        have e1 : (w2.alloc (.cells #[.string x.f0] 9)).heap.size = w2.heap.size + 1 := by simp
        rw [hw3, ← e1]; exact heap_alloc_new _ _
      have HW3 := Lib.hid hw3
      have HS3 := Lib.hid (Nat.le_trans hb2.size hb3.size)
      have HBW := Lib.hid (show Below w.heap.size w w3 from (HBA.out.trans (hb2.mono HBA.out.size)).trans (hb3.mono (Nat.le_trans HBA.out.size hb2.size)))
      have HZ3 := Lib.hid ((HZA.out.keep hb2).keep hb3)
      have HR3 := Lib.hid (Kd.R_below HR2.out hb3)
      have HK3 := Lib.hid hk3
      have HN3 := Lib.hid hn3
      have HL3 := Lib.hid ((hb3.block _ (blk_lt hl2)).trans hl2)
      have l0 := blk_cell HL3.out 0
      rw [HW3.out] at l0
      clear hw3 hb3 hk3 hn3 hb2 hu hR2 hop2 hl2 hf4
      go_wp2_with fail
      rw [← HW3.out]
      obtain ⟨N, bs, ads, vk, vL, hz3, ho3⟩ := HZ3.out
      refine (place_any w3 base fl rt rb N bs ads vk vL s.path s.cur s.opn i hz3 (Nat.le_trans hbase HBW.out.size) h0 h1 ho3).mono ?_
      rw [show (⟨s.path, s.cur, s.opn⟩ : St) = s from rfl, hpl]
      clear hz3 ho3 l0
      rintro e w4 ⟨hb4, hkt, rfl⟩
      unfold pf
      go_wp2_with fail
      exact ⟨rfl, (BK.of HBW.out hbase).put hb4 hkt, rfl⟩
    | some pc =>
      obtain ⟨path, cur⟩ := pc
      cases hhv : hasV v
      · exact put_no w base fl rt rb s ⟨i, n, tx⟩ H0.out hbase hfl h0 h1 hl HM.out HLOW.out k v path cur HRD.out hpl hhv
      · exact put_yes w base fl rt rb s ⟨i, n, tx⟩ H0.out hbase hfl h0 h1 hl HM.out HLOW.out k v path cur HRD.out hpl hhv
end Go.Proofs.YtpdnopfjnmjnnaaGreatDoor.Cn
