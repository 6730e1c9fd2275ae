/- Package conf: Print. -/
import Derived.Test.YtpdnopfjnmjnnaaGreatDoorVl
import Derived.Test.YtpdnopfjnmjnnaaGreatDoorVg
set_option linter.unusedVariables false
set_option linter.unusedSimpArgs false
namespace Go.Proofs.YtpdnopfjnmjnnaaGreatDoor.Cn
open Go.Sort Go.RowKit Go.Proofs Go.Proofs.YtpdnopfjnmjnnaaGreatDoorW.PrintWords Go.Proofs.YtpdnopfjnmjnnaaGreatDoor.Bs Go.Proofs.YtpdnopfjnmjnnaaGreatDoor.Ir Go.Proofs.YtpdnopfjnmjnnaaGreatDoor.Cz

theorem prn_new (w : World) : Prn w.heap.size w.heap.size [] (w.alloc (.cells #[.pointer none, .slice none 0 0] 58)) :=
  .inl ⟨Nat.le_refl _, .slice none 0 0, heap_alloc_new w _, own_nil _ _ _ _, by simp [Value.ownBlock]⟩
def printV (l : List UInt8) : Value := if 16384 < l.length then .tuple #[.string ⟨#[]⟩, .int .i64 4] else .tuple #[.string (bsOf l), .int .i64 0]
set_option maxRecDepth 100000 in
set_option maxHeartbeats 2000000 in
theorem print_any (n : Nat) (hn : n ≤ 900) (x : Kn) (hx : Fit x) (ht : FitT x) (ho : PrOK n x) (A3 : Option Addr) (c3 : Nat) (A4 : Option Addr) (c4 : Nat) (w : World) (hC3 : Kd.string.C w A3 x.f3.length x.f3) (hC4 : kK.C w A4 x.f4.length x.f4) (hm : Mx w) (hok : (decide (x.f1 = 0) && rightG 9 x) = true) (hl : (linesB n 0 x).length ≤ 1073741824) (h0 : linesB n 0 x ≠ []) :
    Calls Tryz.prog 15 #[.agg #[.int .u8 x.f1, .string x.f2, .slice A3 x.f3.length c3, .slice A4 x.f4.length c4]] w fun e w' => e = .returned (printV (linesB n 0 x)) ∧ Below w.heap.size w w' := by
  obtain ⟨wa, hwa⟩ : ∃ wa, wa = w.alloc (.cells #[.int .u8 x.f1, .string x.f2, .slice A3 x.f3.length c3, .slice A4 x.f4.length c4] 32) := ⟨_, rfl⟩
  have hba : Below w.heap.size w wa := by rw [hwa]; exact below_alloc (Below.refl _ _) _
  have hbox : wa.heap[w.heap.size]? = some (.cells #[.int .u8 x.f1, .string x.f2, .slice A3 x.f3.length c3, .slice A4 x.f4.length c4] 32 (0, 0)) := by rw [hwa]; exact heap_alloc_new w _
  have hck := check_any x hx ht A3 c3 A4 c4 wa (hC3.imp_ hba (fun _ _ hp => Kd.string.K_below hba hp)) (hC4.imp_ hba (fun _ _ hp => kK.K_below hba hp))
  rw [hok] at hck
  have HW := Lib.hid hwa
  have HBA := Lib.hid hba
  have HBX := Lib.hid hbox
  have HC := Lib.hid (And.intro hC3 hC4)
  have HX := Lib.hid (And.intro hx ho)
  have HM := Lib.hid hm
  have HL := Lib.hid (And.intro hl h0)
  clear hwa hba hbox hC3 hC4 hx ho hm hl h0 hok ht
  go_enter Tryz.func15, Tryz.ntmps15
  go_wp2_with fail
  rw [← HW.out]
  refine hck.mono ?_
  rintro e w2 ⟨rfl, hb2⟩
  have hk2 := (hb2.block _ (blk_lt HBX.out)).trans HBX.out
  have hbw2 : Below w.heap.size w w2 := HBA.out.trans (hb2.mono HBA.out.size)
  obtain ⟨w3, hw3⟩ : ∃ w3, w3 = w2.alloc (.cells #[.pointer none, .slice none 0 0] 58) := ⟨_, rfl⟩
  have hb3 : Below w2.heap.size w2 w3 := by rw [hw3]; exact below_alloc (Below.refl _ _) _
  have hP3 : Prn w2.heap.size w2.heap.size [] w3 := by rw [hw3]; exact prn_new w2
  have hkeys := keys_any n x HX.out.1 HX.out.2 0 (by omega) A3 c3 A4 c4 w2.heap.size w2.heap.size [] w w3 HC.out.1 HC.out.2 (hbw2.trans (hb3.mono hbw2.size)) hbw2.size hb3.size HM.out hP3 (by simpa using HL.out.1)
  rw [List.nil_append, show ((0 : Nat) : Int) = 0 from rfl] at hkeys
  have hk3 := (hb3.block _ (blk_lt hk2)).trans hk2
  have c0 := blk_cell hk3 0
  have c1 := blk_cell hk3 1
  have c2 := blk_cell hk3 2
  have c3' := blk_cell hk3 3
  rw [hw3] at c0 c1 c2 c3'
  have HW3 := Lib.hid hw3
  have HB3 := Lib.hid (And.intro hbw2 hb3)
  clear hck hb2 hk2 hbw2 hw3 hb3 hP3 hk3
  go_wp2_with fail
  rw [← HW3.out]
  refine hkeys.mono ?_
  rintro e w4 ⟨rfl, hP4, hb4, ho4⟩
  have HB4 := Lib.hid (HB3.out.1.trans ((HB3.out.2.mono HB3.out.1.size).trans (hb4.mono HB3.out.1.size)))
  have h0 := HL.out.2
  have hP4' : Lib.IsBuilder 58 5 w2.heap.size w2.heap.size (Lib.byteCells (linesB n 0 x)) w4 := hP4
  have HSZ := Lib.hid HB3.out.1.size
  obtain ⟨L, hLe⟩ : ∃ L, L = linesB n 0 x := ⟨_, rfl⟩
  rw [← hLe] at hP4' h0
  have HLE := Lib.hid hLe
  have hlen := Bq.Len _ _ _ w4 hP4'
  rw [Lib.byteCells_length] at hlen
  have hstr := Bq.Str _ _ L w4 hP4' h0
  clear hkeys hP4 hP4' hb4 ho4 c0 c1 c2 c3' h0 hLe
  by_cases hL : 16384 < L.length
  · have hd : decide ((16384 : Int) < (L.length : Int)) = true := by simp; omega
    have HP := Lib.hid (show printV L = .tuple #[.string ⟨#[]⟩, .int .i64 4] by unfold printV; rw [if_pos hL])
    clear hL hstr
    go_wp2_with (go_at_call 24; refine hlen.mono ?_; rintro e w5 ⟨rfl, rfl⟩)
    refine bodyPost_ret (v := .tuple #[.string ⟨#[]⟩, .int .i64 4]) (by simp [results, Tryz.results15, go_sem]) rfl ⟨by rw [← HLE.out, HP.out], HB4.out⟩
  · have hd : decide ((16384 : Int) < (L.length : Int)) = false := by simp; omega
    have HP := Lib.hid (show printV L = .tuple #[.string (bsOf L), .int .i64 0] by unfold printV; rw [if_neg hL])
    clear hL
    go_wp2_with (go_at_call 24; refine hlen.mono ?_; rintro e w5 ⟨rfl, rfl⟩)
    refine hstr.mono ?_
    rintro e w6 ⟨rfl, hb6⟩
    have HB6 := Lib.hid (HB4.out.trans (hb6.mono HSZ.out))
    clear hb6 hstr hlen
    go_wp2_with fail
    refine bodyPost_ret (v := .tuple #[.string ⟨L.toArray⟩, .int .i64 0]) (by simp [results, Tryz.results15, go_sem]) rfl ⟨by rw [← HLE.out, HP.out]; rfl, HB6.out⟩
end Go.Proofs.YtpdnopfjnmjnnaaGreatDoor.Cn
