/- Package penstocklaw08: lives. -/
import Derived.Test.YtaihnhhapplmbaaGreatDoorSw
import Derived.Test.YtaihnhhapplmbaaGreatDoorQm
set_option linter.unusedVariables false
set_option linter.unusedSimpArgs false
namespace Go.Proofs.YtaihnhhapplmbaaGreatDoor.Sv
open Go.Sort Go.RowKit Go.Maps Go.Proofs Go.Proofs.YtaihnhhapplmbaaGreatDoorW.PrintWords Go.Proofs.YtaihnhhapplmbaaGreatDoor.Bs Go.Proofs.YtaihnhhapplmbaaGreatDoor.Ir Go.Proofs.YtaihnhhapplmbaaGreatDoor.Gn Go.Proofs.YtaihnhhapplmbaaGreatDoor.Ht

theorem rules_any (w : World) : Calls Tryz.prog 18 #[] w fun e w' => e = .returned (.agg #[.int .i64 1000, .int .u64 10]) ∧ Below w.heap.size w w' := by
  go_enter Tryz.func18, Tryz.ntmps18
  go_wp2_with fail
  have t0 := cell_new w #[.int .i64 1000, .int .u64 10] 26 0 _ rfl
  have t1 := cell_new w #[.int .i64 1000, .int .u64 10] 26 1 _ rfl
  refine bodyPost_ret (v := .agg #[.int .i64 1000, .int .u64 10]) (by simp [results, Tryz.results18, go_sem, t0, t1]) rfl ⟨rfl, (by repeat (first | assumption | exact Below.refl _ _ | apply below_drew | apply pw_below_drewN | apply below_alloc | (refine below_via (by assumption) ?_)))⟩
theorem live_f : feedR ⟨#[]⟩ ⟨#[]⟩ false false false 0 1000 ⟨#[71, 69, 84, 32, 47, 120, 32, 72, 84, 84, 80, 47, 49, 46, 49, 13, 10, 13, 10, 120, 13, 10]⟩ 5 = .tuple #[.agg #[.string ⟨#[71, 69, 84, 32, 47, 120, 32, 72, 84, 84, 80, 47, 49, 46, 49, 13, 10, 13, 10, 120, 13, 10]⟩, .string ⟨#[]⟩, .bool false, .bool false, .bool false, .int .u64 5], .int .i64 0] := by kernel_rfl
def connO : Value := .agg #[.string ⟨#[71, 69, 84, 32, 47, 120, 32, 72, 84, 84, 80, 47, 49, 46, 49, 13, 10, 13, 10, 120, 13, 10]⟩, .string ⟨#[]⟩, .bool false, .bool false, .bool false, .int .u64 5]
def connOC : Array Value := #[.string ⟨#[71, 69, 84, 32, 47, 120, 32, 72, 84, 84, 80, 47, 49, 46, 49, 13, 10, 13, 10, 120, 13, 10]⟩, .string ⟨#[]⟩, .bool false, .bool false, .bool false, .int .u64 5]
def connN : Value := .agg #[.string live2, .string s404, .bool false, .bool false, .bool false, .int .u64 6]
def connNC : Array Value := #[.string live2, .string s404, .bool false, .bool false, .bool false, .int .u64 6]
def rulesT : Value := .agg #[.int .i64 1000, .int .u64 10]
def lookT : Value := .tuple #[connN, .agg #[.int .u8 0, .slice none 0 0], .int .u8 1, .int .i64 0]
def big (f : Nat → Bool) (p : Nat) (a0 : Act) : Act := Qm.cput (f 12) 5 (.int .i64 0) (Qm.cput (f 11) 4 (.int .u8 1) (Qm.cput (f 8) 3 (.pointer (some ⟨p, 0, none⟩)) (Qm.cput (f 7) 23 (.int .i64 0) (Qm.cput (f 6) 22 (.int .u8 1) (Qm.cput (f 5) 21 (.agg #[.int .u8 0, .slice none 0 0]) (Qm.cput (f 4) 20 connN (Qm.cput (f 3) 16 lookT (Qm.cput (f 2) 19 lookT (Qm.cput (f 1) 18 rulesT (Qm.cput (f 0) 17 connO a0))))))))))
def connM : Value := .agg #[.string ⟨#[]⟩, .string (s404 ++ s400), .bool true, .bool false, .bool false, .int .u64 6]
def connMC : Array Value := #[.string ⟨#[]⟩, .string (s404 ++ s400), .bool true, .bool false, .bool false, .int .u64 6]
def connZC : Array Value := #[.string ⟨#[]⟩, .string ⟨#[]⟩, .bool false, .bool false, .bool false, .int .u64 0]
def lookU : Value := .tuple #[connM, .agg #[.int .u8 0, .slice none 0 0], .int .u8 1, .int .i64 0]
def big3 (f : Nat → Bool) (p q : Nat) (a0 : Act) : Act := Qm.cput (f 13) 9 (.int .i64 0) (Qm.cput (f 12) 8 (.int .u8 1) (Qm.cput (f 9) 7 (.pointer (some ⟨q, 0, none⟩)) (Qm.cput (f 8) 6 (.pointer (some ⟨p, 0, none⟩)) (Qm.cput (f 7) 31 (.int .i64 0) (Qm.cput (f 6) 30 (.int .u8 1) (Qm.cput (f 5) 29 (.agg #[.int .u8 0, .slice none 0 0]) (Qm.cput (f 4) 28 connM (Qm.cput (f 3) 24 lookU (Qm.cput (f 2) 27 lookU (Qm.cput (f 1) 26 rulesT (Qm.cput (f 0) 25 connN a0)))))))))))
theorem s404_eq : (s404.toList == [72, 84, 84, 80, 47, 49, 46, 49, 32, 52, 48, 52, 32, 78, 111, 116, 32, 70, 111, 117, 110, 100, 13, 10, 67, 111, 110, 116, 101, 110, 116, 45, 76, 101, 110, 103, 116, 104, 58, 32, 48, 13, 10, 13, 10]) = true := by rw [ByteArray.toList_eq]; rfl
set_option maxRecDepth 100000 in
set_option maxHeartbeats 4000000 in
theorem lives_any (w : World) (G : Gnd w) : Calls Tryz.prog 7 #[] w fun e w' => e = .returned (.bool true) ∧ Below w.heap.size w w' := by
  have c1 := fun W => feed_any ⟨#[]⟩ ⟨#[]⟩ false false false 0 1000 10 ⟨#[71, 69, 84, 32, 47, 120, 32, 72, 84, 84, 80, 47, 49, 46, 49, 13, 10, 13, 10, 120, 13, 10]⟩ 5 W (by decide) (by decide) (by decide)
  rw [live_f] at c1
  have c2 := fun W (hb : Below w.heap.size w W) => look_1 W (G.below hb)
  have c3 := fun W (hb : Below w.heap.size w W) => look_2 W (G.below hb)
  have c4 := fun W => check_any live2 s404 false false false 6 (-1) 0 W (by decide) (by decide)
  rw [show checkI live2 s404 false false false (-1) = 2 from by decide] at c4
  have hs := s404_eq
  have cr := fun W => rules_any W
  clear G
  go_enter Tryz.func7, Tryz.ntmps7
  go_wp2_with (first
    | (go_at_call 18; refine (cr _).mono ?_; rintro e w1 ⟨rfl, hb1⟩; obtain ⟨hbc1, hbf1⟩ := bcell hb1)
    | (go_at_call 9; refine (c1 _).mono ?_; rintro e w2 ⟨rfl, hb2⟩; obtain ⟨hbc2, hbf2⟩ := bcell hb2)
    | (go_at_call 12; refine (c2 _ (by repeat (first | assumption | exact Below.refl _ _ | apply below_drew | apply pw_below_drewN | apply below_alloc | (refine below_via (by assumption) ?_)))).mono ?_; rintro e w3 ⟨rfl, hb3⟩; obtain ⟨hbc3, hbf3⟩ := bcell hb3)
    | (go_at_call 12; refine (c3 _ (by repeat (first | assumption | exact Below.refl _ _ | apply below_drew | apply pw_below_drewN | apply below_alloc | (refine below_via (by assumption) ?_)))).mono ?_; rintro e w4 ⟨rfl, hb4⟩; obtain ⟨hbc4, hbf4⟩ := bcell hb4)
    | (go_at_call 11; refine (c4 _).mono ?_; rintro e w5 ⟨rfl, hb5⟩; obtain ⟨hbc5, hbf5⟩ := bcell hb5))
  have HC := Lib.hid (heap_alloc_new w2 (.cells #[.string ⟨#[71, 69, 84, 32, 47, 120, 32, 72, 84, 84, 80, 47, 49, 46, 49, 13, 10, 13, 10, 120, 13, 10]⟩, .string ⟨#[]⟩, .bool false, .bool false, .bool false, .int .u64 5] 24))
  have HBC := Lib.hid (show Below w.heap.size w (w2.alloc (.cells #[.string ⟨#[71, 69, 84, 32, 47, 120, 32, 72, 84, 84, 80, 47, 49, 46, 49, 13, 10, 13, 10, 120, 13, 10]⟩, .string ⟨#[]⟩, .bool false, .bool false, .bool false, .int .u64 5] 24)) from (by repeat (first | assumption | exact Below.refl _ _ | apply below_drew | apply pw_below_drewN | apply below_alloc | (refine below_via (by assumption) ?_))))
  have HGW := Lib.hid (show w.heap.size ≤ w2.heap.size from by have := (show Below w.heap.size w w2 from (by repeat (first | assumption | exact Below.refl _ _ | apply below_drew | apply pw_below_drewN | apply below_alloc | (refine below_via (by assumption) ?_)))).size; omega)
  clear hbc1 hbf1 hbc2 hbf2 hb1 hb2
  obtain ⟨x0, x1, x2, x3, x4, x5⟩ := blk_cells6 HC.out
  have xf : ∀ j, (w2.alloc (.cells #[.string ⟨#[71, 69, 84, 32, 47, 120, 32, 72, 84, 84, 80, 47, 49, 46, 49, 13, 10, 13, 10, 120, 13, 10]⟩, .string ⟨#[]⟩, .bool false, .bool false, .bool false, .int .u64 5] 24)).frozen? ⟨w2.heap.size, j, none⟩ = false := fun j => blk_frozen HC.out j
  have hgc : w2.heap.size < (w2.alloc (.cells #[.string ⟨#[71, 69, 84, 32, 47, 120, 32, 72, 84, 84, 80, 47, 49, 46, 49, 13, 10, 13, 10, 120, 13, 10]⟩, .string ⟨#[]⟩, .bool false, .bool false, .bool false, .int .u64 5] 24)).heap.size := by simp
  generalize w2.alloc (.cells #[.string ⟨#[71, 69, 84, 32, 47, 120, 32, 72, 84, 84, 80, 47, 49, 46, 49, 13, 10, 13, 10, 120, 13, 10]⟩, .string ⟨#[]⟩, .bool false, .bool false, .bool false, .int .u64 5] 24) = wc at *
  generalize w2.heap.size = gc at *
  have hbw := HBC.out
  have hgw : w.heap.size ≤ gc := HGW.out
  clear c1 xf x0 x1 x2 x3 x4 x5
  generalize hA0 : Act.mk _ _ = a0
  have e1 : a0.tmps[1]? = some (.pointer (some ⟨gc, 0, none⟩)) := by rw [← hA0]; rfl
  have ez : 23 < a0.tmps.size := by rw [← hA0]; simp
  have HA0 := Lib.hid hA0
  clear hA0
  refine Qm.region_mask (by kernel_rfl) (by kernel_rfl) (fun f a W => ∃ p : Nat, a = big f p a0 ∧
      wc.grownBy W (some gc) ∧ W.heap[gc]? = some (.cells (if f 9 = true then connNC else connOC) 24 (0, 0)) ∧ (f 9 = true → f 0 = true ∧ f 2 = true ∧ f 8 = true) ∧ (f 8 = true → W.heap[p]? = some (.cells #[.int .u8 0, .slice none 0 0] 40 (0, 0)) ∧ wc.heap.size ≤ p)) ?_ ?_ ?_
  · exact ⟨0, by simp [big, Qm.cput], grown_drewN (grown_refl wc _) 1, HC.out, by simp, by simp⟩
  · intro i o ho f A W ⟨p, hA, hg, hcell, h9, h8⟩ hfi hdep
    unfold big at hA
    match i, ho with
    | 0, ho =>
      obtain rfl := Option.some.inj ho
      have t1 : A.tmps[1]? = some (.pointer (some ⟨gc, 0, none⟩)) := by rw [hA]; simp [Qm.get_cput_ne, e1]
      have hf9 : f 9 = false := by
        cases h : f 9 with
        | false => rfl
        | true => have := (h9 h).1; rw [hfi] at this; cases this
      have hc := hcell
      rw [hf9, if_neg (by simp)] at hc
      obtain ⟨y0, y1, y2, y3, y4, y5⟩ := blk_cells6 hc
      have hput : A.put (some 17) (connO) = big (fun j => if j = 0 then true else f j) p a0 := by rw [hA]; simp [big, Qm.cput_put, hfi, Qm.cput_new]
      refine Qm.step_plain rfl rfl fun K' hK => ?_
      have hk := hK (A.put (some 17) connO) W ⟨p, hput, hg, by simpa using hcell, by simpa using fun h => ⟨(h9 h).2.1, (h9 h).2.2⟩, by simpa using h8⟩
      clear hA hput
      simp [Oper.wp, execOp, Oper.upon, go_sem, t1, y0, y1, y2, y3, y4, y5]
      exact hk
    | 1, ho =>
      obtain rfl := Option.some.inj ho
      have hput : A.put (some 18) (rulesT) = big (fun j => if j = 1 then true else f j) p a0 := by rw [hA]; simp [big, Qm.cput_put, hfi, Qm.cput_new]
      refine Qm.step_plain rfl rfl fun K' hK => ?_
      have hk := fun W' (hb : Below W.heap.size W W') => hK (A.put (some 18) rulesT) W' ⟨p, hput, grown_far hg (grown_of_below hb none) (fun _ h => by cases h), by rw [hb.block gc (blk_lt hcell)]; simpa using hcell, by simpa using h9, by simpa using fun h => ⟨(hb.block p (blk_lt (h8 h).1)).trans (h8 h).1, (h8 h).2⟩⟩
      clear hA hput
      simp [Oper.wp, execOp, Oper.upon, go_sem]
      refine (cr W).mono ?_
      rintro e W' ⟨rfl, hb⟩
      exact hk W' hb
    | 2, ho =>
      obtain rfl := Option.some.inj ho
      have g0 : f 0 = true := hdep ⟨0, .data⟩ (by simp) rfl
      have g1 : f 1 = true := hdep ⟨1, .data⟩ (by simp) rfl
      have t17 : A.tmps[17]? = some (connO) := by rw [hA, g0]; simp [Qm.get_cput_ne]; rw [Qm.get_cput_eq (by first | omega | (simp only [Qm.size_cput]; omega))]
      have t18 : A.tmps[18]? = some (rulesT) := by rw [hA, g1]; simp [Qm.get_cput_ne]; rw [Qm.get_cput_eq (by first | omega | (simp only [Qm.size_cput]; omega))]
      have hput : A.put (some 19) (lookT) = big (fun j => if j = 2 then true else f j) p a0 := by rw [hA]; simp [big, Qm.cput_put, hfi, Qm.cput_new]
      refine Qm.step_plain rfl rfl fun K' hK => ?_
      have hbW : Below w.heap.size w W := HBC.out.grown hg HBC.out.size (fun k hk => by have := Option.some.inj hk; omega)
      have hk := fun W' (hb : Below W.heap.size W W') => hK (A.put (some 19) lookT) W' ⟨p, hput, grown_far hg (grown_of_below hb none) (fun _ h => by cases h), by rw [hb.block gc (blk_lt hcell)]; simpa using hcell, by simpa using fun h => ⟨(h9 h).1, (h9 h).2.2⟩, by simpa using fun h => ⟨(hb.block p (blk_lt (h8 h).1)).trans (h8 h).1, (h8 h).2⟩⟩
      clear hA hput
      simp [Oper.wp, execOp, Oper.upon, go_sem, t17, t18]
      refine (c2 W hbW).mono ?_
      rintro e W' ⟨rfl, hb⟩
      exact hk W' hb
    | 3, ho =>
      obtain rfl := Option.some.inj ho
      have g2 : f 2 = true := hdep ⟨2, .data⟩ (by simp) rfl
      have t19 : A.tmps[19]? = some (lookT) := by rw [hA, g2]; simp [Qm.get_cput_ne]; rw [Qm.get_cput_eq (by first | omega | (simp only [Qm.size_cput]; omega))]
      have hput : A.put (some 16) (lookT) = big (fun j => if j = 3 then true else f j) p a0 := by rw [hA]; simp [big, Qm.cput_put, hfi, Qm.cput_new]
      refine Qm.step_plain rfl rfl fun K' hK => ?_
      have hk := hK (A.put (some 16) (lookT)) W ⟨p, hput, hg, by simpa using hcell, by simpa using h9, by simpa using h8⟩
      clear hA hput
      simp [Oper.wp, execOp, Oper.upon, go_sem, t19]
      exact hk
    | 4, ho =>
      obtain rfl := Option.some.inj ho
      have g3 : f 3 = true := hdep ⟨3, .data⟩ (by simp) rfl
      have t16 : A.tmps[16]? = some (lookT) := by rw [hA, g3]; simp [Qm.get_cput_ne]; rw [Qm.get_cput_eq (by first | omega | (simp only [Qm.size_cput]; omega))]
      have hput : A.put (some 20) (connN) = big (fun j => if j = 4 then true else f j) p a0 := by rw [hA]; simp [big, Qm.cput_put, hfi, Qm.cput_new]
      refine Qm.step_plain rfl rfl fun K' hK => ?_
      have hk := hK (A.put (some 20) (connN)) W ⟨p, hput, hg, by simpa using hcell, by simpa using h9, by simpa using h8⟩
      clear hA hput
      simp [Oper.wp, execOp, Oper.upon, go_sem, t16, lookT]
      exact hk
    | 5, ho =>
      obtain rfl := Option.some.inj ho
      have g3 : f 3 = true := hdep ⟨3, .data⟩ (by simp) rfl
      have t16 : A.tmps[16]? = some (lookT) := by rw [hA, g3]; simp [Qm.get_cput_ne]; rw [Qm.get_cput_eq (by first | omega | (simp only [Qm.size_cput]; omega))]
      have hput : A.put (some 21) (.agg #[.int .u8 0, .slice none 0 0]) = big (fun j => if j = 5 then true else f j) p a0 := by rw [hA]; simp [big, Qm.cput_put, hfi, Qm.cput_new]
      refine Qm.step_plain rfl rfl fun K' hK => ?_
      have hk := hK (A.put (some 21) (.agg #[.int .u8 0, .slice none 0 0])) W ⟨p, hput, hg, by simpa using hcell, by simpa using h9, by simpa using h8⟩
      clear hA hput
      simp [Oper.wp, execOp, Oper.upon, go_sem, t16, lookT]
      exact hk
    | 6, ho =>
      obtain rfl := Option.some.inj ho
      have g3 : f 3 = true := hdep ⟨3, .data⟩ (by simp) rfl
      have t16 : A.tmps[16]? = some (lookT) := by rw [hA, g3]; simp [Qm.get_cput_ne]; rw [Qm.get_cput_eq (by first | omega | (simp only [Qm.size_cput]; omega))]
      have hput : A.put (some 22) (.int .u8 1) = big (fun j => if j = 6 then true else f j) p a0 := by rw [hA]; simp [big, Qm.cput_put, hfi, Qm.cput_new]
      refine Qm.step_plain rfl rfl fun K' hK => ?_
      have hk := hK (A.put (some 22) (.int .u8 1)) W ⟨p, hput, hg, by simpa using hcell, by simpa using h9, by simpa using h8⟩
      clear hA hput
      simp [Oper.wp, execOp, Oper.upon, go_sem, t16, lookT]
      exact hk
    | 7, ho =>
      obtain rfl := Option.some.inj ho
      have g3 : f 3 = true := hdep ⟨3, .data⟩ (by simp) rfl
      have t16 : A.tmps[16]? = some (lookT) := by rw [hA, g3]; simp [Qm.get_cput_ne]; rw [Qm.get_cput_eq (by first | omega | (simp only [Qm.size_cput]; omega))]
      have hput : A.put (some 23) (.int .i64 0) = big (fun j => if j = 7 then true else f j) p a0 := by rw [hA]; simp [big, Qm.cput_put, hfi, Qm.cput_new]
      refine Qm.step_plain rfl rfl fun K' hK => ?_
      have hk := hK (A.put (some 23) (.int .i64 0)) W ⟨p, hput, hg, by simpa using hcell, by simpa using h9, by simpa using h8⟩
      clear hA hput
      simp [Oper.wp, execOp, Oper.upon, go_sem, t16, lookT]
      exact hk
    | 11, ho =>
      obtain rfl := Option.some.inj ho
      have g6 : f 6 = true := hdep ⟨6, .data⟩ (by simp) rfl
      have t22 : A.tmps[22]? = some (.int .u8 1) := by rw [hA, g6]; simp [Qm.get_cput_ne]; rw [Qm.get_cput_eq (by first | omega | (simp only [Qm.size_cput]; omega))]
      have hput : A.put (some 4) (.int .u8 1) = big (fun j => if j = 11 then true else f j) p a0 := by rw [hA]; simp [big, Qm.cput_put, hfi, Qm.cput_new]
      refine Qm.step_plain rfl rfl fun K' hK => ?_
      have hk := hK (A.put (some 4) (.int .u8 1)) W ⟨p, hput, hg, by simpa using hcell, by simpa using h9, by simpa using h8⟩
      clear hA hput
      simp [Oper.wp, execOp, Oper.upon, go_sem, t22]
      exact hk
    | 12, ho =>
      obtain rfl := Option.some.inj ho
      have g7 : f 7 = true := hdep ⟨7, .data⟩ (by simp) rfl
      have t23 : A.tmps[23]? = some (.int .i64 0) := by rw [hA, g7]; simp [Qm.get_cput_ne]; rw [Qm.get_cput_eq (by first | omega | (simp only [Qm.size_cput]; omega))]
      have hput : A.put (some 5) (.int .i64 0) = big (fun j => if j = 12 then true else f j) p a0 := by rw [hA]; simp [big, Qm.cput_put, hfi, Qm.cput_new]
      refine Qm.step_plain rfl rfl fun K' hK => ?_
      have hk := hK (A.put (some 5) (.int .i64 0)) W ⟨p, hput, hg, by simpa using hcell, by simpa using h9, by simpa using h8⟩
      clear hA hput
      simp [Oper.wp, execOp, Oper.upon, go_sem, t23]
      exact hk
    | 8, ho =>
      obtain rfl := Option.some.inj ho
      have hput : A.put (some 3) (.pointer (some ⟨W.heap.size, 0, none⟩)) = big (fun j => if j = 8 then true else f j) W.heap.size a0 := by rw [hA]; simp [big, Qm.cput_put, hfi, Qm.cput_new']
      have hf9 : f 9 = false := by
        cases h : f 9 with
        | false => rfl
        | true => have := (h9 h).2.2; rw [hfi] at this; cases this
      have hba : Below W.heap.size W (W.alloc (.cells #[.int .u8 0, .slice none 0 0] 40)) := below_alloc (Below.refl _ _) _
      refine Qm.step_plain rfl rfl fun K' hK => ?_
      have hk := hK (A.put (some 3) (.pointer (some ⟨W.heap.size, 0, none⟩))) (W.alloc (.cells #[.int .u8 0, .slice none 0 0] 40)) ⟨W.heap.size, hput, grown_far hg (grown_of_below hba none) (fun _ h => by cases h), by rw [hba.block gc (blk_lt hcell)]; simpa using hcell, by simp [hf9], fun _ => ⟨heap_alloc_new _ _, hg.size⟩⟩
      clear hA hput
      simp [Oper.wp, execOp, Oper.upon, go_sem]
      exact hk
    | 9, ho =>
      obtain rfl := Option.some.inj ho
      have g4 : f 4 = true := hdep ⟨4, .data⟩ (by simp) rfl
      have t1 : A.tmps[1]? = some (.pointer (some ⟨gc, 0, none⟩)) := by rw [hA]; simp [Qm.get_cput_ne, e1]
      have t20 : A.tmps[20]? = some (connN) := by rw [hA, g4]; simp [Qm.get_cput_ne]; rw [Qm.get_cput_eq (by first | omega | (simp only [Qm.size_cput]; omega))]
      have g0 : f 0 = true := hdep ⟨0, .phase⟩ (by simp) rfl
      have g2 : f 2 = true := hdep ⟨2, .phase⟩ (by simp) rfl
      have g8 : f 8 = true := hdep ⟨8, .phase⟩ (by simp) rfl
      have hc := hcell
      rw [hfi, if_neg (by simp)] at hc
      obtain ⟨y0, y1, y2, y3, y4, y5⟩ := blk_cells6 hc
      have yf : ∀ j, W.frozen? ⟨gc, j, none⟩ = false := fun j => blk_frozen hc j
      have hput : A = big (fun j => if j = 9 then true else f j) p a0 := by rw [hA]; simp [big]
      have hs6 := blk_set6 hc (.string live2) (.string s404) (.bool false) (.bool false) (.bool false) (.int .u64 6)
      have hg6 : W.grownBy ((((((W.setCell ⟨gc, 0, none⟩ (.string live2)).setCell ⟨gc, 1, none⟩ (.string s404)).setCell ⟨gc, 2, none⟩ (.bool false)).setCell ⟨gc, 3, none⟩ (.bool false)).setCell ⟨gc, 4, none⟩ (.bool false)).setCell ⟨gc, 5, none⟩ (.int .u64 6)) (some gc) := grown_set (grown_set (grown_set (grown_set (grown_set (grown_set (grown_refl W (some gc)))))))
      have hgp : p ≠ gc := by have := (h8 g8).2; omega
      refine Qm.step_plain rfl rfl fun K' hK => ?_
      have hk := hK A _ ⟨p, hput, grown_step hg hg6, by rw [if_pos (by simp)]; exact hs6, fun _ => by simp [g0, g2, g8], fun _ => ⟨(hg6.block p (blk_lt (h8 g8).1) (fun e => hgp (Option.some.inj e))).trans (h8 g8).1, (h8 g8).2⟩⟩
      clear hA hput hs6 hg6
      simp [Oper.wp, execOp, Oper.upon, go_sem, t1, t20, connN, y0, y1, y2, y3, y4, y5, yf]
      exact hk
    | 10, ho =>
      obtain rfl := Option.some.inj ho
      have g8 : f 8 = true := hdep ⟨8, .data⟩ (by simp) rfl
      have g5 : f 5 = true := hdep ⟨5, .data⟩ (by simp) rfl
      have t3 : A.tmps[3]? = some (.pointer (some ⟨p, 0, none⟩)) := by rw [hA, g8]; simp [Qm.get_cput_ne]; rw [Qm.get_cput_eq (by first | omega | (simp only [Qm.size_cput]; omega))]
      have t21 : A.tmps[21]? = some (.agg #[.int .u8 0, .slice none 0 0]) := by rw [hA, g5]; simp [Qm.get_cput_ne]; rw [Qm.get_cput_eq (by first | omega | (simp only [Qm.size_cput]; omega))]
      obtain ⟨hp1, hp2⟩ := h8 g8
      obtain ⟨m0, m1⟩ := blk_cells2 hp1
      have mf : ∀ j, W.frozen? ⟨p, j, none⟩ = false := fun j => blk_frozen hp1 j
      have hput : A = big (fun j => if j = 10 then true else f j) p a0 := by rw [hA]; simp [big]
      have hgp : gc ≠ p := by omega
      have hs2 := blk_put (blk_put hp1 0 (.int .u8 0) rfl) 1 (.slice none 0 0) rfl
      have hg2 : W.grownBy ((W.setCell ⟨p, 0, none⟩ (.int .u8 0)).setCell ⟨p, 1, none⟩ (.slice none 0 0)) (some p) := grown_set (grown_set (grown_refl W (some p)))
      refine Qm.step_plain rfl rfl fun K' hK => ?_
      have hk := hK A _ ⟨p, hput, grown_far hg hg2 (fun k h => by have := Option.some.inj h; omega), by simpa using (blk_far (p := ⟨p, 1, none⟩) (blk_far (p := ⟨p, 0, none⟩) hcell hgp (.int .u8 0)) hgp (.slice none 0 0)), by simpa using h9, fun _ => ⟨hs2, hp2⟩⟩
      clear hA hput hs2 hg2
      simp [Oper.wp, execOp, Oper.upon, go_sem, t3, t21, m0, m1, mf]
      exact hk
    | n + 13, ho => simp at ho
  · intro f A W hall ⟨p, hA, hg, hcell, h9, h8⟩
    have hbW : Below w.heap.size w W := HBC.out.grown hg HBC.out.size (fun k hk => by have := Option.some.inj hk; omega)
    unfold big at hA
    rw [hall 0 (by decide), hall 1 (by decide), hall 2 (by decide), hall 3 (by decide), hall 4 (by decide), hall 5 (by decide), hall 6 (by decide), hall 7 (by decide), hall 8 (by decide), hall 11 (by decide), hall 12 (by decide), ← HA0.out] at hA
    rw [hall 9 (by decide), if_pos rfl] at hcell
    subst hA
    have HD := Lib.hid (show W.heap[gc]? = some (.cells connNC 24 (0, 0)) ∧ Below w.heap.size w W from ⟨hcell, hbW⟩)
    clear hall hg hcell h9 h8 hbW HA0 e1 ez
    simp [Qm.cput, Act.put]
    obtain ⟨l0, l1, l2, l3, l4, l5⟩ := blk_cells6 HD.out.1
    have hgW : gc < W.heap.size := blk_lt HD.out.1
    have hbW := HD.out.2
    go_wp2_with (first
      | (go_at_call 18; refine (cr _).mono ?_; rintro e w5 ⟨rfl, hb5⟩; obtain ⟨hbc5, hbf5⟩ := bcell hb5; have hz5 : gc < w5.heap.size := (by have := hb5.size; omega))
      | (go_at_call 12; refine (c3 _ (by repeat (first | assumption | exact Below.refl _ _ | apply below_drew | apply pw_below_drewN | apply below_alloc | (refine below_via (by assumption) ?_)))).mono ?_; rintro e w6 ⟨rfl, hb6⟩; obtain ⟨hbc6, hbf6⟩ := bcell hb6; have hz6 : gc < w6.heap.size := (by have := hb6.size; omega)))
    generalize hA1 : Act.mk _ _ = a1
    have e1 : a1.tmps[1]? = some (.pointer (some ⟨gc, 0, none⟩)) := by rw [← hA1]; rfl
    have ez : 31 < a1.tmps.size := by rw [← hA1]; simp
    have HA1 := Lib.hid hA1
    clear hA1
    refine Qm.region_mask (by kernel_rfl) (by kernel_rfl) (fun f a V => ∃ p q : Nat, a = big3 f p q a1 ∧
      Below W.heap.size W V ∧ (f 8 = true → V.heap[p]? = some (.cells (if f 10 = true then connMC else connZC) 24 (0, 0)) ∧ W.heap.size ≤ p) ∧ (f 9 = true → V.heap[q]? = some (.cells #[.int .u8 0, .slice none 0 0] 40 (0, 0)) ∧ W.heap.size ≤ q) ∧ (f 10 = true → f 8 = true)) ?_ ?_ ?_
    · exact ⟨0, 0, by simp [big3, Qm.cput], below_drew (Below.refl _ _), by simp, by simp, by simp⟩
    · intro i o ho f A V ⟨p, q, hA, hg, h8, h9, h10⟩ hfi hdep
      unfold big3 at hA
      match i, ho with
-- STEPS3
      | 0, ho =>
        obtain rfl := Option.some.inj ho
        have t1 : A.tmps[1]? = some (.pointer (some ⟨gc, 0, none⟩)) := by rw [hA]; simp [Qm.get_cput_ne, e1]
        obtain ⟨y0, y1, y2, y3, y4, y5⟩ := blk_cells6 ((hg.block gc hgW).trans HD.out.1)
        have hput : A.put (some 25) (connN) = big3 (fun j => if j = 0 then true else f j) p q a1 := by rw [hA]; simp [big3, Qm.cput_put, hfi, Qm.cput_new']
        refine Qm.step_plain rfl rfl fun K' hK => ?_
        have hk := hK (A.put (some 25) connN) V ⟨p, q, hput, hg, by simpa using h8, by simpa using h9, by simpa using h10⟩
        clear hA hput
        simp [Oper.wp, execOp, Oper.upon, go_sem, t1, y0, y1, y2, y3, y4, y5]
        exact hk
      | 1, ho =>
        obtain rfl := Option.some.inj ho
        have hput : A.put (some 26) (rulesT) = big3 (fun j => if j = 1 then true else f j) p q a1 := by rw [hA]; simp [big3, Qm.cput_put, hfi, Qm.cput_new']
        refine Qm.step_plain rfl rfl fun K' hK => ?_
        have hk := fun W' (hb : Below V.heap.size V W') => hK (A.put (some 26) rulesT) W' ⟨p, q, hput, below_via hb hg, by simpa using fun h => ⟨(hb.block p (blk_lt (h8 h).1)).trans (h8 h).1, (h8 h).2⟩, by simpa using fun h => ⟨(hb.block q (blk_lt (h9 h).1)).trans (h9 h).1, (h9 h).2⟩, by simpa using h10⟩
        clear hA hput
        simp [Oper.wp, execOp, Oper.upon, go_sem]
        refine (cr V).mono ?_
        rintro e W' ⟨rfl, hb⟩
        exact hk W' hb
      | 2, ho =>
        obtain rfl := Option.some.inj ho
        have g0 : f 0 = true := hdep ⟨0, .data⟩ (by simp) rfl
        have g1 : f 1 = true := hdep ⟨1, .data⟩ (by simp) rfl
        have t25 : A.tmps[25]? = some (connN) := by rw [hA, g0]; simp [Qm.get_cput_ne]; rw [Qm.get_cput_eq (by first | omega | (simp only [Qm.size_cput]; omega))]
        have t26 : A.tmps[26]? = some (rulesT) := by rw [hA, g1]; simp [Qm.get_cput_ne]; rw [Qm.get_cput_eq (by first | omega | (simp only [Qm.size_cput]; omega))]
        have hput : A.put (some 27) (lookU) = big3 (fun j => if j = 2 then true else f j) p q a1 := by rw [hA]; simp [big3, Qm.cput_put, hfi, Qm.cput_new']
        refine Qm.step_plain rfl rfl fun K' hK => ?_
        have hk := fun W' (hb : Below V.heap.size V W') => hK (A.put (some 27) lookU) W' ⟨p, q, hput, below_via hb hg, by simpa using fun h => ⟨(hb.block p (blk_lt (h8 h).1)).trans (h8 h).1, (h8 h).2⟩, by simpa using fun h => ⟨(hb.block q (blk_lt (h9 h).1)).trans (h9 h).1, (h9 h).2⟩, by simpa using h10⟩
        clear hA hput
        simp [Oper.wp, execOp, Oper.upon, go_sem, t25, t26]
        refine (c3 V (below_via hg hbW)).mono ?_
        rintro e W' ⟨rfl, hb⟩
        exact hk W' hb
      | 3, ho =>
        obtain rfl := Option.some.inj ho
        have g2 : f 2 = true := hdep ⟨2, .data⟩ (by simp) rfl
        have t27 : A.tmps[27]? = some (lookU) := by rw [hA, g2]; simp [Qm.get_cput_ne]; rw [Qm.get_cput_eq (by first | omega | (simp only [Qm.size_cput]; omega))]
        have hput : A.put (some 24) (lookU) = big3 (fun j => if j = 3 then true else f j) p q a1 := by rw [hA]; simp [big3, Qm.cput_put, hfi, Qm.cput_new']
        refine Qm.step_plain rfl rfl fun K' hK => ?_
        have hk := hK (A.put (some 24) (lookU)) V ⟨p, q, hput, hg, by simpa using h8, by simpa using h9, by simpa using h10⟩
        clear hA hput
        simp [Oper.wp, execOp, Oper.upon, go_sem, t27]
        exact hk
      | 4, ho =>
        obtain rfl := Option.some.inj ho
        have g3 : f 3 = true := hdep ⟨3, .data⟩ (by simp) rfl
        have t24 : A.tmps[24]? = some (lookU) := by rw [hA, g3]; simp [Qm.get_cput_ne]; rw [Qm.get_cput_eq (by first | omega | (simp only [Qm.size_cput]; omega))]
        have hput : A.put (some 28) (connM) = big3 (fun j => if j = 4 then true else f j) p q a1 := by rw [hA]; simp [big3, Qm.cput_put, hfi, Qm.cput_new']
        refine Qm.step_plain rfl rfl fun K' hK => ?_
        have hk := hK (A.put (some 28) (connM)) V ⟨p, q, hput, hg, by simpa using h8, by simpa using h9, by simpa using h10⟩
        clear hA hput
        simp [Oper.wp, execOp, Oper.upon, go_sem, t24, lookU]
        exact hk
      | 5, ho =>
        obtain rfl := Option.some.inj ho
        have g3 : f 3 = true := hdep ⟨3, .data⟩ (by simp) rfl
        have t24 : A.tmps[24]? = some (lookU) := by rw [hA, g3]; simp [Qm.get_cput_ne]; rw [Qm.get_cput_eq (by first | omega | (simp only [Qm.size_cput]; omega))]
        have hput : A.put (some 29) (.agg #[.int .u8 0, .slice none 0 0]) = big3 (fun j => if j = 5 then true else f j) p q a1 := by rw [hA]; simp [big3, Qm.cput_put, hfi, Qm.cput_new']
        refine Qm.step_plain rfl rfl fun K' hK => ?_
        have hk := hK (A.put (some 29) (.agg #[.int .u8 0, .slice none 0 0])) V ⟨p, q, hput, hg, by simpa using h8, by simpa using h9, by simpa using h10⟩
        clear hA hput
        simp [Oper.wp, execOp, Oper.upon, go_sem, t24, lookU]
        exact hk
      | 6, ho =>
        obtain rfl := Option.some.inj ho
        have g3 : f 3 = true := hdep ⟨3, .data⟩ (by simp) rfl
        have t24 : A.tmps[24]? = some (lookU) := by rw [hA, g3]; simp [Qm.get_cput_ne]; rw [Qm.get_cput_eq (by first | omega | (simp only [Qm.size_cput]; omega))]
        have hput : A.put (some 30) (.int .u8 1) = big3 (fun j => if j = 6 then true else f j) p q a1 := by rw [hA]; simp [big3, Qm.cput_put, hfi, Qm.cput_new']
        refine Qm.step_plain rfl rfl fun K' hK => ?_
        have hk := hK (A.put (some 30) (.int .u8 1)) V ⟨p, q, hput, hg, by simpa using h8, by simpa using h9, by simpa using h10⟩
        clear hA hput
        simp [Oper.wp, execOp, Oper.upon, go_sem, t24, lookU]
        exact hk
      | 7, ho =>
        obtain rfl := Option.some.inj ho
        have g3 : f 3 = true := hdep ⟨3, .data⟩ (by simp) rfl
        have t24 : A.tmps[24]? = some (lookU) := by rw [hA, g3]; simp [Qm.get_cput_ne]; rw [Qm.get_cput_eq (by first | omega | (simp only [Qm.size_cput]; omega))]
        have hput : A.put (some 31) (.int .i64 0) = big3 (fun j => if j = 7 then true else f j) p q a1 := by rw [hA]; simp [big3, Qm.cput_put, hfi, Qm.cput_new']
        refine Qm.step_plain rfl rfl fun K' hK => ?_
        have hk := hK (A.put (some 31) (.int .i64 0)) V ⟨p, q, hput, hg, by simpa using h8, by simpa using h9, by simpa using h10⟩
        clear hA hput
        simp [Oper.wp, execOp, Oper.upon, go_sem, t24, lookU]
        exact hk
      | 12, ho =>
        obtain rfl := Option.some.inj ho
        have g6 : f 6 = true := hdep ⟨6, .data⟩ (by simp) rfl
        have t30 : A.tmps[30]? = some (.int .u8 1) := by rw [hA, g6]; simp [Qm.get_cput_ne]; rw [Qm.get_cput_eq (by first | omega | (simp only [Qm.size_cput]; omega))]
        have hput : A.put (some 8) (.int .u8 1) = big3 (fun j => if j = 12 then true else f j) p q a1 := by rw [hA]; simp [big3, Qm.cput_put, hfi, Qm.cput_new']
        refine Qm.step_plain rfl rfl fun K' hK => ?_
        have hk := hK (A.put (some 8) (.int .u8 1)) V ⟨p, q, hput, hg, by simpa using h8, by simpa using h9, by simpa using h10⟩
        clear hA hput
        simp [Oper.wp, execOp, Oper.upon, go_sem, t30]
        exact hk
      | 13, ho =>
        obtain rfl := Option.some.inj ho
        have g7 : f 7 = true := hdep ⟨7, .data⟩ (by simp) rfl
        have t31 : A.tmps[31]? = some (.int .i64 0) := by rw [hA, g7]; simp [Qm.get_cput_ne]; rw [Qm.get_cput_eq (by first | omega | (simp only [Qm.size_cput]; omega))]
        have hput : A.put (some 9) (.int .i64 0) = big3 (fun j => if j = 13 then true else f j) p q a1 := by rw [hA]; simp [big3, Qm.cput_put, hfi, Qm.cput_new']
        refine Qm.step_plain rfl rfl fun K' hK => ?_
        have hk := hK (A.put (some 9) (.int .i64 0)) V ⟨p, q, hput, hg, by simpa using h8, by simpa using h9, by simpa using h10⟩
        clear hA hput
        simp [Oper.wp, execOp, Oper.upon, go_sem, t31]
        exact hk
      | 8, ho =>
        obtain rfl := Option.some.inj ho
        have hput : A.put (some 6) (.pointer (some ⟨V.heap.size, 0, none⟩)) = big3 (fun j => if j = 8 then true else f j) V.heap.size q a1 := by rw [hA]; simp [big3, Qm.cput_put, hfi, Qm.cput_new']
        have hf10 : f 10 = false := by
          cases h : f 10 with
          | false => rfl
          | true => have := h10 h; rw [hfi] at this; cases this
        have hba : Below V.heap.size V (V.alloc (.cells #[.string ⟨#[]⟩, .string ⟨#[]⟩, .bool false, .bool false, .bool false, .int .u64 0] 24)) := below_alloc (Below.refl _ _) _
        refine Qm.step_plain rfl rfl fun K' hK => ?_
        have hk := hK (A.put (some 6) (.pointer (some ⟨V.heap.size, 0, none⟩))) (V.alloc (.cells #[.string ⟨#[]⟩, .string ⟨#[]⟩, .bool false, .bool false, .bool false, .int .u64 0] 24)) ⟨V.heap.size, q, hput, below_via hba hg, fun _ => ⟨by rw [if_neg (by simp [hf10])]; exact heap_alloc_new _ _, hg.size⟩, by simpa using fun h => ⟨(hba.block q (blk_lt (h9 h).1)).trans (h9 h).1, (h9 h).2⟩, by simp [hf10]⟩
        clear hA hput
        simp [Oper.wp, execOp, Oper.upon, go_sem]
        exact hk
      | 9, ho =>
        obtain rfl := Option.some.inj ho
        have hput : A.put (some 7) (.pointer (some ⟨V.heap.size, 0, none⟩)) = big3 (fun j => if j = 9 then true else f j) p V.heap.size a1 := by rw [hA]; simp [big3, Qm.cput_put, hfi, Qm.cput_new']
        have hba : Below V.heap.size V (V.alloc (.cells #[.int .u8 0, .slice none 0 0] 40)) := below_alloc (Below.refl _ _) _
        refine Qm.step_plain rfl rfl fun K' hK => ?_
        have hk := hK (A.put (some 7) (.pointer (some ⟨V.heap.size, 0, none⟩))) (V.alloc (.cells #[.int .u8 0, .slice none 0 0] 40)) ⟨p, V.heap.size, hput, below_via hba hg, by simpa using fun h => ⟨(hba.block p (blk_lt (h8 h).1)).trans (h8 h).1, (h8 h).2⟩, fun _ => ⟨heap_alloc_new _ _, hg.size⟩, by simpa using h10⟩
        clear hA hput
        simp [Oper.wp, execOp, Oper.upon, go_sem]
        exact hk
      | 10, ho =>
        obtain rfl := Option.some.inj ho
        have g8 : f 8 = true := hdep ⟨8, .data⟩ (by simp) rfl
        have g4 : f 4 = true := hdep ⟨4, .data⟩ (by simp) rfl
        have t6 : A.tmps[6]? = some (.pointer (some ⟨p, 0, none⟩)) := by rw [hA, g8]; simp [Qm.get_cput_ne]; rw [Qm.get_cput_eq (by first | omega | (simp only [Qm.size_cput]; omega))]
        have t28 : A.tmps[28]? = some (connM) := by rw [hA, g4]; simp [Qm.get_cput_ne]; rw [Qm.get_cput_eq (by first | omega | (simp only [Qm.size_cput]; omega))]
        obtain ⟨hp1, hp2⟩ := h8 g8
        rw [hfi, if_neg (by simp)] at hp1
        obtain ⟨y0, y1, y2, y3, y4, y5⟩ := blk_cells6 hp1
        have yf : ∀ j, V.frozen? ⟨p, j, none⟩ = false := fun j => blk_frozen hp1 j
        have hput : A = big3 (fun j => if j = 10 then true else f j) p q a1 := by rw [hA]; simp [big3]
        have hs6 := blk_set6 hp1 (.string ⟨#[]⟩) (.string (s404 ++ s400)) (.bool true) (.bool false) (.bool false) (.int .u64 6)
        have hg6 : V.grownBy ((((((V.setCell ⟨p, 0, none⟩ (.string ⟨#[]⟩)).setCell ⟨p, 1, none⟩ (.string (s404 ++ s400))).setCell ⟨p, 2, none⟩ (.bool true)).setCell ⟨p, 3, none⟩ (.bool false)).setCell ⟨p, 4, none⟩ (.bool false)).setCell ⟨p, 5, none⟩ (.int .u64 6)) (some p) := grown_set (grown_set (grown_set (grown_set (grown_set (grown_set (grown_refl V (some p)))))))
        refine Qm.step_plain rfl rfl fun K' hK => ?_
        have hk := hK A _ ⟨p, q, hput, hg.grown hg6 hg.size (fun k h => by have := Option.some.inj h; omega), fun _ => ⟨by rw [if_pos (by simp)]; exact hs6, hp2⟩, by simpa using fun h => ⟨(hg6.block q (blk_lt (h9 h).1) (fun e => by have e2 := Option.some.inj e; have h1 := (h9 h).1; rw [e2, hp1] at h1; simp [connZC] at h1)).trans (h9 h).1, (h9 h).2⟩, fun _ => by simp [g8]⟩
        clear hA hput hs6 hg6
        simp [Oper.wp, execOp, Oper.upon, go_sem, t6, t28, connM, y0, y1, y2, y3, y4, y5, yf]
        exact hk
      | 11, ho =>
        obtain rfl := Option.some.inj ho
        have g9 : f 9 = true := hdep ⟨9, .data⟩ (by simp) rfl
        have g5 : f 5 = true := hdep ⟨5, .data⟩ (by simp) rfl
        have t7 : A.tmps[7]? = some (.pointer (some ⟨q, 0, none⟩)) := by rw [hA, g9]; simp [Qm.get_cput_ne]; rw [Qm.get_cput_eq (by first | omega | (simp only [Qm.size_cput]; omega))]
        have t29 : A.tmps[29]? = some (.agg #[.int .u8 0, .slice none 0 0]) := by rw [hA, g5]; simp [Qm.get_cput_ne]; rw [Qm.get_cput_eq (by first | omega | (simp only [Qm.size_cput]; omega))]
        obtain ⟨hp1, hp2⟩ := h9 g9
        obtain ⟨m0, m1⟩ := blk_cells2 hp1
        have mf : ∀ j, V.frozen? ⟨q, j, none⟩ = false := fun j => blk_frozen hp1 j
        have hput : A = big3 (fun j => if j = 11 then true else f j) p q a1 := by rw [hA]; simp [big3]
        have hs2 := blk_put (blk_put hp1 0 (.int .u8 0) rfl) 1 (.slice none 0 0) rfl
        have hg2 : V.grownBy ((V.setCell ⟨q, 0, none⟩ (.int .u8 0)).setCell ⟨q, 1, none⟩ (.slice none 0 0)) (some q) := grown_set (grown_set (grown_refl V (some q)))
        have hpq : f 8 = true → some p ≠ some q := fun h e => by
          have e2 := Option.some.inj e
          have h1 := (h8 h).1
          rw [e2, hp1] at h1
          split at h1 <;> simp [connZC, connMC] at h1
        refine Qm.step_plain rfl rfl fun K' hK => ?_
        have hk := hK A _ ⟨p, q, hput, hg.grown hg2 hg.size (fun k h => by have := Option.some.inj h; omega), by simpa using fun h => ⟨(hg2.block p (blk_lt (h8 h).1) (hpq h)).trans (h8 h).1, (h8 h).2⟩, fun _ => ⟨hs2, hp2⟩, by simpa using h10⟩
        clear hA hput hs2 hg2
        simp [Oper.wp, execOp, Oper.upon, go_sem, t7, t29, m0, m1, mf]
        exact hk
      -- END3
      | n + 14, ho => simp at ho
    · intro f A V hall ⟨p, q, hA, hg, h8, h9, h10⟩
      unfold big3 at hA
      obtain ⟨hp1, hp2⟩ := h8 (hall 8 (by decide))
      rw [hall 10 (by decide), if_pos rfl] at hp1
      rw [hall 0 (by decide), hall 1 (by decide), hall 2 (by decide), hall 3 (by decide), hall 4 (by decide), hall 5 (by decide), hall 6 (by decide), hall 7 (by decide), hall 8 (by decide), hall 9 (by decide), hall 12 (by decide), hall 13 (by decide), ← HA1.out] at hA
      subst hA
      obtain ⟨n0, n1, n2, n3, n4, n5⟩ := blk_cells6 hp1
      obtain ⟨k0, k1, k2, k3, k4, k5⟩ := blk_cells6 ((hg.block gc hgW).trans HD.out.1)
      have hbV : Below w.heap.size w V := below_via hg hbW
      have hgV : gc < V.heap.size := by have := hg.size; omega
      have hpV : p < V.heap.size := blk_lt hp1
      clear hall hg h8 h9 h10 HA1 e1 ez l0 l1 l2 l3 l4 l5 hp1 c2 c3 cr
      simp [Qm.cput, Act.put]
      go_wp2_with fail
      refine (c4 _).mono ?_
      rintro e w9 ⟨rfl, hb9⟩
      have hb9' : Below w.heap.size w w9 := below_via hb9 (by repeat (first | assumption | exact Below.refl _ _ | apply below_drew | apply pw_below_drewN | apply below_alloc | (refine below_via (by assumption) ?_)))
      go_wp2_with fail
      all_goals (go_ret; exact ⟨rfl, (by repeat (first | assumption | exact Below.refl _ _ | apply below_drew | apply pw_below_drewN | apply below_alloc | (refine below_via (by assumption) ?_)))⟩)
end Go.Proofs.YtaihnhhapplmbaaGreatDoor.Sv
