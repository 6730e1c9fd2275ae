/- Package server: Feed, Take, Tick. -/
import Derived.Test.YtaihnhhapplmbaaGreatDoorSl
set_option linter.unusedVariables false
set_option linter.unusedSimpArgs false
namespace Go.Proofs.YtaihnhhapplmbaaGreatDoor.Sv
open Go.Sort Go.RowKit Go.Proofs Go.Proofs.YtaihnhhapplmbaaGreatDoorW.PrintWords Go.Proofs.YtaihnhhapplmbaaGreatDoor.Bs Go.Proofs.YtaihnhhapplmbaaGreatDoor.Ir Go.Proofs.YtaihnhhapplmbaaGreatDoor.Gn Go.Proofs.YtaihnhhapplmbaaGreatDoor.Ht

theorem boxes3 (w : World) (cs rs zs : Array Value) (t1 t2 t3 : TypeId) : ∃ w0, w0 = ((w.alloc (.cells cs t1)).alloc (.cells rs t2)).alloc (.cells zs t3) ∧ Hid (w0.heap[w.heap.size]? = some (.cells cs t1 (0, 0)) ∧ w0.heap[w.heap.size + 1]? = some (.cells rs t2 (0, 0)) ∧ w0.heap[w.heap.size + 1 + 1]? = some (.cells zs t3 (0, 0)) ∧ w0.heap.size = w.heap.size + 1 + 1 + 1 ∧ Below w.heap.size w w0) := by
  refine ⟨_, rfl, Lib.hid ⟨?_, ?_, ?_, by simp, below_alloc (below_alloc (below_alloc (Below.refl _ _) _) _) _⟩⟩
  · rw [Below.heap_alloc _ _ _ (by simp; omega), Below.heap_alloc _ _ _ (by simp)]
    exact heap_alloc_new w _
  · have e1 : (w.alloc (.cells cs t1)).heap.size = w.heap.size + 1 := by simp
    rw [Below.heap_alloc _ _ _ (by simp), ← e1]
    exact heap_alloc_new _ _
  · have e2 : ((w.alloc (.cells cs t1)).alloc (.cells rs t2)).heap.size = w.heap.size + 1 + 1 := by simp
    rw [← e2]
    exact heap_alloc_new _ _
theorem blk_cells6 {w : World} {g : Nat} {t : TypeId} {x0 x1 x2 x3 x4 x5 : Value} (h : w.heap[g]? = some (.cells #[x0, x1, x2, x3, x4, x5] t (0, 0))) : w.cell? ⟨g, 0, none⟩ = some x0 ∧ w.cell? ⟨g, 1, none⟩ = some x1 ∧ w.cell? ⟨g, 2, none⟩ = some x2 ∧ w.cell? ⟨g, 3, none⟩ = some x3 ∧ w.cell? ⟨g, 4, none⟩ = some x4 ∧ w.cell? ⟨g, 5, none⟩ = some x5 := by
  refine ⟨?_, ?_, ?_, ?_, ?_, ?_⟩ <;> (rw [blk_cell h]; rfl)
theorem blk_cells2 {w : World} {g : Nat} {t : TypeId} {x0 x1 : Value} (h : w.heap[g]? = some (.cells #[x0, x1] t (0, 0))) : w.cell? ⟨g, 0, none⟩ = some x0 ∧ w.cell? ⟨g, 1, none⟩ = some x1 := by
  refine ⟨?_, ?_⟩ <;> (rw [blk_cell h]; rfl)
abbrev connC (k : Cn) : Array Value := #[.string k.b, .string k.o, .bool k.c, .bool k.y, .bool k.l, .int .u64 k.s]
def zC : Cn := ⟨⟨#[]⟩, ⟨#[]⟩, false, false, false, 0⟩
set_option maxRecDepth 100000 in
set_option maxHeartbeats 4000000 in
theorem take_any (b o : ByteArray) (c y l : Bool) (s m i : Int) (w : World) (hb : b.size ≤ 1073741824) (ho : o.size ≤ 1073741824) :
    Calls Tryz.prog 8 #[.agg #[.string b, .string o, .bool c, .bool y, .bool l, .int .u64 s], .agg #[.int .i64 m, .int .u64 i]] w fun e w' => e = .returned (if checkI b o c y l m = 0 then .tuple #[.agg #[.string b, .string ⟨#[]⟩, .bool c, .bool y, .bool l, .int .u64 s], .string o, .int .i64 0] else .tuple #[.agg #[.string ⟨#[]⟩, .string ⟨#[]⟩, .bool false, .bool false, .bool false, .int .u64 0], .string ⟨#[]⟩, .int .i64 (checkI b o c y l m)]) ∧ Below w.heap.size w w' := by
  have hck := fun W => check_any b o c y l s m i W hb ho
  generalize checkI b o c y l m = why at *
  by_cases h0 : why = 0
  · rw [if_pos h0]
    have d00 : (why == 0) = true := by rw [beq_iff_eq]; exact h0
    have d01 : (why != 0) = false := by simpa using h0
    clear h0
    obtain ⟨w0, hw0, HW⟩ := boxes3 w #[.string b, .string o, .bool c, .bool y, .bool l, .int .u64 s] #[.int .i64 m, .int .u64 i] #[.string ⟨#[]⟩, .string ⟨#[]⟩, .bool false, .bool false, .bool false, .int .u64 0] 24 26 24
    go_enter Tryz.func8, Tryz.ntmps8
    go_wp2_with fail
    rw [← hw0]
    clear hw0
    refine (hck _).mono ?_
    rintro e w2 ⟨rfl, hb2⟩
    have HB2 := Lib.hid (show w2.heap[w.heap.size]? = some (.cells #[.string b, .string o, .bool c, .bool y, .bool l, .int .u64 s] 24 (0, 0)) ∧ w2.heap[w.heap.size + 1]? = some (.cells #[.int .i64 m, .int .u64 i] 26 (0, 0)) ∧ w2.heap[w.heap.size + 1 + 1]? = some (.cells #[.string ⟨#[]⟩, .string ⟨#[]⟩, .bool false, .bool false, .bool false, .int .u64 0] 24 (0, 0)) ∧ Below w.heap.size w w2 ∧ w.heap.size + 1 + 1 + 1 ≤ w2.heap.size from by
      obtain ⟨h1, h2, h3, h4, h5⟩ := HW.out
      exact ⟨(hb2.block _ (blk_lt h1)).trans h1, (hb2.block _ (blk_lt h2)).trans h2, (hb2.block _ (blk_lt h3)).trans h3, below_via hb2 h5, by have := hb2.size; omega⟩)
    obtain ⟨c0, c1, c2, c3, c4, c5⟩ := blk_cells6 HB2.out.1
    have f0 : ∀ j, w2.frozen? ⟨w.heap.size, j, none⟩ = false := fun j => blk_frozen HB2.out.1 j
    obtain ⟨r0, r1⟩ := blk_cells2 HB2.out.2.1
    obtain ⟨d0, d1, d2, d3, d4, d5⟩ := blk_cells6 HB2.out.2.2.1
    have e0 : ∀ j, w2.frozen? ⟨w.heap.size + 1 + 1, j, none⟩ = false := fun j => blk_frozen HB2.out.2.2.1 j
    have hzz0 : w.heap.size < w2.heap.size := by have := HB2.out.2.2.2.2; omega
    have hzz1 : w.heap.size + 1 < w2.heap.size := by have := HB2.out.2.2.2.2; omega
    have hzz2 : w.heap.size + 1 + 1 < w2.heap.size := by have := HB2.out.2.2.2.2; omega
    clear hb2 HW hck
    go_wp2_with fail
    have hc1 := blk_put HB2.out.1 1 (.string ⟨#[]⟩) rfl
    have hr1 := blk_far (p := ⟨w.heap.size, 1, none⟩) HB2.out.2.2.1 (by simp; try omega) (.string ⟨#[]⟩)
    have hbl1 : Below w.heap.size w (w2.setCell ⟨w.heap.size, 1, none⟩ (.string ⟨#[]⟩)) := HB2.out.2.2.2.1.setCell (by simp) _
    generalize w2.setCell ⟨w.heap.size, 1, none⟩ (.string ⟨#[]⟩) = w3 at *
    have hs6 := blk_set6 hr1 (.string b) (.string ⟨#[]⟩) (.bool c) (.bool y) (.bool l) (.int .u64 s)
    have hbl : Below w.heap.size w ((((((w3.setCell ⟨w.heap.size + 1 + 1, 0, none⟩ (.string b)).setCell ⟨w.heap.size + 1 + 1, 1, none⟩ (.string ⟨#[]⟩)).setCell ⟨w.heap.size + 1 + 1, 2, none⟩ (.bool c)).setCell ⟨w.heap.size + 1 + 1, 3, none⟩ (.bool y)).setCell ⟨w.heap.size + 1 + 1, 4, none⟩ (.bool l)).setCell ⟨w.heap.size + 1 + 1, 5, none⟩ (.int .u64 s)) := (((((hbl1.setCell (by simp; try omega) _).setCell (by simp; try omega) _).setCell (by simp; try omega) _).setCell (by simp; try omega) _).setCell (by simp; try omega) _).setCell (by simp; try omega) _
    generalize ((((((w3.setCell ⟨w.heap.size + 1 + 1, 0, none⟩ (.string b)).setCell ⟨w.heap.size + 1 + 1, 1, none⟩ (.string ⟨#[]⟩)).setCell ⟨w.heap.size + 1 + 1, 2, none⟩ (.bool c)).setCell ⟨w.heap.size + 1 + 1, 3, none⟩ (.bool y)).setCell ⟨w.heap.size + 1 + 1, 4, none⟩ (.bool l)).setCell ⟨w.heap.size + 1 + 1, 5, none⟩ (.int .u64 s)) = w6 at *
    obtain ⟨t0, t1, t2, t3, t4, t5⟩ := blk_cells6 hs6
    refine bodyPost_ret (v := .tuple #[.agg #[.string b, .string ⟨#[]⟩, .bool c, .bool y, .bool l, .int .u64 s], .string o, .int .i64 0]) (by simp [results, Tryz.results8, go_sem, t0, t1, t2, t3, t4, t5]) rfl ⟨?_, hbl⟩
    rfl
  · rw [if_neg h0]
    have d00 : (why == 0) = false := by rw [beq_eq_false_iff_ne]; exact h0
    have d01 : (why != 0) = true := by simpa using h0
    clear h0
    obtain ⟨w0, hw0, HW⟩ := boxes3 w #[.string b, .string o, .bool c, .bool y, .bool l, .int .u64 s] #[.int .i64 m, .int .u64 i] #[.string ⟨#[]⟩, .string ⟨#[]⟩, .bool false, .bool false, .bool false, .int .u64 0] 24 26 24
    go_enter Tryz.func8, Tryz.ntmps8
    go_wp2_with fail
    rw [← hw0]
    clear hw0
    refine (hck _).mono ?_
    rintro e w2 ⟨rfl, hb2⟩
    have HB2 := Lib.hid (show w2.heap[w.heap.size]? = some (.cells #[.string b, .string o, .bool c, .bool y, .bool l, .int .u64 s] 24 (0, 0)) ∧ w2.heap[w.heap.size + 1]? = some (.cells #[.int .i64 m, .int .u64 i] 26 (0, 0)) ∧ w2.heap[w.heap.size + 1 + 1]? = some (.cells #[.string ⟨#[]⟩, .string ⟨#[]⟩, .bool false, .bool false, .bool false, .int .u64 0] 24 (0, 0)) ∧ Below w.heap.size w w2 ∧ w.heap.size + 1 + 1 + 1 ≤ w2.heap.size from by
      obtain ⟨h1, h2, h3, h4, h5⟩ := HW.out
      exact ⟨(hb2.block _ (blk_lt h1)).trans h1, (hb2.block _ (blk_lt h2)).trans h2, (hb2.block _ (blk_lt h3)).trans h3, below_via hb2 h5, by have := hb2.size; omega⟩)
    obtain ⟨c0, c1, c2, c3, c4, c5⟩ := blk_cells6 HB2.out.1
    have f0 : ∀ j, w2.frozen? ⟨w.heap.size, j, none⟩ = false := fun j => blk_frozen HB2.out.1 j
    obtain ⟨r0, r1⟩ := blk_cells2 HB2.out.2.1
    obtain ⟨d0, d1, d2, d3, d4, d5⟩ := blk_cells6 HB2.out.2.2.1
    have e0 : ∀ j, w2.frozen? ⟨w.heap.size + 1 + 1, j, none⟩ = false := fun j => blk_frozen HB2.out.2.2.1 j
    have hzz0 : w.heap.size < w2.heap.size := by have := HB2.out.2.2.2.2; omega
    have hzz1 : w.heap.size + 1 < w2.heap.size := by have := HB2.out.2.2.2.2; omega
    have hzz2 : w.heap.size + 1 + 1 < w2.heap.size := by have := HB2.out.2.2.2.2; omega
    clear hb2 HW hck
    go_wp2_with fail
    have hs6 := blk_set6 HB2.out.2.2.1 (.string ⟨#[]⟩) (.string ⟨#[]⟩) (.bool false) (.bool false) (.bool false) (.int .u64 0)
    have hbl : Below w.heap.size w ((((((w2.setCell ⟨w.heap.size + 1 + 1, 0, none⟩ (.string ⟨#[]⟩)).setCell ⟨w.heap.size + 1 + 1, 1, none⟩ (.string ⟨#[]⟩)).setCell ⟨w.heap.size + 1 + 1, 2, none⟩ (.bool false)).setCell ⟨w.heap.size + 1 + 1, 3, none⟩ (.bool false)).setCell ⟨w.heap.size + 1 + 1, 4, none⟩ (.bool false)).setCell ⟨w.heap.size + 1 + 1, 5, none⟩ (.int .u64 0)) := (((((HB2.out.2.2.2.1.setCell (by simp; try omega) _).setCell (by simp; try omega) _).setCell (by simp; try omega) _).setCell (by simp; try omega) _).setCell (by simp; try omega) _).setCell (by simp; try omega) _
    generalize ((((((w2.setCell ⟨w.heap.size + 1 + 1, 0, none⟩ (.string ⟨#[]⟩)).setCell ⟨w.heap.size + 1 + 1, 1, none⟩ (.string ⟨#[]⟩)).setCell ⟨w.heap.size + 1 + 1, 2, none⟩ (.bool false)).setCell ⟨w.heap.size + 1 + 1, 3, none⟩ (.bool false)).setCell ⟨w.heap.size + 1 + 1, 4, none⟩ (.bool false)).setCell ⟨w.heap.size + 1 + 1, 5, none⟩ (.int .u64 0)) = w6 at *
    obtain ⟨t0, t1, t2, t3, t4, t5⟩ := blk_cells6 hs6
    refine bodyPost_ret (v := .tuple #[.agg #[.string ⟨#[]⟩, .string ⟨#[]⟩, .bool false, .bool false, .bool false, .int .u64 0], .string ⟨#[]⟩, .int .i64 why]) (by simp [results, Tryz.results8, go_sem, t0, t1, t2, t3, t4, t5]) rfl ⟨?_, hbl⟩
    rfl
def feedR (b o : ByteArray) (c y l : Bool) (s m : Int) (d : ByteArray) (now : Int) : Value :=
  if checkI b o c y l m ≠ 0 then .tuple #[.agg #[.string ⟨#[]⟩, .string ⟨#[]⟩, .bool false, .bool false, .bool false, .int .u64 0], .int .i64 (checkI b o c y l m)]
  else if c = true then .tuple #[.agg #[.string ⟨#[]⟩, .string ⟨#[]⟩, .bool false, .bool false, .bool false, .int .u64 0], .int .i64 6]
  else if 262144 < b.size + d.size then .tuple #[.agg #[.string ⟨#[]⟩, .string ⟨#[]⟩, .bool false, .bool false, .bool false, .int .u64 0], .int .i64 8]
  else if d.size = 0 then .tuple #[.agg #[.string b, .string o, .bool c, .bool y, .bool l, .int .u64 s], .int .i64 0]
  else .tuple #[.agg #[.string (b ++ d), .string o, .bool c, .bool y, .bool l, .int .u64 now], .int .i64 0]
set_option maxRecDepth 100000 in
set_option maxHeartbeats 4000000 in
theorem feed_any (b o : ByteArray) (c y l : Bool) (s m i : Int) (d : ByteArray) (now : Int) (w : World) (hb : b.size ≤ 1073741824) (ho : o.size ≤ 1073741824) (hd : d.size ≤ 1073741824) :
    Calls Tryz.prog 9 #[.agg #[.string b, .string o, .bool c, .bool y, .bool l, .int .u64 s], .agg #[.int .i64 m, .int .u64 i], .string d, .int .u64 now] w fun e w' => e = .returned (feedR b o c y l s m d now) ∧ Below w.heap.size w w' := by
  have hck := fun W => check_any b o c y l s m i W hb ho
  unfold feedR
  generalize checkI b o c y l m = why at *
  by_cases h0 : why ≠ 0
  · rw [if_pos h0]
    have d00 : (why == 0) = false := by rw [beq_eq_false_iff_ne]; exact h0
    have d01 : (why != 0) = true := by simpa using h0
    clear h0
    obtain ⟨w0, hw0, HW⟩ := boxes3 w #[.string b, .string o, .bool c, .bool y, .bool l, .int .u64 s] #[.int .i64 m, .int .u64 i] #[.string ⟨#[]⟩, .string ⟨#[]⟩, .bool false, .bool false, .bool false, .int .u64 0] 24 26 24
    go_enter Tryz.func9, Tryz.ntmps9
    go_wp2_with fail
    rw [← hw0]
    clear hw0
    refine (hck _).mono ?_
    rintro e w2 ⟨rfl, hb2⟩
    have HB2 := Lib.hid (show w2.heap[w.heap.size]? = some (.cells #[.string b, .string o, .bool c, .bool y, .bool l, .int .u64 s] 24 (0, 0)) ∧ w2.heap[w.heap.size + 1]? = some (.cells #[.int .i64 m, .int .u64 i] 26 (0, 0)) ∧ w2.heap[w.heap.size + 1 + 1]? = some (.cells #[.string ⟨#[]⟩, .string ⟨#[]⟩, .bool false, .bool false, .bool false, .int .u64 0] 24 (0, 0)) ∧ Below w.heap.size w w2 ∧ w.heap.size + 1 + 1 + 1 ≤ w2.heap.size from by
      obtain ⟨h1, h2, h3, h4, h5⟩ := HW.out
      exact ⟨(hb2.block _ (blk_lt h1)).trans h1, (hb2.block _ (blk_lt h2)).trans h2, (hb2.block _ (blk_lt h3)).trans h3, below_via hb2 h5, by have := hb2.size; omega⟩)
    obtain ⟨c0, c1, c2, c3, c4, c5⟩ := blk_cells6 HB2.out.1
    have f0 : ∀ j, w2.frozen? ⟨w.heap.size, j, none⟩ = false := fun j => blk_frozen HB2.out.1 j
    obtain ⟨r0, r1⟩ := blk_cells2 HB2.out.2.1
    obtain ⟨d0, d1, d2, d3, d4, d5⟩ := blk_cells6 HB2.out.2.2.1
    have e0 : ∀ j, w2.frozen? ⟨w.heap.size + 1 + 1, j, none⟩ = false := fun j => blk_frozen HB2.out.2.2.1 j
    have hzz0 : w.heap.size < w2.heap.size := by have := HB2.out.2.2.2.2; omega
    have hzz1 : w.heap.size + 1 < w2.heap.size := by have := HB2.out.2.2.2.2; omega
    have hzz2 : w.heap.size + 1 + 1 < w2.heap.size := by have := HB2.out.2.2.2.2; omega
    clear hb2 HW hck
    go_wp2_with fail
    have hs6 := blk_set6 HB2.out.2.2.1 (.string ⟨#[]⟩) (.string ⟨#[]⟩) (.bool false) (.bool false) (.bool false) (.int .u64 0)
    have hbl : Below w.heap.size w ((((((w2.setCell ⟨w.heap.size + 1 + 1, 0, none⟩ (.string ⟨#[]⟩)).setCell ⟨w.heap.size + 1 + 1, 1, none⟩ (.string ⟨#[]⟩)).setCell ⟨w.heap.size + 1 + 1, 2, none⟩ (.bool false)).setCell ⟨w.heap.size + 1 + 1, 3, none⟩ (.bool false)).setCell ⟨w.heap.size + 1 + 1, 4, none⟩ (.bool false)).setCell ⟨w.heap.size + 1 + 1, 5, none⟩ (.int .u64 0)) := (((((HB2.out.2.2.2.1.setCell (by simp; try omega) _).setCell (by simp; try omega) _).setCell (by simp; try omega) _).setCell (by simp; try omega) _).setCell (by simp; try omega) _).setCell (by simp; try omega) _
    generalize ((((((w2.setCell ⟨w.heap.size + 1 + 1, 0, none⟩ (.string ⟨#[]⟩)).setCell ⟨w.heap.size + 1 + 1, 1, none⟩ (.string ⟨#[]⟩)).setCell ⟨w.heap.size + 1 + 1, 2, none⟩ (.bool false)).setCell ⟨w.heap.size + 1 + 1, 3, none⟩ (.bool false)).setCell ⟨w.heap.size + 1 + 1, 4, none⟩ (.bool false)).setCell ⟨w.heap.size + 1 + 1, 5, none⟩ (.int .u64 0)) = w6 at *
    obtain ⟨t0, t1, t2, t3, t4, t5⟩ := blk_cells6 hs6
    refine bodyPost_ret (v := .tuple #[.agg #[.string ⟨#[]⟩, .string ⟨#[]⟩, .bool false, .bool false, .bool false, .int .u64 0], .int .i64 why]) (by simp [results, Tryz.results9, go_sem, t0, t1, t2, t3, t4, t5]) rfl ⟨?_, hbl⟩
    rfl
  · rw [if_neg h0]
    have h1 : why = 0 := by omega
    have d00 : (why == 0) = true := by rw [beq_iff_eq]; exact h1
    have d01 : (why != 0) = false := by simpa using h1
    clear h0 h1
    cases c with
    | true =>
      rw [if_pos rfl]
      obtain ⟨w0, hw0, HW⟩ := boxes3 w #[.string b, .string o, .bool true, .bool y, .bool l, .int .u64 s] #[.int .i64 m, .int .u64 i] #[.string ⟨#[]⟩, .string ⟨#[]⟩, .bool false, .bool false, .bool false, .int .u64 0] 24 26 24
      go_enter Tryz.func9, Tryz.ntmps9
      go_wp2_with fail
      rw [← hw0]
      clear hw0
      refine (hck _).mono ?_
      rintro e w2 ⟨rfl, hb2⟩
      have HB2 := Lib.hid (show w2.heap[w.heap.size]? = some (.cells #[.string b, .string o, .bool true, .bool y, .bool l, .int .u64 s] 24 (0, 0)) ∧ w2.heap[w.heap.size + 1]? = some (.cells #[.int .i64 m, .int .u64 i] 26 (0, 0)) ∧ w2.heap[w.heap.size + 1 + 1]? = some (.cells #[.string ⟨#[]⟩, .string ⟨#[]⟩, .bool false, .bool false, .bool false, .int .u64 0] 24 (0, 0)) ∧ Below w.heap.size w w2 ∧ w.heap.size + 1 + 1 + 1 ≤ w2.heap.size from by
        obtain ⟨h1, h2, h3, h4, h5⟩ := HW.out
        exact ⟨(hb2.block _ (blk_lt h1)).trans h1, (hb2.block _ (blk_lt h2)).trans h2, (hb2.block _ (blk_lt h3)).trans h3, below_via hb2 h5, by have := hb2.size; omega⟩)
      obtain ⟨c0, c1, c2, c3, c4, c5⟩ := blk_cells6 HB2.out.1
      have f0 : ∀ j, w2.frozen? ⟨w.heap.size, j, none⟩ = false := fun j => blk_frozen HB2.out.1 j
      obtain ⟨r0, r1⟩ := blk_cells2 HB2.out.2.1
      obtain ⟨d0, d1, d2, d3, d4, d5⟩ := blk_cells6 HB2.out.2.2.1
      have e0 : ∀ j, w2.frozen? ⟨w.heap.size + 1 + 1, j, none⟩ = false := fun j => blk_frozen HB2.out.2.2.1 j
      have hzz0 : w.heap.size < w2.heap.size := by have := HB2.out.2.2.2.2; omega
      have hzz1 : w.heap.size + 1 < w2.heap.size := by have := HB2.out.2.2.2.2; omega
      have hzz2 : w.heap.size + 1 + 1 < w2.heap.size := by have := HB2.out.2.2.2.2; omega
      clear hb2 HW hck
      go_wp2_with fail
      have hs6 := blk_set6 HB2.out.2.2.1 (.string ⟨#[]⟩) (.string ⟨#[]⟩) (.bool false) (.bool false) (.bool false) (.int .u64 0)
      have hbl : Below w.heap.size w ((((((w2.setCell ⟨w.heap.size + 1 + 1, 0, none⟩ (.string ⟨#[]⟩)).setCell ⟨w.heap.size + 1 + 1, 1, none⟩ (.string ⟨#[]⟩)).setCell ⟨w.heap.size + 1 + 1, 2, none⟩ (.bool false)).setCell ⟨w.heap.size + 1 + 1, 3, none⟩ (.bool false)).setCell ⟨w.heap.size + 1 + 1, 4, none⟩ (.bool false)).setCell ⟨w.heap.size + 1 + 1, 5, none⟩ (.int .u64 0)) := (((((HB2.out.2.2.2.1.setCell (by simp; try omega) _).setCell (by simp; try omega) _).setCell (by simp; try omega) _).setCell (by simp; try omega) _).setCell (by simp; try omega) _).setCell (by simp; try omega) _
      generalize ((((((w2.setCell ⟨w.heap.size + 1 + 1, 0, none⟩ (.string ⟨#[]⟩)).setCell ⟨w.heap.size + 1 + 1, 1, none⟩ (.string ⟨#[]⟩)).setCell ⟨w.heap.size + 1 + 1, 2, none⟩ (.bool false)).setCell ⟨w.heap.size + 1 + 1, 3, none⟩ (.bool false)).setCell ⟨w.heap.size + 1 + 1, 4, none⟩ (.bool false)).setCell ⟨w.heap.size + 1 + 1, 5, none⟩ (.int .u64 0)) = w6 at *
      obtain ⟨t0, t1, t2, t3, t4, t5⟩ := blk_cells6 hs6
      refine bodyPost_ret (v := .tuple #[.agg #[.string ⟨#[]⟩, .string ⟨#[]⟩, .bool false, .bool false, .bool false, .int .u64 0], .int .i64 6]) (by simp [results, Tryz.results9, go_sem, t0, t1, t2, t3, t4, t5]) rfl ⟨?_, hbl⟩
      rfl

    | false =>
      rw [if_neg (by simp)]
      have k0 : ¬ 9223372036854775807 < b.size + d.size := by omega
      have q0 : IntKind.wrap .i64 ((b.size : Int) + d.size) = (b.size : Int) + d.size := IntWalk.i64_in _ (by omega)
      by_cases hz : 262144 < b.size + d.size
      · rw [if_pos hz]
        have dz : decide ((262144 : Int) < (b.size : Int) + (d.size : Int)) = true := by simp; omega
        clear hz
        obtain ⟨w0, hw0, HW⟩ := boxes3 w #[.string b, .string o, .bool false, .bool y, .bool l, .int .u64 s] #[.int .i64 m, .int .u64 i] #[.string ⟨#[]⟩, .string ⟨#[]⟩, .bool false, .bool false, .bool false, .int .u64 0] 24 26 24
        go_enter Tryz.func9, Tryz.ntmps9
        go_wp2_with fail
        rw [← hw0]
        clear hw0
        refine (hck _).mono ?_
        rintro e w2 ⟨rfl, hb2⟩
        have HB2 := Lib.hid (show w2.heap[w.heap.size]? = some (.cells #[.string b, .string o, .bool false, .bool y, .bool l, .int .u64 s] 24 (0, 0)) ∧ w2.heap[w.heap.size + 1]? = some (.cells #[.int .i64 m, .int .u64 i] 26 (0, 0)) ∧ w2.heap[w.heap.size + 1 + 1]? = some (.cells #[.string ⟨#[]⟩, .string ⟨#[]⟩, .bool false, .bool false, .bool false, .int .u64 0] 24 (0, 0)) ∧ Below w.heap.size w w2 ∧ w.heap.size + 1 + 1 + 1 ≤ w2.heap.size from by
          obtain ⟨h1, h2, h3, h4, h5⟩ := HW.out
          exact ⟨(hb2.block _ (blk_lt h1)).trans h1, (hb2.block _ (blk_lt h2)).trans h2, (hb2.block _ (blk_lt h3)).trans h3, below_via hb2 h5, by have := hb2.size; omega⟩)
        obtain ⟨c0, c1, c2, c3, c4, c5⟩ := blk_cells6 HB2.out.1
        have f0 : ∀ j, w2.frozen? ⟨w.heap.size, j, none⟩ = false := fun j => blk_frozen HB2.out.1 j
        obtain ⟨r0, r1⟩ := blk_cells2 HB2.out.2.1
        obtain ⟨d0, d1, d2, d3, d4, d5⟩ := blk_cells6 HB2.out.2.2.1
        have e0 : ∀ j, w2.frozen? ⟨w.heap.size + 1 + 1, j, none⟩ = false := fun j => blk_frozen HB2.out.2.2.1 j
        have hzz0 : w.heap.size < w2.heap.size := by have := HB2.out.2.2.2.2; omega
        have hzz1 : w.heap.size + 1 < w2.heap.size := by have := HB2.out.2.2.2.2; omega
        have hzz2 : w.heap.size + 1 + 1 < w2.heap.size := by have := HB2.out.2.2.2.2; omega
        clear hb2 HW hck
        go_wp2_with fail
        have hs6 := blk_set6 HB2.out.2.2.1 (.string ⟨#[]⟩) (.string ⟨#[]⟩) (.bool false) (.bool false) (.bool false) (.int .u64 0)
        have hbl : Below w.heap.size w ((((((w2.setCell ⟨w.heap.size + 1 + 1, 0, none⟩ (.string ⟨#[]⟩)).setCell ⟨w.heap.size + 1 + 1, 1, none⟩ (.string ⟨#[]⟩)).setCell ⟨w.heap.size + 1 + 1, 2, none⟩ (.bool false)).setCell ⟨w.heap.size + 1 + 1, 3, none⟩ (.bool false)).setCell ⟨w.heap.size + 1 + 1, 4, none⟩ (.bool false)).setCell ⟨w.heap.size + 1 + 1, 5, none⟩ (.int .u64 0)) := (((((HB2.out.2.2.2.1.setCell (by simp; try omega) _).setCell (by simp; try omega) _).setCell (by simp; try omega) _).setCell (by simp; try omega) _).setCell (by simp; try omega) _).setCell (by simp; try omega) _
        generalize ((((((w2.setCell ⟨w.heap.size + 1 + 1, 0, none⟩ (.string ⟨#[]⟩)).setCell ⟨w.heap.size + 1 + 1, 1, none⟩ (.string ⟨#[]⟩)).setCell ⟨w.heap.size + 1 + 1, 2, none⟩ (.bool false)).setCell ⟨w.heap.size + 1 + 1, 3, none⟩ (.bool false)).setCell ⟨w.heap.size + 1 + 1, 4, none⟩ (.bool false)).setCell ⟨w.heap.size + 1 + 1, 5, none⟩ (.int .u64 0)) = w6 at *
        obtain ⟨t0, t1, t2, t3, t4, t5⟩ := blk_cells6 hs6
        refine bodyPost_ret (v := .tuple #[.agg #[.string ⟨#[]⟩, .string ⟨#[]⟩, .bool false, .bool false, .bool false, .int .u64 0], .int .i64 8]) (by simp [results, Tryz.results9, go_sem, t0, t1, t2, t3, t4, t5]) rfl ⟨?_, hbl⟩
        rfl

      · rw [if_neg hz]
        have dz : decide ((262144 : Int) < (b.size : Int) + (d.size : Int)) = false := by simp; omega
        clear hz
        by_cases hd0 : d.size = 0
        · rw [if_pos hd0]
          have e00 : d.toList.isEmpty = true := size_eq0 d (by omega)
          clear hd0
          obtain ⟨w0, hw0, HW⟩ := boxes3 w #[.string b, .string o, .bool false, .bool y, .bool l, .int .u64 s] #[.int .i64 m, .int .u64 i] #[.string ⟨#[]⟩, .string ⟨#[]⟩, .bool false, .bool false, .bool false, .int .u64 0] 24 26 24
          go_enter Tryz.func9, Tryz.ntmps9
          go_wp2_with fail
          rw [← hw0]
          clear hw0
          refine (hck _).mono ?_
          rintro e w2 ⟨rfl, hb2⟩
          have HB2 := Lib.hid (show w2.heap[w.heap.size]? = some (.cells #[.string b, .string o, .bool false, .bool y, .bool l, .int .u64 s] 24 (0, 0)) ∧ w2.heap[w.heap.size + 1]? = some (.cells #[.int .i64 m, .int .u64 i] 26 (0, 0)) ∧ w2.heap[w.heap.size + 1 + 1]? = some (.cells #[.string ⟨#[]⟩, .string ⟨#[]⟩, .bool false, .bool false, .bool false, .int .u64 0] 24 (0, 0)) ∧ Below w.heap.size w w2 ∧ w.heap.size + 1 + 1 + 1 ≤ w2.heap.size from by
            obtain ⟨h1, h2, h3, h4, h5⟩ := HW.out
            exact ⟨(hb2.block _ (blk_lt h1)).trans h1, (hb2.block _ (blk_lt h2)).trans h2, (hb2.block _ (blk_lt h3)).trans h3, below_via hb2 h5, by have := hb2.size; omega⟩)
          obtain ⟨c0, c1, c2, c3, c4, c5⟩ := blk_cells6 HB2.out.1
          have f0 : ∀ j, w2.frozen? ⟨w.heap.size, j, none⟩ = false := fun j => blk_frozen HB2.out.1 j
          obtain ⟨r0, r1⟩ := blk_cells2 HB2.out.2.1
          obtain ⟨d0, d1, d2, d3, d4, d5⟩ := blk_cells6 HB2.out.2.2.1
          have e0 : ∀ j, w2.frozen? ⟨w.heap.size + 1 + 1, j, none⟩ = false := fun j => blk_frozen HB2.out.2.2.1 j
          have hzz0 : w.heap.size < w2.heap.size := by have := HB2.out.2.2.2.2; omega
          have hzz1 : w.heap.size + 1 < w2.heap.size := by have := HB2.out.2.2.2.2; omega
          have hzz2 : w.heap.size + 1 + 1 < w2.heap.size := by have := HB2.out.2.2.2.2; omega
          clear hb2 HW hck
          go_wp2_with fail
          have hs6 := blk_set6 HB2.out.2.2.1 (.string b) (.string o) (.bool false) (.bool y) (.bool l) (.int .u64 s)
          have hbl : Below w.heap.size w ((((((w2.setCell ⟨w.heap.size + 1 + 1, 0, none⟩ (.string b)).setCell ⟨w.heap.size + 1 + 1, 1, none⟩ (.string o)).setCell ⟨w.heap.size + 1 + 1, 2, none⟩ (.bool false)).setCell ⟨w.heap.size + 1 + 1, 3, none⟩ (.bool y)).setCell ⟨w.heap.size + 1 + 1, 4, none⟩ (.bool l)).setCell ⟨w.heap.size + 1 + 1, 5, none⟩ (.int .u64 s)) := (((((HB2.out.2.2.2.1.setCell (by simp; try omega) _).setCell (by simp; try omega) _).setCell (by simp; try omega) _).setCell (by simp; try omega) _).setCell (by simp; try omega) _).setCell (by simp; try omega) _
          generalize ((((((w2.setCell ⟨w.heap.size + 1 + 1, 0, none⟩ (.string b)).setCell ⟨w.heap.size + 1 + 1, 1, none⟩ (.string o)).setCell ⟨w.heap.size + 1 + 1, 2, none⟩ (.bool false)).setCell ⟨w.heap.size + 1 + 1, 3, none⟩ (.bool y)).setCell ⟨w.heap.size + 1 + 1, 4, none⟩ (.bool l)).setCell ⟨w.heap.size + 1 + 1, 5, none⟩ (.int .u64 s)) = w6 at *
          obtain ⟨t0, t1, t2, t3, t4, t5⟩ := blk_cells6 hs6
          refine bodyPost_ret (v := .tuple #[.agg #[.string b, .string o, .bool false, .bool y, .bool l, .int .u64 s], .int .i64 0]) (by simp [results, Tryz.results9, go_sem, t0, t1, t2, t3, t4, t5]) rfl ⟨?_, hbl⟩
          rfl
        · rw [if_neg hd0]
          have e00 : d.toList.isEmpty = false := size_ne d (by omega)
          clear hd0
          obtain ⟨w0, hw0, HW⟩ := boxes3 w #[.string b, .string o, .bool false, .bool y, .bool l, .int .u64 s] #[.int .i64 m, .int .u64 i] #[.string ⟨#[]⟩, .string ⟨#[]⟩, .bool false, .bool false, .bool false, .int .u64 0] 24 26 24
          go_enter Tryz.func9, Tryz.ntmps9
          go_wp2_with fail
          rw [← hw0]
          clear hw0
          refine (hck _).mono ?_
          rintro e w2 ⟨rfl, hb2⟩
          have HB2 := Lib.hid (show w2.heap[w.heap.size]? = some (.cells #[.string b, .string o, .bool false, .bool y, .bool l, .int .u64 s] 24 (0, 0)) ∧ w2.heap[w.heap.size + 1]? = some (.cells #[.int .i64 m, .int .u64 i] 26 (0, 0)) ∧ w2.heap[w.heap.size + 1 + 1]? = some (.cells #[.string ⟨#[]⟩, .string ⟨#[]⟩, .bool false, .bool false, .bool false, .int .u64 0] 24 (0, 0)) ∧ Below w.heap.size w w2 ∧ w.heap.size + 1 + 1 + 1 ≤ w2.heap.size from by
            obtain ⟨h1, h2, h3, h4, h5⟩ := HW.out
            exact ⟨(hb2.block _ (blk_lt h1)).trans h1, (hb2.block _ (blk_lt h2)).trans h2, (hb2.block _ (blk_lt h3)).trans h3, below_via hb2 h5, by have := hb2.size; omega⟩)
          obtain ⟨c0, c1, c2, c3, c4, c5⟩ := blk_cells6 HB2.out.1
          have f0 : ∀ j, w2.frozen? ⟨w.heap.size, j, none⟩ = false := fun j => blk_frozen HB2.out.1 j
          obtain ⟨r0, r1⟩ := blk_cells2 HB2.out.2.1
          obtain ⟨d0, d1, d2, d3, d4, d5⟩ := blk_cells6 HB2.out.2.2.1
          have e0 : ∀ j, w2.frozen? ⟨w.heap.size + 1 + 1, j, none⟩ = false := fun j => blk_frozen HB2.out.2.2.1 j
          have hzz0 : w.heap.size < w2.heap.size := by have := HB2.out.2.2.2.2; omega
          have hzz1 : w.heap.size + 1 < w2.heap.size := by have := HB2.out.2.2.2.2; omega
          have hzz2 : w.heap.size + 1 + 1 < w2.heap.size := by have := HB2.out.2.2.2.2; omega
          clear hb2 HW hck
          go_wp2_with fail
          have hc1 := blk_put (blk_put HB2.out.1 0 (.string (b ++ d)) rfl) 5 (.int .u64 now) rfl
          have hr1 := blk_far (p := ⟨w.heap.size, 5, none⟩) (blk_far (p := ⟨w.heap.size, 0, none⟩) HB2.out.2.2.1 (by simp; try omega) (.string (b ++ d))) (by simp; try omega) (.int .u64 now)
          have hbl1 : Below w.heap.size w ((w2.setCell ⟨w.heap.size, 0, none⟩ (.string (b ++ d))).setCell ⟨w.heap.size, 5, none⟩ (.int .u64 now)) := (HB2.out.2.2.2.1.setCell (by simp) _).setCell (by simp) _
          generalize (w2.setCell ⟨w.heap.size, 0, none⟩ (.string (b ++ d))).setCell ⟨w.heap.size, 5, none⟩ (.int .u64 now) = w3 at *
          have hs6 := blk_set6 hr1 (.string (b ++ d)) (.string o) (.bool false) (.bool y) (.bool l) (.int .u64 now)
          have hbl : Below w.heap.size w ((((((w3.setCell ⟨w.heap.size + 1 + 1, 0, none⟩ (.string (b ++ d))).setCell ⟨w.heap.size + 1 + 1, 1, none⟩ (.string o)).setCell ⟨w.heap.size + 1 + 1, 2, none⟩ (.bool false)).setCell ⟨w.heap.size + 1 + 1, 3, none⟩ (.bool y)).setCell ⟨w.heap.size + 1 + 1, 4, none⟩ (.bool l)).setCell ⟨w.heap.size + 1 + 1, 5, none⟩ (.int .u64 now)) := (((((hbl1.setCell (by simp; try omega) _).setCell (by simp; try omega) _).setCell (by simp; try omega) _).setCell (by simp; try omega) _).setCell (by simp; try omega) _).setCell (by simp; try omega) _
          generalize ((((((w3.setCell ⟨w.heap.size + 1 + 1, 0, none⟩ (.string (b ++ d))).setCell ⟨w.heap.size + 1 + 1, 1, none⟩ (.string o)).setCell ⟨w.heap.size + 1 + 1, 2, none⟩ (.bool false)).setCell ⟨w.heap.size + 1 + 1, 3, none⟩ (.bool y)).setCell ⟨w.heap.size + 1 + 1, 4, none⟩ (.bool l)).setCell ⟨w.heap.size + 1 + 1, 5, none⟩ (.int .u64 now)) = w6 at *
          obtain ⟨t0, t1, t2, t3, t4, t5⟩ := blk_cells6 hs6
          refine bodyPost_ret (v := .tuple #[.agg #[.string (b ++ d), .string o, .bool false, .bool y, .bool l, .int .u64 now], .int .i64 0]) (by simp [results, Tryz.results9, go_sem, t0, t1, t2, t3, t4, t5]) rfl ⟨?_, hbl⟩
          rfl
def s408 : ByteArray := ⟨#[72, 84, 84, 80, 47, 49, 46, 49, 32, 52, 48, 56, 32, 82, 101, 113, 117, 101, 115, 116, 32, 84, 105, 109, 101, 111, 117, 116, 13, 10, 67, 111, 110, 110, 101, 99, 116, 105, 111, 110, 58, 32, 99, 108, 111, 115, 101, 13, 10, 67, 111, 110, 116, 101, 110, 116, 45, 76, 101, 110, 103, 116, 104, 58, 32, 48, 13, 10, 13, 10]⟩
def s400 : ByteArray := ⟨#[72, 84, 84, 80, 47, 49, 46, 49, 32, 52, 48, 48, 32, 66, 97, 100, 32, 82, 101, 113, 117, 101, 115, 116, 13, 10, 67, 111, 110, 110, 101, 99, 116, 105, 111, 110, 58, 32, 99, 108, 111, 115, 101, 13, 10, 67, 111, 110, 116, 101, 110, 116, 45, 76, 101, 110, 103, 116, 104, 58, 32, 48, 13, 10, 13, 10]⟩
def s404 : ByteArray := ⟨#[72, 84, 84, 80, 47, 49, 46, 49, 32, 52, 48, 52, 32, 78, 111, 116, 32, 70, 111, 117, 110, 100, 13, 10, 67, 111, 110, 116, 101, 110, 116, 45, 76, 101, 110, 103, 116, 104, 58, 32, 48, 13, 10, 13, 10]⟩
theorem w408 : writeResp 408 [⟨⟨#[67, 111, 110, 110, 101, 99, 116, 105, 111, 110]⟩, ⟨#[99, 108, 111, 115, 101]⟩⟩] ⟨#[]⟩ = .tuple #[.string s408, .int .i64 0] := by kernel_rfl
theorem w400 : writeResp 400 [⟨⟨#[67, 111, 110, 110, 101, 99, 116, 105, 111, 110]⟩, ⟨#[99, 108, 111, 115, 101]⟩⟩] ⟨#[]⟩ = .tuple #[.string s400, .int .i64 0] := by kernel_rfl
theorem w404 : writeResp 404 [] ⟨#[]⟩ = .tuple #[.string s404, .int .i64 0] := by kernel_rfl
def tickR (b o : ByteArray) (c y l : Bool) (s m i : Int) (now : Int) : Value :=
  if checkI b o c y l m ≠ 0 then .tuple #[.agg #[.string ⟨#[]⟩, .string ⟨#[]⟩, .bool false, .bool false, .bool false, .int .u64 0], .int .i64 (checkI b o c y l m)]
  else if c = true ∨ y = true ∨ now < s ∨ now - s < i then .tuple #[.agg #[.string b, .string o, .bool c, .bool y, .bool l, .int .u64 s], .int .i64 0]
  else .tuple #[.agg #[.string ⟨#[]⟩, .string (if b.size = 0 then o else o ++ s408), .bool true, .bool false, .bool false, .int .u64 s], .int .i64 0]
set_option maxRecDepth 100000 in
set_option maxHeartbeats 4000000 in
theorem tick_any (b o : ByteArray) (c y l : Bool) (s m i : Int) (now : Int) (w : World) (G : Gnd w) (hb : b.size ≤ 1073741824) (ho : o.size ≤ 1073741824) (hs0 : 0 ≤ s) (hs1 : s ≤ 18446744073709551615) (hn0 : 0 ≤ now) (hn1 : now ≤ 18446744073709551615) :
    Calls Tryz.prog 10 #[.agg #[.string b, .string o, .bool c, .bool y, .bool l, .int .u64 s], .agg #[.int .i64 m, .int .u64 i], .int .u64 now] w fun e w' => e = .returned (tickR b o c y l s m i now) ∧ Below w.heap.size w w' := by
  have hck := fun W => check_any b o c y l s m i W hb ho
  unfold tickR
  generalize checkI b o c y l m = why at *
  have HG := Lib.hid G
  clear G
  by_cases h0 : why ≠ 0
  · rw [if_pos h0]
    have d00 : (why == 0) = false := by rw [beq_eq_false_iff_ne]; exact h0
    have d01 : (why != 0) = true := by simpa using h0
    clear h0
    obtain ⟨w0, hw0, HW⟩ := boxes3 w #[.string b, .string o, .bool c, .bool y, .bool l, .int .u64 s] #[.int .i64 m, .int .u64 i] #[.string ⟨#[]⟩, .string ⟨#[]⟩, .bool false, .bool false, .bool false, .int .u64 0] 24 26 24
    go_enter Tryz.func10, Tryz.ntmps10
    go_wp2_with fail
    rw [← hw0]
    clear hw0
    refine (hck _).mono ?_
    rintro e w2 ⟨rfl, hb2⟩
    have HB2 := Lib.hid (show w2.heap[w.heap.size]? = some (.cells #[.string b, .string o, .bool c, .bool y, .bool l, .int .u64 s] 24 (0, 0)) ∧ w2.heap[w.heap.size + 1]? = some (.cells #[.int .i64 m, .int .u64 i] 26 (0, 0)) ∧ w2.heap[w.heap.size + 1 + 1]? = some (.cells #[.string ⟨#[]⟩, .string ⟨#[]⟩, .bool false, .bool false, .bool false, .int .u64 0] 24 (0, 0)) ∧ Below w.heap.size w w2 ∧ w.heap.size + 1 + 1 + 1 ≤ w2.heap.size from by
      obtain ⟨h1, h2, h3, h4, h5⟩ := HW.out
      exact ⟨(hb2.block _ (blk_lt h1)).trans h1, (hb2.block _ (blk_lt h2)).trans h2, (hb2.block _ (blk_lt h3)).trans h3, below_via hb2 h5, by have := hb2.size; omega⟩)
    obtain ⟨c0, c1, c2, c3, c4, c5⟩ := blk_cells6 HB2.out.1
    have f0 : ∀ j, w2.frozen? ⟨w.heap.size, j, none⟩ = false := fun j => blk_frozen HB2.out.1 j
    obtain ⟨r0, r1⟩ := blk_cells2 HB2.out.2.1
    obtain ⟨d0, d1, d2, d3, d4, d5⟩ := blk_cells6 HB2.out.2.2.1
    have e0 : ∀ j, w2.frozen? ⟨w.heap.size + 1 + 1, j, none⟩ = false := fun j => blk_frozen HB2.out.2.2.1 j
    have hzz0 : w.heap.size < w2.heap.size := by have := HB2.out.2.2.2.2; omega
    have hzz1 : w.heap.size + 1 < w2.heap.size := by have := HB2.out.2.2.2.2; omega
    have hzz2 : w.heap.size + 1 + 1 < w2.heap.size := by have := HB2.out.2.2.2.2; omega
    clear hb2 HW hck
    go_wp2_with fail
    have hs6 := blk_set6 HB2.out.2.2.1 (.string ⟨#[]⟩) (.string ⟨#[]⟩) (.bool false) (.bool false) (.bool false) (.int .u64 0)
    have hbl : Below w.heap.size w ((((((w2.setCell ⟨w.heap.size + 1 + 1, 0, none⟩ (.string ⟨#[]⟩)).setCell ⟨w.heap.size + 1 + 1, 1, none⟩ (.string ⟨#[]⟩)).setCell ⟨w.heap.size + 1 + 1, 2, none⟩ (.bool false)).setCell ⟨w.heap.size + 1 + 1, 3, none⟩ (.bool false)).setCell ⟨w.heap.size + 1 + 1, 4, none⟩ (.bool false)).setCell ⟨w.heap.size + 1 + 1, 5, none⟩ (.int .u64 0)) := (((((HB2.out.2.2.2.1.setCell (by simp; try omega) _).setCell (by simp; try omega) _).setCell (by simp; try omega) _).setCell (by simp; try omega) _).setCell (by simp; try omega) _).setCell (by simp; try omega) _
    generalize ((((((w2.setCell ⟨w.heap.size + 1 + 1, 0, none⟩ (.string ⟨#[]⟩)).setCell ⟨w.heap.size + 1 + 1, 1, none⟩ (.string ⟨#[]⟩)).setCell ⟨w.heap.size + 1 + 1, 2, none⟩ (.bool false)).setCell ⟨w.heap.size + 1 + 1, 3, none⟩ (.bool false)).setCell ⟨w.heap.size + 1 + 1, 4, none⟩ (.bool false)).setCell ⟨w.heap.size + 1 + 1, 5, none⟩ (.int .u64 0)) = w6 at *
    obtain ⟨t0, t1, t2, t3, t4, t5⟩ := blk_cells6 hs6
    refine bodyPost_ret (v := .tuple #[.agg #[.string ⟨#[]⟩, .string ⟨#[]⟩, .bool false, .bool false, .bool false, .int .u64 0], .int .i64 why]) (by simp [results, Tryz.results10, go_sem, t0, t1, t2, t3, t4, t5]) rfl ⟨?_, hbl⟩
    rfl
  · rw [if_neg h0]
    have h1 : why = 0 := by omega
    have d00 : (why == 0) = true := by rw [beq_iff_eq]; exact h1
    have d01 : (why != 0) = false := by simpa using h1
    clear h0 h1
    cases c with
    | true =>
      rw [if_pos (.inl rfl)]
      obtain ⟨w0, hw0, HW⟩ := boxes3 w #[.string b, .string o, .bool true, .bool y, .bool l, .int .u64 s] #[.int .i64 m, .int .u64 i] #[.string ⟨#[]⟩, .string ⟨#[]⟩, .bool false, .bool false, .bool false, .int .u64 0] 24 26 24
      go_enter Tryz.func10, Tryz.ntmps10
      go_wp2_with fail
      rw [← hw0]
      clear hw0
      refine (hck _).mono ?_
      rintro e w2 ⟨rfl, hb2⟩
      have HB2 := Lib.hid (show w2.heap[w.heap.size]? = some (.cells #[.string b, .string o, .bool true, .bool y, .bool l, .int .u64 s] 24 (0, 0)) ∧ w2.heap[w.heap.size + 1]? = some (.cells #[.int .i64 m, .int .u64 i] 26 (0, 0)) ∧ w2.heap[w.heap.size + 1 + 1]? = some (.cells #[.string ⟨#[]⟩, .string ⟨#[]⟩, .bool false, .bool false, .bool false, .int .u64 0] 24 (0, 0)) ∧ Below w.heap.size w w2 ∧ w.heap.size + 1 + 1 + 1 ≤ w2.heap.size from by
        obtain ⟨h1, h2, h3, h4, h5⟩ := HW.out
        exact ⟨(hb2.block _ (blk_lt h1)).trans h1, (hb2.block _ (blk_lt h2)).trans h2, (hb2.block _ (blk_lt h3)).trans h3, below_via hb2 h5, by have := hb2.size; omega⟩)
      obtain ⟨c0, c1, c2, c3, c4, c5⟩ := blk_cells6 HB2.out.1
      have f0 : ∀ j, w2.frozen? ⟨w.heap.size, j, none⟩ = false := fun j => blk_frozen HB2.out.1 j
      obtain ⟨r0, r1⟩ := blk_cells2 HB2.out.2.1
      obtain ⟨d0, d1, d2, d3, d4, d5⟩ := blk_cells6 HB2.out.2.2.1
      have e0 : ∀ j, w2.frozen? ⟨w.heap.size + 1 + 1, j, none⟩ = false := fun j => blk_frozen HB2.out.2.2.1 j
      have hzz0 : w.heap.size < w2.heap.size := by have := HB2.out.2.2.2.2; omega
      have hzz1 : w.heap.size + 1 < w2.heap.size := by have := HB2.out.2.2.2.2; omega
      have hzz2 : w.heap.size + 1 + 1 < w2.heap.size := by have := HB2.out.2.2.2.2; omega
      clear hb2 HW hck
      go_wp2_with fail
      have hs6 := blk_set6 HB2.out.2.2.1 (.string b) (.string o) (.bool true) (.bool y) (.bool l) (.int .u64 s)
      have hbl : Below w.heap.size w ((((((w2.setCell ⟨w.heap.size + 1 + 1, 0, none⟩ (.string b)).setCell ⟨w.heap.size + 1 + 1, 1, none⟩ (.string o)).setCell ⟨w.heap.size + 1 + 1, 2, none⟩ (.bool true)).setCell ⟨w.heap.size + 1 + 1, 3, none⟩ (.bool y)).setCell ⟨w.heap.size + 1 + 1, 4, none⟩ (.bool l)).setCell ⟨w.heap.size + 1 + 1, 5, none⟩ (.int .u64 s)) := (((((HB2.out.2.2.2.1.setCell (by simp; try omega) _).setCell (by simp; try omega) _).setCell (by simp; try omega) _).setCell (by simp; try omega) _).setCell (by simp; try omega) _).setCell (by simp; try omega) _
      generalize ((((((w2.setCell ⟨w.heap.size + 1 + 1, 0, none⟩ (.string b)).setCell ⟨w.heap.size + 1 + 1, 1, none⟩ (.string o)).setCell ⟨w.heap.size + 1 + 1, 2, none⟩ (.bool true)).setCell ⟨w.heap.size + 1 + 1, 3, none⟩ (.bool y)).setCell ⟨w.heap.size + 1 + 1, 4, none⟩ (.bool l)).setCell ⟨w.heap.size + 1 + 1, 5, none⟩ (.int .u64 s)) = w6 at *
      obtain ⟨t0, t1, t2, t3, t4, t5⟩ := blk_cells6 hs6
      refine bodyPost_ret (v := .tuple #[.agg #[.string b, .string o, .bool true, .bool y, .bool l, .int .u64 s], .int .i64 0]) (by simp [results, Tryz.results10, go_sem, t0, t1, t2, t3, t4, t5]) rfl ⟨?_, hbl⟩
      rfl
    | false =>
      cases y with
      | true =>
        rw [if_pos (.inr (.inl rfl))]
        obtain ⟨w0, hw0, HW⟩ := boxes3 w #[.string b, .string o, .bool false, .bool true, .bool l, .int .u64 s] #[.int .i64 m, .int .u64 i] #[.string ⟨#[]⟩, .string ⟨#[]⟩, .bool false, .bool false, .bool false, .int .u64 0] 24 26 24
        go_enter Tryz.func10, Tryz.ntmps10
        go_wp2_with fail
        rw [← hw0]
        clear hw0
        refine (hck _).mono ?_
        rintro e w2 ⟨rfl, hb2⟩
        have HB2 := Lib.hid (show w2.heap[w.heap.size]? = some (.cells #[.string b, .string o, .bool false, .bool true, .bool l, .int .u64 s] 24 (0, 0)) ∧ w2.heap[w.heap.size + 1]? = some (.cells #[.int .i64 m, .int .u64 i] 26 (0, 0)) ∧ w2.heap[w.heap.size + 1 + 1]? = some (.cells #[.string ⟨#[]⟩, .string ⟨#[]⟩, .bool false, .bool false, .bool false, .int .u64 0] 24 (0, 0)) ∧ Below w.heap.size w w2 ∧ w.heap.size + 1 + 1 + 1 ≤ w2.heap.size from by
          obtain ⟨h1, h2, h3, h4, h5⟩ := HW.out
          exact ⟨(hb2.block _ (blk_lt h1)).trans h1, (hb2.block _ (blk_lt h2)).trans h2, (hb2.block _ (blk_lt h3)).trans h3, below_via hb2 h5, by have := hb2.size; omega⟩)
        obtain ⟨c0, c1, c2, c3, c4, c5⟩ := blk_cells6 HB2.out.1
        have f0 : ∀ j, w2.frozen? ⟨w.heap.size, j, none⟩ = false := fun j => blk_frozen HB2.out.1 j
        obtain ⟨r0, r1⟩ := blk_cells2 HB2.out.2.1
        obtain ⟨d0, d1, d2, d3, d4, d5⟩ := blk_cells6 HB2.out.2.2.1
        have e0 : ∀ j, w2.frozen? ⟨w.heap.size + 1 + 1, j, none⟩ = false := fun j => blk_frozen HB2.out.2.2.1 j
        have hzz0 : w.heap.size < w2.heap.size := by have := HB2.out.2.2.2.2; omega
        have hzz1 : w.heap.size + 1 < w2.heap.size := by have := HB2.out.2.2.2.2; omega
        have hzz2 : w.heap.size + 1 + 1 < w2.heap.size := by have := HB2.out.2.2.2.2; omega
        clear hb2 HW hck
        go_wp2_with fail
        have hs6 := blk_set6 HB2.out.2.2.1 (.string b) (.string o) (.bool false) (.bool true) (.bool l) (.int .u64 s)
        have hbl : Below w.heap.size w ((((((w2.setCell ⟨w.heap.size + 1 + 1, 0, none⟩ (.string b)).setCell ⟨w.heap.size + 1 + 1, 1, none⟩ (.string o)).setCell ⟨w.heap.size + 1 + 1, 2, none⟩ (.bool false)).setCell ⟨w.heap.size + 1 + 1, 3, none⟩ (.bool true)).setCell ⟨w.heap.size + 1 + 1, 4, none⟩ (.bool l)).setCell ⟨w.heap.size + 1 + 1, 5, none⟩ (.int .u64 s)) := (((((HB2.out.2.2.2.1.setCell (by simp; try omega) _).setCell (by simp; try omega) _).setCell (by simp; try omega) _).setCell (by simp; try omega) _).setCell (by simp; try omega) _).setCell (by simp; try omega) _
        generalize ((((((w2.setCell ⟨w.heap.size + 1 + 1, 0, none⟩ (.string b)).setCell ⟨w.heap.size + 1 + 1, 1, none⟩ (.string o)).setCell ⟨w.heap.size + 1 + 1, 2, none⟩ (.bool false)).setCell ⟨w.heap.size + 1 + 1, 3, none⟩ (.bool true)).setCell ⟨w.heap.size + 1 + 1, 4, none⟩ (.bool l)).setCell ⟨w.heap.size + 1 + 1, 5, none⟩ (.int .u64 s)) = w6 at *
        obtain ⟨t0, t1, t2, t3, t4, t5⟩ := blk_cells6 hs6
        refine bodyPost_ret (v := .tuple #[.agg #[.string b, .string o, .bool false, .bool true, .bool l, .int .u64 s], .int .i64 0]) (by simp [results, Tryz.results10, go_sem, t0, t1, t2, t3, t4, t5]) rfl ⟨?_, hbl⟩
        rfl
      | false =>
        by_cases hns : now < s
        · rw [if_pos (.inr (.inr (.inl hns)))]
          have dns : decide (now < s) = true := by simpa using hns
          obtain ⟨w0, hw0, HW⟩ := boxes3 w #[.string b, .string o, .bool false, .bool false, .bool l, .int .u64 s] #[.int .i64 m, .int .u64 i] #[.string ⟨#[]⟩, .string ⟨#[]⟩, .bool false, .bool false, .bool false, .int .u64 0] 24 26 24
          go_enter Tryz.func10, Tryz.ntmps10
          go_wp2_with fail
          rw [← hw0]
          clear hw0
          refine (hck _).mono ?_
          rintro e w2 ⟨rfl, hb2⟩
          have HB2 := Lib.hid (show w2.heap[w.heap.size]? = some (.cells #[.string b, .string o, .bool false, .bool false, .bool l, .int .u64 s] 24 (0, 0)) ∧ w2.heap[w.heap.size + 1]? = some (.cells #[.int .i64 m, .int .u64 i] 26 (0, 0)) ∧ w2.heap[w.heap.size + 1 + 1]? = some (.cells #[.string ⟨#[]⟩, .string ⟨#[]⟩, .bool false, .bool false, .bool false, .int .u64 0] 24 (0, 0)) ∧ Below w.heap.size w w2 ∧ w.heap.size + 1 + 1 + 1 ≤ w2.heap.size from by
            obtain ⟨h1, h2, h3, h4, h5⟩ := HW.out
            exact ⟨(hb2.block _ (blk_lt h1)).trans h1, (hb2.block _ (blk_lt h2)).trans h2, (hb2.block _ (blk_lt h3)).trans h3, below_via hb2 h5, by have := hb2.size; omega⟩)
          obtain ⟨c0, c1, c2, c3, c4, c5⟩ := blk_cells6 HB2.out.1
          have f0 : ∀ j, w2.frozen? ⟨w.heap.size, j, none⟩ = false := fun j => blk_frozen HB2.out.1 j
          obtain ⟨r0, r1⟩ := blk_cells2 HB2.out.2.1
          obtain ⟨d0, d1, d2, d3, d4, d5⟩ := blk_cells6 HB2.out.2.2.1
          have e0 : ∀ j, w2.frozen? ⟨w.heap.size + 1 + 1, j, none⟩ = false := fun j => blk_frozen HB2.out.2.2.1 j
          have hzz0 : w.heap.size < w2.heap.size := by have := HB2.out.2.2.2.2; omega
          have hzz1 : w.heap.size + 1 < w2.heap.size := by have := HB2.out.2.2.2.2; omega
          have hzz2 : w.heap.size + 1 + 1 < w2.heap.size := by have := HB2.out.2.2.2.2; omega
          clear hb2 HW hck
          go_wp2_with fail
          have hs6 := blk_set6 HB2.out.2.2.1 (.string b) (.string o) (.bool false) (.bool false) (.bool l) (.int .u64 s)
          have hbl : Below w.heap.size w ((((((w2.setCell ⟨w.heap.size + 1 + 1, 0, none⟩ (.string b)).setCell ⟨w.heap.size + 1 + 1, 1, none⟩ (.string o)).setCell ⟨w.heap.size + 1 + 1, 2, none⟩ (.bool false)).setCell ⟨w.heap.size + 1 + 1, 3, none⟩ (.bool false)).setCell ⟨w.heap.size + 1 + 1, 4, none⟩ (.bool l)).setCell ⟨w.heap.size + 1 + 1, 5, none⟩ (.int .u64 s)) := (((((HB2.out.2.2.2.1.setCell (by simp; try omega) _).setCell (by simp; try omega) _).setCell (by simp; try omega) _).setCell (by simp; try omega) _).setCell (by simp; try omega) _).setCell (by simp; try omega) _
          generalize ((((((w2.setCell ⟨w.heap.size + 1 + 1, 0, none⟩ (.string b)).setCell ⟨w.heap.size + 1 + 1, 1, none⟩ (.string o)).setCell ⟨w.heap.size + 1 + 1, 2, none⟩ (.bool false)).setCell ⟨w.heap.size + 1 + 1, 3, none⟩ (.bool false)).setCell ⟨w.heap.size + 1 + 1, 4, none⟩ (.bool l)).setCell ⟨w.heap.size + 1 + 1, 5, none⟩ (.int .u64 s)) = w6 at *
          obtain ⟨t0, t1, t2, t3, t4, t5⟩ := blk_cells6 hs6
          refine bodyPost_ret (v := .tuple #[.agg #[.string b, .string o, .bool false, .bool false, .bool l, .int .u64 s], .int .i64 0]) (by simp [results, Tryz.results10, go_sem, t0, t1, t2, t3, t4, t5]) rfl ⟨?_, hbl⟩
          rfl
        · have dns : decide (now < s) = false := by simpa using hns
          have q1 : IntKind.wrap .u64 (now - s) = now - s := IntWalk.u64_in _ (by omega)
          by_cases hni : now - s < i
          · rw [if_pos (.inr (.inr (.inr hni)))]
            have dni : decide (now - s < i) = true := by simpa using hni
            obtain ⟨w0, hw0, HW⟩ := boxes3 w #[.string b, .string o, .bool false, .bool false, .bool l, .int .u64 s] #[.int .i64 m, .int .u64 i] #[.string ⟨#[]⟩, .string ⟨#[]⟩, .bool false, .bool false, .bool false, .int .u64 0] 24 26 24
            go_enter Tryz.func10, Tryz.ntmps10
            go_wp2_with fail
            rw [← hw0]
            clear hw0
            refine (hck _).mono ?_
            rintro e w2 ⟨rfl, hb2⟩
            have HB2 := Lib.hid (show w2.heap[w.heap.size]? = some (.cells #[.string b, .string o, .bool false, .bool false, .bool l, .int .u64 s] 24 (0, 0)) ∧ w2.heap[w.heap.size + 1]? = some (.cells #[.int .i64 m, .int .u64 i] 26 (0, 0)) ∧ w2.heap[w.heap.size + 1 + 1]? = some (.cells #[.string ⟨#[]⟩, .string ⟨#[]⟩, .bool false, .bool false, .bool false, .int .u64 0] 24 (0, 0)) ∧ Below w.heap.size w w2 ∧ w.heap.size + 1 + 1 + 1 ≤ w2.heap.size from by
              obtain ⟨h1, h2, h3, h4, h5⟩ := HW.out
              exact ⟨(hb2.block _ (blk_lt h1)).trans h1, (hb2.block _ (blk_lt h2)).trans h2, (hb2.block _ (blk_lt h3)).trans h3, below_via hb2 h5, by have := hb2.size; omega⟩)
            obtain ⟨c0, c1, c2, c3, c4, c5⟩ := blk_cells6 HB2.out.1
            have f0 : ∀ j, w2.frozen? ⟨w.heap.size, j, none⟩ = false := fun j => blk_frozen HB2.out.1 j
            obtain ⟨r0, r1⟩ := blk_cells2 HB2.out.2.1
            obtain ⟨d0, d1, d2, d3, d4, d5⟩ := blk_cells6 HB2.out.2.2.1
            have e0 : ∀ j, w2.frozen? ⟨w.heap.size + 1 + 1, j, none⟩ = false := fun j => blk_frozen HB2.out.2.2.1 j
            have hzz0 : w.heap.size < w2.heap.size := by have := HB2.out.2.2.2.2; omega
            have hzz1 : w.heap.size + 1 < w2.heap.size := by have := HB2.out.2.2.2.2; omega
            have hzz2 : w.heap.size + 1 + 1 < w2.heap.size := by have := HB2.out.2.2.2.2; omega
            clear hb2 HW hck
            go_wp2_with fail
            have hs6 := blk_set6 HB2.out.2.2.1 (.string b) (.string o) (.bool false) (.bool false) (.bool l) (.int .u64 s)
            have hbl : Below w.heap.size w ((((((w2.setCell ⟨w.heap.size + 1 + 1, 0, none⟩ (.string b)).setCell ⟨w.heap.size + 1 + 1, 1, none⟩ (.string o)).setCell ⟨w.heap.size + 1 + 1, 2, none⟩ (.bool false)).setCell ⟨w.heap.size + 1 + 1, 3, none⟩ (.bool false)).setCell ⟨w.heap.size + 1 + 1, 4, none⟩ (.bool l)).setCell ⟨w.heap.size + 1 + 1, 5, none⟩ (.int .u64 s)) := (((((HB2.out.2.2.2.1.setCell (by simp; try omega) _).setCell (by simp; try omega) _).setCell (by simp; try omega) _).setCell (by simp; try omega) _).setCell (by simp; try omega) _).setCell (by simp; try omega) _
            generalize ((((((w2.setCell ⟨w.heap.size + 1 + 1, 0, none⟩ (.string b)).setCell ⟨w.heap.size + 1 + 1, 1, none⟩ (.string o)).setCell ⟨w.heap.size + 1 + 1, 2, none⟩ (.bool false)).setCell ⟨w.heap.size + 1 + 1, 3, none⟩ (.bool false)).setCell ⟨w.heap.size + 1 + 1, 4, none⟩ (.bool l)).setCell ⟨w.heap.size + 1 + 1, 5, none⟩ (.int .u64 s)) = w6 at *
            obtain ⟨t0, t1, t2, t3, t4, t5⟩ := blk_cells6 hs6
            refine bodyPost_ret (v := .tuple #[.agg #[.string b, .string o, .bool false, .bool false, .bool l, .int .u64 s], .int .i64 0]) (by simp [results, Tryz.results10, go_sem, t0, t1, t2, t3, t4, t5]) rfl ⟨?_, hbl⟩
            rfl
          · rw [if_neg (by simp; omega)]
            have dni : decide (now - s < i) = false := by simpa using hni
            by_cases hz : b.size = 0
            · rw [if_pos hz]
              have e00 : b.toList.isEmpty = true := size_eq0 b (by omega)
              clear hz
              obtain ⟨w0, hw0, HW⟩ := boxes3 w #[.string b, .string o, .bool false, .bool false, .bool l, .int .u64 s] #[.int .i64 m, .int .u64 i] #[.string ⟨#[]⟩, .string ⟨#[]⟩, .bool false, .bool false, .bool false, .int .u64 0] 24 26 24
              go_enter Tryz.func10, Tryz.ntmps10
              go_wp2_with fail
              rw [← hw0]
              clear hw0
              refine (hck _).mono ?_
              rintro e w2 ⟨rfl, hb2⟩
              have HB2 := Lib.hid (show w2.heap[w.heap.size]? = some (.cells #[.string b, .string o, .bool false, .bool false, .bool l, .int .u64 s] 24 (0, 0)) ∧ w2.heap[w.heap.size + 1]? = some (.cells #[.int .i64 m, .int .u64 i] 26 (0, 0)) ∧ w2.heap[w.heap.size + 1 + 1]? = some (.cells #[.string ⟨#[]⟩, .string ⟨#[]⟩, .bool false, .bool false, .bool false, .int .u64 0] 24 (0, 0)) ∧ Below w.heap.size w w2 ∧ w.heap.size + 1 + 1 + 1 ≤ w2.heap.size from by
                obtain ⟨h1, h2, h3, h4, h5⟩ := HW.out
                exact ⟨(hb2.block _ (blk_lt h1)).trans h1, (hb2.block _ (blk_lt h2)).trans h2, (hb2.block _ (blk_lt h3)).trans h3, below_via hb2 h5, by have := hb2.size; omega⟩)
              obtain ⟨c0, c1, c2, c3, c4, c5⟩ := blk_cells6 HB2.out.1
              have f0 : ∀ j, w2.frozen? ⟨w.heap.size, j, none⟩ = false := fun j => blk_frozen HB2.out.1 j
              obtain ⟨r0, r1⟩ := blk_cells2 HB2.out.2.1
              obtain ⟨d0, d1, d2, d3, d4, d5⟩ := blk_cells6 HB2.out.2.2.1
              have e0 : ∀ j, w2.frozen? ⟨w.heap.size + 1 + 1, j, none⟩ = false := fun j => blk_frozen HB2.out.2.2.1 j
              have hzz0 : w.heap.size < w2.heap.size := by have := HB2.out.2.2.2.2; omega
              have hzz1 : w.heap.size + 1 < w2.heap.size := by have := HB2.out.2.2.2.2; omega
              have hzz2 : w.heap.size + 1 + 1 < w2.heap.size := by have := HB2.out.2.2.2.2; omega
              clear hb2 HW hck
              go_wp2_with fail
              have hl3 : LineAt w2.heap.size ⟨b, o, false, false, l, s⟩ (w2.alloc (.cells #[.string b, .string o, .bool false, .bool false, .bool l, .int .u64 s] 68)) := heap_alloc_new w2 _
              have hbb3 : Below w2.heap.size w2 (w2.alloc (.cells #[.string b, .string o, .bool false, .bool false, .bool l, .int .u64 s] 68)) := below_alloc (Below.refl _ _) _
              have HR3 := Lib.hid ((hbb3.block _ hzz2).trans HB2.out.2.2.1)
              have HB3 := Lib.hid (show Below w.heap.size w (w2.alloc (.cells #[.string b, .string o, .bool false, .bool false, .bool l, .int .u64 s] 68)) ∧ w2.heap.size < (w2.alloc (.cells #[.string b, .string o, .bool false, .bool false, .bool l, .int .u64 s] 68)).heap.size from ⟨below_via hbb3 HB2.out.2.2.2.1, by simp⟩)
              clear hbb3 c0 c1 c2 c3 c4 c5 f0 r0 r1 d0 d1 d2 d3 d4 d5 e0
              generalize w2.alloc (.cells #[.string b, .string o, .bool false, .bool false, .bool l, .int .u64 s] 68) = w3 at *
              refine (end_any _ _ w3 hl3).mono ?_
              rintro e w4 ⟨rfl, hg, hl4⟩
              have HL4 := Lib.hid hl4
              have HR4 := Lib.hid (show w4.heap[w.heap.size + 1 + 1]? = _ from (hg.block _ (by have := HB3.out.2; omega) (fun e => by have := Option.some.inj e; omega)).trans HR3.out)
              have HB4 := Lib.hid (show Below w.heap.size w w4 from HB3.out.1.grown hg HB3.out.1.size (fun k hk => by have := Option.some.inj hk; omega))
              have HZ4 := Lib.hid (show w2.heap.size < w4.heap.size from blk_lt hl4)
              clear hl4 hg
              obtain ⟨l0, l1, l2, l3, l4, l5⟩ := line_cells HL4.out
              have lf : ∀ j, w4.frozen? ⟨w2.heap.size, j, none⟩ = false := fun j => line_free HL4.out j
              obtain ⟨d0, d1, d2, d3, d4, d5⟩ := blk_cells6 HR4.out
              have e0 : ∀ j, w4.frozen? ⟨w.heap.size + 1 + 1, j, none⟩ = false := fun j => blk_frozen HR4.out j
              go_wp2_with fail
              have hs6 := blk_set6 HR4.out (.string ⟨#[]⟩) (.string o) (.bool true) (.bool false) (.bool false) (.int .u64 s)
              have hbl : Below w.heap.size w ((((((w4.setCell ⟨w.heap.size + 1 + 1, 0, none⟩ (.string ⟨#[]⟩)).setCell ⟨w.heap.size + 1 + 1, 1, none⟩ (.string o)).setCell ⟨w.heap.size + 1 + 1, 2, none⟩ (.bool true)).setCell ⟨w.heap.size + 1 + 1, 3, none⟩ (.bool false)).setCell ⟨w.heap.size + 1 + 1, 4, none⟩ (.bool false)).setCell ⟨w.heap.size + 1 + 1, 5, none⟩ (.int .u64 s)) := (((((HB4.out.setCell (by simp; try omega) _).setCell (by simp; try omega) _).setCell (by simp; try omega) _).setCell (by simp; try omega) _).setCell (by simp; try omega) _).setCell (by simp; try omega) _
              generalize ((((((w4.setCell ⟨w.heap.size + 1 + 1, 0, none⟩ (.string ⟨#[]⟩)).setCell ⟨w.heap.size + 1 + 1, 1, none⟩ (.string o)).setCell ⟨w.heap.size + 1 + 1, 2, none⟩ (.bool true)).setCell ⟨w.heap.size + 1 + 1, 3, none⟩ (.bool false)).setCell ⟨w.heap.size + 1 + 1, 4, none⟩ (.bool false)).setCell ⟨w.heap.size + 1 + 1, 5, none⟩ (.int .u64 s)) = w6 at *
              obtain ⟨t0, t1, t2, t3, t4, t5⟩ := blk_cells6 hs6
              refine bodyPost_ret (v := .tuple #[.agg #[.string ⟨#[]⟩, .string o, .bool true, .bool false, .bool false, .int .u64 s], .int .i64 0]) (by simp [results, Tryz.results10, go_sem, t0, t1, t2, t3, t4, t5]) rfl ⟨?_, hbl⟩
              rfl
            · rw [if_neg hz]
              have e00 : b.toList.isEmpty = false := size_ne b (by omega)
              clear hz
              obtain ⟨w0, hw0, HW⟩ := boxes3 w #[.string b, .string o, .bool false, .bool false, .bool l, .int .u64 s] #[.int .i64 m, .int .u64 i] #[.string ⟨#[]⟩, .string ⟨#[]⟩, .bool false, .bool false, .bool false, .int .u64 0] 24 26 24
              go_enter Tryz.func10, Tryz.ntmps10
              go_wp2_with fail
              rw [← hw0]
              clear hw0
              refine (hck _).mono ?_
              rintro e w2 ⟨rfl, hb2⟩
              have HB2 := Lib.hid (show w2.heap[w.heap.size]? = some (.cells #[.string b, .string o, .bool false, .bool false, .bool l, .int .u64 s] 24 (0, 0)) ∧ w2.heap[w.heap.size + 1]? = some (.cells #[.int .i64 m, .int .u64 i] 26 (0, 0)) ∧ w2.heap[w.heap.size + 1 + 1]? = some (.cells #[.string ⟨#[]⟩, .string ⟨#[]⟩, .bool false, .bool false, .bool false, .int .u64 0] 24 (0, 0)) ∧ Below w.heap.size w w2 ∧ w.heap.size + 1 + 1 + 1 ≤ w2.heap.size from by
                obtain ⟨h1, h2, h3, h4, h5⟩ := HW.out
                exact ⟨(hb2.block _ (blk_lt h1)).trans h1, (hb2.block _ (blk_lt h2)).trans h2, (hb2.block _ (blk_lt h3)).trans h3, below_via hb2 h5, by have := hb2.size; omega⟩)
              obtain ⟨c0, c1, c2, c3, c4, c5⟩ := blk_cells6 HB2.out.1
              have f0 : ∀ j, w2.frozen? ⟨w.heap.size, j, none⟩ = false := fun j => blk_frozen HB2.out.1 j
              obtain ⟨r0, r1⟩ := blk_cells2 HB2.out.2.1
              obtain ⟨d0, d1, d2, d3, d4, d5⟩ := blk_cells6 HB2.out.2.2.1
              have e0 : ∀ j, w2.frozen? ⟨w.heap.size + 1 + 1, j, none⟩ = false := fun j => blk_frozen HB2.out.2.2.1 j
              have hzz0 : w.heap.size < w2.heap.size := by have := HB2.out.2.2.2.2; omega
              have hzz1 : w.heap.size + 1 < w2.heap.size := by have := HB2.out.2.2.2.2; omega
              have hzz2 : w.heap.size + 1 + 1 < w2.heap.size := by have := HB2.out.2.2.2.2; omega
              clear hb2 HW hck
              go_wp2_with fail
              have hl3 : LineAt w2.heap.size ⟨b, o, false, false, l, s⟩ (w2.alloc (.cells #[.string b, .string o, .bool false, .bool false, .bool l, .int .u64 s] 68)) := heap_alloc_new w2 _
              have hbb3 : Below w2.heap.size w2 (w2.alloc (.cells #[.string b, .string o, .bool false, .bool false, .bool l, .int .u64 s] 68)) := below_alloc (Below.refl _ _) _
              have HR3 := Lib.hid ((hbb3.block _ hzz2).trans HB2.out.2.2.1)
              have HB3 := Lib.hid (show Below w.heap.size w (w2.alloc (.cells #[.string b, .string o, .bool false, .bool false, .bool l, .int .u64 s] 68)) ∧ w2.heap.size < (w2.alloc (.cells #[.string b, .string o, .bool false, .bool false, .bool l, .int .u64 s] 68)).heap.size from ⟨below_via hbb3 HB2.out.2.2.2.1, by simp⟩)
              clear hbb3 c0 c1 c2 c3 c4 c5 f0 r0 r1 d0 d1 d2 d3 d4 d5 e0
              generalize w2.alloc (.cells #[.string b, .string o, .bool false, .bool false, .bool l, .int .u64 s] 68) = w3 at *
              refine (reply_close _ _ 408 s408 0 w3 (HG.out.below HB3.out.1) hl3 ho (by decide) w408).mono ?_
              rintro e w4 ⟨rfl, hg, hl4⟩
              have HL4 := Lib.hid hl4
              have HR4 := Lib.hid (show w4.heap[w.heap.size + 1 + 1]? = _ from (hg.block _ (by have := HB3.out.2; omega) (fun e => by have := Option.some.inj e; omega)).trans HR3.out)
              have HB4 := Lib.hid (show Below w.heap.size w w4 from HB3.out.1.grown hg HB3.out.1.size (fun k hk => by have := Option.some.inj hk; omega))
              have HZ4 := Lib.hid (show w2.heap.size < w4.heap.size from blk_lt hl4)
              clear hl4 hg
              obtain ⟨l0, l1, l2, l3, l4, l5⟩ := line_cells HL4.out
              have lf : ∀ j, w4.frozen? ⟨w2.heap.size, j, none⟩ = false := fun j => line_free HL4.out j
              obtain ⟨d0, d1, d2, d3, d4, d5⟩ := blk_cells6 HR4.out
              have e0 : ∀ j, w4.frozen? ⟨w.heap.size + 1 + 1, j, none⟩ = false := fun j => blk_frozen HR4.out j
              go_wp2_with fail
              have HB3 := Lib.hid (show Below w.heap.size w w4 ∧ w2.heap.size < w4.heap.size from ⟨HB4.out, HZ4.out⟩)
              have HR3 := HR4
              have hl3' := HL4.out
              clear HL4 HR4 HB4 HZ4 l0 l1 l2 l3 l4 l5 lf d0 d1 d2 d3 d4 d5 e0
              refine (end_any _ _ w4 hl3').mono ?_
              rintro e w5 ⟨rfl, hg, hl4⟩
              have HL4 := Lib.hid hl4
              have HR4 := Lib.hid (show w5.heap[w.heap.size + 1 + 1]? = _ from (hg.block _ (by have := HB3.out.2; omega) (fun e => by have := Option.some.inj e; omega)).trans HR3.out)
              have HB4 := Lib.hid (show Below w.heap.size w w5 from HB3.out.1.grown hg HB3.out.1.size (fun k hk => by have := Option.some.inj hk; omega))
              have HZ4 := Lib.hid (show w2.heap.size < w5.heap.size from blk_lt hl4)
              clear hl4 hg
              obtain ⟨l0, l1, l2, l3, l4, l5⟩ := line_cells HL4.out
              have lf : ∀ j, w5.frozen? ⟨w2.heap.size, j, none⟩ = false := fun j => line_free HL4.out j
              obtain ⟨d0, d1, d2, d3, d4, d5⟩ := blk_cells6 HR4.out
              have e0 : ∀ j, w5.frozen? ⟨w.heap.size + 1 + 1, j, none⟩ = false := fun j => blk_frozen HR4.out j
              go_wp2_with fail
              have hs6 := blk_set6 HR4.out (.string ⟨#[]⟩) (.string (o ++ s408)) (.bool true) (.bool false) (.bool false) (.int .u64 s)
              have hbl : Below w.heap.size w ((((((w5.setCell ⟨w.heap.size + 1 + 1, 0, none⟩ (.string ⟨#[]⟩)).setCell ⟨w.heap.size + 1 + 1, 1, none⟩ (.string (o ++ s408))).setCell ⟨w.heap.size + 1 + 1, 2, none⟩ (.bool true)).setCell ⟨w.heap.size + 1 + 1, 3, none⟩ (.bool false)).setCell ⟨w.heap.size + 1 + 1, 4, none⟩ (.bool false)).setCell ⟨w.heap.size + 1 + 1, 5, none⟩ (.int .u64 s)) := (((((HB4.out.setCell (by simp; try omega) _).setCell (by simp; try omega) _).setCell (by simp; try omega) _).setCell (by simp; try omega) _).setCell (by simp; try omega) _).setCell (by simp; try omega) _
              generalize ((((((w5.setCell ⟨w.heap.size + 1 + 1, 0, none⟩ (.string ⟨#[]⟩)).setCell ⟨w.heap.size + 1 + 1, 1, none⟩ (.string (o ++ s408))).setCell ⟨w.heap.size + 1 + 1, 2, none⟩ (.bool true)).setCell ⟨w.heap.size + 1 + 1, 3, none⟩ (.bool false)).setCell ⟨w.heap.size + 1 + 1, 4, none⟩ (.bool false)).setCell ⟨w.heap.size + 1 + 1, 5, none⟩ (.int .u64 s)) = w6 at *
              obtain ⟨t0, t1, t2, t3, t4, t5⟩ := blk_cells6 hs6
              refine bodyPost_ret (v := .tuple #[.agg #[.string ⟨#[]⟩, .string (o ++ s408), .bool true, .bool false, .bool false, .int .u64 s], .int .i64 0]) (by simp [results, Tryz.results10, go_sem, t0, t1, t2, t3, t4, t5]) rfl ⟨?_, hbl⟩
              rfl
end Go.Proofs.YtaihnhhapplmbaaGreatDoor.Sv
