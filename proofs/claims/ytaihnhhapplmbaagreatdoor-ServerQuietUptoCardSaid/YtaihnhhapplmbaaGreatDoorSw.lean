/- Package server: Look at two connections. -/
import Derived.Test.YtaihnhhapplmbaaGreatDoorSq
set_option linter.unusedVariables false
set_option linter.unusedSimpArgs false
namespace Go.Proofs.YtaihnhhapplmbaaGreatDoor.Sv
open Go.Sort Go.RowKit Go.Maps Go.Proofs Go.Proofs.YtaihnhhapplmbaaGreatDoorW.PrintWords Go.Proofs.YtaihnhhapplmbaaGreatDoor.Bs Go.Proofs.YtaihnhhapplmbaaGreatDoor.Ir Go.Proofs.YtaihnhhapplmbaaGreatDoor.Gn Go.Proofs.YtaihnhhapplmbaaGreatDoor.Ht

theorem boxes4 (w : World) (cs rs zs ds : Array Value) (t1 t2 t3 t4 : TypeId) : ∃ w0, w0 = (((w.alloc (.cells cs t1)).alloc (.cells rs t2)).alloc (.cells zs t3)).alloc (.cells ds t4) ∧ Hid (w0.heap[w.heap.size]? = some (.cells cs t1 (0, 0)) ∧ w0.heap[w.heap.size + 1]? = some (.cells rs t2 (0, 0)) ∧ w0.heap[w.heap.size + 1 + 1]? = some (.cells zs t3 (0, 0)) ∧ w0.heap[w.heap.size + 1 + 1 + 1]? = some (.cells ds t4 (0, 0)) ∧ w0.heap.size = w.heap.size + 1 + 1 + 1 + 1 ∧ Below w.heap.size w w0) := by
  obtain ⟨w3, rfl, H⟩ := boxes3 w cs rs zs t1 t2 t3
  obtain ⟨h1, h2, h3, h4, h5⟩ := H.out
  refine ⟨_, rfl, Lib.hid ⟨?_, ?_, ?_, ?_, by simp, below_alloc h5 _⟩⟩
  · rw [Below.heap_alloc _ _ _ (by omega)]; exact h1
  · rw [Below.heap_alloc _ _ _ (by omega)]; exact h2
  · rw [Below.heap_alloc _ _ _ (by omega)]; exact h3
  · rw [← h4]; exact heap_alloc_new _ _
structure Lk (w : World) (g : Nat) (k : Cn) (W : World) : Prop where
  ln : LineAt g k W
  rc : W.heap[w.heap.size + 1 + 1]? = some (.cells #[.string ⟨#[]⟩, .string ⟨#[]⟩, .bool false, .bool false, .bool false, .int .u64 0] 24 (0, 0))
  rd : W.heap[w.heap.size + 1 + 1 + 1]? = some (.cells #[.int .u8 0, .slice none 0 0] 40 (0, 0))
  bl : Below w.heap.size w W
  hg : w.heap.size + 1 + 1 + 1 < g
theorem Lk.below {w W W' : World} {g : Nat} {k : Cn} (h : Lk w g k W) (hb : Below W.heap.size W W') : Lk w g k W' :=
  ⟨h.ln.below hb, (hb.block _ (blk_lt h.rc)).trans h.rc, (hb.block _ (blk_lt h.rd)).trans h.rd, below_via hb h.bl, h.hg⟩
theorem Lk.grown {w W W' : World} {g : Nat} {k k' : Cn} (h : Lk w g k W) (hg : W.grownBy W' (some g)) (hl : LineAt g k' W') : Lk w g k' W' := by
  have := h.hg
  exact ⟨hl, (hg.block _ (blk_lt h.rc) (fun e => by have := Option.some.inj e; omega)).trans h.rc, (hg.block _ (blk_lt h.rd) (fun e => by have := Option.some.inj e; omega)).trans h.rd, h.bl.grown hg h.bl.size (fun k hk => by have := Option.some.inj hk; omega), h.hg⟩
theorem lk_end {w W : World} {g : Nat} {k : Cn} (h : Lk w g k W) (u0 u1 u2 u3 u4 u5 : Value) : ∀ WE, WE = ((((((((W.setCell ⟨w.heap.size + 1 + 1, 0, none⟩ u0).setCell ⟨w.heap.size + 1 + 1, 1, none⟩ u1).setCell ⟨w.heap.size + 1 + 1, 2, none⟩ u2).setCell ⟨w.heap.size + 1 + 1, 3, none⟩ u3).setCell ⟨w.heap.size + 1 + 1, 4, none⟩ u4).setCell ⟨w.heap.size + 1 + 1, 5, none⟩ u5).setCell ⟨w.heap.size + 1 + 1 + 1, 0, none⟩ (.int .u8 0)).setCell ⟨w.heap.size + 1 + 1 + 1, 1, none⟩ (.slice none 0 0)) →
    WE.heap[w.heap.size + 1 + 1]? = some (.cells #[u0, u1, u2, u3, u4, u5] 24 (0, 0)) ∧ WE.heap[w.heap.size + 1 + 1 + 1]? = some (.cells #[.int .u8 0, .slice none 0 0] 40 (0, 0)) ∧ Below w.heap.size w WE := by
  rintro WE rfl
  have h6 := blk_set6 h.rc u0 u1 u2 u3 u4 u5
  have n1 : w.heap.size + 1 + 1 ≠ w.heap.size + 1 + 1 + 1 := by omega
  refine ⟨blk_far (blk_far h6 (by simp) _) (by simp) _, ?_, ?_⟩
  · have f0 := blk_far (p := ⟨w.heap.size + 1 + 1, 0, none⟩) h.rd (by simp) u0
    have f1 := blk_far (p := ⟨w.heap.size + 1 + 1, 1, none⟩) f0 (by simp) u1
    have f2 := blk_far (p := ⟨w.heap.size + 1 + 1, 2, none⟩) f1 (by simp) u2
    have f3 := blk_far (p := ⟨w.heap.size + 1 + 1, 3, none⟩) f2 (by simp) u3
    have f4 := blk_far (p := ⟨w.heap.size + 1 + 1, 4, none⟩) f3 (by simp) u4
    have f5 := blk_far (p := ⟨w.heap.size + 1 + 1, 5, none⟩) f4 (by simp) u5
    exact blk_put (blk_put f5 0 (.int .u8 0) rfl) 1 (.slice none 0 0) rfl
  · refine (((((((h.bl.setCell ?_ _).setCell ?_ _).setCell ?_ _).setCell ?_ _).setCell ?_ _).setCell ?_ _).setCell ?_ _).setCell ?_ _
    all_goals (simp; try omega)
def live1 : ByteArray := ⟨#[71, 69, 84, 32, 47, 120, 32, 72, 84, 84, 80, 47, 49, 46, 49, 13, 10, 13, 10, 120, 13, 10]⟩
def live2 : ByteArray := ⟨#[120, 13, 10]⟩
theorem live_1 : reqP live1 1000 = .ok ⟨[], ⟨#[]⟩, 19, (⟨#[71, 69, 84]⟩, ⟨#[47, 120]⟩)⟩ := by kernel_rfl
theorem live_2 : reqP live2 1000 = .error 13 := by kernel_rfl
set_option maxRecDepth 100000 in
set_option maxHeartbeats 4000000 in
theorem look_1 (w : World) (G : Gnd w) :
    Calls Tryz.prog 12 #[.agg #[.string ⟨#[71, 69, 84, 32, 47, 120, 32, 72, 84, 84, 80, 47, 49, 46, 49, 13, 10, 13, 10, 120, 13, 10]⟩, .string ⟨#[]⟩, .bool false, .bool false, .bool false, .int .u64 5], .agg #[.int .i64 1000, .int .u64 10], .int .u64 6] w fun e w' => e = .returned (.tuple #[.agg #[.string live2, .string s404, .bool false, .bool false, .bool false, .int .u64 6], .agg #[.int .u8 0, .slice none 0 0], .int .u8 1, .int .i64 0]) ∧ Below w.heap.size w w' := by
  have hck := fun W => check_any live1 ⟨#[]⟩ false false false 5 1000 10 W (by decide) (by decide)
  rw [show checkI live1 ⟨#[]⟩ false false false 1000 = 0 from by decide] at hck
  have hrd := fun W (hb : Below w.heap.size w W) => (readRequest_any live1 1000 W (G.below hb) (G.below hb).low (by decide)).mono (fun {e w'} h => show ∃ A c, e = .returned (.tuple #[.agg #[.string ⟨#[71, 69, 84]⟩, .string ⟨#[47, 120]⟩, .slice A 0 c, .string ⟨#[]⟩], .int .i64 19, .int .i64 0]) ∧ Below W.heap.size W w' from by
    rw [live_1] at h
    obtain ⟨hb', A, c, rfl, _⟩ := h
    exact ⟨A, c, rfl, hb'⟩)
  have HG := Lib.hid G
  clear G
  unfold live1 at hck hrd
  obtain ⟨w0, hw0, HW⟩ := boxes4 w #[.string ⟨#[71, 69, 84, 32, 47, 120, 32, 72, 84, 84, 80, 47, 49, 46, 49, 13, 10, 13, 10, 120, 13, 10]⟩, .string ⟨#[]⟩, .bool false, .bool false, .bool false, .int .u64 5] #[.int .i64 1000, .int .u64 10] #[.string ⟨#[]⟩, .string ⟨#[]⟩, .bool false, .bool false, .bool false, .int .u64 0] #[.int .u8 0, .slice none 0 0] 24 26 24 40
  go_enter Tryz.func12, Tryz.ntmps12
  go_wp2_with fail
  rw [← hw0]
  clear hw0
  refine (hck _).mono ?_
  rintro e w2 ⟨rfl, hb2⟩
  have HB2 := Lib.hid (show w2.heap[w.heap.size]? = some (.cells #[.string ⟨#[71, 69, 84, 32, 47, 120, 32, 72, 84, 84, 80, 47, 49, 46, 49, 13, 10, 13, 10, 120, 13, 10]⟩, .string ⟨#[]⟩, .bool false, .bool false, .bool false, .int .u64 5] 24 (0, 0)) ∧ w2.heap[w.heap.size + 1]? = some (.cells #[.int .i64 1000, .int .u64 10] 26 (0, 0)) ∧ w2.heap[w.heap.size + 1 + 1]? = some (.cells #[.string ⟨#[]⟩, .string ⟨#[]⟩, .bool false, .bool false, .bool false, .int .u64 0] 24 (0, 0)) ∧ w2.heap[w.heap.size + 1 + 1 + 1]? = some (.cells #[.int .u8 0, .slice none 0 0] 40 (0, 0)) ∧ Below w.heap.size w w2 ∧ w.heap.size + 1 + 1 + 1 + 1 ≤ w2.heap.size from by
    obtain ⟨h1, h2, h3, h6, h4, h5⟩ := HW.out
    exact ⟨(hb2.block _ (blk_lt h1)).trans h1, (hb2.block _ (blk_lt h2)).trans h2, (hb2.block _ (blk_lt h3)).trans h3, (hb2.block _ (blk_lt h6)).trans h6, below_via hb2 h5, by have := hb2.size; omega⟩)
  obtain ⟨c0, c1, c2, c3, c4, c5⟩ := blk_cells6 HB2.out.1
  obtain ⟨r0, r1⟩ := blk_cells2 HB2.out.2.1
  have hzz0 : w.heap.size < w2.heap.size := by have := HB2.out.2.2.2.2.2; omega
  have hzz1 : w.heap.size + 1 < w2.heap.size := by have := HB2.out.2.2.2.2.2; omega
  have hzz2 : w.heap.size + 1 + 1 < w2.heap.size := by have := HB2.out.2.2.2.2.2; omega
  have hzz3 : w.heap.size + 1 + 1 + 1 < w2.heap.size := by have := HB2.out.2.2.2.2.2; omega
  clear hb2 HW hck
  go_wp2_with fail
  have hl3 : LineAt w2.heap.size ⟨⟨#[71, 69, 84, 32, 47, 120, 32, 72, 84, 84, 80, 47, 49, 46, 49, 13, 10, 13, 10, 120, 13, 10]⟩, ⟨#[]⟩, false, false, false, 5⟩ (w2.alloc (.cells #[.string ⟨#[71, 69, 84, 32, 47, 120, 32, 72, 84, 84, 80, 47, 49, 46, 49, 13, 10, 13, 10, 120, 13, 10]⟩, .string ⟨#[]⟩, .bool false, .bool false, .bool false, .int .u64 5] 68)) := heap_alloc_new w2 _
  have hbb3 : Below w2.heap.size w2 (w2.alloc (.cells #[.string ⟨#[71, 69, 84, 32, 47, 120, 32, 72, 84, 84, 80, 47, 49, 46, 49, 13, 10, 13, 10, 120, 13, 10]⟩, .string ⟨#[]⟩, .bool false, .bool false, .bool false, .int .u64 5] 68)) := below_alloc (Below.refl _ _) _
  have H3 := Lib.hid (show LineAt w2.heap.size ⟨⟨#[71, 69, 84, 32, 47, 120, 32, 72, 84, 84, 80, 47, 49, 46, 49, 13, 10, 13, 10, 120, 13, 10]⟩, ⟨#[]⟩, false, false, false, 5⟩ (w2.alloc (.cells #[.string ⟨#[71, 69, 84, 32, 47, 120, 32, 72, 84, 84, 80, 47, 49, 46, 49, 13, 10, 13, 10, 120, 13, 10]⟩, .string ⟨#[]⟩, .bool false, .bool false, .bool false, .int .u64 5] 68)) ∧ (w2.alloc (.cells #[.string ⟨#[71, 69, 84, 32, 47, 120, 32, 72, 84, 84, 80, 47, 49, 46, 49, 13, 10, 13, 10, 120, 13, 10]⟩, .string ⟨#[]⟩, .bool false, .bool false, .bool false, .int .u64 5] 68)).heap[w.heap.size + 1 + 1]? = _ ∧ (w2.alloc (.cells #[.string ⟨#[71, 69, 84, 32, 47, 120, 32, 72, 84, 84, 80, 47, 49, 46, 49, 13, 10, 13, 10, 120, 13, 10]⟩, .string ⟨#[]⟩, .bool false, .bool false, .bool false, .int .u64 5] 68)).heap[w.heap.size + 1 + 1 + 1]? = _ ∧ Below w.heap.size w (w2.alloc (.cells #[.string ⟨#[71, 69, 84, 32, 47, 120, 32, 72, 84, 84, 80, 47, 49, 46, 49, 13, 10, 13, 10, 120, 13, 10]⟩, .string ⟨#[]⟩, .bool false, .bool false, .bool false, .int .u64 5] 68)) from ⟨hl3, (hbb3.block _ hzz2).trans HB2.out.2.2.1, (hbb3.block _ hzz3).trans HB2.out.2.2.2.1, below_via hbb3 HB2.out.2.2.2.2.1⟩)
  have HZ := Lib.hid (show w.heap.size + 1 + 1 + 1 < w2.heap.size from hzz3)
  clear hbb3 c0 c1 c2 c3 c4 c5 r0 r1 hl3 HB2
  generalize hgg : w2.heap.size = g at *
  generalize w2.alloc (.cells #[.string ⟨#[71, 69, 84, 32, 47, 120, 32, 72, 84, 84, 80, 47, 49, 46, 49, 13, 10, 13, 10, 120, 13, 10]⟩, .string ⟨#[]⟩, .bool false, .bool false, .bool false, .int .u64 5] 68) = w3 at *
  clear hgg
  refine (hrd _ H3.out.2.2.2).mono ?_
  rintro e w4 ⟨A, cp, rfl, hb4⟩
  have H4 := Lib.hid (show LineAt g ⟨⟨#[71, 69, 84, 32, 47, 120, 32, 72, 84, 84, 80, 47, 49, 46, 49, 13, 10, 13, 10, 120, 13, 10]⟩, ⟨#[]⟩, false, false, false, 5⟩ w4 ∧ w4.heap[w.heap.size + 1 + 1]? = some (.cells #[.string ⟨#[]⟩, .string ⟨#[]⟩, .bool false, .bool false, .bool false, .int .u64 0] 24 (0, 0)) ∧ w4.heap[w.heap.size + 1 + 1 + 1]? = some (.cells #[.int .u8 0, .slice none 0 0] 40 (0, 0)) ∧ Below w.heap.size w w4 from by
    obtain ⟨h1, h2, h3, h4⟩ := H3.out
    exact ⟨h1.below hb4, (hb4.block _ (blk_lt h2)).trans h2, (hb4.block _ (blk_lt h3)).trans h3, below_via hb4 h4⟩)
  have hgz : g < w4.heap.size := blk_lt H4.out.1
  obtain ⟨l0, l1, l2, l3, l4, l5⟩ := line_cells H4.out.1
  have lf : ∀ j, w4.frozen? ⟨g, j, none⟩ = false := fun j => line_free H4.out.1 j
  have e5 : (⟨#[71, 69, 84, 32, 47, 120, 32, 72, 84, 84, 80, 47, 49, 46, 49, 13, 10, 13, 10, 120, 13, 10]⟩ : ByteArray).extract 19 22 = live2 := by decide
  have hK4 : Lk w g ⟨⟨#[71, 69, 84, 32, 47, 120, 32, 72, 84, 84, 80, 47, 49, 46, 49, 13, 10, 13, 10, 120, 13, 10]⟩, ⟨#[]⟩, false, false, false, 5⟩ w4 := ⟨H4.out.1, H4.out.2.1, H4.out.2.2.1, H4.out.2.2.2, HZ.out⟩
  have HK4 := Lib.hid hK4
  have hfd := fun W => find_any A cp [] ⟨#[67, 111, 110, 110, 101, 99, 116, 105, 111, 110]⟩ W (by decide) ⟨rfl, by simp, fun h => absurd h (Nat.lt_irrefl 0)⟩ (by simp) (by decide)
  simp only [show findH [] (⟨#[67, 111, 110, 110, 101, 99, 116, 105, 111, 110]⟩ : ByteArray) = .tuple #[.string ⟨#[]⟩, .bool false] from rfl, List.length_nil] at hfd
  clear hb4 H3 hrd hzz0 hzz1 hzz2 hzz3 H4 hK4
  go_wp2_with fail
  have hk5 : Lk w g ⟨live2, ⟨#[]⟩, false, false, false, 6⟩ ((w4.setCell ⟨g, 0, none⟩ (.string live2)).setCell ⟨g, 5, none⟩ (.int .u64 6)) := HK4.out.grown (grown_set (grown_set (grown_refl w4 (some g)))) (blk_put (blk_put HK4.out.ln 0 (.string live2) rfl) 5 (.int .u64 6) rfl)
  have hz5 : ((w4.setCell ⟨g, 0, none⟩ (.string live2)).setCell ⟨g, 5, none⟩ (.int .u64 6)).heap.size = w4.heap.size := by simp
  generalize (w4.setCell ⟨g, 0, none⟩ (.string live2)).setCell ⟨g, 5, none⟩ (.int .u64 6) = w5 at *
  rw [← hz5] at hgz ⊢
  have hbq : Below w5.heap.size w5 (w5.alloc (.cells #[.string ⟨#[71, 69, 84]⟩, .string ⟨#[47, 120]⟩, .slice A 0 cp, .string ⟨#[]⟩] 51)) := below_alloc (Below.refl _ _) _
  have HQ := Lib.hid (heap_alloc_new w5 (.cells #[.string ⟨#[71, 69, 84]⟩, .string ⟨#[47, 120]⟩, .slice A 0 cp, .string ⟨#[]⟩] 51))
  have HK6 := Lib.hid (hk5.below hbq)
  clear l0 l1 l2 l3 l4 l5 lf HK4 hk5 hbq e5
  generalize w5.alloc (.cells #[.string ⟨#[71, 69, 84]⟩, .string ⟨#[47, 120]⟩, .slice A 0 cp, .string ⟨#[]⟩] 51) = w6 at *
  generalize w5.heap.size = gq at *
  refine (hfd _).mono ?_
  rintro e w7 ⟨rfl, hb7⟩
  have HK7 := Lib.hid (HK6.out.below hb7)
  have hq7 := (hb7.block _ (blk_lt HQ.out)).trans HQ.out
  obtain ⟨q0, q1, q2, q3⟩ := blk_cells4 hq7
  clear HQ HK6 hb7 hq7 hz5
  go_wp2_with fail
  refine (asked_x A cp w7).mono ?_
  rintro e w8 ⟨rfl, hb8⟩
  have HK8 := Lib.hid (HK7.out.below hb8)
  clear HK7 hb8 q0 q1 q2 q3 hfd
  go_wp2_with fail
  have HK9 := Lib.hid (HK8.out.below (below_alloc (Below.refl w8.heap.size w8) (.cells #[.int .u8 0, .slice none 0 0] 40)))
  clear HK8
  generalize w8.alloc (.cells #[.int .u8 0, .slice none 0 0] 40) = w9 at *
  refine (reply_open g _ 404 s404 0 w9 (HG.out.below HK9.out.bl) HK9.out.ln (by decide) (by decide) w404).mono ?_
  rintro e wa ⟨rfl, hga, hla⟩
  have HKA := Lib.hid (show Lk w g ⟨live2, s404, false, false, false, 6⟩ wa from HK9.out.grown hga hla)
  obtain ⟨l0, l1, l2, l3, l4, l5⟩ := line_cells HKA.out.ln
  have lf : ∀ j, wa.frozen? ⟨g, j, none⟩ = false := fun j => line_free HKA.out.ln j
  obtain ⟨d0, d1, d2, d3, d4, d5⟩ := blk_cells6 HKA.out.rc
  have e0 : ∀ j, wa.frozen? ⟨w.heap.size + 1 + 1, j, none⟩ = false := fun j => blk_frozen HKA.out.rc j
  obtain ⟨m0, m1⟩ := blk_cells2 HKA.out.rd
  have m9 : ∀ j, wa.frozen? ⟨w.heap.size + 1 + 1 + 1, j, none⟩ = false := fun j => blk_frozen HKA.out.rd j
  clear HK9 hga hla hgz
  go_wp2_with fail
  have hE := lk_end HKA.out (.string live2) (.string s404) (.bool false) (.bool false) (.bool false) (.int .u64 6) _ rfl
  generalize ((((((((wa.setCell ⟨w.heap.size + 1 + 1, 0, none⟩ (.string live2)).setCell ⟨w.heap.size + 1 + 1, 1, none⟩ (.string s404)).setCell ⟨w.heap.size + 1 + 1, 2, none⟩ (.bool false)).setCell ⟨w.heap.size + 1 + 1, 3, none⟩ (.bool false)).setCell ⟨w.heap.size + 1 + 1, 4, none⟩ (.bool false)).setCell ⟨w.heap.size + 1 + 1, 5, none⟩ (.int .u64 6)).setCell ⟨w.heap.size + 1 + 1 + 1, 0, none⟩ (.int .u8 0)).setCell ⟨w.heap.size + 1 + 1 + 1, 1, none⟩ (.slice none 0 0)) = wE at *
  obtain ⟨hE1, hE2, hbE⟩ := hE
  obtain ⟨t0, t1, t2, t3, t4, t5⟩ := blk_cells6 hE1
  obtain ⟨u0, u1⟩ := blk_cells2 hE2
  refine bodyPost_ret (v := .tuple #[.agg #[.string live2, .string s404, .bool false, .bool false, .bool false, .int .u64 6], .agg #[.int .u8 0, .slice none 0 0], .int .u8 1, .int .i64 0]) (by simp [results, Tryz.results12, go_sem, t0, t1, t2, t3, t4, t5, u0, u1]) rfl ⟨rfl, hbE⟩
set_option maxRecDepth 100000 in
set_option maxHeartbeats 4000000 in
theorem look_2 (w : World) (G : Gnd w) :
    Calls Tryz.prog 12 #[.agg #[.string live2, .string s404, .bool false, .bool false, .bool false, .int .u64 6], .agg #[.int .i64 1000, .int .u64 10], .int .u64 7] w fun e w' => e = .returned (.tuple #[.agg #[.string ⟨#[]⟩, .string (s404 ++ s400), .bool true, .bool false, .bool false, .int .u64 6], .agg #[.int .u8 0, .slice none 0 0], .int .u8 1, .int .i64 0]) ∧ Below w.heap.size w w' := by
  have hck := fun W => check_any live2 s404 false false false 6 1000 10 W (by decide) (by decide)
  rw [show checkI live2 s404 false false false 1000 = 0 from by decide] at hck
  have hrd := fun W (hb : Below w.heap.size w W) => (readRequest_any live2 1000 W (G.below hb) (G.below hb).low (by decide)).mono (fun {e w'} h => show e = .returned (.tuple #[.agg #[.string ⟨#[]⟩, .string ⟨#[]⟩, .slice none 0 0, .string ⟨#[]⟩], .int .i64 0, .int .i64 13]) ∧ Below W.heap.size W w' from by
    rw [live_2] at h
    exact ⟨h.2, h.1⟩)
  have hs4 : decide ((65536 : Int) < (s404.size : Int)) = false := by decide
  have hs4n : decide (65536 < s404.size) = false := by decide
  have HG := Lib.hid G
  clear G
  obtain ⟨w0, hw0, HW⟩ := boxes4 w #[.string live2, .string s404, .bool false, .bool false, .bool false, .int .u64 6] #[.int .i64 1000, .int .u64 10] #[.string ⟨#[]⟩, .string ⟨#[]⟩, .bool false, .bool false, .bool false, .int .u64 0] #[.int .u8 0, .slice none 0 0] 24 26 24 40
  go_enter Tryz.func12, Tryz.ntmps12
  go_wp2_with fail
  rw [← hw0]
  clear hw0
  refine (hck _).mono ?_
  rintro e w2 ⟨rfl, hb2⟩
  have HB2 := Lib.hid (show w2.heap[w.heap.size]? = some (.cells #[.string live2, .string s404, .bool false, .bool false, .bool false, .int .u64 6] 24 (0, 0)) ∧ w2.heap[w.heap.size + 1]? = some (.cells #[.int .i64 1000, .int .u64 10] 26 (0, 0)) ∧ w2.heap[w.heap.size + 1 + 1]? = some (.cells #[.string ⟨#[]⟩, .string ⟨#[]⟩, .bool false, .bool false, .bool false, .int .u64 0] 24 (0, 0)) ∧ w2.heap[w.heap.size + 1 + 1 + 1]? = some (.cells #[.int .u8 0, .slice none 0 0] 40 (0, 0)) ∧ Below w.heap.size w w2 ∧ w.heap.size + 1 + 1 + 1 + 1 ≤ w2.heap.size from by
    obtain ⟨h1, h2, h3, h6, h4, h5⟩ := HW.out
    exact ⟨(hb2.block _ (blk_lt h1)).trans h1, (hb2.block _ (blk_lt h2)).trans h2, (hb2.block _ (blk_lt h3)).trans h3, (hb2.block _ (blk_lt h6)).trans h6, below_via hb2 h5, by have := hb2.size; omega⟩)
  obtain ⟨c0, c1, c2, c3, c4, c5⟩ := blk_cells6 HB2.out.1
  obtain ⟨r0, r1⟩ := blk_cells2 HB2.out.2.1
  have hzz0 : w.heap.size < w2.heap.size := by have := HB2.out.2.2.2.2.2; omega
  have hzz1 : w.heap.size + 1 < w2.heap.size := by have := HB2.out.2.2.2.2.2; omega
  have hzz2 : w.heap.size + 1 + 1 < w2.heap.size := by have := HB2.out.2.2.2.2.2; omega
  have hzz3 : w.heap.size + 1 + 1 + 1 < w2.heap.size := by have := HB2.out.2.2.2.2.2; omega
  clear hb2 HW hck
  go_wp2_with fail
  have hl3 : LineAt w2.heap.size ⟨live2, s404, false, false, false, 6⟩ (w2.alloc (.cells #[.string live2, .string s404, .bool false, .bool false, .bool false, .int .u64 6] 68)) := heap_alloc_new w2 _
  have hbb3 : Below w2.heap.size w2 (w2.alloc (.cells #[.string live2, .string s404, .bool false, .bool false, .bool false, .int .u64 6] 68)) := below_alloc (Below.refl _ _) _
  have H3 := Lib.hid (show LineAt w2.heap.size ⟨live2, s404, false, false, false, 6⟩ (w2.alloc (.cells #[.string live2, .string s404, .bool false, .bool false, .bool false, .int .u64 6] 68)) ∧ (w2.alloc (.cells #[.string live2, .string s404, .bool false, .bool false, .bool false, .int .u64 6] 68)).heap[w.heap.size + 1 + 1]? = _ ∧ (w2.alloc (.cells #[.string live2, .string s404, .bool false, .bool false, .bool false, .int .u64 6] 68)).heap[w.heap.size + 1 + 1 + 1]? = _ ∧ Below w.heap.size w (w2.alloc (.cells #[.string live2, .string s404, .bool false, .bool false, .bool false, .int .u64 6] 68)) from ⟨hl3, (hbb3.block _ hzz2).trans HB2.out.2.2.1, (hbb3.block _ hzz3).trans HB2.out.2.2.2.1, below_via hbb3 HB2.out.2.2.2.2.1⟩)
  have HZ := Lib.hid (show w.heap.size + 1 + 1 + 1 < w2.heap.size from hzz3)
  clear hbb3 c0 c1 c2 c3 c4 c5 r0 r1 hl3 HB2
  generalize hgg : w2.heap.size = g at *
  generalize w2.alloc (.cells #[.string live2, .string s404, .bool false, .bool false, .bool false, .int .u64 6] 68) = w3 at *
  clear hgg
  refine (hrd _ H3.out.2.2.2).mono ?_
  rintro e w4 ⟨rfl, hb4⟩
  have HK4 := Lib.hid (Lk.below (g := g) (k := ⟨live2, s404, false, false, false, 6⟩) ⟨H3.out.1, H3.out.2.1, H3.out.2.2.1, H3.out.2.2.2, HZ.out⟩ hb4)
  clear hb4 H3 hrd hzz0 hzz1 hzz2 hzz3
  go_wp2_with fail
  have HK9 := Lib.hid (HK4.out.below (below_alloc (Below.refl w4.heap.size w4) (.cells #[.string ⟨#[]⟩, .string ⟨#[]⟩, .slice none 0 0, .string ⟨#[]⟩] 51)))
  generalize w4.alloc (.cells #[.string ⟨#[]⟩, .string ⟨#[]⟩, .slice none 0 0, .string ⟨#[]⟩] 51) = w9 at *
  refine (reply_close g _ 400 s400 0 w9 (HG.out.below HK9.out.bl) HK9.out.ln (by decide) (by decide) w400).mono ?_
  rintro e wa ⟨rfl, hga, hla⟩
  have HKA := Lib.hid (show Lk w g ⟨⟨#[]⟩, s404 ++ s400, true, false, false, 6⟩ wa from HK9.out.grown hga hla)
  obtain ⟨l0, l1, l2, l3, l4, l5⟩ := line_cells HKA.out.ln
  have lf : ∀ j, wa.frozen? ⟨g, j, none⟩ = false := fun j => line_free HKA.out.ln j
  obtain ⟨d0, d1, d2, d3, d4, d5⟩ := blk_cells6 HKA.out.rc
  have e0 : ∀ j, wa.frozen? ⟨w.heap.size + 1 + 1, j, none⟩ = false := fun j => blk_frozen HKA.out.rc j
  obtain ⟨m0, m1⟩ := blk_cells2 HKA.out.rd
  have m9 : ∀ j, wa.frozen? ⟨w.heap.size + 1 + 1 + 1, j, none⟩ = false := fun j => blk_frozen HKA.out.rd j
  clear HK9 HK4 hga hla
  go_wp2_with fail
  have hE := lk_end HKA.out (.string ⟨#[]⟩) (.string (s404 ++ s400)) (.bool true) (.bool false) (.bool false) (.int .u64 6) _ rfl
  generalize ((((((((wa.setCell ⟨w.heap.size + 1 + 1, 0, none⟩ (.string ⟨#[]⟩)).setCell ⟨w.heap.size + 1 + 1, 1, none⟩ (.string (s404 ++ s400))).setCell ⟨w.heap.size + 1 + 1, 2, none⟩ (.bool true)).setCell ⟨w.heap.size + 1 + 1, 3, none⟩ (.bool false)).setCell ⟨w.heap.size + 1 + 1, 4, none⟩ (.bool false)).setCell ⟨w.heap.size + 1 + 1, 5, none⟩ (.int .u64 6)).setCell ⟨w.heap.size + 1 + 1 + 1, 0, none⟩ (.int .u8 0)).setCell ⟨w.heap.size + 1 + 1 + 1, 1, none⟩ (.slice none 0 0)) = wE at *
  obtain ⟨hE1, hE2, hbE⟩ := hE
  obtain ⟨t0, t1, t2, t3, t4, t5⟩ := blk_cells6 hE1
  obtain ⟨u0, u1⟩ := blk_cells2 hE2
  refine bodyPost_ret (v := .tuple #[.agg #[.string ⟨#[]⟩, .string (s404 ++ s400), .bool true, .bool false, .bool false, .int .u64 6], .agg #[.int .u8 0, .slice none 0 0], .int .u8 1, .int .i64 0]) (by simp [results, Tryz.results12, go_sem, t0, t1, t2, t3, t4, t5, u0, u1]) rfl ⟨rfl, hbE⟩
end Go.Proofs.YtaihnhhapplmbaaGreatDoor.Sv
