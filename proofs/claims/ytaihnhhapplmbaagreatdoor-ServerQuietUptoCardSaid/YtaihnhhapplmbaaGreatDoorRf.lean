/- Package http: read. -/
import Derived.Test.YtaihnhhapplmbaaGreatDoorRd
set_option linter.unusedVariables false
set_option linter.unusedSimpArgs false
namespace Go.Proofs.YtaihnhhapplmbaaGreatDoor.Ht
open Go.Sort Go.RowKit Go.Proofs Go.Proofs.YtaihnhhapplmbaaGreatDoorW.PrintWords Go.Proofs.YtaihnhhapplmbaaGreatDoor.Bs Go.Proofs.YtaihnhhapplmbaaGreatDoor.Ir Go.Proofs.YtaihnhhapplmbaaGreatDoor.Gn

/-- The four results' variables. -/
structure ResAt (g : Nat) (W : World) (v0 v1 v2 v3 : Value) : Prop where
  r0 : W.heap[g]? = some (.cells #[v0] 49 (0, 0))
  r1 : W.heap[g + 1]? = some (.cells #[v1] 9 (0, 0))
  r2 : W.heap[g + 1 + 1]? = some (.cells #[v2] 3 (0, 0))
  r3 : W.heap[g + 1 + 1 + 1]? = some (.cells #[v3] 28 (0, 0))
/-- read's answer where it panics. -/
def readE (y : Int) : Value := .tuple #[.slice none 0 0, .string ⟨#[]⟩, .int .i64 0, .int .i64 y]
set_option maxRecDepth 100000 in
set_option maxHeartbeats 1000000 in
/-- THE END OF A PANIC: through the door. -/
theorem read_dies (g : Nat) (W : World) (v0 v1 v2 v3 : Value) (y : Int) (tmps : Array Value) (hr : ResAt g W v0 v1 v2 v3) (Q : Ending → World → Prop)
    (ht : tmps[8]? = some (.pointer (some ⟨g, 0, none⟩)) ∧ tmps[9]? = some (.pointer (some ⟨g + 1, 0, none⟩)) ∧ tmps[10]? = some (.pointer (some ⟨g + 1 + 1, 0, none⟩)) ∧ tmps[11]? = some (.pointer (some ⟨g + 1 + 1 + 1, 0, none⟩)))
    (hQ : ∀ w', Below g W w' → Q (.returned (readE y)) w') :
    bodyPostD Tryz.prog Tryz.f30 Q (.panic [{ v := .iface 28 (.int .i64 y), recovered := false }]) { tmps := tmps, defers := [{ target := Target.fn (.func 61) #[.pointer (some ⟨g, 0, none⟩), .pointer (some ⟨g + 1, 0, none⟩), .pointer (some ⟨g + 1 + 1, 0, none⟩), .pointer (some ⟨g + 1 + 1 + 1, 0, none⟩)], args := #[] }] } W := by
  refine leaves_cons (f := 61) (args := #[.pointer (some ⟨g, 0, none⟩), .pointer (some ⟨g + 1, 0, none⟩), .pointer (some ⟨g + 1 + 1, 0, none⟩), .pointer (some ⟨g + 1 + 1 + 1, 0, none⟩)]) (by simp) (by simp [go_sem]) ?_
  refine (catch_panicking g v0 v1 v2 v3 y [] W (by rw [blk_cell hr.r0]; rfl) (by rw [blk_cell hr.r1]; rfl) (by rw [blk_cell hr.r2]; rfl) (by rw [blk_cell hr.r3]; rfl) (blk_frozen hr.r0 _) (blk_frozen hr.r1 _) (blk_frozen hr.r2 _) (blk_frozen hr.r3 _)).mono ?_
  rintro e u' w'' ⟨rfl, rfl, rfl⟩
  have hB : Below g W ((((W.drew.setCell ⟨g, 0, none⟩ (.slice none 0 0)).setCell ⟨g + 1, 0, none⟩ (.string ⟨#[]⟩)).setCell ⟨g + 1 + 1, 0, none⟩ (.int .i64 0)).setCell ⟨g + 1 + 1 + 1, 0, none⟩ (.int .i64 y)) :=
    ((((below_drew (Below.refl _ _)).setCell (p := ⟨g, 0, none⟩) (Nat.le_refl _) _).setCell (p := ⟨g + 1, 0, none⟩) (by simp) _).setCell (p := ⟨g + 1 + 1, 0, none⟩) (by simp; omega) _).setCell (p := ⟨g + 1 + 1 + 1, 0, none⟩) (by simp; omega) _
  have hQ1 := hQ _ hB
  have d0 : W.drew.heap[g]? = _ := hr.r0
  have d1 : W.drew.heap[g + 1]? = _ := hr.r1
  have d2 : W.drew.heap[g + 1 + 1]? = _ := hr.r2
  have d3 : W.drew.heap[g + 1 + 1 + 1]? = _ := hr.r3
  have n01 : g ≠ g + 1 := by omega
  have n02 : g ≠ g + 1 + 1 := by omega
  have n03 : g ≠ g + 1 + 1 + 1 := by omega
  have n12 : g + 1 ≠ g + 1 + 1 := by omega
  have n13 : g + 1 ≠ g + 1 + 1 + 1 := by omega
  have n23 : g + 1 + 1 ≠ g + 1 + 1 + 1 := by omega
  have c0 := blk_cell (blk_far (p := ⟨g + 1 + 1 + 1, 0, none⟩) (blk_far (p := ⟨g + 1 + 1, 0, none⟩) (blk_far (p := ⟨g + 1, 0, none⟩) (blk_set d0 0 (.slice none 0 0)) n01 (.string ⟨#[]⟩)) n02 (.int .i64 0)) n03 (.int .i64 y)) 0
  have c1 := blk_cell (blk_far (p := ⟨g + 1 + 1 + 1, 0, none⟩) (blk_far (p := ⟨g + 1 + 1, 0, none⟩) (blk_set (blk_far (p := ⟨g, 0, none⟩) d1 n01.symm (.slice none 0 0)) 0 (.string ⟨#[]⟩)) n12 (.int .i64 0)) n13 (.int .i64 y)) 0
  have c2 := blk_cell (blk_far (p := ⟨g + 1 + 1 + 1, 0, none⟩) (blk_set (blk_far (p := ⟨g + 1, 0, none⟩) (blk_far (p := ⟨g, 0, none⟩) d2 n02.symm (.slice none 0 0)) n12.symm (.string ⟨#[]⟩)) 0 (.int .i64 0)) n23 (.int .i64 y)) 0
  have c3 := blk_cell (blk_set (blk_far (p := ⟨g + 1 + 1, 0, none⟩) (blk_far (p := ⟨g + 1, 0, none⟩) (blk_far (p := ⟨g, 0, none⟩) d3 n03.symm (.slice none 0 0)) n13.symm (.string ⟨#[]⟩)) n23.symm (.int .i64 0)) 0 (.int .i64 y)) 0
  clear hQ hB d0 d1 d2 d3 n01 n02 n03 n12 n13 n23 hr
  generalize ((((W.drew.setCell ⟨g, 0, none⟩ (.slice none 0 0)).setCell ⟨g + 1, 0, none⟩ (.string ⟨#[]⟩)).setCell ⟨g + 1 + 1, 0, none⟩ (.int .i64 0)).setCell ⟨g + 1 + 1 + 1, 0, none⟩ (.int .i64 y)) = WF at *
  obtain ⟨t8, t9, t10, t11⟩ := ht
  simp at c0 c1 c2 c3
  simp [Leaves, settle, results, Tryz.results30, go_sem, t8, t9, t10, t11, c0, c1, c2, c3]
  exact hQ1
/-- The world behind read's own variables. -/
def w4 (w : World) : World := (((w.alloc (.cells #[.slice none 0 0] 49)).alloc (.cells #[.string ⟨#[]⟩] 9)).alloc (.cells #[.int .i64 0] 3)).alloc (.cells #[.int .i64 0] 28)
theorem w4_size (w : World) : (w4 w).heap.size = w.heap.size + 1 + 1 + 1 + 1 := by simp [w4]
theorem w4_below (w : World) : Below w.heap.size w (w4 w) := below_alloc (below_alloc (below_alloc (below_alloc (Below.refl _ _) _) _) _) _
theorem w4_res (w : World) : ResAt w.heap.size (w4 w) (.slice none 0 0) (.string ⟨#[]⟩) (.int .i64 0) (.int .i64 0) := by
  have e1 : (w.alloc (.cells #[.slice none 0 0] 49)).heap.size = w.heap.size + 1 := by simp
  have e2 : ((w.alloc (.cells #[.slice none 0 0] 49)).alloc (.cells #[.string ⟨#[]⟩] 9)).heap.size = w.heap.size + 1 + 1 := by simp
  have e3 : (((w.alloc (.cells #[.slice none 0 0] 49)).alloc (.cells #[.string ⟨#[]⟩] 9)).alloc (.cells #[.int .i64 0] 3)).heap.size = w.heap.size + 1 + 1 + 1 := by simp
  refine ⟨?_, ?_, ?_, ?_⟩
  · rw [w4, Below.heap_alloc _ _ _ (by omega), Below.heap_alloc _ _ _ (by omega), Below.heap_alloc _ _ _ (by omega)]
    exact heap_alloc_new w _
  · rw [w4, Below.heap_alloc _ _ _ (by omega), Below.heap_alloc _ _ _ (by omega), ← e1]
    exact heap_alloc_new _ _
  · rw [w4, Below.heap_alloc _ _ _ (by omega), ← e2]
    exact heap_alloc_new _ _
  · rw [w4, ← e3]
    exact heap_alloc_new _ _
theorem ResAt.below {g : Nat} {W W' : World} {v0 v1 v2 v3 : Value} (h : ResAt g W v0 v1 v2 v3) (hb : Below W.heap.size W W') : ResAt g W' v0 v1 v2 v3 :=
  ⟨(hb.block _ (blk_lt h.r0)).trans h.r0, (hb.block _ (blk_lt h.r1)).trans h.r1, (hb.block _ (blk_lt h.r2)).trans h.r2, (hb.block _ (blk_lt h.r3)).trans h.r3⟩
theorem ResAt.grown {g : Nat} {W W' : World} {v0 v1 v2 v3 : Value} {row : Option Nat} (h : ResAt g W v0 v1 v2 v3) (hg : W.grownBy W' row) (hr : ∀ k, row = some k → k < g ∨ g + 1 + 1 + 1 < k) : ResAt g W' v0 v1 v2 v3 :=
  ⟨(hg.block _ (blk_lt h.r0) (fun e => by have := hr _ e.symm; omega)).trans h.r0, (hg.block _ (blk_lt h.r1) (fun e => by have := hr _ e.symm; omega)).trans h.r1, (hg.block _ (blk_lt h.r2) (fun e => by have := hr _ e.symm; omega)).trans h.r2, (hg.block _ (blk_lt h.r3) (fun e => by have := hr _ e.symm; omega)).trans h.r3⟩

set_option maxRecDepth 100000 in
set_option maxHeartbeats 1000000 in
theorem read_range (s : ByteArray) (most : Int) (always : Bool) (fv : Value) (w : World) (hm : ¬ (0 ≤ most ∧ most ≤ 65536)) :
    Calls Tryz.prog 30 #[.string s, .int .i64 most, .bool always, fv] w fun e w' => e = .returned (readE 2) ∧ Below w.heap.size w w' := by
  have hmf : ∀ (fn : Fn) (first cap : Array Value) (w : World), (Instr.makeFunc fn first cap).run Tryz.prog w = .ok (.func fn first cap) w := fun _ _ _ _ => rfl
  go_enter_defers Tryz.func30, Tryz.ntmps30
  by_cases h0 : 0 ≤ most
  · have h1 : ¬ most ≤ 65536 := fun h => hm ⟨h0, h⟩
    clear hm
    have hd : decide (most ≤ 65536) = false := by simpa using h1
    go_wp2_with (go_at_call 33; refine (must_f _ _ _ (by first | (simp; done) | (simp; omega))).mono ?_; rintro e w9 ⟨rfl, rfl⟩)
    refine read_dies w.heap.size (w4 w) _ _ _ _ 2 _ (w4_res w) _ ⟨rfl, rfl, rfl, rfl⟩ (fun w' hb => ⟨rfl, ?_⟩)
    exact ⟨hb.os.trans (w4_below w).os, hb.tape.trans (w4_below w).tape, hb.output.trans (w4_below w).output, Nat.le_trans (w4_below w).size hb.size, fun k hk => (hb.block k hk).trans ((w4_below w).block k hk)⟩
  · go_wp2_with (go_at_call 33; refine (must_f _ _ _ (by first | (simp; done) | (simp; omega))).mono ?_; rintro e w9 ⟨rfl, rfl⟩)
    refine read_dies w.heap.size (w4 w) _ _ _ _ 2 _ (w4_res w) _ ⟨rfl, rfl, rfl, rfl⟩ (fun w' hb => ⟨rfl, ?_⟩)
    exact ⟨hb.os.trans (w4_below w).os, hb.tape.trans (w4_below w).tape, hb.output.trans (w4_below w).output, Nat.le_trans (w4_below w).size hb.size, fun k hk => (hb.block k hk).trans ((w4_below w).block k hk)⟩
end Go.Proofs.YtaihnhhapplmbaaGreatDoor.Ht
