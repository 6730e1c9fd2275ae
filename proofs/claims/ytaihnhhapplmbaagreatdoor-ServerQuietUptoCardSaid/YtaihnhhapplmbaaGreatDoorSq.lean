/- Package server: asked at a target that is none. -/
import Derived.Test.YtaihnhhapplmbaaGreatDoorSr
import Derived.Deep.RegionHeld3
set_option linter.unusedVariables false
set_option linter.unusedSimpArgs false
namespace Go.Proofs.YtaihnhhapplmbaaGreatDoor.Sv
open Go.Sort Go.RowKit Go.Maps Go.Proofs Go.Proofs.YtaihnhhapplmbaaGreatDoorW.PrintWords Go.Proofs.YtaihnhhapplmbaaGreatDoor.Bs Go.Proofs.YtaihnhhapplmbaaGreatDoor.Ir Go.Proofs.YtaihnhhapplmbaaGreatDoor.Gn Go.Proofs.YtaihnhhapplmbaaGreatDoor.Ht

theorem targ_x : (targD 3).atKey (.string [47, 120]) (.lit (.int .u8 0)) = .lit (.int .u8 0) := by rfl
set_option maxRecDepth 100000 in
theorem look_x (W : World) (b : Nat) (h : W.ownsMap Tryz.prog 9 (plainElem (H := Unit) Tryz.prog 37) b 3 (targD 3)) : (Instr.lookup 96 (.map (some b)) (.string ⟨#[47, 120]⟩) false).run Tryz.prog W = .ok (.int .u8 0) W := by
  obtain ⟨c, h1, h2, _⟩ := h.lookup_int lawS tSM tSig (zeroS W) (Go.WideMaps.keyOf_string_mk (k := 9) Tu_string (s := ⟨#[47, 120]⟩) (by decide))
  rw [targ_x] at h2
  injection h2 with h2
  injection h2 with _ h2
  rw [h1, ← h2]
set_option maxRecDepth 100000 in
set_option maxHeartbeats 1000000 in
/-- THE END OF A PANIC: through the door. -/
theorem asked_dies (g : Nat) (W : World) (v0 v1 v2 : Value) (y : Int) (tmps : Array Value) (hd : W.heap[g]? = some (.cells #[v0, v1] 40 (0, 0))) (hs : W.heap[g + 1]? = some (.cells #[v2] 72 (0, 0))) (Q : Ending → World → Prop)
    (ht : tmps[2]? = some (.pointer (some ⟨g, 0, none⟩)) ∧ tmps[3]? = some (.pointer (some ⟨g + 1, 0, none⟩)))
    (hQ : ∀ w', Below g W w' → Q (.returned (.tuple #[.agg #[.int .u8 0, .slice none 0 0], .int .i64 y])) w') :
    bodyPostD Tryz.prog Tryz.f22 Q (.panic [{ v := .iface 72 (.int .i64 y), recovered := false }]) { tmps := tmps, defers := [{ target := Target.fn (.func 37) #[.pointer (some ⟨g, 0, none⟩), .pointer (some ⟨g + 1, 0, none⟩)], args := #[] }] } W := by
  refine leaves_cons (f := 37) (args := #[.pointer (some ⟨g, 0, none⟩), .pointer (some ⟨g + 1, 0, none⟩)]) (by simp) (by simp [go_sem]) ?_
  refine (asked_catch g v0 v1 v2 y [] W (by rw [blk_cell hd]; rfl) (by rw [blk_cell hd]; rfl) (by rw [blk_cell hs]; rfl) (blk_frozen hd _) (blk_frozen hd _) (blk_frozen hs _)).mono ?_
  rintro e u' w'' ⟨rfl, rfl, rfl⟩
  have hB : Below g W (((W.drew.setCell ⟨g, 0, none⟩ (.int .u8 0)).setCell ⟨g, 1, none⟩ (.slice none 0 0)).setCell ⟨g + 1, 0, none⟩ (.int .i64 y)) :=
    (((below_drew (Below.refl _ _)).setCell (p := ⟨g, 0, none⟩) (Nat.le_refl _) _).setCell (p := ⟨g, 1, none⟩) (Nat.le_refl _) _).setCell (p := ⟨g + 1, 0, none⟩) (by simp) _
  have hQ1 := hQ _ hB
  have d0 : W.drew.heap[g]? = _ := hd
  have d1 : W.drew.heap[g + 1]? = _ := hs
  have n01 : g ≠ g + 1 := by omega
  have b0 := blk_far (p := ⟨g + 1, 0, none⟩) (blk_put (blk_put d0 0 (.int .u8 0) (show _ = #[.int .u8 0, v1] from rfl)) 1 (.slice none 0 0) (show _ = #[.int .u8 0, .slice none 0 0] from rfl)) n01 (.int .i64 y)
  have b1 := blk_put (blk_far (p := ⟨g, 1, none⟩) (blk_far (p := ⟨g, 0, none⟩) d1 n01.symm (.int .u8 0)) n01.symm (.slice none 0 0)) 0 (.int .i64 y) (show _ = #[.int .i64 y] from rfl)
  have c0 := blk_cell b0 0
  have c1 := blk_cell b0 1
  have c2 := blk_cell b1 0
  clear hQ hB d0 d1 n01 hd hs b0 b1
  generalize (((W.drew.setCell ⟨g, 0, none⟩ (.int .u8 0)).setCell ⟨g, 1, none⟩ (.slice none 0 0)).setCell ⟨g + 1, 0, none⟩ (.int .i64 y)) = WF at *
  obtain ⟨t2, t3⟩ := ht
  simp at c0 c1 c2
  simp [Leaves, settle, results, Tryz.results22, go_sem, t2, t3, c0, c1, c2]
  exact hQ1
set_option maxRecDepth 100000 in
set_option maxHeartbeats 2000000 in
theorem asked_x (A : Option Addr) (cp : Nat) (w : World) :
    Calls Tryz.prog 22 #[.agg #[.string ⟨#[71, 69, 84]⟩, .string ⟨#[47, 120]⟩, .slice A 0 cp, .string ⟨#[]⟩]] w fun e w' => e = .returned (.tuple #[.agg #[.int .u8 0, .slice none 0 0], .int .i64 404]) ∧ Below w.heap.size w w' := by
  have hmf : ∀ (fn : Fn) (first cap : Array Value) (w : World), (Instr.makeFunc fn first cap).run Tryz.prog w = .ok (.func fn first cap) w := fun _ _ _ _ => rfl
  have htg := fun W => (targets_any W).mono (fun {e w'} h => show ∃ b, e = .returned (.map (some b)) ∧ Hid (w'.ownsMap Tryz.prog 9 (plainElem (H := Unit) Tryz.prog 37) b 3 (targD 3)) ∧ Below W.heap.size W w' from ⟨_, h⟩)
  have hfd := fun W => find_any A cp [] ⟨#[67, 111, 110, 116, 101, 110, 116, 45, 84, 121, 112, 101]⟩ W (by decide) ⟨rfl, by simp, fun h => absurd h (Nat.lt_irrefl 0)⟩ (by simp) (by decide)
  simp only [show findH [] (⟨#[67, 111, 110, 116, 101, 110, 116, 45, 84, 121, 112, 101]⟩ : ByteArray) = .tuple #[.string ⟨#[]⟩, .bool false] from rfl, List.length_nil] at hfd
  obtain ⟨w0, hw0, HW⟩ := boxes3 w #[.string ⟨#[71, 69, 84]⟩, .string ⟨#[47, 120]⟩, .slice A 0 cp, .string ⟨#[]⟩] #[.int .u8 0, .slice none 0 0] #[.int .i64 0] 51 40 72
  obtain ⟨q0, q1, q2, q3⟩ := blk_cells4 HW.out.1
  have hz0 : w.heap.size < w0.heap.size := by have := HW.out.2.2.2.1; omega
  go_enter_defers Tryz.func22, Tryz.ntmps22
  go_wp2_with fail
  rw [← hw0]
  clear hw0
  refine wp_region_noPanic ?_
  go_region_with (go_at_call 38; refine (htg _).mono ?_; rintro e w1 ⟨b, rfl, hown, hb1⟩; obtain ⟨hbc1, hbf1⟩ := bcell hb1; have hl1 := look_x _ _ hown.out; have hl2 := fun k => look_x (w1.drewN k) _ hown.out; have hl3 := look_x w1.drew _ hown.out; have hq1 : w1.cell? ⟨w.heap.size, 1, none⟩ = some (.string ⟨#[47, 120]⟩) := (hb1.cell (p := ⟨w.heap.size, 1, none⟩) hz0).trans q1; have hq2 : w1.cell? ⟨w.heap.size, 2, none⟩ = some (.slice A 0 cp) := (hb1.cell (p := ⟨w.heap.size, 2, none⟩) hz0).trans q2; clear hbc1 hbf1)
  all_goals (refine NoPanic.normal ?_; go_wp2_with fail)
  all_goals
    refine (hfd _).mono ?_
    rintro e w2 ⟨rfl, hb2⟩
    have HR := Lib.hid (show w2.heap[w.heap.size + 1]? = some (.cells #[.int .u8 0, .slice none 0 0] 40 (0, 0)) ∧ w2.heap[w.heap.size + 1 + 1]? = some (.cells #[.int .i64 0] 72 (0, 0)) ∧ Below w.heap.size w w2 from by
      obtain ⟨h1, h2, h3, h4, h5⟩ := HW.out
      have hb01 : Below w0.heap.size w0 w2 := (by repeat (first | assumption | exact Below.refl _ _ | apply below_drew | apply pw_below_drewN | apply below_alloc | (refine below_via (by assumption) ?_)))
      exact ⟨(hb01.block _ (blk_lt h2)).trans h2, (hb01.block _ (blk_lt h3)).trans h3, below_via hb01 h5⟩)
    clear hb1 hb2 hown hq1 hl1 hl2 hl3 hfd htg q0 q1 q2 q3 HW hz0
    go_wp2_with (go_at_call 39; refine (must_f _ _).mono ?_; rintro e w3 ⟨rfl, rfl⟩)
    refine asked_dies (w.heap.size + 1) w2 _ _ _ 404 _ HR.out.1 HR.out.2.1 _ ⟨rfl, rfl⟩ (fun w' hb => ⟨rfl, ?_⟩)
    have hb2 := HR.out.2.2
    exact ⟨hb.os.trans hb2.os, hb.tape.trans hb2.tape, hb.output.trans hb2.output, Nat.le_trans hb2.size hb.size, fun k hk => (hb.block k (by omega)).trans (hb2.block k hk)⟩
end Go.Proofs.YtaihnhhapplmbaaGreatDoor.Sv
