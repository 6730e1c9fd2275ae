/- Package server: a line's end and reply. -/
import Derived.Test.YtaihnhhapplmbaaGreatDoorSc
import Derived.Test.YtaihnhhapplmbaaGreatDoorWp
import Derived.Test.YtaihnhhapplmbaaGreatDoorHe
set_option linter.unusedVariables false
set_option linter.unusedSimpArgs false
namespace Go.Proofs.YtaihnhhapplmbaaGreatDoor.Sv
open Go.Sort Go.RowKit Go.Proofs Go.Proofs.YtaihnhhapplmbaaGreatDoorW.PrintWords Go.Proofs.YtaihnhhapplmbaaGreatDoor.Bs Go.Proofs.YtaihnhhapplmbaaGreatDoor.Ir Go.Proofs.YtaihnhhapplmbaaGreatDoor.Gn Go.Proofs.YtaihnhhapplmbaaGreatDoor.Ht

def LineAt (g : Nat) (k : Cn) (w : World) : Prop := w.heap[g]? = some (.cells #[.string k.b, .string k.o, .bool k.c, .bool k.y, .bool k.l, .int .u64 k.s] 68 (0, 0))
theorem line_cells {w : World} {g : Nat} {k : Cn} (h : LineAt g k w) : w.cell? ⟨g, 0, none⟩ = some (.string k.b) ∧ w.cell? ⟨g, 1, none⟩ = some (.string k.o) ∧ w.cell? ⟨g, 2, none⟩ = some (.bool k.c) ∧ w.cell? ⟨g, 3, none⟩ = some (.bool k.y) ∧ w.cell? ⟨g, 4, none⟩ = some (.bool k.l) ∧ w.cell? ⟨g, 5, none⟩ = some (.int .u64 k.s) := by
  refine ⟨?_, ?_, ?_, ?_, ?_, ?_⟩ <;> (rw [blk_cell h]; rfl)
theorem line_free {w : World} {g : Nat} {k : Cn} (h : LineAt g k w) (i : Nat) : w.frozen? ⟨g, i, none⟩ = false := blk_frozen h i
theorem blk_set6 {w : World} {g : Nat} {t : TypeId} {x0 x1 x2 x3 x4 x5 : Value} (h : w.heap[g]? = some (.cells #[x0, x1, x2, x3, x4, x5] t (0, 0))) (u0 u1 u2 u3 u4 u5 : Value) :
    ((((((w.setCell ⟨g, 0, none⟩ u0).setCell ⟨g, 1, none⟩ u1).setCell ⟨g, 2, none⟩ u2).setCell ⟨g, 3, none⟩ u3).setCell ⟨g, 4, none⟩ u4).setCell ⟨g, 5, none⟩ u5).heap[g]? = some (.cells #[u0, u1, u2, u3, u4, u5] t (0, 0)) := by
  have h0 := blk_put h 0 u0 (show _ = #[u0, x1, x2, x3, x4, x5] from rfl)
  have h1 := blk_put h0 1 u1 (show _ = #[u0, u1, x2, x3, x4, x5] from rfl)
  have h2 := blk_put h1 2 u2 (show _ = #[u0, u1, u2, x3, x4, x5] from rfl)
  have h3 := blk_put h2 3 u3 (show _ = #[u0, u1, u2, u3, x4, x5] from rfl)
  have h4 := blk_put h3 4 u4 (show _ = #[u0, u1, u2, u3, u4, x5] from rfl)
  exact blk_put h4 5 u5 (show _ = #[u0, u1, u2, u3, u4, u5] from rfl)
theorem line_put {w : World} {g : Nat} {k : Cn} (h : LineAt g k w) (k' : Cn) : LineAt g k' ((((((w.setCell ⟨g, 0, none⟩ (.string k'.b)).setCell ⟨g, 1, none⟩ (.string k'.o)).setCell ⟨g, 2, none⟩ (.bool k'.c)).setCell ⟨g, 3, none⟩ (.bool k'.y)).setCell ⟨g, 4, none⟩ (.bool k'.l)).setCell ⟨g, 5, none⟩ (.int .u64 k'.s)) :=
  blk_set6 h _ _ _ _ _ _
theorem line_put1 {w : World} {g : Nat} {k : Cn} (h : LineAt g k w) (o : ByteArray) : LineAt g ⟨k.b, o, k.c, k.y, k.l, k.s⟩ (w.setCell ⟨g, 1, none⟩ (.string o)) := blk_put h 1 (.string o) rfl
theorem LineAt.grown {g : Nat} {k : Cn} {w w' : World} {row : Option Nat} (h : LineAt g k w) (hg : w.grownBy w' row) (hr : some g ≠ row) : LineAt g k w' := (hg.block g (blk_lt h) hr).trans h
theorem LineAt.below {g : Nat} {k : Cn} {w w' : World} (h : LineAt g k w) (hb : Below w.heap.size w w') : LineAt g k w' := (hb.block g (blk_lt h)).trans h
theorem kC_one (W : World) (g : Nat) (x : Head) (h0 : W.cell? ⟨g, 0, none⟩ = some (.string x.name)) (h1 : W.cell? ⟨g, 1, none⟩ = some (.string x.value)) : Kd.C kH W (some ⟨g, 0, none⟩) 1 [x] := by
  refine ⟨rfl, by decide, fun _ => ⟨_, rfl, fun j p hj => ?_⟩⟩
  match j, hj with
  | 0, hj =>
    obtain rfl : x = p := by simpa using hj
    refine ⟨[.string x.name, .string x.value], rfl, kH_mk _ x, fun q u hu => ?_⟩
    match q, hu with
    | 0, hu => cases hu; exact h0
    | 1, hu => cases hu; exact h1
theorem kC_new (W : World) (x : Head) (zs : Array Value) (t : TypeId) : Kd.C kH (W.alloc (.cells (#[.string x.name, .string x.value] ++ zs) t)) (some ⟨W.heap.size, 0, none⟩) 1 [x] :=
  kC_one _ _ x (cell_new W _ t 0 _ (by rw [Array.getElem?_append_left (by simp)]; rfl)) (cell_new W _ t 1 _ (by rw [Array.getElem?_append_left (by simp)]; rfl))
theorem kC_new2 (w : World) (o1 o2 : Obj) (x : Head) (zs : Array Value) (t : TypeId) : Kd.C kH (((w.alloc o1).alloc o2).alloc (.cells (#[.string x.name, .string x.value] ++ zs) t)).drew (some ⟨w.heap.size + 1 + 1, 0, none⟩) 1 [x] := by
  have e2 : ((w.alloc o1).alloc o2).heap.size = w.heap.size + 1 + 1 := by simp
  have := Kd.C_drew (kC_new ((w.alloc o1).alloc o2) x zs t)
  rw [e2] at this
  exact this
set_option maxRecDepth 100000 in
set_option maxHeartbeats 4000000 in
theorem end_any (g : Nat) (k : Cn) (w : World) (h : LineAt g k w) :
    Calls Tryz.prog 20 #[.pointer (some ⟨g, 0, none⟩)] w fun e w' => e = .returned (.tuple #[]) ∧ w.grownBy w' (some g) ∧ LineAt g ⟨⟨#[]⟩, k.o, true, false, false, k.s⟩ w' := by
  obtain ⟨c0, c1, c2, c3, c4, c5⟩ := line_cells h
  have f0 := line_free h
  have HL := Lib.hid h
  clear h
  go_enter Tryz.func20, Tryz.ntmps20
  go_wp2_with fail
  go_big_region
  have hp : LineAt g ⟨⟨#[]⟩, k.o, true, false, false, k.s⟩ ((((((w.setCell ⟨g, 0, none⟩ (.string ⟨#[]⟩)).setCell ⟨g, 1, none⟩ (.string k.o)).setCell ⟨g, 2, none⟩ (.bool true)).setCell ⟨g, 3, none⟩ (.bool false)).setCell ⟨g, 4, none⟩ (.bool false)).setCell ⟨g, 5, none⟩ (.int .u64 k.s)) := blk_set6 HL.out _ _ _ _ _ _
  have hg : w.grownBy ((((((w.setCell ⟨g, 0, none⟩ (.string ⟨#[]⟩)).setCell ⟨g, 1, none⟩ (.string k.o)).setCell ⟨g, 2, none⟩ (.bool true)).setCell ⟨g, 3, none⟩ (.bool false)).setCell ⟨g, 4, none⟩ (.bool false)).setCell ⟨g, 5, none⟩ (.int .u64 k.s)) (some g) := grown_set (grown_set (grown_set (grown_set (grown_set (grown_set (grown_refl w (some g)))))))
  generalize ((((((w.setCell ⟨g, 0, none⟩ (.string ⟨#[]⟩)).setCell ⟨g, 1, none⟩ (.string k.o)).setCell ⟨g, 2, none⟩ (.bool true)).setCell ⟨g, 3, none⟩ (.bool false)).setCell ⟨g, 4, none⟩ (.bool false)).setCell ⟨g, 5, none⟩ (.int .u64 k.s)) = w6 at *
  have hp2 : LineAt g ⟨⟨#[]⟩, k.o, true, false, false, k.s⟩ w6.drew := hp
  have hg2 : w.grownBy w6.drew (some g) := grown_drewN hg 1
  go_end0
  exact ⟨rfl, hg2, hp2⟩
set_option maxRecDepth 100000 in
set_option maxHeartbeats 4000000 in
theorem reply_open (g : Nat) (k : Cn) (st : Int) (S : ByteArray) (z : Int) (w : World) (G : Gnd w) (h : LineAt g k w) (ho : k.o.size ≤ 1073741824) (hz : S.size ≤ 1048576) (hS : writeResp st [] ⟨#[]⟩ = .tuple #[.string S, .int .i64 z]) :
    Calls Tryz.prog 19 #[.pointer (some ⟨g, 0, none⟩), .int .i64 st, .pointer none, .bool false] w fun e w' => e = .returned (.tuple #[]) ∧ w.grownBy w' (some g) ∧ LineAt g ⟨k.b, k.o ++ S, k.c, k.y, k.l, k.s⟩ w' := by
  obtain ⟨c0, c1, c2, c3, c4, c5⟩ := line_cells h
  have f0 := line_free h
  have hwr := fun W (hb : Below w.heap.size w W) => writeResponse_any st none 0 [] ⟨#[]⟩ W (G.below hb) (by decide) (Kd.C_nil kH W) (by simp)
  rw [hS] at hwr
  have hgz : g < w.heap.size := blk_lt h
  have k0 : ¬ 9223372036854775807 < k.o.size + S.size := by omega
  have HL := Lib.hid h
  clear h hS G
  go_enter Tryz.func19, Tryz.ntmps19
  go_wp2_with (go_at_call 35; refine (hwr _ (by repeat (first | assumption | exact Below.refl _ _ | apply below_drew | apply pw_below_drewN | apply below_alloc | (refine below_via (by assumption) ?_)))).mono ?_; rintro e w2 ⟨rfl, hb2⟩; obtain ⟨hbc2, hbf2⟩ := bcell hb2)
  go_end0
  have hbw : Below w.heap.size w w2 := (by repeat (first | assumption | exact Below.refl _ _ | apply below_drew | apply pw_below_drewN | apply below_alloc | (refine below_via (by assumption) ?_)))
  exact ⟨rfl, grown_set (grown_of_below hbw _), line_put1 (HL.out.below hbw) _⟩
set_option maxRecDepth 100000 in
set_option maxHeartbeats 4000000 in
theorem reply_close (g : Nat) (k : Cn) (st : Int) (S : ByteArray) (z : Int) (w : World) (G : Gnd w) (h : LineAt g k w) (ho : k.o.size ≤ 1073741824) (hz : S.size ≤ 1048576) (hS : writeResp st [⟨⟨#[67, 111, 110, 110, 101, 99, 116, 105, 111, 110]⟩, ⟨#[99, 108, 111, 115, 101]⟩⟩] ⟨#[]⟩ = .tuple #[.string S, .int .i64 z]) :
    Calls Tryz.prog 19 #[.pointer (some ⟨g, 0, none⟩), .int .i64 st, .pointer none, .bool true] w fun e w' => e = .returned (.tuple #[]) ∧ w.grownBy w' (some g) ∧ LineAt g ⟨⟨#[]⟩, k.o ++ S, true, false, false, k.s⟩ w' := by
  obtain ⟨c0, c1, c2, c3, c4, c5⟩ := line_cells h
  have f0 := line_free h
  have hgz : g < w.heap.size := blk_lt h
  have k0 : ¬ 9223372036854775807 < k.o.size + S.size := by omega
  have hend := fun (k' : Cn) W h' => end_any g k' W h'
  have HL := Lib.hid h
  have hwr := fun A c W (hb : Below w.heap.size w W) hC => writeResponse_any st A c [⟨⟨#[67, 111, 110, 110, 101, 99, 116, 105, 111, 110]⟩, ⟨#[99, 108, 111, 115, 101]⟩⟩] ⟨#[]⟩ W (G.below hb) (by decide) hC (by
    intro h hh
    rw [List.mem_singleton.1 hh]
    exact ⟨by decide, by decide⟩)
  rw [hS] at hwr
  clear h hS G
  go_enter Tryz.func19, Tryz.ntmps19
  go_wp2_with fail
  refine (hwr _ _ _ (by repeat (first | assumption | exact Below.refl _ _ | apply below_drew | apply pw_below_drewN | apply below_alloc | (refine below_via (by assumption) ?_))) ?hC).mono ?_
  case hC =>
    exact kC_new2 w _ _ ⟨⟨#[67, 111, 110, 110, 101, 99, 116, 105, 111, 110]⟩, ⟨#[99, 108, 111, 115, 101]⟩⟩ _ _
  rintro e w2 ⟨rfl, hb2⟩
  obtain ⟨hbc2, hbf2⟩ := bcell hb2
  have hbw : Below w.heap.size w w2 := (by repeat (first | assumption | exact Below.refl _ _ | apply below_drew | apply pw_below_drewN | apply below_alloc | (refine below_via (by assumption) ?_)))
  obtain ⟨d0, d1, d2, d3, d4, d5⟩ := line_cells (HL.out.below hbw)
  have e0 := line_free (HL.out.below hbw)
  have HB := Lib.hid hbw
  clear hbc2 hbf2 hb2 hwr c0 c1 c2 c3 c4 c5 f0 hbw
  go_wp2_with fail
  have hl3 := line_put1 (HL.out.below HB.out) (k.o ++ S)
  have hg3 : w.grownBy (w2.setCell ⟨g, 1, none⟩ (.string (k.o ++ S))) (some g) := grown_set (grown_of_below HB.out _)
  generalize w2.setCell ⟨g, 1, none⟩ (.string (k.o ++ S)) = w3 at *
  refine (hend _ _ hl3).mono ?_
  rintro e w4 ⟨rfl, hg4, hl4⟩
  have HR := Lib.hid (show w.grownBy w4 (some g) ∧ LineAt g ⟨⟨#[]⟩, k.o ++ S, true, false, false, k.s⟩ w4 from ⟨grown_step hg3 hg4, hl4⟩)
  clear hl3 hg3 hl4 hg4 d0 d1 d2 d3 d4 d5 e0
  go_wp2_with fail
  go_end0
  exact ⟨rfl, HR.out⟩
end Go.Proofs.YtaihnhhapplmbaaGreatDoor.Sv
