/- ConfFound's walk. -/
import Derived.Test.YtpdnopfjnmjnnaaGreatDoorWb
import Derived.Test.YtpdnopfjnmjnnaaGreatDoorVo
import Derived.Test.YtpdnopfjnmjnnaaGreatDoorKg
set_option linter.unusedVariables false
set_option linter.unusedSimpArgs false
namespace Go.Proofs.YtpdnopfjnmjnnaaGreatDoor.Cn
open Go.Sort Go.RowKit Go.Proofs Go.Proofs.YtpdnopfjnmjnnaaGreatDoorW.PrintWords Go.Proofs.YtpdnopfjnmjnnaaGreatDoor.Bs Go.Proofs.YtpdnopfjnmjnnaaGreatDoor.Ir Go.Proofs.YtpdnopfjnmjnnaaGreatDoor.Cz

/-- A node's cells. -/
abbrev ndC (y : Kn) (A3 : Option Addr) (c3 : Nat) (A4 : Option Addr) (c4 : Nat) : Obj := .cells #[.int .u8 y.f1, .string y.f2, .slice A3 y.f3.length c3, .slice A4 y.f4.length c4] 32 (0, 0)
/-- .. on the path. -/
structure FndP (x : Kn) (path : List ByteArray) (w W : World) (b : Nat) (y : Kn) (th : Bool) (A3 A4 B3 B4 : Option Addr) (c3 c4 d3 d4 i : Nat) : Prop where
  n : W.heap[w.heap.size]? = some (.cells #[.int .u8 x.f1, .string x.f2, .slice A3 x.f3.length c3, .slice A4 x.f4.length c4] 32 (0, 0))
  a : W.heap[b]? = some (.cells #[.int .u8 y.f1, .string y.f2, .slice B3 y.f3.length d3, .slice B4 y.f4.length d4] 32 (0, 0))
  lt : w.heap.size < b
  cl : Kd.string.C W B3 y.f3.length y.f3
  ck : kK.C W B4 y.f4.length y.f4
  fit : Fit y
  yes : th = true → getL x path = getL y (path.drop i)
  no : th = false → getL x path = none ∧ y = zKn
  bel : Below w.heap.size w W
theorem FndP.skip {x : Kn} {path : List ByteArray} {w W : World} {b : Nat} {y : Kn} {A3 A4 B3 B4 : Option Addr} {c3 c4 d3 d4 i : Nat} (h : FndP x path w W b y false A3 A4 B3 B4 c3 c4 d3 d4 i) (j : Nat) : FndP x path w W b y false A3 A4 B3 B4 c3 c4 d3 d4 j :=
  ⟨h.n, h.a, h.lt, h.cl, h.ck, h.fit, fun e => Bool.noConfusion e, h.no, h.bel⟩
theorem FndP.step {x : Kn} {path : List ByteArray} {w W W2 WF : World} {b base : Nat} {y z : Kn} {th : Bool} {A3 A4 B3 B4 E3 E4 : Option Addr} {c3 c4 d3 d4 e3 e4 i : Nat} (h : FndP x path w W b y true A3 A4 B3 B4 c3 c4 d3 d4 i) (hi : i < path.length) (hb : Below W.heap.size W W2) (hbase : W.heap.size ≤ base)
    (hR3 : Kd.string.R 9 W2 base (fun k => base ≤ k) (.slice E3 z.f3.length e3) z.f3) (hR4 : kK.R 44 W2 base (fun k => base ≤ k) (.slice E4 z.f4.length e4) z.f4) (hz : Fit z) (hyes : th = true → getL y [path.getD i ⟨#[]⟩] = some z) (hno : th = false → getL y [path.getD i ⟨#[]⟩] = none ∧ z = zKn)
    (hWF : WF = (((W2.setCell ⟨b, 0, none⟩ (.int .u8 z.f1)).setCell ⟨b, 1, none⟩ (.string z.f2)).setCell ⟨b, 2, none⟩ (.slice E3 z.f3.length e3)).setCell ⟨b, 3, none⟩ (.slice E4 z.f4.length e4)) : FndP x path w WF b z th A3 A4 E3 E4 c3 c4 e3 e4 (i + 1) := by
  have hlt := h.lt
  have hbl := blk_lt h.a
  have hn := (hb.block _ (blk_lt h.n)).trans h.n
  have ha := (hb.block _ hbl).trans h.a
  have hW : WF = W2.setCells b 0 [.int .u8 z.f1, .string z.f2, .slice E3 z.f3.length e3, .slice E4 z.f4.length e4] := hWF
  have hfar : ∀ k, k ≠ b → WF.heap[k]? = W2.heap[k]? := fun k hk => by rw [hW]; exact node_far _ _ _ _ hk
  obtain ⟨-, -, hC3⟩ := Kd.R_reads' (Kd.R_move hR3 (fun k hk => hfar k (by omega)))
  obtain ⟨-, -, hC4⟩ := Kd.R_reads' (Kd.R_move hR4 (fun k hk => hfar k (by omega)))
  have hgl : getL x path = (getL y [path.getD i ⟨#[]⟩]).bind (fun z => getL z (path.drop (i + 1))) := by
    rw [h.yes rfl, ← getL_cons]
    congr 1
    rw [show path.getD i ⟨#[]⟩ = path[i] by simp [List.getElem?_eq_getElem hi]]
    exact List.drop_eq_getElem_cons hi
  refine ⟨(hfar _ (by omega)).trans hn, by rw [hW]; exact node_set ha _ _ _ _, h.lt, hC3, hC4, hz, fun e => ?_, fun e => ?_, ?_⟩
  · rw [hgl, hyes e]; rfl
  · obtain ⟨h1, h2⟩ := hno e
    rw [hgl, h1]
    exact ⟨rfl, h2⟩
  · rw [hWF]
    exact (((((h.bel.trans (hb.mono h.bel.size)).setCell (p := ⟨b, 0, none⟩) (by show _ ≤ b; omega) _).setCell (p := ⟨b, 1, none⟩) (by show _ ≤ b; omega) _).setCell (p := ⟨b, 2, none⟩) (by show _ ≤ b; omega) _).setCell (p := ⟨b, 3, none⟩) (by show _ ≤ b; omega) _)
/-- At the end both ways come to one node. -/
theorem FndP.last {x : Kn} {path : List ByteArray} {w W : World} {b : Nat} {y z : Kn} {th th' : Bool} {A3 A4 B3 B4 : Option Addr} {c3 c4 d3 d4 : Nat} (h : FndP x path w W b y th A3 A4 B3 B4 c3 c4 d3 d4 path.length) (hyes : th' = true → getL x path = some z) (hno : th' = false → getL x path = none ∧ z = zKn) : th' = th ∧ z = y := by
  cases th with
  | true =>
    have h1 : getL x path = some y := by rw [h.yes rfl, List.drop_length]; rfl
    cases th' with
    | true => exact ⟨rfl, by have := hyes rfl; rw [h1] at this; injection this with e; exact e.symm⟩
    | false => have := (hno rfl).1; rw [h1] at this; cases this
  | false =>
    obtain ⟨h1, h2⟩ := h.no rfl
    cases th' with
    | true => have := hyes rfl; rw [h1] at this; cases this
    | false => exact ⟨rfl, by rw [h2, (hno rfl).2]⟩

set_option maxRecDepth 100000 in
set_option maxHeartbeats 8000000 in
theorem confFound_any (x : Kn) (hx : Fit x) (ht : FitT x) (A3 : Option Addr) (c3 : Nat) (A4 : Option Addr) (c4 : Nat) (Ap : Option Addr) (cp : Nat) (path : List ByteArray) (w : World) (hC3 : Kd.string.C w A3 x.f3.length x.f3) (hC4 : kK.C w A4 x.f4.length x.f4) (hCp : Kd.string.C w Ap path.length path) (hp : path.length ≤ 1073741824) (hm : Mx w) (hv : Ev w) (hlow : 1 < w.heap.size) :
    Calls Tryz.prog 6 #[.agg #[.int .u8 x.f1, .string x.f2, .slice A3 x.f3.length c3, .slice A4 x.f4.length c4], .slice Ap path.length cp] w fun e w' => e = .returned (.bool true) ∧ Below w.heap.size w w' := by
  have hxl : x.f4.length ≤ 1073741824 := by cases hx; assumption
  have HC := Lib.hid (And.intro hC3 (And.intro hC4 hCp))
  have HF := Lib.hid (And.intro hx ht)
  obtain ⟨w1, hw1⟩ : ∃ w1, w1 = w.alloc (.cells #[.int .u8 x.f1, .string x.f2, .slice A3 x.f3.length c3, .slice A4 x.f4.length c4] 32) := ⟨_, rfl⟩
  have hb1 : Below w.heap.size w w1 := by rw [hw1]; exact below_alloc (Below.refl _ _) _
  have hn1 : w1.heap[w.heap.size]? = some (.cells #[.int .u8 x.f1, .string x.f2, .slice A3 x.f3.length c3, .slice A4 x.f4.length c4] 32 (0, 0)) := by rw [hw1]; exact heap_alloc_new w _
  have hlv := lives_any w1 (hm.below hb1) (hv.below hb1 hlow) (Nat.lt_of_lt_of_le hlow hb1.size)
  have HN1 := Lib.hid (And.intro hn1 hb1)
  rw [hw1] at hlv
  have HW1 := Lib.hid hw1
  clear hC3 hC4 hCp hx ht hw1 hb1 hn1 hm hv hlow
  go_enter Tryz.func6, Tryz.ntmps6
  go_wp2_with fail
  refine hlv.mono ?_
  rw [← HW1.out]
  rintro e w2 ⟨rfl, hb2⟩
  have hn2 := (hb2.block _ (blk_lt HN1.out.1)).trans HN1.out.1
  have hbw2 := HN1.out.2.trans (hb2.mono HN1.out.2.size)
  have hget := get_r x HF.out.1 A3 c3 A4 c4 none 0 [] w2 (Kd.C_below HC.out.1 hbw2) (Kd.C_below HC.out.2.1 hbw2) (Kd.C_nil _ _) (by decide)
  have a0 := blk_cell hn2 0
  have a1 := blk_cell hn2 1
  have a2 := blk_cell hn2 2
  have a3 := blk_cell hn2 3
  have HN2 := Lib.hid (And.intro hn2 hbw2)
  clear hlv hb2 hn2 hbw2 HN1
  go_wp2_with fail
  refine hget.mono ?_
  rintro e w3 ⟨y, th, B3, d3, B4, d4, rfl, hb3, hR3, hR4, -, hyes, hno⟩
  obtain ⟨-, -, hB3⟩ := Kd.R_reads' hR3
  obtain ⟨-, -, hB4⟩ := Kd.R_reads' hR4
  clear hR3 hR4
  cases th
  case false =>
    have := (hno rfl).1
    cases this
  obtain rfl : x = y := by have := hyes rfl; rw [getL] at this; injection this
  clear hget a0 a1 a2 a3 hyes hno
  obtain ⟨w4, hw4⟩ : ∃ w4, w4 = w3.alloc (.cells #[.int .u8 x.f1, .string x.f2, .slice B3 x.f3.length d3, .slice B4 x.f4.length d4] 32) := ⟨_, rfl⟩
  have hb34 : Below w3.heap.size w3 w4 := by rw [hw4]; exact below_alloc (Below.refl _ _) _
  have hn5 : w4.heap[w3.heap.size]? = some (.cells #[.int .u8 x.f1, .string x.f2, .slice B3 x.f3.length d3, .slice B4 x.f4.length d4] 32 (0, 0)) := by rw [hw4]; exact heap_alloc_new w3 _
  have hb24 := hb3.trans (hb34.mono hb3.size)
  have hn4 := (hb24.block _ (blk_lt HN2.out.1)).trans HN2.out.1
  have hbw4 := HN2.out.2.trans (hb24.mono HN2.out.2.size)
  have hsame := same_any x HF.out.1 B3 d3 B4 d4 A3 c3 A4 c4 w4 (Kd.C_below hB3 hb34) (Kd.C_below hB4 hb34) (Kd.C_below HC.out.1 hbw4) (Kd.C_below HC.out.2.1 hbw4)
  have a0 := blk_cell hn4 0
  have a1 := blk_cell hn4 1
  have a2 := blk_cell hn4 2
  have a3 := blk_cell hn4 3
  have b0 := blk_cell hn5 0
  have b1 := blk_cell hn5 1
  have b2 := blk_cell hn5 2
  have b3 := blk_cell hn5 3
  rw [hw4] at a0 a1 a2 a3 b0 b1 b2 b3 hsame
  have HN4 := Lib.hid (And.intro hn4 hbw4)
  have HW4 := Lib.hid hw4
  clear hb3 hB3 hB4 hw4 hb34 hn5 hb24 hn4 hbw4 HN2
  go_wp2_with fail
  refine hsame.mono ?_
  rw [← HW4.out]
  rintro e w5 ⟨rfl, hb5⟩
  have hn5 := (hb5.block _ (blk_lt HN4.out.1)).trans HN4.out.1
  have hbw5 := HN4.out.2.trans (hb5.mono HN4.out.2.size)
  have hchk := check_any x HF.out.1 HF.out.2 A3 c3 A4 c4 w5 (Kd.C_below HC.out.1 hbw5) (Kd.C_below HC.out.2.1 hbw5)
  clear hsame a0 a1 a2 a3 b0 b1 b2 b3 hb5 HN4
  have a0 := blk_cell hn5 0
  have a1 := blk_cell hn5 1
  have a2 := blk_cell hn5 2
  have a3 := blk_cell hn5 3
  have HN5 := Lib.hid (And.intro hn5 hbw5)
  clear hn5 hbw5
  go_wp2_with fail
  refine hchk.mono ?_
  rintro e w6 ⟨rfl, hb6⟩
  clear hchk a0 a1 a2 a3
  have hn6 := (hb6.block _ (blk_lt HN5.out.1)).trans HN5.out.1
  have hbw6 := HN5.out.2.trans (hb6.mono HN5.out.2.size)
  have a3 := blk_cell hn6 3
  have HN6 := Lib.hid (And.intro hn6 hbw6)
  clear hn6 hbw6 hb6 HN5
  cases hok : (decide (x.f1 = 0) && rightG 9 x)
  case false =>
    go_wp2_with fail
    go_ret
    exact ⟨rfl, HN6.out.2⟩
  have hr : x.f1 = 0 ∧ rightG 9 x = true := by simpa using hok
  have HR := Lib.hid hr
  clear hr hok
  go_wp2_with fail
  clear a3
  go_loopw [37] (fun iv wr => ∃ i : Nat, iv = .int .i64 i ∧ i ≤ x.f4.length ∧ Hid (wr.heap[w.heap.size]? = some (.cells #[.int .u8 x.f1, .string x.f2, .slice A3 x.f3.length c3, .slice A4 x.f4.length c4] 32 (0, 0)) ∧ Below w.heap.size w wr)) (fun iv _ => x.f4.length - (intOf iv).toNat)
  case atStart => exact ⟨0, rfl, Nat.zero_le _, HN6⟩
  case round =>
    obtain ⟨i, rfl, hi, HNi⟩ := hrel
    by_cases hlt : i < x.f4.length
    · obtain ⟨ad, D3, e3, D4, e4, hA4, p0, p1, p2, p3, p4, -, g3, -, g4⟩ := at_K HC.out.2.1 (i : Int) (by omega) (by simpa using hlt)
      simp only [Int.toNat_natCast] at p0 p1 p2 p3 p4
      have hyy : rd_K x.f4 (i : Int) = x.f4[i] := by simp [rd_K, List.getElem?_eq_getElem hlt]
      have hgl := found_key HR.out.1 HR.out.2 i hlt
      rw [← hyy] at hgl
      have hfy : Fit (rd_K x.f4 (i : Int)) := by
        rw [hyy]
        cases HF.out.1 with
        | mk _ _ _ hall => exact hall _ (List.getElem_mem hlt)
      clear hyy
      generalize rd_K x.f4 (i : Int) = y at *
      have hbw := HNi.out.2
      replace p0 := (hbw.cell (World.block_lt_of_cell? w _ p0)).trans p0
      replace p1 := (hbw.cell (World.block_lt_of_cell? w _ p1)).trans p1
      replace p2 := (hbw.cell (World.block_lt_of_cell? w _ p2)).trans p2
      replace p3 := (hbw.cell (World.block_lt_of_cell? w _ p3)).trans p3
      replace p4 := (hbw.cell (World.block_lt_of_cell? w _ p4)).trans p4
      obtain ⟨w7, hw7⟩ : ∃ w7, w7 = wr.alloc (.cells #[.string y.f0, .int .u8 y.f1, .string y.f2, .slice D3 y.f3.length e3, .slice D4 y.f4.length e4] 44) := ⟨_, rfl⟩
      have hb7 : Below wr.heap.size wr w7 := by rw [hw7]; exact below_alloc (Below.refl _ _) _
      have hk7 : w7.heap[wr.heap.size]? = some (.cells #[.string y.f0, .int .u8 y.f1, .string y.f2, .slice D3 y.f3.length e3, .slice D4 y.f4.length e4] 44 (0, 0)) := by rw [hw7]; exact heap_alloc_new wr _
      have hz7 : w7.heap.size = wr.heap.size + 1 := by rw [hw7]; simp
      obtain ⟨w8, hw8⟩ : ∃ w8, w8 = w7.alloc (.cells #[.string y.f0] 9) := ⟨_, rfl⟩
      have hb8 : Below w7.heap.size w7 w8 := by rw [hw8]; exact below_alloc (Below.refl _ _) _
      have hk8 := (hb8.block _ (blk_lt hk7)).trans hk7
      have hbr8 := hb7.trans (hb8.mono hb7.size)
      have hbw8 := hbw.trans (hbr8.mono hbw.size)
      have hn8 := (hbr8.block _ (blk_lt HNi.out.1)).trans HNi.out.1
      have hs8 : Kd.string.C w8 (some ⟨wr.heap.size + 1, 0, none⟩) 1 [y.f0] := by rw [← hz7, hw8]; exact S1_new w7 y.f0
      have hget := get_r x HF.out.1 A3 c3 A4 c4 (some ⟨wr.heap.size + 1, 0, none⟩) 1 [y.f0] w8 (Kd.C_below HC.out.1 hbw8) (Kd.C_below HC.out.2.1 hbw8) hs8 (by simp)
      have hn7 := (hb7.block _ (blk_lt HNi.out.1)).trans HNi.out.1
      have a0 := blk_cell hn7 0
      have a1 := blk_cell hn7 1
      have a2 := blk_cell hn7 2
      have a3 := blk_cell hn7 3
      have k0 := blk_cell hk7 0
      rw [hw7] at a0 a1 a2 a3 k0
      rw [hw8, hw7] at hget
      have HW8 := Lib.hid (show w8 = (wr.alloc (.cells #[.string y.f0, .int .u8 y.f1, .string y.f2, .slice D3 y.f3.length e3, .slice D4 y.f4.length e4] 44)).alloc (.cells #[.string y.f0] 9) by rw [hw8, hw7])
      have HN8 := Lib.hid (And.intro hn8 (And.intro hbw8 hk8))
      have HGY := Lib.hid (And.intro (Kd.C_below g3 hbw8) (Kd.C_below g4 hbw8))
      have HGL := Lib.hid (And.intro hgl hfy)
      have hwr : IntKind.i64.wrap ((i : Int) + 1) = (i : Int) + 1 := IntWalk.i64_in _ (by omega)
      have hli : (i : Int) < (x.f4.length : Int) := by omega
      clear hw7 hb7 hk7 hz7 hw8 hb8 hk8 hbr8 hbw8 hn8 hs8 hbw hgl hfy g3 g4 hn7
      subst hA4
      go_wp2_with fail
      refine hget.mono ?_
      rw [← HW8.out]
      rintro e w9 ⟨z, th, E3, f3, E4, f4, rfl, hb9, hR3, hR4, -, hyes, hno⟩
      obtain ⟨-, -, hE3⟩ := Kd.R_reads' hR3
      obtain ⟨-, -, hE4⟩ := Kd.R_reads' hR4
      cases th
      case false =>
        have h1 := (hno rfl).1
        rw [HGL.out.1] at h1
        cases h1
      obtain rfl : y = z := by have := hyes rfl; rw [HGL.out.1] at this; injection this
      clear hget a0 a1 a2 a3 k0 p0 p1 p2 p3 p4 hyes hno hR3 hR4
      obtain ⟨wt, hwt⟩ : ∃ wt, wt = w9.alloc (.cells #[.int .u8 y.f1, .string y.f2, .slice E3 y.f3.length f3, .slice E4 y.f4.length f4] 32) := ⟨_, rfl⟩
      have hb9t : Below w9.heap.size w9 wt := by rw [hwt]; exact below_alloc (Below.refl _ _) _
      have hnt : wt.heap[w9.heap.size]? = some (.cells #[.int .u8 y.f1, .string y.f2, .slice E3 y.f3.length f3, .slice E4 y.f4.length f4] 32 (0, 0)) := by rw [hwt]; exact heap_alloc_new w9 _
      have hb8t := hb9.trans (hb9t.mono hb9.size)
      have hkt := (hb8t.block _ (blk_lt HN8.out.2.2)).trans HN8.out.2.2
      have hnn := (hb8t.block _ (blk_lt HN8.out.1)).trans HN8.out.1
      have hbwt := HN8.out.2.1.trans (hb8t.mono HN8.out.2.1.size)
      have hsame := same_any y HGL.out.2 E3 f3 E4 f4 D3 e3 D4 e4 wt (Kd.C_below hE3 hb9t) (Kd.C_below hE4 hb9t) (Kd.C_below HGY.out.1 hb8t) (Kd.C_below HGY.out.2 hb8t)
      have k1 := blk_cell hkt 1
      have k2 := blk_cell hkt 2
      have k3 := blk_cell hkt 3
      have k4 := blk_cell hkt 4
      have b0 := blk_cell hnt 0
      have b1 := blk_cell hnt 1
      have b2 := blk_cell hnt 2
      have b3 := blk_cell hnt 3
      rw [hwt] at k1 k2 k3 k4 b0 b1 b2 b3 hsame
      have HWT := Lib.hid hwt
      have HNT := Lib.hid (And.intro hnn hbwt)
      clear hb9 hE3 hE4 hwt hb9t hnt hb8t hkt hnn hbwt
      go_wp2_with fail
      refine hsame.mono ?_
      rw [← HWT.out]
      rintro e wu ⟨rfl, hbu⟩
      have HNU := Lib.hid (And.intro ((hbu.block _ (blk_lt HNT.out.1)).trans HNT.out.1) (HNT.out.2.trans (hbu.mono HNT.out.2.size)))
      clear hsame k1 k2 k3 k4 b0 b1 b2 b3 hbu
      go_wp2_with fail
      go_roundw
      all_goals first
        | (simp [intOf]; omega; done)
        | exact ⟨i + 1, by simp, by omega, HNU⟩
    · have hin : i = x.f4.length := by omega
      subst hin
      obtain ⟨wS, hwS⟩ : ∃ wS, wS = wr.alloc (.cells #[.int .u8 x.f1, .string x.f2, .slice A3 x.f3.length c3, .slice A4 x.f4.length c4] 32) := ⟨_, rfl⟩
      have hbS : Below wr.heap.size wr wS := by rw [hwS]; exact below_alloc (Below.refl _ _) _
      have hnS : wS.heap[wr.heap.size]? = some (.cells #[.int .u8 x.f1, .string x.f2, .slice A3 x.f3.length c3, .slice A4 x.f4.length c4] 32 (0, 0)) := by rw [hwS]; exact heap_alloc_new wr _
      have hbwS := HNi.out.2.trans (hbS.mono HNi.out.2.size)
      have HS := Lib.hid (show FndP x path w wS wr.heap.size x true A3 A4 A3 A4 c3 c4 c3 c4 0 from ⟨(hbS.block _ (blk_lt HNi.out.1)).trans HNi.out.1, hnS, blk_lt HNi.out.1, Kd.C_below HC.out.1 hbwS, Kd.C_below HC.out.2.1 hbwS, HF.out.1, fun _ => by rw [List.drop_zero], fun h => Bool.noConfusion h, hbwS⟩)
      have a0 := blk_cell HNi.out.1 0
      have a1 := blk_cell HNi.out.1 1
      have a2 := blk_cell HNi.out.1 2
      have a3 := blk_cell HNi.out.1 3
      have HWS := Lib.hid hwS
      generalize hbb : wr.heap.size = b at *
      clear hwS hbS hnS hbwS
      go_wp2_with fail
      rw [← HWS.out]
      clear a0 a1 a2 a3
      have hpl : path.length ≤ 1073741824 := hp
      go_loopw [12, 62] (fun tv iv wr => ∃ (i : Nat) (y : Kn) (th : Bool) (B3 : Option Addr) (d3 : Nat) (B4 : Option Addr) (d4 : Nat), tv = .bool th ∧ iv = .int .i64 (i : Int) ∧ i ≤ path.length ∧ Hid (FndP x path w wr b y th A3 A4 B3 B4 c3 c4 d3 d4 i)) (fun _ iv _ => path.length - (intOf iv).toNat)
      case atStart => exact ⟨0, x, true, A3, c3, A4, c4, rfl, rfl, Nat.zero_le _, HS⟩
      case round =>
        obtain ⟨i, y, th, B3, d3, B4, d4, rfl, rfl, hi, HPi⟩ := hrel
        by_cases hlt : i < path.length
        · obtain ⟨ad, hAp, k1⟩ := at_S HC.out.2.2 i hlt
          replace k1 := (HPi.out.bel.cell (World.block_lt_of_cell? w _ k1)).trans k1
          obtain ⟨p, hpp⟩ : ∃ p, path.getD i ⟨#[]⟩ = p := ⟨_, rfl⟩
          rw [hpp] at k1
          have HPP := Lib.hid hpp
          have hwr : IntKind.i64.wrap ((i : Int) + 1) = (i : Int) + 1 := IntWalk.i64_in _ (by omega)
          have hli : (i : Int) < (path.length : Int) := by omega
          clear hpp
          subst hAp
          cases th
          case true =>
            obtain ⟨w8, hw8⟩ : ∃ w8, w8 = wr.alloc (.cells #[.string p] 9) := ⟨_, rfl⟩
            have hb8 : Below wr.heap.size wr w8 := by rw [hw8]; exact below_alloc (Below.refl _ _) _
            have hs8 : Kd.string.C w8 (some ⟨wr.heap.size, 0, none⟩) 1 [p] := by rw [hw8]; exact S1_new wr p
            have hget := get_r y HPi.out.fit B3 d3 B4 d4 (some ⟨wr.heap.size, 0, none⟩) 1 [p] w8 (Kd.C_below HPi.out.cl hb8) (Kd.C_below HPi.out.ck hb8) hs8 (by simp)
            have a0 := blk_cell HPi.out.a 0
            have a1 := blk_cell HPi.out.a 1
            have a2 := blk_cell HPi.out.a 2
            have a3 := blk_cell HPi.out.a 3
            rw [hw8] at hget
            have HW8 := Lib.hid hw8
            have HB8 := Lib.hid hb8
            clear hw8 hb8 hs8
            go_wp2_with fail
            refine hget.mono ?_
            rw [← HW8.out]
            rintro e w9 ⟨z, th', E3, e3, E4, e4, rfl, hb9, hR3, hR4, hz, hyes, hno⟩
            have hb19 : Below wr.heap.size wr w9 := HB8.out.trans (hb9.mono HB8.out.size)
            have hn9 := (hb19.block _ (blk_lt HPi.out.a)).trans HPi.out.a
            have n0 := blk_cell hn9 0
            have n1 := blk_cell hn9 1
            have n2 := blk_cell hn9 2
            have n3 := blk_cell hn9 3
            have z0 := blk_frozen hn9 0
            have z1 := blk_frozen hn9 1
            have z2 := blk_frozen hn9 2
            have z3 := blk_frozen hn9 3
            rw [← HPP.out] at hyes hno
            have HX := Lib.hid (fun WF hWF => HPi.out.step (WF := WF) hlt hb19 HB8.out.size hR3 hR4 hz hyes hno hWF)
            clear hget a0 a1 a2 a3 hb9 hR3 hR4 hz hyes hno hb19 hn9
            go_wp2_with fail
            go_roundw
            all_goals first
              | (simp [intOf]; omega; done)
              | exact ⟨i + 1, z, th', E3, e3, E4, e4, rfl, by simp, by omega, Lib.hid (HX.out _ rfl)⟩
          case false =>
            go_wp2_with fail
            go_roundw
            all_goals first
              | (simp [intOf]; omega; done)
              | exact ⟨i + 1, y, false, B3, d3, B4, d4, rfl, by simp, by omega, Lib.hid (HPi.out.skip _)⟩
        · have hin : i = path.length := by omega
          subst hin
          have hbw := HPi.out.bel
          have hget := get_r x HF.out.1 A3 c3 A4 c4 Ap cp path wr (Kd.C_below HC.out.1 hbw) (Kd.C_below HC.out.2.1 hbw) (Kd.C_below HC.out.2.2 hbw) hpl
          have a0 := blk_cell HPi.out.n 0
          have a1 := blk_cell HPi.out.n 1
          have a2 := blk_cell HPi.out.n 2
          have a3 := blk_cell HPi.out.n 3
          clear hbw
          go_wp2_with fail
          refine hget.mono ?_
          rintro e w9 ⟨z, th', E3, e3, E4, e4, rfl, hb9, hR3, hR4, hz, hyes, hno⟩
          obtain ⟨rfl, rfl⟩ := HPi.out.last hyes hno
          obtain ⟨-, -, hE3⟩ := Kd.R_reads' hR3
          obtain ⟨-, -, hE4⟩ := Kd.R_reads' hR4
          clear hget a0 a1 a2 a3 hR3 hR4 hyes hno
          obtain ⟨wt, hwt⟩ : ∃ wt, wt = w9.alloc (.cells #[.int .u8 z.f1, .string z.f2, .slice E3 z.f3.length e3, .slice E4 z.f4.length e4] 32) := ⟨_, rfl⟩
          have hb9t : Below w9.heap.size w9 wt := by rw [hwt]; exact below_alloc (Below.refl _ _) _
          have hnt : wt.heap[w9.heap.size]? = some (.cells #[.int .u8 z.f1, .string z.f2, .slice E3 z.f3.length e3, .slice E4 z.f4.length e4] 32 (0, 0)) := by rw [hwt]; exact heap_alloc_new w9 _
          have hbrt := hb9.trans (hb9t.mono hb9.size)
          have hat := (hbrt.block _ (blk_lt HPi.out.a)).trans HPi.out.a
          have hbwt := HPi.out.bel.trans (hbrt.mono HPi.out.bel.size)
          have hsame := same_any z hz E3 e3 E4 e4 B3 d3 B4 d4 wt (Kd.C_below hE3 hb9t) (Kd.C_below hE4 hb9t) (Kd.C_below HPi.out.cl hbrt) (Kd.C_below HPi.out.ck hbrt)
          have k0 := blk_cell hat 0
          have k1 := blk_cell hat 1
          have k2 := blk_cell hat 2
          have k3 := blk_cell hat 3
          have b0 := blk_cell hnt 0
          have b1 := blk_cell hnt 1
          have b2 := blk_cell hnt 2
          have b3 := blk_cell hnt 3
          rw [hwt] at k0 k1 k2 k3 b0 b1 b2 b3 hsame
          have HWT := Lib.hid hwt
          have HBT := Lib.hid hbwt
          clear hb9 hE3 hE4 hwt hb9t hnt hbrt hat hbwt hz
          cases th'
          all_goals
            go_wp2_with fail
            refine hsame.mono ?_
            rw [← HWT.out]
            rintro e wu ⟨rfl, hbu⟩
            have HBU := Lib.hid (HBT.out.trans (hbu.mono HBT.out.size))
            clear hsame k0 k1 k2 k3 b0 b1 b2 b3 hbu
            go_wp2_with fail
            go_ret
            exact ⟨rfl, HBU.out⟩
theorem confFound_s (x : Kn) (hx : Fit x) (ht : FitT x) (A3 : Option Addr) (c3 : Nat) (A4 : Option Addr) (c4 : Nat) (Ap : Option Addr) (cp : Nat) (path : List ByteArray) (W : World) (g : Kg.Gk W) (hC3 : Kd.string.C W A3 x.f3.length x.f3) (hC4 : kK.C W A4 x.f4.length x.f4) (hCp : Kd.string.C W Ap path.length path) (hp : path.length ≤ 1048576) :
    Calls Tryz.prog 6 #[.agg #[.int .u8 x.f1, .string x.f2, .slice A3 x.f3.length c3, .slice A4 x.f4.length c4], .slice Ap path.length cp] W fun e w' => e = .returned (.bool true) ∧ Below W.heap.size W w' :=
  confFound_any x hx ht A3 c3 A4 c4 Ap cp path W hC3 hC4 hCp (by omega) g.mx g.ev g.low
end Go.Proofs.YtpdnopfjnmjnnaaGreatDoor.Cn
