/- ConfOwn's walk. -/
import Derived.Test.YtpdnopfjnmjnnaaGreatDoorWb
import Derived.Test.YtpdnopfjnmjnnaaGreatDoorWf
import Derived.Test.YtpdnopfjnmjnnaaGreatDoorVo
import Derived.Test.YtpdnopfjnmjnnaaGreatDoorKg
set_option linter.unusedVariables false
set_option linter.unusedSimpArgs false
namespace Go.Proofs.YtpdnopfjnmjnnaaGreatDoor.Cn
open Go.Sort Go.RowKit Go.Proofs Go.Proofs.YtpdnopfjnmjnnaaGreatDoorW.PrintWords Go.Proofs.YtpdnopfjnmjnnaaGreatDoor.Bs Go.Proofs.YtpdnopfjnmjnnaaGreatDoor.Ir Go.Proofs.YtpdnopfjnmjnnaaGreatDoor.Cz

/-- A row that may be written: it lies in new memory, of one type. -/
def RowAt (T : TypeId) (sz b : Nat) (W : World) (A : Option Addr) (n : Nat) : Prop := n = 0 ∨ ∃ g cells, A = some ⟨g, 0, none⟩ ∧ b ≤ g ∧ W.heap[g]? = some (.cells cells T (0, 0)) ∧ n * sz ≤ cells.size
/-- A node of new memory that is spoilt. -/
structure SpoilP (b : Nat) (W0 W : World) (bx : Nat) (y : Kn) (A3 A4 : Option Addr) (c3 c4 : Nat) : Prop where
  box : W.heap[bx]? = some (.cells #[.int .u8 y.f1, .string y.f2, .slice A3 y.f3.length c3, .slice A4 y.f4.length c4] 32 (0, 0))
  r3 : RowAt 9 1 b W A3 y.f3.length
  r4 : RowAt 44 5 b W A4 y.f4.length
  bel : Below b W0 W
theorem RowAt.set {T : TypeId} {sz b n : Nat} {W : World} {A : Option Addr} (h : RowAt T sz b W A n) (p o : Nat) (v : Value) : RowAt T sz b (W.setCell ⟨p, o, none⟩ v) A n := by
  rcases h with h | ⟨g, cells, e, hb, hg, hs⟩
  · exact .inl h
  · by_cases hp : g = p
    · subst hp
      exact .inr ⟨g, _, e, hb, blk_set hg o v, by simpa using hs⟩
    · exact .inr ⟨g, cells, e, hb, (Below.heap_setCell _ _ _ g hp).trans hg, hs⟩
theorem SpoilP.set {b : Nat} {W0 W : World} {bx : Nat} {y : Kn} {A3 A4 : Option Addr} {c3 c4 : Nat} (h : SpoilP b W0 W bx y A3 A4 c3 c4) (p o : Nat) (hp : b ≤ p) (hx : bx ≠ p) (v : Value) : SpoilP b W0 (W.setCell ⟨p, o, none⟩ v) bx y A3 A4 c3 c4 :=
  ⟨(Below.heap_setCell _ _ _ bx hx).trans h.box, h.r3.set p o v, h.r4.set p o v, h.bel.setCell (p := ⟨p, o, none⟩) hp v⟩
theorem row_S {w : World} {base : Nat} {ok : Nat → Prop} {A : Option Addr} {c b : Nat} {xs : List ByteArray} (h : Kd.string.R 9 w base ok (.slice A xs.length c) xs) (hb : b ≤ base) : RowAt 9 1 b w A xs.length := by
  by_cases h0 : xs.length = 0
  · exact .inl h0
  · obtain ⟨g, cap, e, _, hg, _⟩ := Kd.R_form h (by omega)
    injection e with e1 _ e3
    subst e1
    obtain ⟨cells, hc⟩ := Kd.R_typed h g rfl
    obtain ⟨-, -, hC⟩ := Kd.R_reads' h
    obtain ⟨ad, he, hat⟩ := at_S hC (xs.length - 1) (by omega)
    injection he with he
    subst he
    rw [add_plain, blk_cell hc] at hat
    have hlt := (Array.getElem?_eq_some_iff.1 hat).1
    exact .inr ⟨g, cells, rfl, by omega, hc, by omega⟩
theorem row_K {w : World} {base : Nat} {ok : Nat → Prop} {A : Option Addr} {c b : Nat} {xs : List Kn} (h : kK.R 44 w base ok (.slice A xs.length c) xs) (hb : b ≤ base) : RowAt 44 5 b w A xs.length := by
  by_cases h0 : xs.length = 0
  · exact .inl h0
  · obtain ⟨g, cap, e, _, hg, _⟩ := Kd.R_form h (by omega)
    injection e with e1 _ e3
    subst e1
    obtain ⟨cells, hc⟩ := Kd.R_typed h g rfl
    obtain ⟨-, -, hC⟩ := Kd.R_reads' h
    obtain ⟨ad, D3, e3, D4, e4, he, -, -, -, -, p4, -⟩ := at_K hC ((xs.length - 1 : Nat) : Int) (by omega) (by omega)
    injection he with he
    subst he
    rw [Int.toNat_natCast, add_plain] at p4
    have p4' : w.cell? ⟨g, (xs.length - 1) * 5 + 4, none⟩ = some (.slice D4 (rd_K xs ((xs.length - 1 : Nat) : Int)).f4.length e4) := p4
    rw [blk_cell hc] at p4'
    have hlt := (Array.getElem?_eq_some_iff.1 p4').1
    exact .inr ⟨g, cells, rfl, by omega, hc, by omega⟩
theorem RowAt.cell {T : TypeId} {sz b n : Nat} {W : World} {A : Option Addr} (h : RowAt T sz b W A n) {i : Nat} (hi : i < n) : ∃ g, A = some ⟨g, 0, none⟩ ∧ b ≤ g ∧ (∀ j, j < sz → ∃ u, W.cell? ⟨g, i * sz + j, none⟩ = some u) ∧ ∀ j, W.frozen? ⟨g, j, none⟩ = false := by
  rcases h with h | ⟨g, cells, e, hb, hg, hs⟩
  · omega
  · refine ⟨g, e, hb, fun j hj => ?_, fun j => blk_frozen hg j⟩
    have hlt : i * sz + j < cells.size := by
      have : (i + 1) * sz ≤ n * sz := Nat.mul_le_mul_right _ hi
      rw [Nat.add_mul, Nat.one_mul] at this
      omega
    exact ⟨cells[i * sz + j], (blk_cell hg _).trans (Array.getElem?_eq_getElem hlt)⟩
theorem RowAt.lt {T : TypeId} {sz b n : Nat} {W : World} {A : Option Addr} (h : RowAt T sz b W A n) (g : Nat) (hg : A = some ⟨g, 0, none⟩) (hn : 0 < n) : g < W.heap.size := by
  rcases h with h | ⟨g', cells, e, hb, hh, hs⟩
  · omega
  · rw [hg] at e
    injection e with e
    injection e with e
    subst e
    exact blk_lt hh
theorem RowAt.below {T : TypeId} {sz b n : Nat} {W W' : World} {A : Option Addr} (h : RowAt T sz b W A n) (hb : Below W.heap.size W W') : RowAt T sz b W' A n := by
  rcases h with h | ⟨g, cells, e, hbb, hg, hs⟩
  · exact .inl h
  · exact .inr ⟨g, cells, e, hbb, (hb.block _ (blk_lt hg)).trans hg, hs⟩
theorem RowAt.ne {T T' : TypeId} {sz b n : Nat} {W : World} {A : Option Addr} (h : RowAt T sz b W A n) {g bx : Nat} (hg : A = some ⟨g, 0, none⟩) (hn : 0 < n) {cs : Array Value} (hx : W.heap[bx]? = some (.cells cs T' (0, 0))) (hT : T ≠ T') : bx ≠ g := by
  rcases h with h | ⟨g', cells, e, hb, hh, hs⟩
  · omega
  · rw [hg] at e
    injection e with e
    injection e with e
    subst e
    rintro rfl
    rw [hx] at hh
    injection hh with hh
    injection hh with _ hh
    exact hT hh.symm
theorem spoil_new {b : Nat} {W0 W1 W : World} {y : Kn} {A3 A4 : Option Addr} {c3 c4 : Nat} (h3 : Kd.string.R 9 W1 b (fun k => b ≤ k) (.slice A3 y.f3.length c3) y.f3) (h4 : kK.R 44 W1 b (fun k => b ≤ k) (.slice A4 y.f4.length c4) y.f4) (hb : Below b W0 W1) (hbs : b ≤ W0.heap.size)
    (hW : W = W1.alloc (.cells #[.int .u8 y.f1, .string y.f2, .slice A3 y.f3.length c3, .slice A4 y.f4.length c4] 32)) : SpoilP b W0 W W1.heap.size y A3 A4 c3 c4 := by
  have hba : Below W1.heap.size W1 W := by rw [hW]; exact below_alloc (Below.refl _ _) _
  refine ⟨by rw [hW]; exact heap_alloc_new W1 _, (row_S h3 (Nat.le_refl _)).below hba, (row_K h4 (Nat.le_refl _)).below hba, ?_⟩
  exact hb.trans (hba.mono (Nat.le_trans hbs hb.size))

set_option maxRecDepth 100000 in
set_option maxHeartbeats 8000000 in
theorem confOwn_any (x : Kn) (hx : Fit x) (A3 : Option Addr) (c3 : Nat) (A4 : Option Addr) (c4 : Nat) (k : ByteArray) (w : World) (hC3 : Kd.string.C w A3 x.f3.length x.f3) (hC4 : kK.C w A4 x.f4.length x.f4) (hm : Mx w) (hv : Ev w) (hlow : 1 < w.heap.size) :
    Calls Tryz.prog 7 #[.agg #[.int .u8 x.f1, .string x.f2, .slice A3 x.f3.length c3, .slice A4 x.f4.length c4], .string k] w fun e w' => e = .returned (.bool true) ∧ Below w.heap.size w w' := by
  have HC := Lib.hid (And.intro hC3 hC4)
  have HF := Lib.hid hx
  obtain ⟨w1, hw1⟩ : ∃ w1, w1 = w.alloc (.cells #[.int .u8 x.f1, .string x.f2, .slice A3 x.f3.length c3, .slice A4 x.f4.length c4] 32) := ⟨_, rfl⟩
  have hb1 : Below w.heap.size w w1 := by rw [hw1]; exact below_alloc (Below.refl _ _) _
  have hn1 : w1.heap[w.heap.size]? = some (.cells #[.int .u8 x.f1, .string x.f2, .slice A3 x.f3.length c3, .slice A4 x.f4.length c4] 32 (0, 0)) := by rw [hw1]; exact heap_alloc_new w _
  have hlv := lives_any w1 (hm.below hb1) (hv.below hb1 hlow) (Nat.lt_of_lt_of_le hlow hb1.size)
  have HN1 := Lib.hid (And.intro hn1 hb1)
  rw [hw1] at hlv
  have HW1 := Lib.hid hw1
  clear hC3 hC4 hx hw1 hb1 hn1 hm hv hlow
  go_enter Tryz.func7, Tryz.ntmps7
  go_wp2_with fail
  refine hlv.mono ?_
  rw [← HW1.out]
  rintro e w2 ⟨rfl, hb2⟩
  have hn2 := (hb2.block _ (blk_lt HN1.out.1)).trans HN1.out.1
  have hbw2 := HN1.out.2.trans (hb2.mono HN1.out.2.size)
  have hcopy := copy_any x HF.out A3 c3 A4 c4 w2 (Kd.C_below HC.out.1 hbw2) (Kd.C_below HC.out.2 hbw2)
  have a0 := blk_cell hn2 0
  have a1 := blk_cell hn2 1
  have a2 := blk_cell hn2 2
  have a3 := blk_cell hn2 3
  have HN2 := Lib.hid (And.intro hn2 hbw2)
  clear hlv hb2 hn2 hbw2 HN1
  go_wp2_with fail
  refine hcopy.mono ?_
  rintro e w3 ⟨v3, v4, rfl, hR3, hR4, hb3⟩
  obtain ⟨B3, d3, rfl⟩ := Kd.R_slice hR3
  obtain ⟨B4, d4, rfl⟩ := Kd.R_slice hR4
  obtain ⟨-, -, hB3⟩ := Kd.R_reads' hR3
  obtain ⟨-, -, hB4⟩ := Kd.R_reads' hR4
  clear hR3 hR4 hcopy a0 a1 a2 a3
  obtain ⟨w4, hw4⟩ : ∃ w4, w4 = w3.alloc (.cells #[.int .u8 x.f1, .string x.f2, .slice B3 x.f3.length d3, .slice B4 x.f4.length d4] 32) := ⟨_, rfl⟩
  have hb34 : Below w3.heap.size w3 w4 := by rw [hw4]; exact below_alloc (Below.refl _ _) _
  have hn5 : w4.heap[w3.heap.size]? = some (.cells #[.int .u8 x.f1, .string x.f2, .slice B3 x.f3.length d3, .slice B4 x.f4.length d4] 32 (0, 0)) := by rw [hw4]; exact heap_alloc_new w3 _
  have hb24 := hb3.trans (hb34.mono hb3.size)
  have hn4 := (hb24.block _ (blk_lt HN2.out.1)).trans HN2.out.1
  have hbw4 := HN2.out.2.trans (hb24.mono HN2.out.2.size)
  have H4 := Lib.hid (And.intro hn4 (And.intro hn5 (And.intro (Kd.C_below hB3 hb34) (And.intro (Kd.C_below hB4 hb34) hbw4))))
  obtain ⟨w5, hw5⟩ : ∃ w5, w5 = w4.alloc (.cells #[.string k] 9) := ⟨_, rfl⟩
  have hb45 : Below w4.heap.size w4 w5 := by rw [hw5]; exact below_alloc (Below.refl _ _) _
  have hs5 : Kd.string.C w5 (some ⟨w4.heap.size, 0, none⟩) 1 [k] := by rw [hw5]; exact S1_new w4 k
  have hget := get_r x HF.out B3 d3 B4 d4 (some ⟨w4.heap.size, 0, none⟩) 1 [k] w5 (Kd.C_below (Kd.C_below hB3 hb34) hb45) (Kd.C_below (Kd.C_below hB4 hb34) hb45) hs5 (by simp)
  have a0 := blk_cell hn5 0
  have a1 := blk_cell hn5 1
  have a2 := blk_cell hn5 2
  have a3 := blk_cell hn5 3
  have hz4 : w4.heap.size = w3.heap.size + 1 := by rw [hw4]; simp
  rw [hz4] at hget
  have H5 := Lib.hid hb45
  have HW5 := Lib.hid (show w5 = (w3.alloc (.cells #[.int .u8 x.f1, .string x.f2, .slice B3 x.f3.length d3, .slice B4 x.f4.length d4] 32)).alloc (.cells #[.string k] 9) by rw [hw5, hw4])
  rw [HW5.out] at hget
  rw [hw4] at a0 a1 a2 a3
  have HW4 := Lib.hid hw4
  clear hb3 hB3 hB4 hw4 hb34 hn5 hb24 hn4 hbw4 HN2 hw5 hb45 hs5 hz4
  go_wp2_with fail
  refine hget.mono ?_
  rw [← HW5.out]
  rintro e w6 ⟨y, th, E3, f3, E4, f4, rfl, hb6, hR3, hR4, hfy, -, -⟩
  obtain ⟨w7, hw7⟩ : ∃ w7, w7 = w6.alloc (.cells #[.int .u8 y.f1, .string y.f2, .slice E3 y.f3.length f3, .slice E4 y.f4.length f4] 32) := ⟨_, rfl⟩
  have HS7 := Lib.hid (spoil_new hR3 hR4 hb6 (Nat.le_refl _) hw7)
  have HW7 := Lib.hid hw7
  have hyl : y.f3.length ≤ 1073741824 ∧ y.f4.length ≤ 1073741824 := by cases hfy; exact ⟨by assumption, by assumption⟩
  have HYL := Lib.hid hyl
  clear hget a0 a1 a2 a3 hb6 hR3 hR4 hfy hw7 hyl
  generalize hbx : w6.heap.size = b6 at *
  have a2 := blk_cell HS7.out.box 2
  rw [HW7.out] at a2
  go_wp2_with fail
  rw [← HW7.out]
  clear a2
  go_loopw [27] (fun iv wr => ∃ i : Nat, iv = .int .i64 (i : Int) ∧ i ≤ y.f3.length ∧ Hid (SpoilP w5.heap.size w5 wr b6 y E3 E4 f3 f4)) (fun iv _ => y.f3.length - (intOf iv).toNat)
  case atStart => exact ⟨0, rfl, Nat.zero_le _, HS7⟩
  case round =>
    obtain ⟨i, rfl, hi, HSi⟩ := hrel
    have hyl := HYL.out
    by_cases hlt : i < y.f3.length
    · obtain ⟨g, hE3, hbg, hcell, hfz⟩ := HSi.out.r3.cell hlt
      obtain ⟨u, hu⟩ := hcell 0 (by omega)
      simp only [Nat.mul_one, Nat.add_zero] at hu
      have a2 := blk_cell HSi.out.box 2
      have hne : b6 ≠ g := HSi.out.r3.ne hE3 (by omega) HSi.out.box (by decide)
      subst hE3
      have fz := hfz i
      have hwr : IntKind.i64.wrap ((i : Int) + 1) = (i : Int) + 1 := IntWalk.i64_in _ (by omega)
      have hli : (i : Int) < (y.f3.length : Int) := by omega
      have HBG := Lib.hid (And.intro hbg hne)
      clear hcell hfz hbg hne hyl
      go_wp2_with fail
      clear hu a2 fz
      go_roundw
      all_goals first
        | (simp [intOf]; omega; done)
        | exact ⟨i + 1, by simp, by omega, Lib.hid (HSi.out.set g i HBG.out.1 HBG.out.2 _)⟩
    · have hin : i = y.f3.length := by omega
      subst hin
      have a3 := blk_cell HSi.out.box 3
      clear hyl
      go_wp2_with fail
      clear a3
      go_loopw [38] (fun iv wr => ∃ i : Nat, iv = .int .i64 (i : Int) ∧ i ≤ y.f4.length ∧ Hid (SpoilP w5.heap.size w5 wr b6 y E3 E4 f3 f4)) (fun iv _ => y.f4.length - (intOf iv).toNat)
      case atStart => exact ⟨0, rfl, Nat.zero_le _, HSi⟩
      case round =>
        obtain ⟨i, rfl, hi, HSj⟩ := hrel
        have hyl := HYL.out
        by_cases hlt : i < y.f4.length
        · obtain ⟨g, hE4, hbg, hcell, hfz⟩ := HSj.out.r4.cell hlt
          obtain ⟨u0, hu0⟩ := hcell 0 (by omega)
          obtain ⟨u1, hu1⟩ := hcell 1 (by omega)
          obtain ⟨u2, hu2⟩ := hcell 2 (by omega)
          obtain ⟨u3, hu3⟩ := hcell 3 (by omega)
          obtain ⟨u4, hu4⟩ := hcell 4 (by omega)
          simp only [Nat.add_zero] at hu0
          have a3 := blk_cell HSj.out.box 3
          have hne : b6 ≠ g := HSj.out.r4.ne hE4 (by omega) HSj.out.box (by decide)
          subst hE4
          have z0 := hfz (i * 5)
          have z1 := hfz (i * 5 + 1)
          have z2 := hfz (i * 5 + 2)
          have z3 := hfz (i * 5 + 3)
          have z4 := hfz (i * 5 + 4)
          have hwr : IntKind.i64.wrap ((i : Int) + 1) = (i : Int) + 1 := IntWalk.i64_in _ (by omega)
          have hli : (i : Int) < (y.f4.length : Int) := by omega
          have HBG := Lib.hid (And.intro hbg hne)
          clear hcell hfz hbg hne hyl
          go_wp2_with fail
          clear hu0 hu1 hu2 hu3 hu4 a3 z0 z1 z2 z3 z4
          go_roundw
          all_goals first
            | (simp [intOf]; omega; done)
            | exact ⟨i + 1, by simp, by omega, Lib.hid (((((HSj.out.set g _ HBG.out.1 HBG.out.2 _).set g _ HBG.out.1 HBG.out.2 _).set g _ HBG.out.1 HBG.out.2 _).set g _ HBG.out.1 HBG.out.2 _).set g _ HBG.out.1 HBG.out.2 _)⟩
        · have hin : i = y.f4.length := by omega
          subst hin
          have hb4r := H5.out.trans (HSj.out.bel.mono H5.out.size)
          have hget := get_r x HF.out B3 d3 B4 d4 none 0 [] wr (Kd.C_below H4.out.2.2.1 hb4r) (Kd.C_below H4.out.2.2.2.1 hb4r) (Kd.C_nil _ _) (by decide)
          have hnr := (hb4r.block _ (blk_lt H4.out.2.1)).trans H4.out.2.1
          have a0 := blk_cell hnr 0
          have a1 := blk_cell hnr 1
          have a2 := blk_cell hnr 2
          have a3 := blk_cell hnr 3
          have HB4 := Lib.hid hb4r
          clear hyl hb4r hnr HSi
          go_wp2_with fail
          refine hget.mono ?_
          rintro e wA ⟨y', th', G3, h3, G4, h4, rfl, hbA, hR3, hR4, hfy, -, -⟩
          obtain ⟨wB, hwB⟩ : ∃ wB, wB = wA.alloc (.cells #[.int .u8 y'.f1, .string y'.f2, .slice G3 y'.f3.length h3, .slice G4 y'.f4.length h4] 32) := ⟨_, rfl⟩
          have HSB := Lib.hid (spoil_new hR3 hR4 hbA (Nat.le_refl _) hwB)
          have HWB := Lib.hid hwB
          have hyl : y'.f4.length ≤ 1073741824 := by cases hfy; assumption
          have HYM := Lib.hid hyl
          clear hget a0 a1 a2 a3 hbA hR3 hR4 hfy hwB hyl
          generalize hbx : wA.heap.size = bA at *
          have a3 := blk_cell HSB.out.box 3
          rw [HWB.out] at a3
          go_wp2_with fail
          rw [← HWB.out]
          clear a3
          go_loopw [55] (fun iv wq => ∃ i : Nat, iv = .int .i64 (i : Int) ∧ i ≤ y'.f4.length ∧ Hid (SpoilP wr.heap.size wr wq bA y' G3 G4 h3 h4)) (fun iv _ => y'.f4.length - (intOf iv).toNat)
          case atStart => exact ⟨0, rfl, Nat.zero_le _, HSB⟩
          case round =>
            obtain ⟨i, rfl, hi, HSk⟩ := hrel
            have hyl := HYM.out
            by_cases hlt : i < y'.f4.length
            · obtain ⟨g, hE4, hbg, hcell, hfz⟩ := HSk.out.r4.cell hlt
              obtain ⟨u1, hu1⟩ := hcell 1 (by omega)
              obtain ⟨u2, hu2⟩ := hcell 2 (by omega)
              obtain ⟨u3, hu3⟩ := hcell 3 (by omega)
              obtain ⟨u4, hu4⟩ := hcell 4 (by omega)
              have a3 := blk_cell HSk.out.box 3
              have hne : bA ≠ g := HSk.out.r4.ne hE4 (by omega) HSk.out.box (by decide)
              subst hE4
              have z1 := hfz (i * 5 + 1)
              have z2 := hfz (i * 5 + 2)
              have z3 := hfz (i * 5 + 3)
              have z4 := hfz (i * 5 + 4)
              have hwr : IntKind.i64.wrap ((i : Int) + 1) = (i : Int) + 1 := IntWalk.i64_in _ (by omega)
              have hli : (i : Int) < (y'.f4.length : Int) := by omega
              have HBG := Lib.hid (And.intro hbg hne)
              clear hcell hfz hbg hne hyl
              go_wp2_with fail
              clear hu1 hu2 hu3 hu4 a3 z1 z2 z3 z4
              go_roundw
              all_goals first
                | (simp [intOf]; omega; done)
                | exact ⟨i + 1, by simp, by omega, Lib.hid ((((HSk.out.set g _ HBG.out.1 HBG.out.2 _).set g _ HBG.out.1 HBG.out.2 _).set g _ HBG.out.1 HBG.out.2 _).set g _ HBG.out.1 HBG.out.2 _)⟩
            · have hin : i = y'.f4.length := by omega
              subst hin
              have hb4q := HB4.out.trans (HSk.out.bel.mono HB4.out.size)
              have hbwq := H4.out.2.2.2.2.trans (hb4q.mono H4.out.2.2.2.2.size)
              have hsame := same_any x HF.out B3 d3 B4 d4 A3 c3 A4 c4 wr (Kd.C_below H4.out.2.2.1 hb4q) (Kd.C_below H4.out.2.2.2.1 hb4q) (Kd.C_below HC.out.1 hbwq) (Kd.C_below HC.out.2 hbwq)
              have hq2 := (hb4q.block _ (blk_lt H4.out.1)).trans H4.out.1
              have hq5 := (hb4q.block _ (blk_lt H4.out.2.1)).trans H4.out.2.1
              have a0 := blk_cell hq2 0
              have a1 := blk_cell hq2 1
              have a2 := blk_cell hq2 2
              have a3 := blk_cell hq2 3
              have b0 := blk_cell hq5 0
              have b1 := blk_cell hq5 1
              have b2 := blk_cell hq5 2
              have b3 := blk_cell hq5 3
              have HBQ := Lib.hid hbwq
              clear hb4q hbwq hq2 hq5 hyl
              go_wp2_with fail
              refine hsame.mono ?_
              rintro e wz ⟨rfl, hbz⟩
              have HBZ := Lib.hid (HBQ.out.trans (hbz.mono HBQ.out.size))
              clear hsame a0 a1 a2 a3 b0 b1 b2 b3 hbz
              go_wp2_with fail
              go_ret
              exact ⟨rfl, HBZ.out⟩
theorem confOwn_s (x : Kn) (hx : Fit x) (A3 : Option Addr) (c3 : Nat) (A4 : Option Addr) (c4 : Nat) (k : ByteArray) (W : World) (g : Kg.Gk W) (hC3 : Kd.string.C W A3 x.f3.length x.f3) (hC4 : kK.C W A4 x.f4.length x.f4) :
    Calls Tryz.prog 7 #[.agg #[.int .u8 x.f1, .string x.f2, .slice A3 x.f3.length c3, .slice A4 x.f4.length c4], .string k] W fun e w' => e = .returned (.bool true) ∧ Below W.heap.size W w' :=
  confOwn_any x hx A3 c3 A4 c4 k W hC3 hC4 g.mx g.ev g.low
end Go.Proofs.YtpdnopfjnmjnnaaGreatDoor.Cn
