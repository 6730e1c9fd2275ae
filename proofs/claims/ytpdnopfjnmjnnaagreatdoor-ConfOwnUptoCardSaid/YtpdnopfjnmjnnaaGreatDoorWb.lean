/- Package penstockref12: Same, of two nodes that are the same; Get, as its askers use it; what a right map's keys are. -/
import Derived.Test.YtpdnopfjnmjnnaaGreatDoorVa
import Derived.Lib.QuietBelow
import Derived.Test.YtpdnopfjnmjnnaaGreatDoorVg
set_option linter.unusedVariables false
set_option linter.unusedSimpArgs false
namespace Go.Proofs.YtpdnopfjnmjnnaaGreatDoor.Cn
section
open Go.Sort Go.RowKit Go.Proofs Go.Proofs.YtpdnopfjnmjnnaaGreatDoorW.PrintWords Go.Proofs.YtpdnopfjnmjnnaaGreatDoor.Bs Go.Proofs.YtpdnopfjnmjnnaaGreatDoor.Ir Go.Proofs.YtpdnopfjnmjnnaaGreatDoor.Cz

theorem at_S {w : World} {A : Option Addr} {n : Nat} {P : List ByteArray} (h : Kd.C Kd.string w A n P) (i : Nat) (hi : i < n) : ∃ ad, A = some ad ∧ w.cell? (ad.add i) = some (.string (P.getD i ⟨#[]⟩)) := by
  obtain ⟨ad, c, e, _, hK, hc⟩ := Kd.C_get h (⟨#[]⟩ : ByteArray) (i : Int) (by omega) (by simpa using hi)
  have e2 : c = [Value.string (P.getD i ⟨#[]⟩)] := hK
  subst e2
  have e3 : Kd.string.sz = 1 := rfl
  have hp : w.cell? (ad.add ((i : Int).toNat * Kd.string.sz + 0)) = some (.string (P.getD i ⟨#[]⟩)) := hc 0 _ (by simp)
  rw [e3, Int.toNat_natCast, Nat.mul_one, Nat.add_zero] at hp
  exact ⟨ad, e, hp⟩
/-- A round's state: the two boxes. -/
structure SameP (x : Kn) (w W : World) (A3 A4 B3 B4 : Option Addr) (c3 c4 d3 d4 : Nat) : Prop where
  a : W.heap[w.heap.size]? = some (.cells #[.int .u8 x.f1, .string x.f2, .slice A3 x.f3.length c3, .slice A4 x.f4.length c4] 32 (0, 0))
  b : W.heap[w.heap.size + 1]? = some (.cells #[.int .u8 x.f1, .string x.f2, .slice B3 x.f3.length d3, .slice B4 x.f4.length d4] 32 (0, 0))
  bel : Below w.heap.size w W
theorem SameP.move {x : Kn} {w W W' : World} {A3 A4 B3 B4 : Option Addr} {c3 c4 d3 d4 : Nat} (h : SameP x w W A3 A4 B3 B4 c3 c4 d3 d4) (hb : Below W.heap.size W W') : SameP x w W' A3 A4 B3 B4 c3 c4 d3 d4 :=
  ⟨(hb.block _ (blk_lt h.a)).trans h.a, (hb.block _ (blk_lt h.b)).trans h.b, h.bel.trans (hb.mono h.bel.size)⟩

set_option maxRecDepth 100000 in
set_option maxHeartbeats 4000000 in
theorem same_any (x : Kn) (hx : Fit x) : ∀ (A3 : Option Addr) (c3 : Nat) (A4 : Option Addr) (c4 : Nat) (B3 : Option Addr) (d3 : Nat) (B4 : Option Addr) (d4 : Nat) (w : World), Kd.string.C w A3 x.f3.length x.f3 → kK.C w A4 x.f4.length x.f4 → Kd.string.C w B3 x.f3.length x.f3 → kK.C w B4 x.f4.length x.f4 →
    Calls Tryz.prog 17 #[.agg #[.int .u8 x.f1, .string x.f2, .slice A3 x.f3.length c3, .slice A4 x.f4.length c4], .agg #[.int .u8 x.f1, .string x.f2, .slice B3 x.f3.length d3, .slice B4 x.f4.length d4]] w fun e w' => e = .returned (.bool true) ∧ Below w.heap.size w w' := by
  induction hx with
  | mk x h3 h4 _ ih =>
    intro A3 c3 A4 c4 B3 d3 B4 d4 w hA3 hA4 hB3 hB4
    have HIH := Lib.hid ih
    have HC3 := Lib.hid (And.intro hA3 hB3)
    have HC4 := Lib.hid (And.intro hA4 hB4)
    clear ih hA3 hA4 hB3 hB4
    obtain ⟨wa, hwa⟩ : ∃ wa, wa = (w.alloc (.cells #[.int .u8 x.f1, .string x.f2, .slice A3 x.f3.length c3, .slice A4 x.f4.length c4] 32)).alloc (.cells #[.int .u8 x.f1, .string x.f2, .slice B3 x.f3.length d3, .slice B4 x.f4.length d4] 32) := ⟨_, rfl⟩
    have e1 : (w.alloc (.cells #[.int .u8 x.f1, .string x.f2, .slice A3 x.f3.length c3, .slice A4 x.f4.length c4] 32)).heap.size = w.heap.size + 1 := by simp
    have hP : SameP x w wa A3 A4 B3 B4 c3 c4 d3 d4 := by
      refine ⟨?_, ?_, ?_⟩
      · rw [hwa, Below.heap_alloc _ _ _ (by simp)]; exact heap_alloc_new w _
      · rw [hwa, ← e1]; exact heap_alloc_new _ _
      · rw [hwa]; exact below_alloc (below_alloc (Below.refl _ _) _) _
    have HP := Lib.hid hP
    have a0 := blk_cell hP.a 0
    have a1 := blk_cell hP.a 1
    have a2 := blk_cell hP.a 2
    have a3 := blk_cell hP.a 3
    have b0 := blk_cell hP.b 0
    have b1 := blk_cell hP.b 1
    have b2 := blk_cell hP.b 2
    have b3 := blk_cell hP.b 3
    rw [hwa] at a0 a1 a2 a3 b0 b1 b2 b3
    have HW := Lib.hid hwa
    clear hP e1 hwa
    go_enter Tryz.func17, Tryz.ntmps17
    go_wp2_with fail
    clear a0 a1 a2 a3 b0 b1 b2 b3
    rw [← HW.out]
    go_loopw [40] (fun iv wr => ∃ i : Nat, iv = .int .i64 i ∧ i ≤ x.f3.length ∧ Hid (SameP x w wr A3 A4 B3 B4 c3 c4 d3 d4)) (fun iv _ => x.f3.length - (intOf iv).toNat)
    case atStart => exact ⟨0, rfl, Nat.zero_le _, HP⟩
    case round =>
      obtain ⟨i, rfl, hi, HPi⟩ := hrel
      by_cases hlt : i < x.f3.length
      · obtain ⟨ad, hA3, k1⟩ := at_S HC3.out.1 i hlt
        obtain ⟨bd, hB3, k2⟩ := at_S HC3.out.2 i hlt
        have hbw := HPi.out.bel
        replace k1 := (hbw.cell (World.block_lt_of_cell? w _ k1)).trans k1
        replace k2 := (hbw.cell (World.block_lt_of_cell? w _ k2)).trans k2
        have a2 := blk_cell HPi.out.a 2
        have b2 := blk_cell HPi.out.b 2
        simp at a2 b2
        have r1 := cell_regrown k1
        have r2 := cell_regrown k2
        have r3 := cell_regrown a2
        have r4 := cell_regrown b2
        have hwr : IntKind.i64.wrap ((i : Int) + 1) = (i : Int) + 1 := IntWalk.i64_in _ (by omega)
        have hli : (i : Int) < (x.f3.length : Int) := by omega
        generalize x.f3.getD i ⟨#[]⟩ = z at *
        clear hbw k1 k2 a2 b2
        subst hA3 hB3
        go_wp2_with fail
        refine wp_region_quiet_below (by kernel_rfl) (by kernel_rfl) ?_
        repeat (quiet_step (fail))
        refine wpQuiet_nil ?_
        intro _ hw'
        obtain ⟨⟨dq, osq⟩, hw''⟩ := hw'
        subst hw''
        have hb1 := below_regrown (wr) dq osq
        generalize grow (redrawn (wr) dq) osq = W1 at *
        clear r1 r2 r3 r4
        go_wp2_with fail
        go_roundw
        all_goals first
          | (simp [intOf]; omega; done)
          | exact ⟨i + 1, by simp, by omega, Lib.hid (HPi.out.move hb1)⟩
      · have hin : i = x.f3.length := by omega
        subst hin
        have a3 := blk_cell HPi.out.a 3
        go_wp2_with fail
        clear a3
        go_loopw [58] (fun iv wr => ∃ i : Nat, iv = .int .i64 i ∧ i ≤ x.f4.length ∧ Hid (SameP x w wr A3 A4 B3 B4 c3 c4 d3 d4)) (fun iv _ => x.f4.length - (intOf iv).toNat)
        case atStart => exact ⟨0, rfl, Nat.zero_le _, HPi⟩
        case round =>
          obtain ⟨i, rfl, hi, HPj⟩ := hrel
          by_cases hlt : i < x.f4.length
          · obtain ⟨ad, D3, e3, D4, e4, hA4, p0, p1, p2, p3, p4, -, g3, -, g4⟩ := at_K HC4.out.1 (i : Int) (by omega) (by simpa using hlt)
            obtain ⟨bd, E3, f3, E4, f4, hB4, q0, q1, q2, q3, q4, -, l3, -, l4⟩ := at_K HC4.out.2 (i : Int) (by omega) (by simpa using hlt)
            simp only [Int.toNat_natCast] at p0 p1 p2 p3 p4 q0 q1 q2 q3 q4
            have hyy : rd_K x.f4 (i : Int) = x.f4[i] := by simp [rd_K, List.getElem?_eq_getElem hlt]
            have hbw := HPj.out.bel
            have hcall := HIH.out (x.f4[i]) (List.getElem_mem hlt) D3 e3 D4 e4 E3 f3 E4 f4
            rw [← hyy] at hcall
            clear hyy
            generalize rd_K x.f4 (i : Int) = y at *
            have cs := fun d os => Calls.regrown_of (hcall (grow (redrawn wr d) os) (g3.imp_ (hbw.trans ((below_regrown wr d os).mono hbw.size)) (fun _ _ hp => Kd.string.K_below (hbw.trans ((below_regrown wr d os).mono hbw.size)) hp)) (g4.imp_ (hbw.trans ((below_regrown wr d os).mono hbw.size)) (fun _ _ hp => kK.K_below (hbw.trans ((below_regrown wr d os).mono hbw.size)) hp)) (l3.imp_ (hbw.trans ((below_regrown wr d os).mono hbw.size)) (fun _ _ hp => Kd.string.K_below (hbw.trans ((below_regrown wr d os).mono hbw.size)) hp)) (l4.imp_ (hbw.trans ((below_regrown wr d os).mono hbw.size)) (fun _ _ hp => kK.K_below (hbw.trans ((below_regrown wr d os).mono hbw.size)) hp)))
            have a3 := blk_cell HPj.out.a 3
            have b3 := blk_cell HPj.out.b 3
            simp at a3 b3
            have ra := cell_regrown a3
            have rb := cell_regrown b3
            have r0 := cell_regrown ((hbw.cell (World.block_lt_of_cell? w _ p0)).trans p0)
            have r1 := cell_regrown ((hbw.cell (World.block_lt_of_cell? w _ p1)).trans p1)
            have r2 := cell_regrown ((hbw.cell (World.block_lt_of_cell? w _ p2)).trans p2)
            have r3 := cell_regrown ((hbw.cell (World.block_lt_of_cell? w _ p3)).trans p3)
            have r4 := cell_regrown ((hbw.cell (World.block_lt_of_cell? w _ p4)).trans p4)
            have s0 := cell_regrown ((hbw.cell (World.block_lt_of_cell? w _ q0)).trans q0)
            have s1 := cell_regrown ((hbw.cell (World.block_lt_of_cell? w _ q1)).trans q1)
            have s2 := cell_regrown ((hbw.cell (World.block_lt_of_cell? w _ q2)).trans q2)
            have s3 := cell_regrown ((hbw.cell (World.block_lt_of_cell? w _ q3)).trans q3)
            have s4 := cell_regrown ((hbw.cell (World.block_lt_of_cell? w _ q4)).trans q4)
            have hwr : IntKind.i64.wrap ((i : Int) + 1) = (i : Int) + 1 := IntWalk.i64_in _ (by omega)
            have hli : (i : Int) < (x.f4.length : Int) := by omega
            clear hbw p0 p1 p2 p3 p4 q0 q1 q2 q3 q4 a3 b3 g3 g4 l3 l4 hcall
            subst hA4 hB4
            go_wp2_with fail
            refine wp_region_quiet_below (by kernel_rfl) (by kernel_rfl) ?_
            repeat (quiet_step (with_reducible exact cs _ _))
            refine wpQuiet_nil ?_
            intro _ hw'
            obtain ⟨⟨dq, osq⟩, hw''⟩ := hw'
            subst hw''
            have hb1 := below_regrown (wr) dq osq
            generalize grow (redrawn (wr) dq) osq = W1 at *
            clear r0 r1 r2 r3 r4 s0 s1 s2 s3 s4 ra rb cs
            go_wp2_with fail
            go_roundw
            all_goals first
              | (simp [intOf]; omega; done)
              | exact ⟨i + 1, by simp, by omega, Lib.hid (HPj.out.move hb1)⟩
          · have hin : i = x.f4.length := by omega
            subst hin
            go_wp2_with fail
            go_ret
            exact ⟨rfl, HPj.out.bel⟩
end
section
open Go.Sort Go.RowKit Go.Proofs Go.Proofs.YtpdnopfjnmjnnaaGreatDoorW.PrintWords Go.Proofs.YtpdnopfjnmjnnaaGreatDoor.Bs Go.Proofs.YtpdnopfjnmjnnaaGreatDoor.Ir Go.Proofs.YtpdnopfjnmjnnaaGreatDoor.Cz

theorem keysG_new {r : Kn → Bool} (l : List Kn) : ∀ (s : List (List UInt8)), keysG r s l = true → (∀ i (hi : i < l.length), l[i].f0.data.toList ∉ s) ∧ ∀ i j (hi : i < l.length) (hj : j < i), l[j].f0.data.toList ≠ l[i].f0.data.toList := by
  induction l with
  | nil => intro s _; exact ⟨fun i hi => absurd hi (Nat.not_lt_zero _), fun i j hi => absurd hi (Nat.not_lt_zero _)⟩
  | cons y l ih =>
    intro s h
    unfold keysG at h
    simp only [Bool.and_eq_true, Bool.not_eq_true', List.contains_eq_mem, decide_eq_false_iff_not] at h
    obtain ⟨h1, h2⟩ := ih _ h.2
    refine ⟨fun i hi => ?_, fun i j hi hj => ?_⟩
    · cases i with
      | zero => exact h.1.1.2
      | succ i => exact fun hm => h1 i (by simpa using hi) (List.mem_cons_of_mem _ hm)
    · cases i with
      | zero => exact absurd hj (Nat.not_lt_zero _)
      | succ i =>
        cases j with
        | zero => exact fun e => h1 i (Nat.lt_of_succ_lt_succ hi) (by have e' : y.f0.data.toList = (l[i]'(Nat.lt_of_succ_lt_succ hi)).f0.data.toList := e; rw [← e']; exact List.mem_cons_self)
        | succ j => exact h2 i j (by simpa using hi) (by omega)
theorem right_keys {x : Kn} (h : rightG 9 x = true) : keysG (rightG 8) [] x.f4 = true := by
  rw [rightG] at h
  simp only [Bool.and_eq_true] at h
  exact h.1.2
theorem found_key {x : Kn} (h0 : x.f1 = 0) (h : rightG 9 x = true) (i : Nat) (hi : i < x.f4.length) : getL x [(x.f4[i]).f0] = some x.f4[i] := by
  have hn := (keysG_new x.f4 [] (right_keys h)).2
  have hf : x.f4.findIdx? (isKey (x.f4[i]).f0) = some i := by
    rw [List.findIdx?_eq_some_iff_getElem]
    refine ⟨hi, by simp [isKey], fun j hj => ?_⟩
    have := hn i j hi hj
    simpa [isKey] using this
  have hx : idxK (isKey (x.f4[i]).f0) x.f4 = (i : Int) := by unfold idxK; rw [hf]
  rw [getL, hx, if_neg (by simp [h0]), Int.toNat_natCast, getL]
  simp [List.getElem?_eq_getElem hi]
theorem getL_cons (x : Kn) (p : ByteArray) (ps : List ByteArray) : getL x (p :: ps) = (getL x [p]).bind (fun z => getL z ps) := by
  rw [getL, getL]
  split
  · rfl
  · rw [getL]; rfl
theorem fit_zero : Fit zKn := Fit.mk _ (by decide) (by decide) (fun y hy => by cases hy)
theorem getL_fit (path : List ByteArray) : ∀ (x y : Kn), Fit x → getL x path = some y → Fit y := by
  induction path with
  | nil => intro x y hx h; rw [getL] at h; injection h with h; rw [← h]; exact hx
  | cons p ps ih =>
    intro x y hx h
    rw [getL] at h
    split at h
    · cases h
    · rename_i hn
      refine ih _ y ?_ h
      have hlt := idxK_lt (isKey p) x.f4 (by omega)
      rw [show x.f4.getD (idxK (isKey p) x.f4).toNat zKn = x.f4[(idxK (isKey p) x.f4).toNat] by simp [List.getElem?_eq_getElem hlt]]
      cases hx with
      | mk _ _ _ hall => exact hall _ (List.getElem_mem hlt)
/-- What Get answers: a node in memory, and whether it is there. -/
def GetR (x : Kn) (path : List ByteArray) (w : World) (e : Ending) (w' : World) : Prop :=
  ∃ (y : Kn) (th : Bool) (A3 : Option Addr) (c3 : Nat) (A4 : Option Addr) (c4 : Nat), e = .returned (.tuple #[.agg #[.int .u8 y.f1, .string y.f2, .slice A3 y.f3.length c3, .slice A4 y.f4.length c4], .bool th]) ∧ Below w.heap.size w w' ∧ Kd.string.R 9 w' w.heap.size (fun k => w.heap.size ≤ k) (.slice A3 y.f3.length c3) y.f3 ∧ kK.R 44 w' w.heap.size (fun k => w.heap.size ≤ k) (.slice A4 y.f4.length c4) y.f4 ∧ Fit y ∧ (th = true → getL x path = some y) ∧ (th = false → getL x path = none ∧ y = zKn)
theorem get_r (x : Kn) (hx : Fit x) (A3 : Option Addr) (c3 : Nat) (A4 : Option Addr) (c4 : Nat) (Ap : Option Addr) (cp : Nat) (path : List ByteArray) (w : World) (hC3 : Kd.string.C w A3 x.f3.length x.f3) (hC4 : kK.C w A4 x.f4.length x.f4) (hCp : Kd.string.C w Ap path.length path) (hp : path.length ≤ 1073741824) :
    Calls Tryz.prog 19 #[.agg #[.int .u8 x.f1, .string x.f2, .slice A3 x.f3.length c3, .slice A4 x.f4.length c4], .slice Ap path.length cp] w (GetR x path w) := by
  refine (get_any x hx A3 c3 A4 c4 Ap cp path w hC3 hC4 hCp hp).mono ?_
  rintro e w' ⟨hb, h⟩
  cases hg : getL x path with
  | none =>
    rw [hg] at h
    exact ⟨zKn, false, none, 0, none, 0, h, hb, Kd.R_nil .., Kd.R_nil .., fit_zero, (fun h => Bool.noConfusion h), (fun _ => ⟨hg, rfl⟩)⟩
  | some y =>
    rw [hg] at h
    obtain ⟨v3, v4, rfl, h3, h4⟩ := h
    obtain ⟨B3, d3, rfl⟩ := Kd.R_slice h3
    obtain ⟨B4, d4, rfl⟩ := Kd.R_slice h4
    exact ⟨y, true, B3, d3, B4, d4, rfl, hb, h3, h4, getL_fit path x y hx hg, (fun _ => hg), (fun h => Bool.noConfusion h)⟩
/-- A text alone in a new block. -/
theorem S1_new (w : World) (p : ByteArray) : Kd.string.C (w.alloc (.cells #[.string p] 9)) (some ⟨w.heap.size, 0, none⟩) 1 [p] := by
  refine ⟨rfl, by decide, fun _ => ⟨_, rfl, fun j q hj => ?_⟩⟩
  have hj0 : j = 0 := by
    have := (List.getElem?_eq_some_iff.1 hj).1
    simp at this
    exact this
  subst hj0
  simp at hj
  subst hj
  refine ⟨[.string p], rfl, rfl, fun i u hu => ?_⟩
  have hi : i = 0 := by
    have := (List.getElem?_eq_some_iff.1 hu).1
    simp at this
    exact this
  subst hi
  simp at hu
  subst hu
  exact cell_new w #[.string p] 9 0 (.string p) rfl
end
end Go.Proofs.YtpdnopfjnmjnnaaGreatDoor.Cn
