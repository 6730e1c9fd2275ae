/- Package conf: right, Check. -/
import Derived.Test.YtpdnopfjnmjnnaaGreatDoorVd
import Derived.Test.YtpdnopfjnmjnnaaGreatDoorVa
set_option linter.unusedVariables false
set_option linter.unusedSimpArgs false
namespace Go.Proofs.YtpdnopfjnmjnnaaGreatDoor.Cn
open Go.Sort Go.RowKit Go.Proofs Go.Proofs.YtpdnopfjnmjnnaaGreatDoorW.PrintWords Go.Proofs.YtpdnopfjnmjnnaaGreatDoor.Bs Go.Proofs.YtpdnopfjnmjnnaaGreatDoor.Ir Go.Proofs.YtpdnopfjnmjnnaaGreatDoor.Cz

def keysG (r : Kn → Bool) : List (List UInt8) → List Kn → Bool
  | _, [] => true
  | s, y :: l => keyL y.f0.data.toList && !s.contains y.f0.data.toList && r y && keysG r (y.f0.data.toList :: s) l
def tailG (x : Kn) : Bool := textL x.f2.data.toList && decide (max x.f3.length x.f4.length ≤ 256) && !x.f3.any (fun s => !textL s.data.toList)
def kindG (x : Kn) : Bool := if x.f1 = 0 then x.f2.toList.isEmpty && x.f3.isEmpty else if x.f1 = 1 then x.f3.isEmpty && x.f4.isEmpty else if x.f1 = 2 then x.f2.toList.isEmpty && x.f4.isEmpty else false
/-- Right, with so many maps that may come under it. -/
def rightG : Nat → Kn → Bool
  | 0, x => kindG x && !decide (x.f1 = 0) && tailG x
  | f + 1, x => kindG x && keysG (rightG f) [] x.f4 && tailG x
/-- .. of its children. -/
def subG : Nat → Kn → Bool
  | 0, _ => true
  | f + 1, x => rightG f x
theorem rightG_eq (f : Nat) (x : Kn) : rightG f x = (kindG x && !(decide (x.f1 = 0) && decide (f = 0)) && keysG (subG f) [] x.f4 && tailG x) := by
  cases f with
  | zero =>
    unfold rightG kindG
    by_cases k0 : x.f1 = 0
    · simp [k0]
    · have : ∀ b : Bool, (b && x.f4.isEmpty && keysG (subG 0) [] x.f4) = (b && x.f4.isEmpty) := by
        intro b
        cases h : x.f4 with
        | nil => simp [keysG]
        | cons _ _ => simp
      by_cases k1 : x.f1 = 1
      · simp only [k0, k1, if_false, if_true, decide_false, Bool.not_false, Bool.and_true, Bool.false_and, this, show (1 : Int) ≠ 0 by decide]
      · by_cases k2 : x.f1 = 2
        · simp only [k0, k1, k2, if_false, if_true, decide_false, Bool.not_false, Bool.and_true, Bool.false_and, this, show (2 : Int) ≠ 0 by decide, show (2 : Int) ≠ 1 by decide]
        · simp [k0, k1, k2]
  | succ f =>
    have e : subG (f + 1) = rightG f := rfl
    rw [e]
    unfold rightG
    simp
inductive FitT : Kn → Prop
  | mk (x : Kn) : x.f2.size ≤ 1073741824 → (∀ s ∈ x.f3, s.size ≤ 1073741824) → x.f0.size ≤ 1073741824 → (∀ y ∈ x.f4, FitT y) → FitT x
theorem text_all (s : ByteArray) (w : World) : Calls Tryz.prog 54 #[.string s] w fun e w' => e = .returned (.bool (textL s.data.toList)) ∧ w = w' := by
  by_cases hs : s.size ≤ 1073741824
  · exact text_any s w hs
  · have hr : textL s.data.toList = false := by
      unfold textL
      have : decide (s.data.toList.length ≤ 4096) = false := by
        have : s.data.toList.length = s.size := rfl
        simp
        omega
      rw [this]
      rfl
    have hd : decide ((s.size : Int) ≤ 4096) = false := by simp; omega
    rw [hr]
    go_enter Tryz.func54, Tryz.ntmps54
    go_wp2_with fail
    go_ret
    exact ⟨rfl, rfl⟩
theorem right1_any (s : ByteArray) (w : World) : Calls Tryz.prog 55 #[.string s] w fun e w' => e = .returned (.bool (!textL s.data.toList)) ∧ w = w' := by
  have hc := text_all s w
  generalize textL s.data.toList = b at *
  go_enter Tryz.func55, Tryz.ntmps55
  go_wp2_with (go_at_call 54; refine hc.mono ?_; rintro e w1 ⟨rfl, rfl⟩)
  go_ret
  exact ⟨rfl, rfl⟩
/-- A map of how often keys were seen. -/
def SeenM (W : World) (b n : Nat) (s : List (List UInt8)) : Prop :=
  ∃ D : DataW Unit, Maps.IsMap D ∧ W.ownsMap Tryz.prog 9 (plainElem Tryz.prog 3) b n D ∧ ∀ r, D.atKey (.string r) (.lit (.int .i64 0)) = .lit (.int .i64 (if s.contains r then 1 else 0))
theorem SeenM.below {W W' : World} {b n : Nat} {s : List (List UInt8)} (h : SeenM W b n s) (hb : Below W.heap.size W W') : SeenM W' b n s := by
  obtain ⟨D, h1, h2, h3⟩ := h
  exact ⟨D, h1, own_below h2 hb, h3⟩
theorem SeenM.mono {W : World} {b n m : Nat} {s : List (List UInt8)} (h : SeenM W b n s) (hn : n ≤ m) : SeenM W b m s := by
  obtain ⟨D, h1, h2, h3⟩ := h
  exact ⟨D, h1, h2.mono hn, h3⟩
theorem SeenM.lt {W : World} {b n : Nat} {s : List (List UInt8)} (h : SeenM W b n s) : b < W.heap.size := by
  obtain ⟨D, h1, h2, h3⟩ := h
  exact h2.lt
theorem seen_made (w : World) : SeenM (w.alloc (.map #[] 0)) w.heap.size 0 [] := ⟨.map [], ⟨_, rfl⟩, World.ownsMap_made w _ _ _, fun _ => rfl⟩
set_option maxRecDepth 100000 in
theorem SeenM.look {W : World} {b n : Nat} {s : List (List UInt8)} (h : SeenM W b n s) (k : ByteArray) (hk : k.size ≤ 1073741824) :
    (Instr.lookup 104 (.map (some b)) (.string k) false).run Tryz.prog W = .ok (.int .i64 (if s.contains k.data.toList then 1 else 0)) W := by
  obtain ⟨D, h1, h2, h3⟩ := h
  obtain ⟨c', r1, r2, _⟩ := h2.lookup_int (Maps.string_keyed Tryz.underlying9) Tryz.underlying104 Tryz.underlying3 (t := 104) (by kernel_rfl) (key := .string k) (kl := .string k.data.toList) (WideMaps.keyOf_string_mk Tryz.underlying9 (by unfold maxLen; omega))
  rw [h3] at r2
  injection r2 with r2
  injection r2 with _ r2
  rw [r1, r2]
set_option maxRecDepth 100000 in
/-- Behind the count: a key that is new is counted once, an elder one more than once. -/
theorem SeenM.count {W : World} {b n : Nat} {s : List (List UInt8)} (h : SeenM W b n s) (hn : n ≤ 1073741824) (k : ByteArray) (hk : k.size ≤ 1073741824) (c : Int) (hc : c = (if s.contains k.data.toList then 1 else 0) + 1) :
    ∃ W', (Instr.mapUpdate 104 (.map (some b)) (.string k) (.int .i64 c)).run Tryz.prog W = .ok () W' ∧ W.grownBy W' (some b) ∧ (∀ W'', Below W'.heap.size W' W'' → (Instr.lookup 104 (.map (some b)) (.string k) false).run Tryz.prog W'' = .ok (.int .i64 c) W'') ∧ (s.contains k.data.toList = false → SeenM W' b (n + 1) (k.data.toList :: s)) := by
  obtain ⟨D, h1, h2, h3⟩ := h
  have hkey := WideMaps.keyOf_string_mk (P := Tryz.prog) (k := 9) Tryz.underlying9 (s := k) (by unfold maxLen; omega)
  have hwf : (Lit.int .i64 c).wf = true := by
    have : c = 1 ∨ c = 2 := by split at hc <;> omega
    rcases this with rfl | rfl <;> decide
  obtain ⟨W', r1, r2, r3⟩ := h2.update (Maps.string_keyed Tryz.underlying9) Tryz.underlying104 (by unfold maxLen; omega) (key := .string k) (val := .int .i64 c) (kl := .string k.data.toList) hkey (plainElem_int Tryz.underlying3 hwf)
  have hat := Maps.atKey_put_same h1 (k := .string k.data.toList) (by trivial) (DataW.lit (.int .i64 c)) (DataW.lit (.int .i64 0))
  refine ⟨W', r1, r3, fun W'' hb => ?_, fun hs => ⟨D.put (.string k.data.toList) (.lit (.int .i64 c)), ?_, r2, fun r => ?_⟩⟩
  · obtain ⟨c', q1, q2, _⟩ := (own_below r2 hb).lookup_int (Maps.string_keyed Tryz.underlying9) Tryz.underlying104 Tryz.underlying3 (t := 104) (by kernel_rfl) (key := .string k) (kl := .string k.data.toList) hkey
    rw [hat] at q2
    injection q2 with q2
    injection q2 with _ q2
    rw [q1, q2]
  · obtain ⟨es, rfl⟩ := h1
    exact ⟨_, rfl⟩
  · by_cases e : r = k.data.toList
    · subst e
      rw [hat, hc, hs]
      simp
    · rw [Maps.atKey_put_other (by
        intro h
        injection h with h
        exact e h), h3]
      simp [e]
/-- A round's state. -/
structure RightP (ls : List ByteArray) (tx : ByteArray) (kd : Int) (ks : List Kn) (f : Nat) (w W : World) (A3 A4 : Option Addr) (c3 c4 : Nat) (i : Nat) : Prop where
  box : W.heap[w.heap.size]? = some (.cells #[.int .u8 kd, .string tx, .slice A3 ls.length c3, .slice A4 ks.length c4] 32 (0, 0))
  own : ∃ s : List (List UInt8), SeenM W (w.heap.size + 2) i s ∧ keysG (subG f) [] ks = keysG (subG f) s (ks.drop i)
  bel : Below w.heap.size w W
set_option maxRecDepth 100000 in
set_option maxHeartbeats 8000000 in
theorem right_step (f : Nat) (ih : ∀ g, g + 1 = f → ∀ (x : Kn) (hx : Fit x) (ht : FitT x) (d : Int) (hd : d + g = 9) (hf : g ≤ 9) (A3 : Option Addr) (c3 : Nat) (A4 : Option Addr) (c4 : Nat) (w : World), Kd.string.C w A3 x.f3.length x.f3 → kK.C w A4 x.f4.length x.f4 →
    Calls Tryz.prog 29 #[.agg #[.int .u8 x.f1, .string x.f2, .slice A3 x.f3.length c3, .slice A4 x.f4.length c4], .int .i64 d] w fun e w' => e = .returned (.bool (rightG g x)) ∧ Below w.heap.size w w') : ∀ (x : Kn) (hx : Fit x) (ht : FitT x) (d : Int) (hd : d + f = 9) (hf : f ≤ 9) (A3 : Option Addr) (c3 : Nat) (A4 : Option Addr) (c4 : Nat) (w : World), Kd.string.C w A3 x.f3.length x.f3 → kK.C w A4 x.f4.length x.f4 →
    Calls Tryz.prog 29 #[.agg #[.int .u8 x.f1, .string x.f2, .slice A3 x.f3.length c3, .slice A4 x.f4.length c4], .int .i64 d] w fun e w' => e = .returned (.bool (rightG f x)) ∧ Below w.heap.size w w' := by
  rintro ⟨f0, kd, tx, ls, ks⟩ hx ht d hd hf A3 c3 A4 c4 w hC3 hC4
  dsimp only at hC3 hC4 ⊢
  have HIH := Lib.hid ih
  have HC := Lib.hid (And.intro hC3 hC4)
  have HF := Lib.hid (And.intro hx ht)
  have HD := Lib.hid (And.intro hd hf)
  have htx : tx.size ≤ 1073741824 := by cases ht; assumption
  have hls : ls.length ≤ 1073741824 := by cases hx; assumption
  have hks : ks.length ≤ 1073741824 := by cases hx; assumption
  obtain ⟨R, hR⟩ : ∃ R, R = rightG f ⟨f0, kd, tx, ls, ks⟩ := ⟨_, rfl⟩
  rw [← hR]
  have HR := Lib.hid (hR.trans (rightG_eq f _))
  clear ih hC3 hC4 hx ht hR
  have hmk : ∀ W, (Instr.makeMap 104 none).run Tryz.prog W = .ok (.map (some W.heap.size)) (W.alloc (.map #[] 0)) := fun W => by rfl
  have HMK := Lib.hid hmk
  clear hmk
  have hbad : ∀ (c1 c2 c3' c4' : Value) (W : World), W = (w.alloc (.cells #[.int .u8 kd, .string tx, .slice A3 ls.length c3, .slice A4 ks.length c4] 32)).alloc (.cells #[c1, c2, c3', c4'] 32) → Below w.heap.size w W ∧ W.heap.size = w.heap.size + 2 ∧ W.heap[w.heap.size]? = some (.cells #[.int .u8 kd, .string tx, .slice A3 ls.length c3, .slice A4 ks.length c4] 32 (0, 0)) := by
    rintro c1 c2 c3' c4' W rfl
    exact ⟨below_alloc (below_alloc (Below.refl _ _) _) _, by simp, by rw [Below.heap_alloc _ _ _ (by simp)]; exact heap_alloc_new w _⟩
  have HB0 := Lib.hid hbad
  clear hbad
  by_cases k0 : kd = 0
  · subst k0
    cases htt : tx.toList.isEmpty
    case false =>
      have hr : R = false := by rw [HR.out]; simp [kindG, htt]
      go_enter Tryz.func29, Tryz.ntmps29
      go_wp2_with fail
      go_ret
      exact ⟨by first | rfl | (rw [hr]; rfl), (HB0.out _ _ _ _ _ rfl).1⟩
    cases ls with
    | cons l0 ls =>
      have hr : R = false := by rw [HR.out]; simp [kindG]
      have hne : ((((l0 :: ls).length : Nat) : Int) != 0) = true := by simp; omega
      generalize (l0 :: ls) = ll at *
      go_enter Tryz.func29, Tryz.ntmps29
      go_wp2_with fail
      go_ret
      exact ⟨by first | rfl | (rw [hr]; rfl), (HB0.out _ _ _ _ _ rfl).1⟩
    | nil =>
      by_cases hf0 : f = 0
      · have hr : R = false := by rw [HR.out]; simp [hf0]
        have hd8 : decide (8 < d) = true := by simp; omega
        go_enter Tryz.func29, Tryz.ntmps29
        go_wp2_with fail
        go_ret
        exact ⟨by first | rfl | (rw [hr]; rfl), (HB0.out _ _ _ _ _ rfl).1⟩
      · have hd8 : decide (8 < d) = false := by simp; omega
        have HK := Lib.hid (show R = (keysG (subG f) [] ks && tailG ⟨f0, 0, tx, [], ks⟩) by rw [HR.out]; simp [kindG, htt, hf0])
        obtain ⟨wa, hwa⟩ : ∃ wa, wa = (w.alloc (.cells #[.int .u8 0, .string tx, .slice A3 0 c3, .slice A4 ks.length c4] 32)).alloc (.cells #[.int .u8 0, .string ⟨#[]⟩, .slice none 0 0, .slice A4 ks.length c4] 32) := ⟨_, rfl⟩
        obtain ⟨hba, hsz, hbox⟩ := HB0.out _ _ _ _ wa hwa
        have hm1 := HMK.out wa
        rw [hsz] at hm1
        have hbox1 := (Below.heap_alloc wa (.map #[] 0) _ (blk_lt hbox)).trans hbox
        have hb1 : Below w.heap.size w (wa.alloc (.map #[] 0)) := below_alloc hba _
        have hsm : SeenM (wa.alloc (.map #[] 0)) (w.heap.size + 2) 0 [] := by rw [← hsz]; exact seen_made wa
        generalize wa.alloc (.map #[] 0) = w1 at *
        have b3 := blk_cell hbox1 3
        have HP := Lib.hid (show RightP [] tx 0 ks f w w1 A3 A4 c3 c4 0 from ⟨hbox1, ⟨[], hsm, rfl⟩, hb1⟩)
        rw [hwa] at hm1
        clear hba hbox hwa hsz hb1 hbox1 hsm
        go_enter Tryz.func29, Tryz.ntmps29
        go_wp2_with fail
        clear b3 hm1
        go_loopw [62] (fun iv wr => ∃ i : Nat, iv = .int .i64 i ∧ i ≤ ks.length ∧ Hid (RightP [] tx 0 ks f w wr A3 A4 c3 c4 i)) (fun iv _ => ks.length - (intOf iv).toNat)
        case atStart => exact ⟨0, rfl, Nat.zero_le _, HP⟩
        case round =>
          obtain ⟨i, rfl, hi, HPi⟩ := hrel
          by_cases hlt : i < ks.length
          · obtain ⟨s, hs, hse⟩ := HPi.out.own
            obtain ⟨ad4, D3, e3, D4, e4, hB4, q0, q1, q2, q3, q4, -, g3, -, g4⟩ := at_K HC.out.2 (i : Int) (by omega) (by simpa using hlt)
            simp only [Int.toNat_natCast] at q0 q1 q2 q3 q4
            have hyy : rd_K ks (i : Int) = ks[i] := by simp [rd_K, List.getElem?_eq_getElem hlt]
            subst hB4
            have hfy : Fit (rd_K ks (i : Int)) := by
              rw [hyy]
              cases HF.out.1 with
              | mk _ _ _ hall => exact hall _ (List.getElem_mem hlt)
            have hty : FitT (rd_K ks (i : Int)) := by
              rw [hyy]
              cases HF.out.2 with
              | mk _ _ _ _ hall => exact hall _ (List.getElem_mem hlt)
            have hdr : ks.drop i = rd_K ks (i : Int) :: ks.drop (i + 1) := by rw [hyy]; exact List.drop_eq_getElem_cons hlt
            rw [hdr] at hse
            generalize rd_K ks (i : Int) = y at *
            have hbw := HPi.out.bel
            replace q0 := (hbw.cell (World.block_lt_of_cell? w _ q0)).trans q0
            replace q1 := (hbw.cell (World.block_lt_of_cell? w _ q1)).trans q1
            replace q2 := (hbw.cell (World.block_lt_of_cell? w _ q2)).trans q2
            replace q3 := (hbw.cell (World.block_lt_of_cell? w _ q3)).trans q3
            replace q4 := (hbw.cell (World.block_lt_of_cell? w _ q4)).trans q4
            have hy0 : y.f0.size ≤ 1073741824 := by cases hty; assumption
            obtain ⟨wp, hwp⟩ : ∃ wp, wp = wr.alloc (.cells #[.string y.f0, .int .u8 y.f1, .string y.f2, .slice D3 y.f3.length e3, .slice D4 y.f4.length e4] 44) := ⟨_, rfl⟩
            have hbp : Below wr.heap.size wr wp := by rw [hwp]; exact below_alloc (Below.refl _ _) _
            have hpk : wp.heap[wr.heap.size]? = some (.cells #[.string y.f0, .int .u8 y.f1, .string y.f2, .slice D3 y.f3.length e3, .slice D4 y.f4.length e4] 44 (0, 0)) := by rw [hwp]; exact heap_alloc_new wr _
            have hsp := hs.below hbp
            have hlk := hsp.look y.f0 hy0
            obtain ⟨c, hc⟩ : ∃ c : Int, c = (if s.contains y.f0.data.toList then 1 else 0) := ⟨_, rfl⟩
            rw [← hc] at hlk
            have hc01 : c = 0 ∨ c = 1 := by rw [hc]; split <;> simp
            have hwc : IntKind.i64.wrap (c + 1) = c + 1 := IntWalk.i64_in _ (by omega)
            obtain ⟨wu, hu, hgu, hlu, hnu⟩ := hsp.count (by omega) y.f0 hy0 (c + 1) (by rw [hc])
            have hmb : w.heap.size + 2 < wr.heap.size := hs.lt
            have hpu := (hgu.block _ (blk_lt hpk) (by intro e; injection e with e; omega)).trans hpk
            have hbu : Below w.heap.size w wu := below_by (hbw.trans (hbp.mono hbw.size)) (by omega) hgu
            have hboxu := (hgu.block _ (Nat.lt_of_lt_of_le (blk_lt HPi.out.box) hbp.size) (by intro e; injection e with e; omega)).trans ((hbp.block _ (blk_lt HPi.out.box)).trans HPi.out.box)
            have hkey := key_any y.f0 wu
            have u0 := blk_cell hpu 0
            have HSE := Lib.hid hse
            have HGY := Lib.hid (And.intro g3 g4)
            have HFY := Lib.hid (And.intro hfy hty)
            have HPU := Lib.hid hpu
            have HBU := Lib.hid hbu
            have HBXU := Lib.hid hboxu
            have HLU := Lib.hid hlu
            have HNU := Lib.hid hnu
            have HCC := Lib.hid hc
            rw [hwp] at hlk hu
            clear hse g3 g4 hfy hty hdr hyy hpu hbu hboxu hlu hnu hc hs hsp hgu hmb hpk hbp hwp hbw
            obtain ⟨kb, hkb⟩ : ∃ kb, kb = keyL y.f0.data.toList := ⟨_, rfl⟩
            rw [← hkb] at hkey
            have HKB := Lib.hid hkb
            clear hkb
            go_wp2_with fail
            refine hkey.mono ?_
            rintro e w3 ⟨rfl, hb3⟩
            have hl3 := HLU.out w3 hb3
            have hbw3 : Below w.heap.size w w3 := HBU.out.trans (hb3.mono HBU.out.size)
            have hp3 := (hb3.block _ (blk_lt HPU.out)).trans HPU.out
            have v0 := blk_cell hp3 0
            have v1 := blk_cell hp3 1
            have v2 := blk_cell hp3 2
            have v3 := blk_cell hp3 3
            have v4 := blk_cell hp3 4
            have HB3 := Lib.hid (And.intro hb3 hbw3)
            clear hkey u0 hb3 hp3 q0 q1 q2 q3 q4 hlk hu
            cases kb
            case false =>
              have hr : R = false := by
                rw [HK.out, HSE.out, keysG, ← HKB.out]
                simp
              clear hl3 v0 v1 v2 v3 v4
              go_wp2_with fail
              go_ret
              exact ⟨by first | rfl | (rw [hr]; rfl), HB3.out.2⟩
            rcases hc01 with rfl | rfl
            case inr =>
              have hct : s.contains y.f0.data.toList = true := by
                have := HCC.out
                cases h : s.contains y.f0.data.toList
                · rw [h] at this
                  exact absurd this (by decide)
                · rfl
              have hr : R = false := by
                rw [HK.out, HSE.out, keysG, hct]
                simp
              clear v1 v2 v3 v4 hct
              go_wp2_with fail
              go_ret
              exact ⟨by first | rfl | (rw [hr]; rfl), HB3.out.2⟩
            have hct : s.contains y.f0.data.toList = false := by
              have := HCC.out
              cases h : s.contains y.f0.data.toList
              · rfl
              · rw [h] at this
                exact absurd this (by decide)
            have HCT := Lib.hid hct
            obtain ⟨g, hg⟩ : ∃ g, f = g + 1 := ⟨f - 1, by omega⟩
            have hright := HIH.out g hg.symm y HFY.out.1 HFY.out.2 (d + 1) (by omega) (by omega) D3 e3 D4 e4 w3 (HGY.out.1.imp_ HB3.out.2 (fun _ _ hp => Kd.string.K_below HB3.out.2 hp)) (HGY.out.2.imp_ HB3.out.2 (fun _ _ hp => kK.K_below HB3.out.2 hp))
            obtain ⟨rb, hrb⟩ : ∃ rb, rb = rightG g y := ⟨_, rfl⟩
            rw [← hrb] at hright
            have hwd : IntKind.i64.wrap (d + 1) = d + 1 := IntWalk.i64_in _ (by omega)
            have hwi : IntKind.i64.wrap ((i : Int) + 1) = (i : Int) + 1 := IntWalk.i64_in _ (by omega)
            have HRB := Lib.hid (show subG f y = rb by rw [hrb, hg]; rfl)
            clear hrb hct hg
            go_wp2_with fail
            refine hright.mono ?_
            rintro e w5 ⟨rfl, hb5⟩
            have HB5 := Lib.hid (And.intro hb5 (HB3.out.2.trans (hb5.mono HB3.out.2.size)))
            clear hright hb5 hl3 v0 v1 v2 v3 v4
            cases rb
            case false =>
              have hr : R = false := by
                rw [HK.out, HSE.out, keysG, HRB.out]
                simp
              go_wp2_with fail
              go_ret
              exact ⟨by first | rfl | (rw [hr]; rfl), HB5.out.2⟩
            go_wp2_with fail
            go_roundw
            case rel => exact ⟨i + 1, by simp, by omega, Lib.hid ⟨(HB5.out.1.block _ (Nat.lt_of_lt_of_le (blk_lt HBXU.out) HB3.out.1.size)).trans ((HB3.out.1.block _ (blk_lt HBXU.out)).trans HBXU.out), ⟨y.f0.data.toList :: s, ((HNU.out HCT.out).below HB3.out.1).below HB5.out.1, by rw [HSE.out, keysG, ← HKB.out, HCT.out, HRB.out]; rfl⟩, HB5.out.2⟩⟩
            case measure => simp [intOf]; omega
          · have hin : i = ks.length := by omega
            subst hin
            obtain ⟨s, -, hs⟩ := HPi.out.own
            have hT : R = tailG ⟨f0, 0, tx, [], ks⟩ := by
              rw [HK.out, hs]
              simp [keysG]
            have HT := Lib.hid hT
            have hcs := containsFunc_S 55 #[] (fun args w => by kernel_rfl) (fun s => !textL s.data.toList) A3 c3 [] wr hls (HC.out.1.imp_ HPi.out.bel (fun _ _ hp => Kd.string.K_below HPi.out.bel hp)) (fun W s hb => by simpa using (right1_any s W).mono (fun e w' h => ⟨h.1, h.2 ▸ Below.refl _ _⟩))
            have htc := text_all tx wr
            have b1 := blk_cell HPi.out.box 1
            have b2 := blk_cell HPi.out.box 2
            have b3 := blk_cell HPi.out.box 3
            have HBL := Lib.hid HPi.out.bel
            clear hT hs
            obtain ⟨t1, ht1⟩ : ∃ t1, t1 = textL tx.data.toList := ⟨_, rfl⟩
            obtain ⟨t2, ht2⟩ : ∃ t2, t2 = ([]).any (fun s : ByteArray => !textL s.data.toList) := ⟨_, rfl⟩
            rw [← ht1] at htc
            rw [← ht2] at hcs
            have HE := Lib.hid (show R = (t1 && decide (max ([] : List ByteArray).length (ks : List Kn).length ≤ 256) && !t2) by rw [HT.out, ht1, ht2]; rfl)
            clear ht1 ht2
            by_cases hmx : max ([] : List ByteArray).length (ks : List Kn).length ≤ 256
            all_goals cases t1
            all_goals go_wp2_with fail
            all_goals refine htc.mono ?_
            all_goals rintro e w9 ⟨rfl, rfl⟩
            all_goals go_wp2_with (go_at_call 49; refine hcs.mono ?_; rintro e w10 ⟨rfl, hb10⟩)
            all_goals go_ret
            all_goals refine ⟨by rw [HE.out]; first | rfl | (simp [hmx]; done) | (simp; omega), ?_⟩
            all_goals first | exact HBL.out | exact HBL.out.trans (hb10.mono HBL.out.size)
  by_cases k1 : kd = 1
  · subst k1
    cases ls with
    | cons l0 ls =>
      have hr : R = false := by rw [HR.out]; simp [kindG]
      have hne : ((((l0 :: ls).length : Nat) : Int) != 0) = true := by simp; omega
      generalize (l0 :: ls) = ll at *
      go_enter Tryz.func29, Tryz.ntmps29
      go_wp2_with fail
      go_ret
      exact ⟨by first | rfl | (rw [hr]; rfl), (HB0.out _ _ _ _ _ rfl).1⟩
    | nil =>
      cases ks with
      | cons l0 ks =>
        have hr : R = false := by rw [HR.out]; simp [kindG]
        have hne : ((((l0 :: ks).length : Nat) : Int) != 0) = true := by simp; omega
        generalize (l0 :: ks) = ll at *
        go_enter Tryz.func29, Tryz.ntmps29
        go_wp2_with fail
        go_ret
        exact ⟨by first | rfl | (rw [hr]; rfl), (HB0.out _ _ _ _ _ rfl).1⟩
      | nil =>
        have HK := Lib.hid (show R = (keysG (subG f) [] [] && tailG ⟨f0, 1, tx, [], []⟩) by rw [HR.out]; simp [kindG])
        obtain ⟨wa, hwa⟩ : ∃ wa, wa = (w.alloc (.cells #[.int .u8 1, .string tx, .slice A3 0 c3, .slice A4 0 c4] 32)).alloc (.cells #[.int .u8 0, .string tx, .slice none 0 0, .slice none 0 0] 32) := ⟨_, rfl⟩
        obtain ⟨hba, hsz, hbox⟩ := HB0.out _ _ _ _ wa hwa
        have hm1 := HMK.out wa
        rw [hsz] at hm1
        have hbox1 := (Below.heap_alloc wa (.map #[] 0) _ (blk_lt hbox)).trans hbox
        have hb1 : Below w.heap.size w (wa.alloc (.map #[] 0)) := below_alloc hba _
        have hsm : SeenM (wa.alloc (.map #[] 0)) (w.heap.size + 2) 0 [] := by rw [← hsz]; exact seen_made wa
        generalize wa.alloc (.map #[] 0) = w1 at *
        have b3 := blk_cell hbox1 3
        have HP := Lib.hid (show RightP [] tx 1 [] f w w1 A3 A4 c3 c4 0 from ⟨hbox1, ⟨[], hsm, rfl⟩, hb1⟩)
        rw [hwa] at hm1
        clear hba hbox hwa hsz hb1 hbox1 hsm
        go_enter Tryz.func29, Tryz.ntmps29
        go_wp2_with fail
        clear b3 hm1
        go_loopw [62] (fun iv wr => ∃ i : Nat, iv = .int .i64 i ∧ i ≤ 0 ∧ Hid (RightP [] tx 1 [] f w wr A3 A4 c3 c4 i)) (fun iv _ => 0 - (intOf iv).toNat)
        case atStart => exact ⟨0, rfl, Nat.zero_le _, HP⟩
        case round =>
          obtain ⟨i, rfl, hi, HPi⟩ := hrel
          by_cases hlt : i < 0
          · omega
          · have hin : i = 0 := by omega
            subst hin
            obtain ⟨s, -, hs⟩ := HPi.out.own
            have hT : R = tailG ⟨f0, 1, tx, [], []⟩ := by
              rw [HK.out, hs]
              simp [keysG]
            have HT := Lib.hid hT
            have hcs := containsFunc_S 55 #[] (fun args w => by kernel_rfl) (fun s => !textL s.data.toList) A3 c3 [] wr hls (HC.out.1.imp_ HPi.out.bel (fun _ _ hp => Kd.string.K_below HPi.out.bel hp)) (fun W s hb => by simpa using (right1_any s W).mono (fun e w' h => ⟨h.1, h.2 ▸ Below.refl _ _⟩))
            have htc := text_all tx wr
            have b1 := blk_cell HPi.out.box 1
            have b2 := blk_cell HPi.out.box 2
            have b3 := blk_cell HPi.out.box 3
            have HBL := Lib.hid HPi.out.bel
            clear hT hs
            obtain ⟨t1, ht1⟩ : ∃ t1, t1 = textL tx.data.toList := ⟨_, rfl⟩
            obtain ⟨t2, ht2⟩ : ∃ t2, t2 = ([]).any (fun s : ByteArray => !textL s.data.toList) := ⟨_, rfl⟩
            rw [← ht1] at htc
            rw [← ht2] at hcs
            have HE := Lib.hid (show R = (t1 && decide (max ([] : List ByteArray).length ([] : List Kn).length ≤ 256) && !t2) by rw [HT.out, ht1, ht2]; rfl)
            clear ht1 ht2
            by_cases hmx : max ([] : List ByteArray).length ([] : List Kn).length ≤ 256
            all_goals cases t1
            all_goals go_wp2_with fail
            all_goals refine htc.mono ?_
            all_goals rintro e w9 ⟨rfl, rfl⟩
            all_goals go_wp2_with (go_at_call 49; refine hcs.mono ?_; rintro e w10 ⟨rfl, hb10⟩)
            all_goals go_ret
            all_goals refine ⟨by rw [HE.out]; first | rfl | (simp [hmx]; done) | (simp; omega), ?_⟩
            all_goals first | exact HBL.out | exact HBL.out.trans (hb10.mono HBL.out.size)
  by_cases k2 : kd = 2
  · subst k2
    cases htt : tx.toList.isEmpty
    case false =>
      have hr : R = false := by rw [HR.out]; simp [kindG, htt]
      go_enter Tryz.func29, Tryz.ntmps29
      go_wp2_with fail
      go_ret
      exact ⟨by first | rfl | (rw [hr]; rfl), (HB0.out _ _ _ _ _ rfl).1⟩
    cases ks with
    | cons l0 ks =>
      have hr : R = false := by rw [HR.out]; simp [kindG]
      have hne : ((((l0 :: ks).length : Nat) : Int) != 0) = true := by simp; omega
      generalize (l0 :: ks) = ll at *
      go_enter Tryz.func29, Tryz.ntmps29
      go_wp2_with fail
      go_ret
      exact ⟨by first | rfl | (rw [hr]; rfl), (HB0.out _ _ _ _ _ rfl).1⟩
    | nil =>
        have HK := Lib.hid (show R = (keysG (subG f) [] [] && tailG ⟨f0, 2, tx, ls, []⟩) by rw [HR.out]; simp [kindG, htt])
        obtain ⟨wa, hwa⟩ : ∃ wa, wa = (w.alloc (.cells #[.int .u8 2, .string tx, .slice A3 ls.length c3, .slice A4 0 c4] 32)).alloc (.cells #[.int .u8 0, .string ⟨#[]⟩, .slice A3 ls.length c3, .slice none 0 0] 32) := ⟨_, rfl⟩
        obtain ⟨hba, hsz, hbox⟩ := HB0.out _ _ _ _ wa hwa
        have hm1 := HMK.out wa
        rw [hsz] at hm1
        have hbox1 := (Below.heap_alloc wa (.map #[] 0) _ (blk_lt hbox)).trans hbox
        have hb1 : Below w.heap.size w (wa.alloc (.map #[] 0)) := below_alloc hba _
        have hsm : SeenM (wa.alloc (.map #[] 0)) (w.heap.size + 2) 0 [] := by rw [← hsz]; exact seen_made wa
        generalize wa.alloc (.map #[] 0) = w1 at *
        have b3 := blk_cell hbox1 3
        have HP := Lib.hid (show RightP ls tx 2 [] f w w1 A3 A4 c3 c4 0 from ⟨hbox1, ⟨[], hsm, rfl⟩, hb1⟩)
        rw [hwa] at hm1
        clear hba hbox hwa hsz hb1 hbox1 hsm
        go_enter Tryz.func29, Tryz.ntmps29
        go_wp2_with fail
        clear b3 hm1
        go_loopw [62] (fun iv wr => ∃ i : Nat, iv = .int .i64 i ∧ i ≤ 0 ∧ Hid (RightP ls tx 2 [] f w wr A3 A4 c3 c4 i)) (fun iv _ => 0 - (intOf iv).toNat)
        case atStart => exact ⟨0, rfl, Nat.zero_le _, HP⟩
        case round =>
          obtain ⟨i, rfl, hi, HPi⟩ := hrel
          by_cases hlt : i < 0
          · omega
          · have hin : i = 0 := by omega
            subst hin
            obtain ⟨s, -, hs⟩ := HPi.out.own
            have hT : R = tailG ⟨f0, 2, tx, ls, []⟩ := by
              rw [HK.out, hs]
              simp [keysG]
            have HT := Lib.hid hT
            have hcs := containsFunc_S 55 #[] (fun args w => by kernel_rfl) (fun s => !textL s.data.toList) A3 c3 ls wr hls (HC.out.1.imp_ HPi.out.bel (fun _ _ hp => Kd.string.K_below HPi.out.bel hp)) (fun W s hb => by simpa using (right1_any s W).mono (fun e w' h => ⟨h.1, h.2 ▸ Below.refl _ _⟩))
            have htc := text_all tx wr
            have b1 := blk_cell HPi.out.box 1
            have b2 := blk_cell HPi.out.box 2
            have b3 := blk_cell HPi.out.box 3
            have HBL := Lib.hid HPi.out.bel
            clear hT hs
            obtain ⟨t1, ht1⟩ : ∃ t1, t1 = textL tx.data.toList := ⟨_, rfl⟩
            obtain ⟨t2, ht2⟩ : ∃ t2, t2 = (ls).any (fun s : ByteArray => !textL s.data.toList) := ⟨_, rfl⟩
            rw [← ht1] at htc
            rw [← ht2] at hcs
            have HE := Lib.hid (show R = (t1 && decide (max (ls : List ByteArray).length ([] : List Kn).length ≤ 256) && !t2) by rw [HT.out, ht1, ht2]; rfl)
            clear ht1 ht2
            by_cases hmx : max (ls : List ByteArray).length ([] : List Kn).length ≤ 256
            all_goals cases t1
            all_goals go_wp2_with fail
            all_goals refine htc.mono ?_
            all_goals rintro e w9 ⟨rfl, rfl⟩
            all_goals go_wp2_with (go_at_call 49; refine hcs.mono ?_; rintro e w10 ⟨rfl, hb10⟩)
            all_goals go_ret
            all_goals refine ⟨by rw [HE.out]; first | rfl | (simp [hmx]; done) | (simp; omega), ?_⟩
            all_goals first | exact HBL.out | exact HBL.out.trans (hb10.mono HBL.out.size)
  · have hr : R = false := by rw [HR.out]; simp [kindG, k0, k1, k2]
    go_enter Tryz.func29, Tryz.ntmps29
    go_wp2_with fail
    go_ret
    exact ⟨by first | rfl | (rw [hr]; rfl), (HB0.out _ _ _ _ _ rfl).1⟩
set_option maxRecDepth 100000 in
set_option maxHeartbeats 4000000 in
theorem right_any (f : Nat) : ∀ (x : Kn) (hx : Fit x) (ht : FitT x) (d : Int) (hd : d + f = 9) (hf : f ≤ 9) (A3 : Option Addr) (c3 : Nat) (A4 : Option Addr) (c4 : Nat) (w : World), Kd.string.C w A3 x.f3.length x.f3 → kK.C w A4 x.f4.length x.f4 →
    Calls Tryz.prog 29 #[.agg #[.int .u8 x.f1, .string x.f2, .slice A3 x.f3.length c3, .slice A4 x.f4.length c4], .int .i64 d] w fun e w' => e = .returned (.bool (rightG f x)) ∧ Below w.heap.size w w' := by
  induction f with
  | zero => exact right_step 0 (fun f h => by omega)
  | succ f ih => exact right_step (f + 1) (fun g h => by
    have : g = f := by omega
    subst this
    exact ih)
theorem check_any (x : Kn) (hx : Fit x) (ht : FitT x) (A3 : Option Addr) (c3 : Nat) (A4 : Option Addr) (c4 : Nat) (w : World) (hC3 : Kd.string.C w A3 x.f3.length x.f3) (hC4 : kK.C w A4 x.f4.length x.f4) :
    Calls Tryz.prog 18 #[.agg #[.int .u8 x.f1, .string x.f2, .slice A3 x.f3.length c3, .slice A4 x.f4.length c4]] w fun e w' => e = .returned (.int .i64 (if decide (x.f1 = 0) && rightG 9 x then 0 else 15)) ∧ Below w.heap.size w w' := by
  obtain ⟨f0, kd, tx, ls, ks⟩ := x
  dsimp only at *
  obtain ⟨wa, hwa⟩ : ∃ wa, wa = w.alloc (.cells #[.int .u8 kd, .string tx, .slice A3 ls.length c3, .slice A4 ks.length c4] 32) := ⟨_, rfl⟩
  have hba : Below w.heap.size w wa := by rw [hwa]; exact below_alloc (Below.refl _ _) _
  have hr := right_any 9 _ hx ht 0 (by omega) (by omega) A3 c3 A4 c4 wa (hC3.imp_ hba (fun _ _ hp => Kd.string.K_below hba hp)) (hC4.imp_ hba (fun _ _ hp => kK.K_below hba hp))
  obtain ⟨Z, hZ⟩ : ∃ Z : Int, Z = if decide (kd = 0) && rightG 9 ⟨f0, kd, tx, ls, ks⟩ then 0 else 15 := ⟨_, rfl⟩
  rw [← hZ]
  have HZ := Lib.hid hZ
  have HW := Lib.hid hwa
  have HB := Lib.hid hba
  clear hZ hwa hba hC3 hC4 hx ht
  obtain ⟨b, hb⟩ : ∃ b, b = rightG 9 ⟨f0, kd, tx, ls, ks⟩ := ⟨_, rfl⟩
  rw [← hb] at hr
  have HR := Lib.hid hb
  clear hb
  dsimp only at hr
  by_cases k0 : kd = 0
  · subst k0
    cases b
    all_goals go_enter Tryz.func18, Tryz.ntmps18
    all_goals go_wp2_with fail
    all_goals rw [← HW.out]
    all_goals refine hr.mono ?_
    all_goals rintro e w1 ⟨rfl, hb1⟩
    all_goals go_wp2_with fail
    all_goals go_ret
    all_goals exact ⟨by rw [HZ.out, ← HR.out]; rfl, HB.out.trans (hb1.mono HB.out.size)⟩
  · have hk : (kd != 0) = true := by rw [bne_iff_ne]; exact k0
    have hz : Z = 15 := by rw [HZ.out]; simp [k0]
    go_enter Tryz.func18, Tryz.ntmps18
    go_wp2_with fail
    go_ret
    exact ⟨by first | rfl | (rw [hz]; rfl), by rw [← HW.out]; exact HB.out⟩
end Go.Proofs.YtpdnopfjnmjnnaaGreatDoor.Cn
