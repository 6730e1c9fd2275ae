/- Package conf: read: what a line says. -/
import Derived.Test.YtpdnopfjnmjnnaaGreatDoorNe
import Derived.RegionTactic
import Derived.ChangeAlike
set_option linter.unusedVariables false
set_option linter.unusedSimpArgs false
namespace Go.Proofs.YtpdnopfjnmjnnaaGreatDoor.Cn
open Go.Sort Go.RowKit Go.Proofs Go.Proofs.YtpdnopfjnmjnnaaGreatDoorW.PrintWords Go.Proofs.YtpdnopfjnmjnnaaGreatDoor.Bs Go.Proofs.YtpdnopfjnmjnnaaGreatDoor.Ir Go.Proofs.YtpdnopfjnmjnnaaGreatDoor.Cz

theorem cut_any (s sep : ByteArray) (w : World) (hm : Mx w) (hs : s.size ≤ 1073741824) :
    Calls Tryz.prog 44 #[.string s, .string sep] w fun e w' => e = .returned (.tuple #[.string (bsOf (Lib.cut s.data.toList sep.data.toList).1), .string (bsOf (Lib.cut s.data.toList sep.data.toList).2.1), .bool (Lib.cut s.data.toList sep.data.toList).2.2]) ∧ Below w.heap.size w w' := by
  obtain ⟨m, hm⟩ := hm
  refine (Tryz.strings_Cut s sep m w (by omega) hm).mono ?_
  rintro e w' ⟨rfl, n, rfl⟩
  exact ⟨rfl, pw_below_drewN (Below.refl _ _) n⟩
theorem cut_len (l p : List UInt8) : (Lib.cut l p).1.length ≤ l.length ∧ (Lib.cut l p).2.1.length ≤ l.length := by
  unfold Lib.cut
  split <;> simp <;> omega
/-- A node's four cells. -/
def nodeC (v : Val) (vl : Value) : Array Value := match v with
  | .none => #[.int .u8 0, .string ⟨#[]⟩, .slice none 0 0, .slice none 0 0]
  | .text t => #[.int .u8 1, .string (bsOf t), .slice none 0 0, .slice none 0 0]
  | .list _ => #[.int .u8 2, .string ⟨#[]⟩, vl, .slice none 0 0]
def hasV : Val → Bool
  | .none => false
  | _ => true
def readV (base : Nat) (x : List UInt8 × Val) (w : World) (v : Value) : Prop :=
  ∃ vl, v = .tuple #[.string (bsOf x.1), .agg (nodeC x.2 vl), .bool (hasV x.2)] ∧ match x.2 with | .list l => listV base l w vl | _ => True
/-- What a function does that answers, or panics with a fault. -/
def Outv {α : Type} (val : α → World → Value → Prop) (w : World) (r : Except Int α) (e : Ending) (w' : World) : Prop :=
  Below w.heap.size w w' ∧ match r with | .ok x => ∃ v, e = .returned v ∧ val x w' v | .error y => e = pf y
theorem spaces_over {l : List UInt8} (h : overL l = false) (hp : Lib.hasPrefix l [32] = true) : ∃ c r, spacesL (l.drop 1) = c :: r := by
  obtain ⟨r, rfl⟩ := prefix_one _ _ hp
  have e : spacesL (32 :: r) = spacesL r := by simp [spacesL, Lib.trimLeftB, List.dropWhile_cons]
  unfold overL at h
  rw [e] at h
  cases hs : spacesL r with
  | nil => rw [hs] at h; simp at h
  | cons c r' => exact ⟨c, r', by rw [List.drop_one, List.tail_cons]; exact hs⟩
def readQ (l : List UInt8) : Except Int Val := match quotedL l with
  | .error y => .error y
  | .ok (t, r) => if overL r then .ok (.text t) else .error 15
def readI (l : List UInt8) : Except Int Val := match listL l with
  | .error y => .error y
  | .ok (t, r) => if overL r then .ok (.list t) else .error 15
def readP (l : List UInt8) : Except Int Val := if plainL (Lib.trimRightB (Lib.cut l [32, 35]).1 32) then .ok (.text (Lib.trimRightB (Lib.cut l [32, 35]).1 32)) else .error 15
theorem readVal_over {l : List UInt8} (h : overL l = true) : readVal l = .ok .none := by rw [readVal, if_pos h]
theorem readVal_no {l : List UInt8} (h : overL l = false) (hp : Lib.hasPrefix l [32] = false) : readVal l = .error 15 := by rw [readVal, if_neg (by rw [h]; decide), if_pos (by rw [hp]; rfl)]
theorem readVal_at {l r : List UInt8} {c : UInt8} (h : overL l = false) (hp : Lib.hasPrefix l [32] = true) (hs : spacesL (l.drop 1) = c :: r) : readVal l = if c == 34 then readQ (c :: r) else if c == 91 then readI (c :: r) else readP (c :: r) := by
  rw [readVal, if_neg (by rw [h]; decide), if_neg (by rw [hp]; decide)]
  rw [hs]
  rfl
/-- A list's rows are none of a node's, a scanner's block: their types differ. -/
theorem listV_set {base : Nat} {x : List (List UInt8)} {w : World} {v : Value} (h : listV base x w v) {g t : Nat} {cells : Array Value} (hb : w.heap[g]? = some (.cells cells t (0, 0))) (j : Nat) (u : Value) (ht : 9 ≠ t := by decide) : listV base x (w.setCell ⟨g, j, none⟩ u) v :=
  Kd.R_set h hb (fun q hq => by
    rcases List.mem_cons.1 hq with rfl | hq
    · exact ht
    · cases hq) j u
theorem listV_grown {base b : Nat} {x : List (List UInt8)} {l : List UInt8} {w w' : World} {v : Value} (h : listV base x w v) (hg : w.grownBy w' (some b)) (hc : ScAt b l w) : listV base x w' v := by
  obtain ⟨s, _, hb⟩ := hc
  exact Kd.R_mono (Kd.R_grown (Kd.R_types h hb (fun q hq => by
    rcases List.mem_cons.1 hq with rfl | hq
    · decide
    · cases hq)) hg (fun k hk e => hk.2 (Option.some.inj e))) (fun k hk => hk.1)
theorem listV_lower {base base' : Nat} {x : List (List UInt8)} {w : World} {v : Value} (h : listV base x w v) (hb : base' ≤ base) : listV base' x w v :=
  Kd.R_mono (Kd.R_lower h hb) (fun k hk => Nat.le_trans hb hk)
theorem put4 {w : World} {b : Nat} {t : TypeId} {a0 a1 a2 a3 : Value} (v0 v1 v2 v3 : Value) (h : w.heap[b]? = some (.cells #[a0, a1, a2, a3] t (0, 0))) : ((((w.setCell ⟨b, 0, none⟩ v0).setCell ⟨b, 1, none⟩ v1).setCell ⟨b, 2, none⟩ v2).setCell ⟨b, 3, none⟩ v3).heap[b]? = some (.cells #[v0, v1, v2, v3] t (0, 0)) := by
  have h0 : (w.setCell ⟨b, 0, none⟩ v0).heap[b]? = some (.cells #[v0, a1, a2, a3] t (0, 0)) := blk_set h 0 v0
  have h1 : ((w.setCell ⟨b, 0, none⟩ v0).setCell ⟨b, 1, none⟩ v1).heap[b]? = some (.cells #[v0, v1, a2, a3] t (0, 0)) := blk_set h0 1 v1
  have h2 : (((w.setCell ⟨b, 0, none⟩ v0).setCell ⟨b, 1, none⟩ v1).setCell ⟨b, 2, none⟩ v2).heap[b]? = some (.cells #[v0, v1, v2, a3] t (0, 0)) := blk_set h1 2 v2
  exact blk_set h2 3 v3
theorem below_put4 {w0 w : World} {B b : Nat} (v0 v1 v2 v3 : Value) (h : Below B w0 w) (hb : B ≤ b) : Below B w0 ((((w.setCell ⟨b, 0, none⟩ v0).setCell ⟨b, 1, none⟩ v1).setCell ⟨b, 2, none⟩ v2).setCell ⟨b, 3, none⟩ v3) :=
  (((h.setCell (p := ⟨b, 0, none⟩) hb v0).setCell (p := ⟨b, 1, none⟩) hb v1).setCell (p := ⟨b, 2, none⟩) hb v2).setCell (p := ⟨b, 3, none⟩) hb v3
theorem listV_put4 {base b : Nat} {x : List (List UInt8)} {w : World} {v : Value} {a0 a1 a2 a3 : Value} (h : listV base x w v) (hb : w.heap[b]? = some (.cells #[a0, a1, a2, a3] 32 (0, 0))) (v0 v1 v2 v3 : Value) : listV base x (((((w.setCell ⟨b, 0, none⟩ v0).setCell ⟨b, 1, none⟩ v1).setCell ⟨b, 2, none⟩ v2).setCell ⟨b, 3, none⟩ v3).drew) v := by
  have h0 : (w.setCell ⟨b, 0, none⟩ v0).heap[b]? = some (.cells #[v0, a1, a2, a3] 32 (0, 0)) := blk_set hb 0 v0
  have h1 : ((w.setCell ⟨b, 0, none⟩ v0).setCell ⟨b, 1, none⟩ v1).heap[b]? = some (.cells #[v0, v1, a2, a3] 32 (0, 0)) := blk_set h0 1 v1
  have h2 : (((w.setCell ⟨b, 0, none⟩ v0).setCell ⟨b, 1, none⟩ v1).setCell ⟨b, 2, none⟩ v2).heap[b]? = some (.cells #[v0, v1, v2, a3] 32 (0, 0)) := blk_set h1 2 v2
  exact Kd.R_drew (listV_set (listV_set (listV_set (listV_set h hb 0 v0) h0 1 v1) h1 2 v2) h2 3 v3)
theorem grown_base {w w1 w2 : World} {b : Nat} (h : Below w.heap.size w w1) (hg : w1.grownBy w2 (some b)) (hb : w.heap.size ≤ b) : Below w.heap.size w w2 :=
  h.grown hg h.size (fun k hk => by have := Option.some.inj hk; omega)

set_option maxRecDepth 100000 in
set_option maxHeartbeats 1000000 in
theorem read_any (s : ByteArray) (w : World) (hm : Mx w) (hlow : 2 < w.heap.size) (hs : s.size ≤ 1073741824) :
    Calls Tryz.prog 46 #[.string s] w fun e w' => Outv (readV w.heap.size) w (readL s.data.toList) e w' := by
  unfold readL
  dsimp only
  obtain ⟨w1, hw1⟩ : ∃ w1, w1 = w.alloc (.cells #[.int .u8 0, .string ⟨#[]⟩, .slice none 0 0, .slice none 0 0] 32) := ⟨_, rfl⟩
  have hb1 : Below w.heap.size w w1 := by rw [hw1]; exact below_alloc (Below.refl _ _) _
  have NB1 : w1.heap[w.heap.size]? = some (.cells #[.int .u8 0, .string ⟨#[]⟩, .slice none 0 0, .slice none 0 0] 32 (0, 0)) := by rw [hw1]; exact heap_alloc_new w _
  have hcut := cut_any s ⟨#[58]⟩ w1 (hm.below hb1) hs
  have hcl := cut_len s.data.toList [58]
  have ek : (⟨#[58]⟩ : ByteArray).data.toList = [58] := rfl
  rw [ek] at hcut
  clear ek
  generalize (Lib.cut s.data.toList [58]).1 = k at *
  generalize (Lib.cut s.data.toList [58]).2.1 = rest at *
  generalize (Lib.cut s.data.toList [58]).2.2 = ok at *
  have HW1 := Lib.hid hw1
  have HB1 := Lib.hid hb1
  have HN1 := Lib.hid NB1
  have hsl : s.data.toList.length = s.size := rfl
  have HLN := Lib.hid (show k.length ≤ 1073741824 ∧ rest.length ≤ 1073741824 from ⟨by omega, by omega⟩)
  have HM := Lib.hid hm
  have HLOW := Lib.hid hlow
  have hky := fun W => key_any (bsOf k) W
  have ekk : (bsOf k).data.toList = k := rfl
  rw [ekk] at hky
  clear hw1 hb1 NB1 hcl hsl hm hs ekk hlow
  cases ok
  case false =>
    rw [Bool.false_and, if_neg (by decide)]
    go_enter Tryz.func46, Tryz.ntmps46
    go_wp2_with fail
    rw [← HW1.out]
    refine hcut.mono ?_
    rintro e w2 ⟨rfl, hb2⟩
    have HB2 := Lib.hid (HB1.out.trans (hb2.mono HB1.out.size))
    have HN2 := Lib.hid ((hb2.block _ (blk_lt HN1.out)).trans HN1.out)
    clear hb2 hcut HN1 HB1
    go_wp2_with fail
    refine (must_no _ _).mono ?_
    rintro e w9 ⟨rfl, rfl⟩
    unfold pf
    go_wp2_with fail
    exact ⟨rfl, HB2.out, rfl⟩
  cases hkl : keyL k
  case true.false =>
    rw [hkl] at hky
    rw [Bool.true_and, if_neg (by decide)]
    clear hkl
    go_enter Tryz.func46, Tryz.ntmps46
    go_wp2_with fail
    rw [← HW1.out]
    refine hcut.mono ?_
    rintro e w2 ⟨rfl, hb2⟩
    have HB2 := Lib.hid (HB1.out.trans (hb2.mono HB1.out.size))
    have HN2 := Lib.hid ((hb2.block _ (blk_lt HN1.out)).trans HN1.out)
    clear hb2 hcut HN1 HB1
    go_wp2_with fail
    refine (hky _).mono ?_
    rintro e w3 ⟨rfl, hb3⟩
    have HB3 := Lib.hid (HB2.out.trans (hb3.mono HB2.out.size))
    have HN3 := Lib.hid ((hb3.block _ (blk_lt HN2.out)).trans HN2.out)
    clear hb3 hky HN2 HB2
    go_wp2_with fail
    refine (must_no _ _).mono ?_
    rintro e w9 ⟨rfl, rfl⟩
    unfold pf
    go_wp2_with fail
    exact ⟨rfl, HB3.out, rfl⟩
  rw [hkl] at hky
  rw [Bool.true_and, if_pos rfl]
  clear hkl
  cases hov : overL rest
  case true.true =>
    rw [readVal_over hov]
    have HOV := Lib.hid hov
    clear hov
    go_enter Tryz.func46, Tryz.ntmps46
    go_wp2_with fail
    rw [← HW1.out]
    refine hcut.mono ?_
    rintro e w2 ⟨rfl, hb2⟩
    have HB2 := Lib.hid (HB1.out.trans (hb2.mono HB1.out.size))
    have HN2 := Lib.hid ((hb2.block _ (blk_lt HN1.out)).trans HN1.out)
    clear hb2 hcut HN1 HB1
    go_wp2_with fail
    refine (hky _).mono ?_
    rintro e w3 ⟨rfl, hb3⟩
    have HB3 := Lib.hid (HB2.out.trans (hb3.mono HB2.out.size))
    have HN3 := Lib.hid ((hb3.block _ (blk_lt HN2.out)).trans HN2.out)
    clear hb3 hky HN2 HB2
    go_wp2_with fail
    refine (must_ok _ _).mono ?_
    rintro e w9 ⟨rfl, rfl⟩
    go_wp2_with fail
    obtain ⟨w4, hw4⟩ : ∃ w4, w4 = w3.alloc (.cells #[.string (bsOf rest)] 126) := ⟨_, rfl⟩
    rw [← hw4]
    have hb4 : Below w3.heap.size w3 w4 := by rw [hw4]; exact below_alloc (Below.refl _ _) _
    have HC4 := Lib.hid (show ScAt w3.heap.size rest w4 from ⟨bsOf rest, rfl, by rw [hw4]; exact heap_alloc_new w3 _⟩)
    have HB4 := Lib.hid (HB3.out.trans (hb4.mono HB3.out.size))
    have HN4 := Lib.hid ((hb4.block _ (blk_lt HN3.out)).trans HN3.out)
    have HCB := Lib.hid (show w.heap.size < w3.heap.size ∧ w3.heap.size < w4.heap.size from ⟨blk_lt HN3.out, HC4.out.lt⟩)
    have ho := over_any w3.heap.size rest w4 HC4.out
    rw [HOV.out] at ho
    generalize w3.heap.size = cb at *
    clear hw4 hb4 HN3 HB3 HC4
    refine ho.mono ?_
    rintro e w5 ⟨rfl, hg5, hc5⟩
    have HB5 := Lib.hid (grown_base HB4.out hg5 (by have := HCB.out; omega))
    have HN5 := Lib.hid ((hg5.block _ (blk_lt HN4.out) (fun e => by have := Option.some.inj e; have := HCB.out; omega)).trans HN4.out)
    have HC5 := Lib.hid hc5
    clear hg5 hc5 HN4 HB4 ho
    have n0 := blk_cell HN5.out 0
    have n1 := blk_cell HN5.out 1
    have n2 := blk_cell HN5.out 2
    have n3 := blk_cell HN5.out 3
    have f0 := blk_frozen HN5.out 0
    have f1 := blk_frozen HN5.out 1
    have f2 := blk_frozen HN5.out 2
    have f3 := blk_frozen HN5.out 3
    have HF := Lib.hid (put4 (.int .u8 0) (.string ⟨#[]⟩) (.slice none 0 0) (.slice none 0 0) HN5.out)
    have HBF := Lib.hid (below_put4 (.int .u8 0) (.string ⟨#[]⟩) (.slice none 0 0) (.slice none 0 0) HB5.out (Nat.le_refl _))
    go_wp2_with fail
    generalize ((((w5.setCell ⟨w.heap.size, 0, none⟩ (.int .u8 0)).setCell ⟨w.heap.size, 1, none⟩ (.string ⟨#[]⟩)).setCell ⟨w.heap.size, 2, none⟩ (.slice none 0 0)).setCell ⟨w.heap.size, 3, none⟩ (.slice none 0 0)) = WF at *
    clear n0 n1 n2 n3 f0 f1 f2 f3
    have c0 := blk_cell HF.out 0
    have c1 := blk_cell HF.out 1
    have c2 := blk_cell HF.out 2
    have c3 := blk_cell HF.out 3
    simp at c0 c1 c2 c3
    refine bodyPost_ret (v := .tuple #[.string (bsOf k), .agg #[.int .u8 0, .string ⟨#[]⟩, .slice none 0 0, .slice none 0 0], .bool false]) (by simp [results, Tryz.results46, go_sem, c0, c1, c2, c3]) rfl ?_
    exact ⟨HBF.out, _, rfl, .slice none 0 0, rfl, trivial⟩
  case true.false =>
    have HOV := Lib.hid hov
    clear hov
    cases hp : Lib.hasPrefix rest [32]
    case false =>
      rw [readVal_no HOV.out hp]
      go_enter Tryz.func46, Tryz.ntmps46
      go_wp2_with fail
      rw [← HW1.out]
      refine hcut.mono ?_
      rintro e w2 ⟨rfl, hb2⟩
      have HB2 := Lib.hid (HB1.out.trans (hb2.mono HB1.out.size))
      have HN2 := Lib.hid ((hb2.block _ (blk_lt HN1.out)).trans HN1.out)
      clear hb2 hcut HN1 HB1
      go_wp2_with fail
      refine (hky _).mono ?_
      rintro e w3 ⟨rfl, hb3⟩
      have HB3 := Lib.hid (HB2.out.trans (hb3.mono HB2.out.size))
      have HN3 := Lib.hid ((hb3.block _ (blk_lt HN2.out)).trans HN2.out)
      clear hb3 hky HN2 HB2
      go_wp2_with fail
      refine (must_ok _ _).mono ?_
      rintro e w9 ⟨rfl, rfl⟩
      go_wp2_with fail
      obtain ⟨w4, hw4⟩ : ∃ w4, w4 = w3.alloc (.cells #[.string (bsOf rest)] 126) := ⟨_, rfl⟩
      rw [← hw4]
      have hb4 : Below w3.heap.size w3 w4 := by rw [hw4]; exact below_alloc (Below.refl _ _) _
      have HC4 := Lib.hid (show ScAt w3.heap.size rest w4 from ⟨bsOf rest, rfl, by rw [hw4]; exact heap_alloc_new w3 _⟩)
      have HB4 := Lib.hid (HB3.out.trans (hb4.mono HB3.out.size))
      have HN4 := Lib.hid ((hb4.block _ (blk_lt HN3.out)).trans HN3.out)
      have HCB := Lib.hid (show w.heap.size < w3.heap.size ∧ w3.heap.size < w4.heap.size from ⟨blk_lt HN3.out, HC4.out.lt⟩)
      have ho := over_any w3.heap.size rest w4 HC4.out
      rw [HOV.out] at ho
      generalize w3.heap.size = cb at *
      clear hw4 hb4 HN3 HB3 HC4
      refine ho.mono ?_
      rintro e w5 ⟨rfl, hg5, hc5⟩
      have HB5 := Lib.hid (grown_base HB4.out hg5 (by have := HCB.out; omega))
      have HN5 := Lib.hid ((hg5.block _ (blk_lt HN4.out) (fun e => by have := Option.some.inj e; have := HCB.out; omega)).trans HN4.out)
      have HC5 := Lib.hid hc5
      clear hg5 hc5 HN4 HB4 ho
      go_wp2_with fail
      have htk := take1 cb 32 rest w5 HC5.out
      rw [hp] at htk
      simp only [Bool.false_eq_true, if_false] at htk
      clear hp
      refine htk.mono ?_
      rintro e w6 ⟨rfl, hg6, hc6⟩
      have HB6 := Lib.hid (grown_base HB5.out hg6 (by have := HCB.out; omega))
      go_wp2_with fail
      refine (must_no _ _).mono ?_
      rintro e w9 ⟨rfl, rfl⟩
      unfold pf
      go_wp2_with fail
      exact ⟨rfl, HB6.out, rfl⟩
    case true =>
      obtain ⟨c, r, hcr⟩ := spaces_over HOV.out hp
      rw [readVal_at HOV.out hp hcr]
      have hrl := spacesL_len (rest.drop 1)
      rw [hcr] at hrl
      have HCR := Lib.hid hcr
      have HRL := Lib.hid (show (c :: r).length ≤ 1073741824 from by have := HLN.out; have h1 : (rest.drop 1).length ≤ rest.length := (by simp); omega)
      clear hcr hrl
      have hcr := c.toNat_lt
      by_cases h34 : c.toNat = 34
      case pos =>
        have hb34 : (c == 34) = true := by rw [beq_iff_eq]; exact UInt8.toNat_inj.1 h34
        have hi34 : ((c.toNat : Int) == 34) = true := by rw [beq_iff_eq]; omega
        rw [if_pos hb34]
        clear hb34 h34
        unfold readQ
        cases hq : quotedL (c :: r) with
        | error y =>
          dsimp only
          go_enter Tryz.func46, Tryz.ntmps46
          go_wp2_with fail
          rw [← HW1.out]
          refine hcut.mono ?_
          rintro e w2 ⟨rfl, hb2⟩
          have HB2 := Lib.hid (HB1.out.trans (hb2.mono HB1.out.size))
          have HN2 := Lib.hid ((hb2.block _ (blk_lt HN1.out)).trans HN1.out)
          clear hb2 hcut HN1 HB1
          go_wp2_with fail
          refine (hky _).mono ?_
          rintro e w3 ⟨rfl, hb3⟩
          have HB3 := Lib.hid (HB2.out.trans (hb3.mono HB2.out.size))
          have HN3 := Lib.hid ((hb3.block _ (blk_lt HN2.out)).trans HN2.out)
          clear hb3 hky HN2 HB2
          go_wp2_with fail
          refine (must_ok _ _).mono ?_
          rintro e w9 ⟨rfl, rfl⟩
          go_wp2_with fail
          obtain ⟨w4, hw4⟩ : ∃ w4, w4 = w3.alloc (.cells #[.string (bsOf rest)] 126) := ⟨_, rfl⟩
          rw [← hw4]
          have hb4 : Below w3.heap.size w3 w4 := by rw [hw4]; exact below_alloc (Below.refl _ _) _
          have HC4 := Lib.hid (show ScAt w3.heap.size rest w4 from ⟨bsOf rest, rfl, by rw [hw4]; exact heap_alloc_new w3 _⟩)
          have HB4 := Lib.hid (HB3.out.trans (hb4.mono HB3.out.size))
          have HN4 := Lib.hid ((hb4.block _ (blk_lt HN3.out)).trans HN3.out)
          have HCB := Lib.hid (show w.heap.size < w3.heap.size ∧ w3.heap.size < w4.heap.size from ⟨blk_lt HN3.out, HC4.out.lt⟩)
          have ho := over_any w3.heap.size rest w4 HC4.out
          rw [HOV.out] at ho
          generalize w3.heap.size = cb at *
          clear hw4 hb4 HN3 HB3 HC4
          refine ho.mono ?_
          rintro e w5 ⟨rfl, hg5, hc5⟩
          have HB5 := Lib.hid (grown_base HB4.out hg5 (by have := HCB.out; omega))
          have HN5 := Lib.hid ((hg5.block _ (blk_lt HN4.out) (fun e => by have := Option.some.inj e; have := HCB.out; omega)).trans HN4.out)
          have HC5 := Lib.hid hc5
          clear hg5 hc5 HN4 HB4 ho
          go_wp2_with fail
          have htk := take1 cb 32 rest w5 HC5.out
          rw [hp] at htk
          simp only [if_true] at htk
          clear hp
          refine htk.mono ?_
          rintro e w6 ⟨rfl, hg6, hc6⟩
          have HB6 := Lib.hid (grown_base HB5.out hg6 (by have := HCB.out; omega))
          have HN6 := Lib.hid ((hg6.block _ (blk_lt HN5.out) (fun e => by have := Option.some.inj e; have := HCB.out; omega)).trans HN5.out)
          have hsp := spaces_any cb (rest.drop 1) w6 hc6
          rw [HCR.out] at hsp
          clear hg6 hc6 htk HB5 HN5 HC5
          go_wp2_with fail
          refine (must_ok _ _).mono ?_
          rintro e w9 ⟨rfl, rfl⟩
          go_wp2_with fail
          refine hsp.mono ?_
          rintro e w7 ⟨rfl, hg7, s7, hs7, hk7⟩
          have HB7 := Lib.hid (grown_base HB6.out hg7 (by have := HCB.out; omega))
          have HN7 := Lib.hid ((hg7.block _ (blk_lt HN6.out) (fun e => by have := Option.some.inj e; have := HCB.out; omega)).trans HN6.out)
          have HC7 := Lib.hid (show ScAt cb (c :: r) w7 from ⟨s7, hs7, hk7⟩)
          have hcb7 := blk_lt hk7
          have HS7 := Lib.hid hs7
          have e7 := blk_cell hk7 0
          have h0s : 0 < s7.size := by rw [size_of hs7]; simp
          have hx0 := at_zero hs7 h0s
          clear hg7 HB6 HN6 hsp hk7 hs7
          go_wp2_with fail
          obtain ⟨w8, hw8⟩ : ∃ w8, w8 = w7.alloc (.cells #[.int .u8 1, .string ⟨#[]⟩, .slice none 0 0, .slice none 0 0] 32) := ⟨_, rfl⟩
          rw [← hw8]
          have hb8 : Below w7.heap.size w7 w8 := by rw [hw8]; exact below_alloc (Below.refl _ _) _
          have HM8 := Lib.hid (show w8.heap[w7.heap.size]? = some (.cells #[.int .u8 1, .string ⟨#[]⟩, .slice none 0 0, .slice none 0 0] 32 (0, 0)) from by rw [hw8]; exact heap_alloc_new w7 _)
          have HB8 := Lib.hid (HB7.out.trans (hb8.mono HB7.out.size))
          have HN8 := Lib.hid ((hb8.block _ (blk_lt HN7.out)).trans HN7.out)
          have HC8 := Lib.hid (HC7.out.below hb8)
          have HMB := Lib.hid (show cb < w7.heap.size ∧ w7.heap.size < w8.heap.size from ⟨hcb7, blk_lt HM8.out⟩)
          generalize w7.heap.size = mb at *
          clear hw8 hb8 HB7 HN7 HC7 e7 h0s hx0 hcb7
          have hqq := quoted_any cb (c :: r) w8 HC8.out HRL.out
          rw [hq] at hqq
          clear hq
          refine hqq.mono ?_
          rintro e w9 ⟨hg9, rfl⟩
          unfold pf
          go_wp2_with fail
          exact ⟨rfl, grown_base HB8.out hg9 (by have := HCB.out; omega), rfl⟩
        | ok z =>
          obtain ⟨t, l'⟩ := z
          dsimp only
          cases hov2 : overL l'
          case false =>
            rw [if_neg (by decide)]
            go_enter Tryz.func46, Tryz.ntmps46
            go_wp2_with fail
            rw [← HW1.out]
            refine hcut.mono ?_
            rintro e w2 ⟨rfl, hb2⟩
            have HB2 := Lib.hid (HB1.out.trans (hb2.mono HB1.out.size))
            have HN2 := Lib.hid ((hb2.block _ (blk_lt HN1.out)).trans HN1.out)
            clear hb2 hcut HN1 HB1
            go_wp2_with fail
            refine (hky _).mono ?_
            rintro e w3 ⟨rfl, hb3⟩
            have HB3 := Lib.hid (HB2.out.trans (hb3.mono HB2.out.size))
            have HN3 := Lib.hid ((hb3.block _ (blk_lt HN2.out)).trans HN2.out)
            clear hb3 hky HN2 HB2
            go_wp2_with fail
            refine (must_ok _ _).mono ?_
            rintro e w9 ⟨rfl, rfl⟩
            go_wp2_with fail
            obtain ⟨w4, hw4⟩ : ∃ w4, w4 = w3.alloc (.cells #[.string (bsOf rest)] 126) := ⟨_, rfl⟩
            rw [← hw4]
            have hb4 : Below w3.heap.size w3 w4 := by rw [hw4]; exact below_alloc (Below.refl _ _) _
            have HC4 := Lib.hid (show ScAt w3.heap.size rest w4 from ⟨bsOf rest, rfl, by rw [hw4]; exact heap_alloc_new w3 _⟩)
            have HB4 := Lib.hid (HB3.out.trans (hb4.mono HB3.out.size))
            have HN4 := Lib.hid ((hb4.block _ (blk_lt HN3.out)).trans HN3.out)
            have HCB := Lib.hid (show w.heap.size < w3.heap.size ∧ w3.heap.size < w4.heap.size from ⟨blk_lt HN3.out, HC4.out.lt⟩)
            have ho := over_any w3.heap.size rest w4 HC4.out
            rw [HOV.out] at ho
            generalize w3.heap.size = cb at *
            clear hw4 hb4 HN3 HB3 HC4
            refine ho.mono ?_
            rintro e w5 ⟨rfl, hg5, hc5⟩
            have HB5 := Lib.hid (grown_base HB4.out hg5 (by have := HCB.out; omega))
            have HN5 := Lib.hid ((hg5.block _ (blk_lt HN4.out) (fun e => by have := Option.some.inj e; have := HCB.out; omega)).trans HN4.out)
            have HC5 := Lib.hid hc5
            clear hg5 hc5 HN4 HB4 ho
            go_wp2_with fail
            have htk := take1 cb 32 rest w5 HC5.out
            rw [hp] at htk
            simp only [if_true] at htk
            clear hp
            refine htk.mono ?_
            rintro e w6 ⟨rfl, hg6, hc6⟩
            have HB6 := Lib.hid (grown_base HB5.out hg6 (by have := HCB.out; omega))
            have HN6 := Lib.hid ((hg6.block _ (blk_lt HN5.out) (fun e => by have := Option.some.inj e; have := HCB.out; omega)).trans HN5.out)
            have hsp := spaces_any cb (rest.drop 1) w6 hc6
            rw [HCR.out] at hsp
            clear hg6 hc6 htk HB5 HN5 HC5
            go_wp2_with fail
            refine (must_ok _ _).mono ?_
            rintro e w9 ⟨rfl, rfl⟩
            go_wp2_with fail
            refine hsp.mono ?_
            rintro e w7 ⟨rfl, hg7, s7, hs7, hk7⟩
            have HB7 := Lib.hid (grown_base HB6.out hg7 (by have := HCB.out; omega))
            have HN7 := Lib.hid ((hg7.block _ (blk_lt HN6.out) (fun e => by have := Option.some.inj e; have := HCB.out; omega)).trans HN6.out)
            have HC7 := Lib.hid (show ScAt cb (c :: r) w7 from ⟨s7, hs7, hk7⟩)
            have hcb7 := blk_lt hk7
            have HS7 := Lib.hid hs7
            have e7 := blk_cell hk7 0
            have h0s : 0 < s7.size := by rw [size_of hs7]; simp
            have hx0 := at_zero hs7 h0s
            clear hg7 HB6 HN6 hsp hk7 hs7
            go_wp2_with fail
            obtain ⟨w8, hw8⟩ : ∃ w8, w8 = w7.alloc (.cells #[.int .u8 1, .string ⟨#[]⟩, .slice none 0 0, .slice none 0 0] 32) := ⟨_, rfl⟩
            rw [← hw8]
            have hb8 : Below w7.heap.size w7 w8 := by rw [hw8]; exact below_alloc (Below.refl _ _) _
            have HM8 := Lib.hid (show w8.heap[w7.heap.size]? = some (.cells #[.int .u8 1, .string ⟨#[]⟩, .slice none 0 0, .slice none 0 0] 32 (0, 0)) from by rw [hw8]; exact heap_alloc_new w7 _)
            have HB8 := Lib.hid (HB7.out.trans (hb8.mono HB7.out.size))
            have HN8 := Lib.hid ((hb8.block _ (blk_lt HN7.out)).trans HN7.out)
            have HC8 := Lib.hid (HC7.out.below hb8)
            have HMB := Lib.hid (show cb < w7.heap.size ∧ w7.heap.size < w8.heap.size from ⟨hcb7, blk_lt HM8.out⟩)
            generalize w7.heap.size = mb at *
            clear hw8 hb8 HB7 HN7 HC7 e7 h0s hx0 hcb7
            have hqq := quoted_any cb (c :: r) w8 HC8.out HRL.out
            rw [hq] at hqq
            clear hq
            refine hqq.mono ?_
            rintro e w9 ⟨hg9, ⟨_, rfl, rfl⟩, hc9⟩
            have HB9 := Lib.hid (grown_base HB8.out hg9 (by have := HCB.out; omega))
            have HN9 := Lib.hid ((hg9.block _ (blk_lt HN8.out) (fun e => by have := Option.some.inj e; have := HCB.out; omega)).trans HN8.out)
            have HM9 := Lib.hid ((hg9.block _ (blk_lt HM8.out) (fun e => by have := Option.some.inj e; have := HMB.out; omega)).trans HM8.out)
            have HC9 := Lib.hid hc9
            have m1 := blk_cell HM9.out 1
            have mf1 := blk_frozen HM9.out 1
            clear hg9 hc9 HB8 HN8 HM8 HC8
            go_wp2_with fail
            obtain ⟨w10, hw10⟩ : ∃ w10, w10 = w9.setCell ⟨mb, 1, none⟩ (.string ⟨t.toArray⟩) := ⟨_, rfl⟩
            rw [← hw10]
            have HM10 := Lib.hid (show w10.heap[mb]? = some (.cells #[.int .u8 1, .string (bsOf t), .slice none 0 0, .slice none 0 0] 32 (0, 0)) from by rw [hw10]; exact blk_set HM9.out 1 _)
            have HN10 := Lib.hid (show w10.heap[w.heap.size]? = some (.cells #[.int .u8 0, .string ⟨#[]⟩, .slice none 0 0, .slice none 0 0] 32 (0, 0)) from by rw [hw10]; exact blk_far (p := ⟨mb, 1, none⟩) HN9.out (by have := HMB.out; have := HCB.out; simp <;> omega) _)
            have HC10 := Lib.hid (show ScAt cb l' w10 from HC9.out.move (by rw [hw10]; exact Below.heap_setCell _ _ _ _ (by have := HMB.out; simp <;> omega)))
            have HB10 := Lib.hid (show Below w.heap.size w w10 from by rw [hw10]; exact HB9.out.setCell (p := ⟨mb, 1, none⟩) (by have := HMB.out; have := HCB.out; simp <;> omega) _)
            clear hw10 HM9 HN9 HC9 HB9 m1 mf1
            have hov := over_any cb l' w10 HC10.out
            rw [hov2] at hov
            clear hov2
            refine hov.mono ?_
            rintro e w11 ⟨rfl, hg11, hc11⟩
            have HB11 := Lib.hid (grown_base HB10.out hg11 (by have := HCB.out; omega))
            have HN11 := Lib.hid ((hg11.block _ (blk_lt HN10.out) (fun e => by have := Option.some.inj e; have := HCB.out; omega)).trans HN10.out)
            have HM11 := Lib.hid ((hg11.block _ (blk_lt HM10.out) (fun e => by have := Option.some.inj e; have := HMB.out; omega)).trans HM10.out)
            clear hg11 hc11 HB10 HN10 HM10 HC10 hov
            go_wp2_with fail
            refine (must_no _ _).mono ?_
            rintro e w9 ⟨rfl, rfl⟩
            unfold pf
            go_wp2_with fail
            exact ⟨rfl, HB11.out, rfl⟩
          case true =>
            rw [if_pos rfl]
            go_enter Tryz.func46, Tryz.ntmps46
            go_wp2_with fail
            rw [← HW1.out]
            refine hcut.mono ?_
            rintro e w2 ⟨rfl, hb2⟩
            have HB2 := Lib.hid (HB1.out.trans (hb2.mono HB1.out.size))
            have HN2 := Lib.hid ((hb2.block _ (blk_lt HN1.out)).trans HN1.out)
            clear hb2 hcut HN1 HB1
            go_wp2_with fail
            refine (hky _).mono ?_
            rintro e w3 ⟨rfl, hb3⟩
            have HB3 := Lib.hid (HB2.out.trans (hb3.mono HB2.out.size))
            have HN3 := Lib.hid ((hb3.block _ (blk_lt HN2.out)).trans HN2.out)
            clear hb3 hky HN2 HB2
            go_wp2_with fail
            refine (must_ok _ _).mono ?_
            rintro e w9 ⟨rfl, rfl⟩
            go_wp2_with fail
            obtain ⟨w4, hw4⟩ : ∃ w4, w4 = w3.alloc (.cells #[.string (bsOf rest)] 126) := ⟨_, rfl⟩
            rw [← hw4]
            have hb4 : Below w3.heap.size w3 w4 := by rw [hw4]; exact below_alloc (Below.refl _ _) _
            have HC4 := Lib.hid (show ScAt w3.heap.size rest w4 from ⟨bsOf rest, rfl, by rw [hw4]; exact heap_alloc_new w3 _⟩)
            have HB4 := Lib.hid (HB3.out.trans (hb4.mono HB3.out.size))
            have HN4 := Lib.hid ((hb4.block _ (blk_lt HN3.out)).trans HN3.out)
            have HCB := Lib.hid (show w.heap.size < w3.heap.size ∧ w3.heap.size < w4.heap.size from ⟨blk_lt HN3.out, HC4.out.lt⟩)
            have ho := over_any w3.heap.size rest w4 HC4.out
            rw [HOV.out] at ho
            generalize w3.heap.size = cb at *
            clear hw4 hb4 HN3 HB3 HC4
            refine ho.mono ?_
            rintro e w5 ⟨rfl, hg5, hc5⟩
            have HB5 := Lib.hid (grown_base HB4.out hg5 (by have := HCB.out; omega))
            have HN5 := Lib.hid ((hg5.block _ (blk_lt HN4.out) (fun e => by have := Option.some.inj e; have := HCB.out; omega)).trans HN4.out)
            have HC5 := Lib.hid hc5
            clear hg5 hc5 HN4 HB4 ho
            go_wp2_with fail
            have htk := take1 cb 32 rest w5 HC5.out
            rw [hp] at htk
            simp only [if_true] at htk
            clear hp
            refine htk.mono ?_
            rintro e w6 ⟨rfl, hg6, hc6⟩
            have HB6 := Lib.hid (grown_base HB5.out hg6 (by have := HCB.out; omega))
            have HN6 := Lib.hid ((hg6.block _ (blk_lt HN5.out) (fun e => by have := Option.some.inj e; have := HCB.out; omega)).trans HN5.out)
            have hsp := spaces_any cb (rest.drop 1) w6 hc6
            rw [HCR.out] at hsp
            clear hg6 hc6 htk HB5 HN5 HC5
            go_wp2_with fail
            refine (must_ok _ _).mono ?_
            rintro e w9 ⟨rfl, rfl⟩
            go_wp2_with fail
            refine hsp.mono ?_
            rintro e w7 ⟨rfl, hg7, s7, hs7, hk7⟩
            have HB7 := Lib.hid (grown_base HB6.out hg7 (by have := HCB.out; omega))
            have HN7 := Lib.hid ((hg7.block _ (blk_lt HN6.out) (fun e => by have := Option.some.inj e; have := HCB.out; omega)).trans HN6.out)
            have HC7 := Lib.hid (show ScAt cb (c :: r) w7 from ⟨s7, hs7, hk7⟩)
            have hcb7 := blk_lt hk7
            have HS7 := Lib.hid hs7
            have e7 := blk_cell hk7 0
            have h0s : 0 < s7.size := by rw [size_of hs7]; simp
            have hx0 := at_zero hs7 h0s
            clear hg7 HB6 HN6 hsp hk7 hs7
            go_wp2_with fail
            obtain ⟨w8, hw8⟩ : ∃ w8, w8 = w7.alloc (.cells #[.int .u8 1, .string ⟨#[]⟩, .slice none 0 0, .slice none 0 0] 32) := ⟨_, rfl⟩
            rw [← hw8]
            have hb8 : Below w7.heap.size w7 w8 := by rw [hw8]; exact below_alloc (Below.refl _ _) _
            have HM8 := Lib.hid (show w8.heap[w7.heap.size]? = some (.cells #[.int .u8 1, .string ⟨#[]⟩, .slice none 0 0, .slice none 0 0] 32 (0, 0)) from by rw [hw8]; exact heap_alloc_new w7 _)
            have HB8 := Lib.hid (HB7.out.trans (hb8.mono HB7.out.size))
            have HN8 := Lib.hid ((hb8.block _ (blk_lt HN7.out)).trans HN7.out)
            have HC8 := Lib.hid (HC7.out.below hb8)
            have HMB := Lib.hid (show cb < w7.heap.size ∧ w7.heap.size < w8.heap.size from ⟨hcb7, blk_lt HM8.out⟩)
            generalize w7.heap.size = mb at *
            clear hw8 hb8 HB7 HN7 HC7 e7 h0s hx0 hcb7
            have hqq := quoted_any cb (c :: r) w8 HC8.out HRL.out
            rw [hq] at hqq
            clear hq
            refine hqq.mono ?_
            rintro e w9 ⟨hg9, ⟨_, rfl, rfl⟩, hc9⟩
            have HB9 := Lib.hid (grown_base HB8.out hg9 (by have := HCB.out; omega))
            have HN9 := Lib.hid ((hg9.block _ (blk_lt HN8.out) (fun e => by have := Option.some.inj e; have := HCB.out; omega)).trans HN8.out)
            have HM9 := Lib.hid ((hg9.block _ (blk_lt HM8.out) (fun e => by have := Option.some.inj e; have := HMB.out; omega)).trans HM8.out)
            have HC9 := Lib.hid hc9
            have m1 := blk_cell HM9.out 1
            have mf1 := blk_frozen HM9.out 1
            clear hg9 hc9 HB8 HN8 HM8 HC8
            go_wp2_with fail
            obtain ⟨w10, hw10⟩ : ∃ w10, w10 = w9.setCell ⟨mb, 1, none⟩ (.string ⟨t.toArray⟩) := ⟨_, rfl⟩
            rw [← hw10]
            have HM10 := Lib.hid (show w10.heap[mb]? = some (.cells #[.int .u8 1, .string (bsOf t), .slice none 0 0, .slice none 0 0] 32 (0, 0)) from by rw [hw10]; exact blk_set HM9.out 1 _)
            have HN10 := Lib.hid (show w10.heap[w.heap.size]? = some (.cells #[.int .u8 0, .string ⟨#[]⟩, .slice none 0 0, .slice none 0 0] 32 (0, 0)) from by rw [hw10]; exact blk_far (p := ⟨mb, 1, none⟩) HN9.out (by have := HMB.out; have := HCB.out; simp <;> omega) _)
            have HC10 := Lib.hid (show ScAt cb l' w10 from HC9.out.move (by rw [hw10]; exact Below.heap_setCell _ _ _ _ (by have := HMB.out; simp <;> omega)))
            have HB10 := Lib.hid (show Below w.heap.size w w10 from by rw [hw10]; exact HB9.out.setCell (p := ⟨mb, 1, none⟩) (by have := HMB.out; have := HCB.out; simp <;> omega) _)
            clear hw10 HM9 HN9 HC9 HB9 m1 mf1
            have hov := over_any cb l' w10 HC10.out
            rw [hov2] at hov
            clear hov2
            refine hov.mono ?_
            rintro e w11 ⟨rfl, hg11, hc11⟩
            have HB11 := Lib.hid (grown_base HB10.out hg11 (by have := HCB.out; omega))
            have HN11 := Lib.hid ((hg11.block _ (blk_lt HN10.out) (fun e => by have := Option.some.inj e; have := HCB.out; omega)).trans HN10.out)
            have HM11 := Lib.hid ((hg11.block _ (blk_lt HM10.out) (fun e => by have := Option.some.inj e; have := HMB.out; omega)).trans HM10.out)
            clear hg11 hc11 HB10 HN10 HM10 HC10 hov
            go_wp2_with fail
            refine (must_ok _ _).mono ?_
            rintro e w9 ⟨rfl, rfl⟩
            have n0 := blk_cell HN11.out 0
            have n1 := blk_cell HN11.out 1
            have n2 := blk_cell HN11.out 2
            have n3 := blk_cell HN11.out 3
            have f0 := blk_frozen HN11.out 0
            have f1 := blk_frozen HN11.out 1
            have f2 := blk_frozen HN11.out 2
            have f3 := blk_frozen HN11.out 3
            have m0 := blk_cell HM11.out 0
            have m1 := blk_cell HM11.out 1
            have m2 := blk_cell HM11.out 2
            have m3 := blk_cell HM11.out 3
            go_wp2_with fail
            have HF := Lib.hid (put4 (.int .u8 1) (.string (bsOf t)) (.slice none 0 0) (.slice none 0 0) HN11.out)
            have HBF := Lib.hid (below_put4 (.int .u8 1) (.string (bsOf t)) (.slice none 0 0) (.slice none 0 0) HB11.out (Nat.le_refl w.heap.size))
            go_region
            go_wp2_with fail
            generalize ((((w11.setCell ⟨w.heap.size, 0, none⟩ (.int .u8 1)).setCell ⟨w.heap.size, 1, none⟩ (.string (bsOf t))).setCell ⟨w.heap.size, 2, none⟩ (.slice none 0 0)).setCell ⟨w.heap.size, 3, none⟩ (.slice none 0 0)) = WF at *
            clear n0 n1 n2 n3 f0 f1 f2 f3 m0 m1 m2 m3
            have c0 := blk_cell HF.out 0
            have c1 := blk_cell HF.out 1
            have c2 := blk_cell HF.out 2
            have c3 := blk_cell HF.out 3
            simp at c0 c1 c2 c3
            refine bodyPost_ret (v := .tuple #[.string (bsOf k), .agg #[.int .u8 1, .string (bsOf t), .slice none 0 0, .slice none 0 0], .bool true]) (by simp [results, Tryz.results46, go_sem, c0, c1, c2, c3]) rfl ?_
            exact ⟨below_drew HBF.out, _, rfl, .slice none 0 0, rfl, trivial⟩
      case neg =>
        have hb34 : ¬ (c == 34) = true := by rw [beq_iff_eq]; rintro rfl; exact h34 rfl
        have hi34 : ((c.toNat : Int) == 34) = false := by rw [beq_eq_false_iff_ne]; omega
        rw [if_neg hb34]
        clear hb34
        by_cases h91 : c.toNat = 91
        case pos =>
          have hb91 : (c == 91) = true := by rw [beq_iff_eq]; exact UInt8.toNat_inj.1 h91
          have hi91 : ((c.toNat : Int) == 91) = true := by rw [beq_iff_eq]; omega
          rw [if_pos hb91]
          clear hb91 h91 h34
          unfold readI
          cases hq : listL (c :: r) with
          | error y =>
            dsimp only
            go_enter Tryz.func46, Tryz.ntmps46
            go_wp2_with fail
            rw [← HW1.out]
            refine hcut.mono ?_
            rintro e w2 ⟨rfl, hb2⟩
            have HB2 := Lib.hid (HB1.out.trans (hb2.mono HB1.out.size))
            have HN2 := Lib.hid ((hb2.block _ (blk_lt HN1.out)).trans HN1.out)
            clear hb2 hcut HN1 HB1
            go_wp2_with fail
            refine (hky _).mono ?_
            rintro e w3 ⟨rfl, hb3⟩
            have HB3 := Lib.hid (HB2.out.trans (hb3.mono HB2.out.size))
            have HN3 := Lib.hid ((hb3.block _ (blk_lt HN2.out)).trans HN2.out)
            clear hb3 hky HN2 HB2
            go_wp2_with fail
            refine (must_ok _ _).mono ?_
            rintro e w9 ⟨rfl, rfl⟩
            go_wp2_with fail
            obtain ⟨w4, hw4⟩ : ∃ w4, w4 = w3.alloc (.cells #[.string (bsOf rest)] 126) := ⟨_, rfl⟩
            rw [← hw4]
            have hb4 : Below w3.heap.size w3 w4 := by rw [hw4]; exact below_alloc (Below.refl _ _) _
            have HC4 := Lib.hid (show ScAt w3.heap.size rest w4 from ⟨bsOf rest, rfl, by rw [hw4]; exact heap_alloc_new w3 _⟩)
            have HB4 := Lib.hid (HB3.out.trans (hb4.mono HB3.out.size))
            have HN4 := Lib.hid ((hb4.block _ (blk_lt HN3.out)).trans HN3.out)
            have HCB := Lib.hid (show w.heap.size < w3.heap.size ∧ w3.heap.size < w4.heap.size from ⟨blk_lt HN3.out, HC4.out.lt⟩)
            have ho := over_any w3.heap.size rest w4 HC4.out
            rw [HOV.out] at ho
            generalize w3.heap.size = cb at *
            clear hw4 hb4 HN3 HB3 HC4
            refine ho.mono ?_
            rintro e w5 ⟨rfl, hg5, hc5⟩
            have HB5 := Lib.hid (grown_base HB4.out hg5 (by have := HCB.out; omega))
            have HN5 := Lib.hid ((hg5.block _ (blk_lt HN4.out) (fun e => by have := Option.some.inj e; have := HCB.out; omega)).trans HN4.out)
            have HC5 := Lib.hid hc5
            clear hg5 hc5 HN4 HB4 ho
            go_wp2_with fail
            have htk := take1 cb 32 rest w5 HC5.out
            rw [hp] at htk
            simp only [if_true] at htk
            clear hp
            refine htk.mono ?_
            rintro e w6 ⟨rfl, hg6, hc6⟩
            have HB6 := Lib.hid (grown_base HB5.out hg6 (by have := HCB.out; omega))
            have HN6 := Lib.hid ((hg6.block _ (blk_lt HN5.out) (fun e => by have := Option.some.inj e; have := HCB.out; omega)).trans HN5.out)
            have hsp := spaces_any cb (rest.drop 1) w6 hc6
            rw [HCR.out] at hsp
            clear hg6 hc6 htk HB5 HN5 HC5
            go_wp2_with fail
            refine (must_ok _ _).mono ?_
            rintro e w9 ⟨rfl, rfl⟩
            go_wp2_with fail
            refine hsp.mono ?_
            rintro e w7 ⟨rfl, hg7, s7, hs7, hk7⟩
            have HB7 := Lib.hid (grown_base HB6.out hg7 (by have := HCB.out; omega))
            have HN7 := Lib.hid ((hg7.block _ (blk_lt HN6.out) (fun e => by have := Option.some.inj e; have := HCB.out; omega)).trans HN6.out)
            have HC7 := Lib.hid (show ScAt cb (c :: r) w7 from ⟨s7, hs7, hk7⟩)
            have hcb7 := blk_lt hk7
            have HS7 := Lib.hid hs7
            have e7 := blk_cell hk7 0
            have h0s : 0 < s7.size := by rw [size_of hs7]; simp
            have hx0 := at_zero hs7 h0s
            clear hg7 HB6 HN6 hsp hk7 hs7
            go_wp2_with fail
            obtain ⟨w8, hw8⟩ : ∃ w8, w8 = w7.alloc (.cells #[.int .u8 2, .string ⟨#[]⟩, .slice none 0 0, .slice none 0 0] 32) := ⟨_, rfl⟩
            rw [← hw8]
            have hb8 : Below w7.heap.size w7 w8 := by rw [hw8]; exact below_alloc (Below.refl _ _) _
            have HM8 := Lib.hid (show w8.heap[w7.heap.size]? = some (.cells #[.int .u8 2, .string ⟨#[]⟩, .slice none 0 0, .slice none 0 0] 32 (0, 0)) from by rw [hw8]; exact heap_alloc_new w7 _)
            have HB8 := Lib.hid (HB7.out.trans (hb8.mono HB7.out.size))
            have HN8 := Lib.hid ((hb8.block _ (blk_lt HN7.out)).trans HN7.out)
            have HC8 := Lib.hid (HC7.out.below hb8)
            have HMB := Lib.hid (show cb < w7.heap.size ∧ w7.heap.size < w8.heap.size from ⟨hcb7, blk_lt HM8.out⟩)
            generalize w7.heap.size = mb at *
            clear hw8 hb8 HB7 HN7 HC7 e7 h0s hx0 hcb7
            have hqq := list_any cb (c :: r) w8 (HM.out.below HB8.out) (by have := HCB.out; have := HLOW.out; omega) HC8.out HRL.out
            rw [hq] at hqq
            clear hq
            refine hqq.mono ?_
            rintro e w9 ⟨hg9, rfl⟩
            unfold pf
            go_wp2_with fail
            exact ⟨rfl, grown_base HB8.out hg9 (by have := HCB.out; omega), rfl⟩
          | ok z =>
            obtain ⟨t, l'⟩ := z
            dsimp only
            cases hov2 : overL l'
            case false =>
              rw [if_neg (by decide)]
              go_enter Tryz.func46, Tryz.ntmps46
              go_wp2_with fail
              rw [← HW1.out]
              refine hcut.mono ?_
              rintro e w2 ⟨rfl, hb2⟩
              have HB2 := Lib.hid (HB1.out.trans (hb2.mono HB1.out.size))
              have HN2 := Lib.hid ((hb2.block _ (blk_lt HN1.out)).trans HN1.out)
              clear hb2 hcut HN1 HB1
              go_wp2_with fail
              refine (hky _).mono ?_
              rintro e w3 ⟨rfl, hb3⟩
              have HB3 := Lib.hid (HB2.out.trans (hb3.mono HB2.out.size))
              have HN3 := Lib.hid ((hb3.block _ (blk_lt HN2.out)).trans HN2.out)
              clear hb3 hky HN2 HB2
              go_wp2_with fail
              refine (must_ok _ _).mono ?_
              rintro e w9 ⟨rfl, rfl⟩
              go_wp2_with fail
              obtain ⟨w4, hw4⟩ : ∃ w4, w4 = w3.alloc (.cells #[.string (bsOf rest)] 126) := ⟨_, rfl⟩
              rw [← hw4]
              have hb4 : Below w3.heap.size w3 w4 := by rw [hw4]; exact below_alloc (Below.refl _ _) _
              have HC4 := Lib.hid (show ScAt w3.heap.size rest w4 from ⟨bsOf rest, rfl, by rw [hw4]; exact heap_alloc_new w3 _⟩)
              have HB4 := Lib.hid (HB3.out.trans (hb4.mono HB3.out.size))
              have HN4 := Lib.hid ((hb4.block _ (blk_lt HN3.out)).trans HN3.out)
              have HCB := Lib.hid (show w.heap.size < w3.heap.size ∧ w3.heap.size < w4.heap.size from ⟨blk_lt HN3.out, HC4.out.lt⟩)
              have ho := over_any w3.heap.size rest w4 HC4.out
              rw [HOV.out] at ho
              generalize w3.heap.size = cb at *
              clear hw4 hb4 HN3 HB3 HC4
              refine ho.mono ?_
              rintro e w5 ⟨rfl, hg5, hc5⟩
              have HB5 := Lib.hid (grown_base HB4.out hg5 (by have := HCB.out; omega))
              have HN5 := Lib.hid ((hg5.block _ (blk_lt HN4.out) (fun e => by have := Option.some.inj e; have := HCB.out; omega)).trans HN4.out)
              have HC5 := Lib.hid hc5
              clear hg5 hc5 HN4 HB4 ho
              go_wp2_with fail
              have htk := take1 cb 32 rest w5 HC5.out
              rw [hp] at htk
              simp only [if_true] at htk
              clear hp
              refine htk.mono ?_
              rintro e w6 ⟨rfl, hg6, hc6⟩
              have HB6 := Lib.hid (grown_base HB5.out hg6 (by have := HCB.out; omega))
              have HN6 := Lib.hid ((hg6.block _ (blk_lt HN5.out) (fun e => by have := Option.some.inj e; have := HCB.out; omega)).trans HN5.out)
              have hsp := spaces_any cb (rest.drop 1) w6 hc6
              rw [HCR.out] at hsp
              clear hg6 hc6 htk HB5 HN5 HC5
              go_wp2_with fail
              refine (must_ok _ _).mono ?_
              rintro e w9 ⟨rfl, rfl⟩
              go_wp2_with fail
              refine hsp.mono ?_
              rintro e w7 ⟨rfl, hg7, s7, hs7, hk7⟩
              have HB7 := Lib.hid (grown_base HB6.out hg7 (by have := HCB.out; omega))
              have HN7 := Lib.hid ((hg7.block _ (blk_lt HN6.out) (fun e => by have := Option.some.inj e; have := HCB.out; omega)).trans HN6.out)
              have HC7 := Lib.hid (show ScAt cb (c :: r) w7 from ⟨s7, hs7, hk7⟩)
              have hcb7 := blk_lt hk7
              have HS7 := Lib.hid hs7
              have e7 := blk_cell hk7 0
              have h0s : 0 < s7.size := by rw [size_of hs7]; simp
              have hx0 := at_zero hs7 h0s
              clear hg7 HB6 HN6 hsp hk7 hs7
              go_wp2_with fail
              obtain ⟨w8, hw8⟩ : ∃ w8, w8 = w7.alloc (.cells #[.int .u8 2, .string ⟨#[]⟩, .slice none 0 0, .slice none 0 0] 32) := ⟨_, rfl⟩
              rw [← hw8]
              have hb8 : Below w7.heap.size w7 w8 := by rw [hw8]; exact below_alloc (Below.refl _ _) _
              have HM8 := Lib.hid (show w8.heap[w7.heap.size]? = some (.cells #[.int .u8 2, .string ⟨#[]⟩, .slice none 0 0, .slice none 0 0] 32 (0, 0)) from by rw [hw8]; exact heap_alloc_new w7 _)
              have HB8 := Lib.hid (HB7.out.trans (hb8.mono HB7.out.size))
              have HN8 := Lib.hid ((hb8.block _ (blk_lt HN7.out)).trans HN7.out)
              have HC8 := Lib.hid (HC7.out.below hb8)
              have HMB := Lib.hid (show cb < w7.heap.size ∧ w7.heap.size < w8.heap.size from ⟨hcb7, blk_lt HM8.out⟩)
              generalize w7.heap.size = mb at *
              clear hw8 hb8 HB7 HN7 HC7 e7 h0s hx0 hcb7
              have hqq := list_any cb (c :: r) w8 (HM.out.below HB8.out) (by have := HCB.out; have := HLOW.out; omega) HC8.out HRL.out
              rw [hq] at hqq
              clear hq
              refine hqq.mono ?_
              rintro e w9 ⟨hg9, ⟨vl, rfl, hv9⟩, hc9⟩
              obtain ⟨A, c6, rfl⟩ := Kd.R_slice hv9
              have HV9 := Lib.hid (listV_lower hv9 HB8.out.size)
              obtain ⟨c5, hc5⟩ : ∃ c5, (t.map bsOf).length = c5 := ⟨_, rfl⟩
              rw [hc5] at HV9 ⊢
              have HB9 := Lib.hid (grown_base HB8.out hg9 (by have := HCB.out; omega))
              have HN9 := Lib.hid ((hg9.block _ (blk_lt HN8.out) (fun e => by have := Option.some.inj e; have := HCB.out; omega)).trans HN8.out)
              have HM9 := Lib.hid ((hg9.block _ (blk_lt HM8.out) (fun e => by have := Option.some.inj e; have := HMB.out; omega)).trans HM8.out)
              have HC9 := Lib.hid hc9
              have m2 := blk_cell HM9.out 2
              have mf2 := blk_frozen HM9.out 2
              clear hg9 hc9 HB8 HN8 HM8 HC8 hv9 hc5
              go_wp2_with fail
              obtain ⟨w10, hw10⟩ : ∃ w10, w10 = w9.setCell ⟨mb, 2, none⟩ (.slice A c5 c6) := ⟨_, rfl⟩
              rw [← hw10]
              have HM10 := Lib.hid (show w10.heap[mb]? = some (.cells #[.int .u8 2, .string ⟨#[]⟩, .slice A c5 c6, .slice none 0 0] 32 (0, 0)) from by rw [hw10]; exact blk_set HM9.out 2 _)
              have HN10 := Lib.hid (show w10.heap[w.heap.size]? = some (.cells #[.int .u8 0, .string ⟨#[]⟩, .slice none 0 0, .slice none 0 0] 32 (0, 0)) from by rw [hw10]; exact blk_far (p := ⟨mb, 2, none⟩) HN9.out (by have := HMB.out; have := HCB.out; simp <;> omega) _)
              have HC10 := Lib.hid (show ScAt cb l' w10 from HC9.out.move (by rw [hw10]; exact Below.heap_setCell _ _ _ _ (by have := HMB.out; simp <;> omega)))
              have HB10 := Lib.hid (show Below w.heap.size w w10 from by rw [hw10]; exact HB9.out.setCell (p := ⟨mb, 2, none⟩) (by have := HMB.out; have := HCB.out; simp <;> omega) _)
              have HV10 := Lib.hid (show listV w.heap.size t w10 (.slice A c5 c6) from by rw [hw10]; exact listV_set HV9.out HM9.out _ _)
              clear hw10 HM9 HN9 HC9 HB9 HV9 m2 mf2
              have hov := over_any cb l' w10 HC10.out
              rw [hov2] at hov
              clear hov2
              refine hov.mono ?_
              rintro e w11 ⟨rfl, hg11, hc11⟩
              have HB11 := Lib.hid (grown_base HB10.out hg11 (by have := HCB.out; omega))
              have HN11 := Lib.hid ((hg11.block _ (blk_lt HN10.out) (fun e => by have := Option.some.inj e; have := HCB.out; omega)).trans HN10.out)
              have HM11 := Lib.hid ((hg11.block _ (blk_lt HM10.out) (fun e => by have := Option.some.inj e; have := HMB.out; omega)).trans HM10.out)
              have HV11 := Lib.hid (listV_grown HV10.out hg11 HC10.out)
              clear hg11 hc11 HB10 HN10 HM10 HC10 hov HV10
              go_wp2_with fail
              refine (must_no _ _).mono ?_
              rintro e w9 ⟨rfl, rfl⟩
              unfold pf
              go_wp2_with fail
              exact ⟨rfl, HB11.out, rfl⟩
            case true =>
              rw [if_pos rfl]
              go_enter Tryz.func46, Tryz.ntmps46
              go_wp2_with fail
              rw [← HW1.out]
              refine hcut.mono ?_
              rintro e w2 ⟨rfl, hb2⟩
              have HB2 := Lib.hid (HB1.out.trans (hb2.mono HB1.out.size))
              have HN2 := Lib.hid ((hb2.block _ (blk_lt HN1.out)).trans HN1.out)
              clear hb2 hcut HN1 HB1
              go_wp2_with fail
              refine (hky _).mono ?_
              rintro e w3 ⟨rfl, hb3⟩
              have HB3 := Lib.hid (HB2.out.trans (hb3.mono HB2.out.size))
              have HN3 := Lib.hid ((hb3.block _ (blk_lt HN2.out)).trans HN2.out)
              clear hb3 hky HN2 HB2
              go_wp2_with fail
              refine (must_ok _ _).mono ?_
              rintro e w9 ⟨rfl, rfl⟩
              go_wp2_with fail
              obtain ⟨w4, hw4⟩ : ∃ w4, w4 = w3.alloc (.cells #[.string (bsOf rest)] 126) := ⟨_, rfl⟩
              rw [← hw4]
              have hb4 : Below w3.heap.size w3 w4 := by rw [hw4]; exact below_alloc (Below.refl _ _) _
              have HC4 := Lib.hid (show ScAt w3.heap.size rest w4 from ⟨bsOf rest, rfl, by rw [hw4]; exact heap_alloc_new w3 _⟩)
              have HB4 := Lib.hid (HB3.out.trans (hb4.mono HB3.out.size))
              have HN4 := Lib.hid ((hb4.block _ (blk_lt HN3.out)).trans HN3.out)
              have HCB := Lib.hid (show w.heap.size < w3.heap.size ∧ w3.heap.size < w4.heap.size from ⟨blk_lt HN3.out, HC4.out.lt⟩)
              have ho := over_any w3.heap.size rest w4 HC4.out
              rw [HOV.out] at ho
              generalize w3.heap.size = cb at *
              clear hw4 hb4 HN3 HB3 HC4
              refine ho.mono ?_
              rintro e w5 ⟨rfl, hg5, hc5⟩
              have HB5 := Lib.hid (grown_base HB4.out hg5 (by have := HCB.out; omega))
              have HN5 := Lib.hid ((hg5.block _ (blk_lt HN4.out) (fun e => by have := Option.some.inj e; have := HCB.out; omega)).trans HN4.out)
              have HC5 := Lib.hid hc5
              clear hg5 hc5 HN4 HB4 ho
              go_wp2_with fail
              have htk := take1 cb 32 rest w5 HC5.out
              rw [hp] at htk
              simp only [if_true] at htk
              clear hp
              refine htk.mono ?_
              rintro e w6 ⟨rfl, hg6, hc6⟩
              have HB6 := Lib.hid (grown_base HB5.out hg6 (by have := HCB.out; omega))
              have HN6 := Lib.hid ((hg6.block _ (blk_lt HN5.out) (fun e => by have := Option.some.inj e; have := HCB.out; omega)).trans HN5.out)
              have hsp := spaces_any cb (rest.drop 1) w6 hc6
              rw [HCR.out] at hsp
              clear hg6 hc6 htk HB5 HN5 HC5
              go_wp2_with fail
              refine (must_ok _ _).mono ?_
              rintro e w9 ⟨rfl, rfl⟩
              go_wp2_with fail
              refine hsp.mono ?_
              rintro e w7 ⟨rfl, hg7, s7, hs7, hk7⟩
              have HB7 := Lib.hid (grown_base HB6.out hg7 (by have := HCB.out; omega))
              have HN7 := Lib.hid ((hg7.block _ (blk_lt HN6.out) (fun e => by have := Option.some.inj e; have := HCB.out; omega)).trans HN6.out)
              have HC7 := Lib.hid (show ScAt cb (c :: r) w7 from ⟨s7, hs7, hk7⟩)
              have hcb7 := blk_lt hk7
              have HS7 := Lib.hid hs7
              have e7 := blk_cell hk7 0
              have h0s : 0 < s7.size := by rw [size_of hs7]; simp
              have hx0 := at_zero hs7 h0s
              clear hg7 HB6 HN6 hsp hk7 hs7
              go_wp2_with fail
              obtain ⟨w8, hw8⟩ : ∃ w8, w8 = w7.alloc (.cells #[.int .u8 2, .string ⟨#[]⟩, .slice none 0 0, .slice none 0 0] 32) := ⟨_, rfl⟩
              rw [← hw8]
              have hb8 : Below w7.heap.size w7 w8 := by rw [hw8]; exact below_alloc (Below.refl _ _) _
              have HM8 := Lib.hid (show w8.heap[w7.heap.size]? = some (.cells #[.int .u8 2, .string ⟨#[]⟩, .slice none 0 0, .slice none 0 0] 32 (0, 0)) from by rw [hw8]; exact heap_alloc_new w7 _)
              have HB8 := Lib.hid (HB7.out.trans (hb8.mono HB7.out.size))
              have HN8 := Lib.hid ((hb8.block _ (blk_lt HN7.out)).trans HN7.out)
              have HC8 := Lib.hid (HC7.out.below hb8)
              have HMB := Lib.hid (show cb < w7.heap.size ∧ w7.heap.size < w8.heap.size from ⟨hcb7, blk_lt HM8.out⟩)
              generalize w7.heap.size = mb at *
              clear hw8 hb8 HB7 HN7 HC7 e7 h0s hx0 hcb7
              have hqq := list_any cb (c :: r) w8 (HM.out.below HB8.out) (by have := HCB.out; have := HLOW.out; omega) HC8.out HRL.out
              rw [hq] at hqq
              clear hq
              refine hqq.mono ?_
              rintro e w9 ⟨hg9, ⟨vl, rfl, hv9⟩, hc9⟩
              obtain ⟨A, c6, rfl⟩ := Kd.R_slice hv9
              have HV9 := Lib.hid (listV_lower hv9 HB8.out.size)
              obtain ⟨c5, hc5⟩ : ∃ c5, (t.map bsOf).length = c5 := ⟨_, rfl⟩
              rw [hc5] at HV9 ⊢
              have HB9 := Lib.hid (grown_base HB8.out hg9 (by have := HCB.out; omega))
              have HN9 := Lib.hid ((hg9.block _ (blk_lt HN8.out) (fun e => by have := Option.some.inj e; have := HCB.out; omega)).trans HN8.out)
              have HM9 := Lib.hid ((hg9.block _ (blk_lt HM8.out) (fun e => by have := Option.some.inj e; have := HMB.out; omega)).trans HM8.out)
              have HC9 := Lib.hid hc9
              have m2 := blk_cell HM9.out 2
              have mf2 := blk_frozen HM9.out 2
              clear hg9 hc9 HB8 HN8 HM8 HC8 hv9 hc5
              go_wp2_with fail
              obtain ⟨w10, hw10⟩ : ∃ w10, w10 = w9.setCell ⟨mb, 2, none⟩ (.slice A c5 c6) := ⟨_, rfl⟩
              rw [← hw10]
              have HM10 := Lib.hid (show w10.heap[mb]? = some (.cells #[.int .u8 2, .string ⟨#[]⟩, .slice A c5 c6, .slice none 0 0] 32 (0, 0)) from by rw [hw10]; exact blk_set HM9.out 2 _)
              have HN10 := Lib.hid (show w10.heap[w.heap.size]? = some (.cells #[.int .u8 0, .string ⟨#[]⟩, .slice none 0 0, .slice none 0 0] 32 (0, 0)) from by rw [hw10]; exact blk_far (p := ⟨mb, 2, none⟩) HN9.out (by have := HMB.out; have := HCB.out; simp <;> omega) _)
              have HC10 := Lib.hid (show ScAt cb l' w10 from HC9.out.move (by rw [hw10]; exact Below.heap_setCell _ _ _ _ (by have := HMB.out; simp <;> omega)))
              have HB10 := Lib.hid (show Below w.heap.size w w10 from by rw [hw10]; exact HB9.out.setCell (p := ⟨mb, 2, none⟩) (by have := HMB.out; have := HCB.out; simp <;> omega) _)
              have HV10 := Lib.hid (show listV w.heap.size t w10 (.slice A c5 c6) from by rw [hw10]; exact listV_set HV9.out HM9.out _ _)
              clear hw10 HM9 HN9 HC9 HB9 HV9 m2 mf2
              have hov := over_any cb l' w10 HC10.out
              rw [hov2] at hov
              clear hov2
              refine hov.mono ?_
              rintro e w11 ⟨rfl, hg11, hc11⟩
              have HB11 := Lib.hid (grown_base HB10.out hg11 (by have := HCB.out; omega))
              have HN11 := Lib.hid ((hg11.block _ (blk_lt HN10.out) (fun e => by have := Option.some.inj e; have := HCB.out; omega)).trans HN10.out)
              have HM11 := Lib.hid ((hg11.block _ (blk_lt HM10.out) (fun e => by have := Option.some.inj e; have := HMB.out; omega)).trans HM10.out)
              have HV11 := Lib.hid (listV_grown HV10.out hg11 HC10.out)
              clear hg11 hc11 HB10 HN10 HM10 HC10 hov HV10
              go_wp2_with fail
              refine (must_ok _ _).mono ?_
              rintro e w9 ⟨rfl, rfl⟩
              have n0 := blk_cell HN11.out 0
              have n1 := blk_cell HN11.out 1
              have n2 := blk_cell HN11.out 2
              have n3 := blk_cell HN11.out 3
              have f0 := blk_frozen HN11.out 0
              have f1 := blk_frozen HN11.out 1
              have f2 := blk_frozen HN11.out 2
              have f3 := blk_frozen HN11.out 3
              have m0 := blk_cell HM11.out 0
              have m1 := blk_cell HM11.out 1
              have m2 := blk_cell HM11.out 2
              have m3 := blk_cell HM11.out 3
              go_wp2_with fail
              have HF := Lib.hid (put4 (.int .u8 2) (.string (⟨#[]⟩)) (.slice A c5 c6) (.slice none 0 0) HN11.out)
              have HBF := Lib.hid (below_put4 (.int .u8 2) (.string (⟨#[]⟩)) (.slice A c5 c6) (.slice none 0 0) HB11.out (Nat.le_refl w.heap.size))
              have HL12 := Lib.hid (show listV w.heap.size t (((((w11.setCell ⟨w.heap.size, 0, none⟩ (.int .u8 2)).setCell ⟨w.heap.size, 1, none⟩ (.string (⟨#[]⟩))).setCell ⟨w.heap.size, 2, none⟩ (.slice A c5 c6)).setCell ⟨w.heap.size, 3, none⟩ (.slice none 0 0)).drew) (.slice A c5 c6) from listV_put4 HV11.out HN11.out _ _ _ _)
              go_region
              go_wp2_with fail
              generalize ((((w11.setCell ⟨w.heap.size, 0, none⟩ (.int .u8 2)).setCell ⟨w.heap.size, 1, none⟩ (.string (⟨#[]⟩))).setCell ⟨w.heap.size, 2, none⟩ (.slice A c5 c6)).setCell ⟨w.heap.size, 3, none⟩ (.slice none 0 0)) = WF at *
              clear n0 n1 n2 n3 f0 f1 f2 f3 m0 m1 m2 m3
              have c0 := blk_cell HF.out 0
              have c1 := blk_cell HF.out 1
              have c2 := blk_cell HF.out 2
              have c3 := blk_cell HF.out 3
              simp at c0 c1 c2 c3
              refine bodyPost_ret (v := .tuple #[.string (bsOf k), .agg #[.int .u8 2, .string (⟨#[]⟩), .slice A c5 c6, .slice none 0 0], .bool true]) (by simp [results, Tryz.results46, go_sem, c0, c1, c2, c3]) rfl ?_
              exact ⟨below_drew HBF.out, _, rfl, .slice A c5 c6, rfl, HL12.out⟩
        case neg =>
          have hb91 : ¬ (c == 91) = true := by rw [beq_iff_eq]; rintro rfl; exact h91 rfl
          have hi91 : ((c.toNat : Int) == 91) = false := by rw [beq_eq_false_iff_ne]; omega
          rw [if_neg hb91]
          clear hb91 h91 h34
          unfold readP
          have htl := cut_len (c :: r) [32, 35]
          have hcut2 : ∀ (s7 : ByteArray) (W : World), s7.data.toList = c :: r → Mx W → Calls Tryz.prog 44 #[.string s7, .string ⟨#[32, 35]⟩] W fun e w' => e = .returned (.tuple #[.string (bsOf (Lib.cut (c :: r) [32, 35]).1), .string (bsOf (Lib.cut (c :: r) [32, 35]).2.1), .bool (Lib.cut (c :: r) [32, 35]).2.2]) ∧ Below W.heap.size W w' := fun s7 W h hm => by
            have := cut_any s7 ⟨#[32, 35]⟩ W hm (by rw [size_of h]; exact HRL.out)
            rw [h] at this
            exact this
          have htz : (bsOf (Lib.cut (c :: r) [32, 35]).1).size ≤ 1073741824 := Nat.le_trans htl.1 HRL.out
          generalize (Lib.cut (c :: r) [32, 35]).1 = t0 at *
          generalize (Lib.cut (c :: r) [32, 35]).2.1 = t1 at *
          generalize (Lib.cut (c :: r) [32, 35]).2.2 = t2 at *
          have htr : ∀ W, Calls Tryz.prog 81 #[.string (bsOf t0), .string ⟨#[32]⟩] W fun e w' => e = .returned (.string (bsOf (Lib.trimRightB t0 32))) ∧ w' = W := fun W => Tryz.strings_TrimRight_one (bsOf t0) 32 (by decide) W (Nat.le_trans htz (by decide))
          have HTZ := Lib.hid (show (bsOf (Lib.trimRightB t0 32)).size ≤ 1073741824 from Nat.le_trans (by show (Lib.trimRightB t0 32).length ≤ t0.length; unfold Lib.trimRightB; rw [List.length_reverse]; exact Nat.le_trans (List.dropWhile_suffix _).length_le (by simp)) htz)
          generalize Lib.trimRightB t0 32 = t at *
          clear htl htz
          cases hpl : plainL t
          case false =>
            rw [if_neg (by decide)]
            dsimp only
            go_enter Tryz.func46, Tryz.ntmps46
            go_wp2_with fail
            rw [← HW1.out]
            refine hcut.mono ?_
            rintro e w2 ⟨rfl, hb2⟩
            have HB2 := Lib.hid (HB1.out.trans (hb2.mono HB1.out.size))
            have HN2 := Lib.hid ((hb2.block _ (blk_lt HN1.out)).trans HN1.out)
            clear hb2 hcut HN1 HB1
            go_wp2_with fail
            refine (hky _).mono ?_
            rintro e w3 ⟨rfl, hb3⟩
            have HB3 := Lib.hid (HB2.out.trans (hb3.mono HB2.out.size))
            have HN3 := Lib.hid ((hb3.block _ (blk_lt HN2.out)).trans HN2.out)
            clear hb3 hky HN2 HB2
            go_wp2_with fail
            refine (must_ok _ _).mono ?_
            rintro e w9 ⟨rfl, rfl⟩
            go_wp2_with fail
            obtain ⟨w4, hw4⟩ : ∃ w4, w4 = w3.alloc (.cells #[.string (bsOf rest)] 126) := ⟨_, rfl⟩
            rw [← hw4]
            have hb4 : Below w3.heap.size w3 w4 := by rw [hw4]; exact below_alloc (Below.refl _ _) _
            have HC4 := Lib.hid (show ScAt w3.heap.size rest w4 from ⟨bsOf rest, rfl, by rw [hw4]; exact heap_alloc_new w3 _⟩)
            have HB4 := Lib.hid (HB3.out.trans (hb4.mono HB3.out.size))
            have HN4 := Lib.hid ((hb4.block _ (blk_lt HN3.out)).trans HN3.out)
            have HCB := Lib.hid (show w.heap.size < w3.heap.size ∧ w3.heap.size < w4.heap.size from ⟨blk_lt HN3.out, HC4.out.lt⟩)
            have ho := over_any w3.heap.size rest w4 HC4.out
            rw [HOV.out] at ho
            generalize w3.heap.size = cb at *
            clear hw4 hb4 HN3 HB3 HC4
            refine ho.mono ?_
            rintro e w5 ⟨rfl, hg5, hc5⟩
            have HB5 := Lib.hid (grown_base HB4.out hg5 (by have := HCB.out; omega))
            have HN5 := Lib.hid ((hg5.block _ (blk_lt HN4.out) (fun e => by have := Option.some.inj e; have := HCB.out; omega)).trans HN4.out)
            have HC5 := Lib.hid hc5
            clear hg5 hc5 HN4 HB4 ho
            go_wp2_with fail
            have htk := take1 cb 32 rest w5 HC5.out
            rw [hp] at htk
            simp only [if_true] at htk
            clear hp
            refine htk.mono ?_
            rintro e w6 ⟨rfl, hg6, hc6⟩
            have HB6 := Lib.hid (grown_base HB5.out hg6 (by have := HCB.out; omega))
            have HN6 := Lib.hid ((hg6.block _ (blk_lt HN5.out) (fun e => by have := Option.some.inj e; have := HCB.out; omega)).trans HN5.out)
            have hsp := spaces_any cb (rest.drop 1) w6 hc6
            rw [HCR.out] at hsp
            clear hg6 hc6 htk HB5 HN5 HC5
            go_wp2_with fail
            refine (must_ok _ _).mono ?_
            rintro e w9 ⟨rfl, rfl⟩
            go_wp2_with fail
            refine hsp.mono ?_
            rintro e w7 ⟨rfl, hg7, s7, hs7, hk7⟩
            have HB7 := Lib.hid (grown_base HB6.out hg7 (by have := HCB.out; omega))
            have HN7 := Lib.hid ((hg7.block _ (blk_lt HN6.out) (fun e => by have := Option.some.inj e; have := HCB.out; omega)).trans HN6.out)
            have HC7 := Lib.hid (show ScAt cb (c :: r) w7 from ⟨s7, hs7, hk7⟩)
            have hcb7 := blk_lt hk7
            have HS7 := Lib.hid hs7
            have e7 := blk_cell hk7 0
            have h0s : 0 < s7.size := by rw [size_of hs7]; simp
            have hx0 := at_zero hs7 h0s
            clear hg7 HB6 HN6 hsp hk7 hs7
            go_wp2_with fail
            obtain ⟨w8, hw8⟩ : ∃ w8, w8 = w7.alloc (.cells #[.int .u8 1, .string ⟨#[]⟩, .slice none 0 0, .slice none 0 0] 32) := ⟨_, rfl⟩
            rw [← hw8]
            have hb8 : Below w7.heap.size w7 w8 := by rw [hw8]; exact below_alloc (Below.refl _ _) _
            have HM8 := Lib.hid (show w8.heap[w7.heap.size]? = some (.cells #[.int .u8 1, .string ⟨#[]⟩, .slice none 0 0, .slice none 0 0] 32 (0, 0)) from by rw [hw8]; exact heap_alloc_new w7 _)
            have HB8 := Lib.hid (HB7.out.trans (hb8.mono HB7.out.size))
            have HN8 := Lib.hid ((hb8.block _ (blk_lt HN7.out)).trans HN7.out)
            have HC8 := Lib.hid (HC7.out.below hb8)
            have HMB := Lib.hid (show cb < w7.heap.size ∧ w7.heap.size < w8.heap.size from ⟨hcb7, blk_lt HM8.out⟩)
            generalize w7.heap.size = mb at *
            clear hw8 hb8 HB7 HN7 HC7 e7 h0s hx0 hcb7
            have hcut := hcut2 s7 w8 HS7.out (HM.out.below HB8.out)
            have HPL := Lib.hid hpl
            clear hpl
            refine hcut.mono ?_
            rintro e w9 ⟨rfl, hb9⟩
            have HB9 := Lib.hid (HB8.out.trans (hb9.mono HB8.out.size))
            have HN9 := Lib.hid ((hb9.block _ (blk_lt HN8.out)).trans HN8.out)
            have HM9 := Lib.hid ((hb9.block _ (blk_lt HM8.out)).trans HM8.out)
            have m1 := blk_cell HM9.out 1
            have mf1 := blk_frozen HM9.out 1
            clear hb9 HB8 HN8 HM8 HC8 hcut hcut2
            go_wp2_with fail
            refine (htr _).mono ?_
            rintro e w10 ⟨rfl, rfl⟩
            go_wp2_with fail
            obtain ⟨wx, hwx⟩ : ∃ wx, wx = w9.setCell ⟨mb, 1, none⟩ (.string (bsOf t0)) := ⟨_, rfl⟩
            obtain ⟨w12, hw12⟩ : ∃ w12, w12 = wx.setCell ⟨mb, 1, none⟩ (.string (bsOf t)) := ⟨_, rfl⟩
            rw [← hwx, ← hw12]
            have HMX : wx.heap[mb]? = some (.cells #[.int .u8 1, .string (bsOf t0), .slice none 0 0, .slice none 0 0] 32 (0, 0)) := by rw [hwx]; exact blk_set HM9.out 1 _
            have HNX : wx.heap[w.heap.size]? = some (.cells #[.int .u8 0, .string ⟨#[]⟩, .slice none 0 0, .slice none 0 0] 32 (0, 0)) := by rw [hwx]; exact blk_far (p := ⟨mb, 1, none⟩) HN9.out (by have := HMB.out; have := HCB.out; simp <;> omega) _
            have HBX : Below w.heap.size w wx := by rw [hwx]; exact HB9.out.setCell (p := ⟨mb, 1, none⟩) (by have := HMB.out; have := HCB.out; simp <;> omega) _
            have HM12 := Lib.hid (show w12.heap[mb]? = some (.cells #[.int .u8 1, .string (bsOf t), .slice none 0 0, .slice none 0 0] 32 (0, 0)) from by rw [hw12]; exact blk_set HMX 1 _)
            have HN12 := Lib.hid (show w12.heap[w.heap.size]? = some (.cells #[.int .u8 0, .string ⟨#[]⟩, .slice none 0 0, .slice none 0 0] 32 (0, 0)) from by rw [hw12]; exact blk_far (p := ⟨mb, 1, none⟩) HNX (by have := HMB.out; have := HCB.out; simp <;> omega) _)
            have HB12 := Lib.hid (show Below w.heap.size w w12 from by rw [hw12]; exact HBX.setCell (p := ⟨mb, 1, none⟩) (by have := HMB.out; have := HCB.out; simp <;> omega) _)
            clear hwx HMX HNX HBX
            clear hw12 HM9 HN9 HB9 m1 mf1 htr
            have hpla := plain_any (bsOf t) w12 (HM.out.below HB12.out) HTZ.out
            rw [show (bsOf t).data.toList = t from rfl, HPL.out] at hpla
            refine hpla.mono ?_
            rintro e w11 ⟨rfl, rfl⟩
            clear hpla
            go_wp2_with fail
            refine (must_no _ _).mono ?_
            rintro e w9 ⟨rfl, rfl⟩
            unfold pf
            go_wp2_with fail
            exact ⟨rfl, HB12.out, rfl⟩
          case true =>
            rw [if_pos rfl]
            dsimp only
            go_enter Tryz.func46, Tryz.ntmps46
            go_wp2_with fail
            rw [← HW1.out]
            refine hcut.mono ?_
            rintro e w2 ⟨rfl, hb2⟩
            have HB2 := Lib.hid (HB1.out.trans (hb2.mono HB1.out.size))
            have HN2 := Lib.hid ((hb2.block _ (blk_lt HN1.out)).trans HN1.out)
            clear hb2 hcut HN1 HB1
            go_wp2_with fail
            refine (hky _).mono ?_
            rintro e w3 ⟨rfl, hb3⟩
            have HB3 := Lib.hid (HB2.out.trans (hb3.mono HB2.out.size))
            have HN3 := Lib.hid ((hb3.block _ (blk_lt HN2.out)).trans HN2.out)
            clear hb3 hky HN2 HB2
            go_wp2_with fail
            refine (must_ok _ _).mono ?_
            rintro e w9 ⟨rfl, rfl⟩
            go_wp2_with fail
            obtain ⟨w4, hw4⟩ : ∃ w4, w4 = w3.alloc (.cells #[.string (bsOf rest)] 126) := ⟨_, rfl⟩
            rw [← hw4]
            have hb4 : Below w3.heap.size w3 w4 := by rw [hw4]; exact below_alloc (Below.refl _ _) _
            have HC4 := Lib.hid (show ScAt w3.heap.size rest w4 from ⟨bsOf rest, rfl, by rw [hw4]; exact heap_alloc_new w3 _⟩)
            have HB4 := Lib.hid (HB3.out.trans (hb4.mono HB3.out.size))
            have HN4 := Lib.hid ((hb4.block _ (blk_lt HN3.out)).trans HN3.out)
            have HCB := Lib.hid (show w.heap.size < w3.heap.size ∧ w3.heap.size < w4.heap.size from ⟨blk_lt HN3.out, HC4.out.lt⟩)
            have ho := over_any w3.heap.size rest w4 HC4.out
            rw [HOV.out] at ho
            generalize w3.heap.size = cb at *
            clear hw4 hb4 HN3 HB3 HC4
            refine ho.mono ?_
            rintro e w5 ⟨rfl, hg5, hc5⟩
            have HB5 := Lib.hid (grown_base HB4.out hg5 (by have := HCB.out; omega))
            have HN5 := Lib.hid ((hg5.block _ (blk_lt HN4.out) (fun e => by have := Option.some.inj e; have := HCB.out; omega)).trans HN4.out)
            have HC5 := Lib.hid hc5
            clear hg5 hc5 HN4 HB4 ho
            go_wp2_with fail
            have htk := take1 cb 32 rest w5 HC5.out
            rw [hp] at htk
            simp only [if_true] at htk
            clear hp
            refine htk.mono ?_
            rintro e w6 ⟨rfl, hg6, hc6⟩
            have HB6 := Lib.hid (grown_base HB5.out hg6 (by have := HCB.out; omega))
            have HN6 := Lib.hid ((hg6.block _ (blk_lt HN5.out) (fun e => by have := Option.some.inj e; have := HCB.out; omega)).trans HN5.out)
            have hsp := spaces_any cb (rest.drop 1) w6 hc6
            rw [HCR.out] at hsp
            clear hg6 hc6 htk HB5 HN5 HC5
            go_wp2_with fail
            refine (must_ok _ _).mono ?_
            rintro e w9 ⟨rfl, rfl⟩
            go_wp2_with fail
            refine hsp.mono ?_
            rintro e w7 ⟨rfl, hg7, s7, hs7, hk7⟩
            have HB7 := Lib.hid (grown_base HB6.out hg7 (by have := HCB.out; omega))
            have HN7 := Lib.hid ((hg7.block _ (blk_lt HN6.out) (fun e => by have := Option.some.inj e; have := HCB.out; omega)).trans HN6.out)
            have HC7 := Lib.hid (show ScAt cb (c :: r) w7 from ⟨s7, hs7, hk7⟩)
            have hcb7 := blk_lt hk7
            have HS7 := Lib.hid hs7
            have e7 := blk_cell hk7 0
            have h0s : 0 < s7.size := by rw [size_of hs7]; simp
            have hx0 := at_zero hs7 h0s
            clear hg7 HB6 HN6 hsp hk7 hs7
            go_wp2_with fail
            obtain ⟨w8, hw8⟩ : ∃ w8, w8 = w7.alloc (.cells #[.int .u8 1, .string ⟨#[]⟩, .slice none 0 0, .slice none 0 0] 32) := ⟨_, rfl⟩
            rw [← hw8]
            have hb8 : Below w7.heap.size w7 w8 := by rw [hw8]; exact below_alloc (Below.refl _ _) _
            have HM8 := Lib.hid (show w8.heap[w7.heap.size]? = some (.cells #[.int .u8 1, .string ⟨#[]⟩, .slice none 0 0, .slice none 0 0] 32 (0, 0)) from by rw [hw8]; exact heap_alloc_new w7 _)
            have HB8 := Lib.hid (HB7.out.trans (hb8.mono HB7.out.size))
            have HN8 := Lib.hid ((hb8.block _ (blk_lt HN7.out)).trans HN7.out)
            have HC8 := Lib.hid (HC7.out.below hb8)
            have HMB := Lib.hid (show cb < w7.heap.size ∧ w7.heap.size < w8.heap.size from ⟨hcb7, blk_lt HM8.out⟩)
            generalize w7.heap.size = mb at *
            clear hw8 hb8 HB7 HN7 HC7 e7 h0s hx0 hcb7
            have hcut := hcut2 s7 w8 HS7.out (HM.out.below HB8.out)
            have HPL := Lib.hid hpl
            clear hpl
            refine hcut.mono ?_
            rintro e w9 ⟨rfl, hb9⟩
            have HB9 := Lib.hid (HB8.out.trans (hb9.mono HB8.out.size))
            have HN9 := Lib.hid ((hb9.block _ (blk_lt HN8.out)).trans HN8.out)
            have HM9 := Lib.hid ((hb9.block _ (blk_lt HM8.out)).trans HM8.out)
            have m1 := blk_cell HM9.out 1
            have mf1 := blk_frozen HM9.out 1
            clear hb9 HB8 HN8 HM8 HC8 hcut hcut2
            go_wp2_with fail
            refine (htr _).mono ?_
            rintro e w10 ⟨rfl, rfl⟩
            go_wp2_with fail
            obtain ⟨wx, hwx⟩ : ∃ wx, wx = w9.setCell ⟨mb, 1, none⟩ (.string (bsOf t0)) := ⟨_, rfl⟩
            obtain ⟨w12, hw12⟩ : ∃ w12, w12 = wx.setCell ⟨mb, 1, none⟩ (.string (bsOf t)) := ⟨_, rfl⟩
            rw [← hwx, ← hw12]
            have HMX : wx.heap[mb]? = some (.cells #[.int .u8 1, .string (bsOf t0), .slice none 0 0, .slice none 0 0] 32 (0, 0)) := by rw [hwx]; exact blk_set HM9.out 1 _
            have HNX : wx.heap[w.heap.size]? = some (.cells #[.int .u8 0, .string ⟨#[]⟩, .slice none 0 0, .slice none 0 0] 32 (0, 0)) := by rw [hwx]; exact blk_far (p := ⟨mb, 1, none⟩) HN9.out (by have := HMB.out; have := HCB.out; simp <;> omega) _
            have HBX : Below w.heap.size w wx := by rw [hwx]; exact HB9.out.setCell (p := ⟨mb, 1, none⟩) (by have := HMB.out; have := HCB.out; simp <;> omega) _
            have HM12 := Lib.hid (show w12.heap[mb]? = some (.cells #[.int .u8 1, .string (bsOf t), .slice none 0 0, .slice none 0 0] 32 (0, 0)) from by rw [hw12]; exact blk_set HMX 1 _)
            have HN12 := Lib.hid (show w12.heap[w.heap.size]? = some (.cells #[.int .u8 0, .string ⟨#[]⟩, .slice none 0 0, .slice none 0 0] 32 (0, 0)) from by rw [hw12]; exact blk_far (p := ⟨mb, 1, none⟩) HNX (by have := HMB.out; have := HCB.out; simp <;> omega) _)
            have HB12 := Lib.hid (show Below w.heap.size w w12 from by rw [hw12]; exact HBX.setCell (p := ⟨mb, 1, none⟩) (by have := HMB.out; have := HCB.out; simp <;> omega) _)
            clear hwx HMX HNX HBX
            clear hw12 HM9 HN9 HB9 m1 mf1 htr
            have hpla := plain_any (bsOf t) w12 (HM.out.below HB12.out) HTZ.out
            rw [show (bsOf t).data.toList = t from rfl, HPL.out] at hpla
            refine hpla.mono ?_
            rintro e w11 ⟨rfl, rfl⟩
            clear hpla
            go_wp2_with fail
            refine (must_ok _ _).mono ?_
            rintro e w9 ⟨rfl, rfl⟩
            have n0 := blk_cell HN12.out 0
            have n1 := blk_cell HN12.out 1
            have n2 := blk_cell HN12.out 2
            have n3 := blk_cell HN12.out 3
            have f0 := blk_frozen HN12.out 0
            have f1 := blk_frozen HN12.out 1
            have f2 := blk_frozen HN12.out 2
            have f3 := blk_frozen HN12.out 3
            have m0 := blk_cell HM12.out 0
            have m1 := blk_cell HM12.out 1
            have m2 := blk_cell HM12.out 2
            have m3 := blk_cell HM12.out 3
            go_wp2_with fail
            have HF := Lib.hid (put4 (.int .u8 1) (.string (bsOf t)) (.slice none 0 0) (.slice none 0 0) HN12.out)
            have HBF := Lib.hid (below_put4 (.int .u8 1) (.string (bsOf t)) (.slice none 0 0) (.slice none 0 0) HB12.out (Nat.le_refl w.heap.size))
            go_region
            go_wp2_with fail
            generalize ((((w12.setCell ⟨w.heap.size, 0, none⟩ (.int .u8 1)).setCell ⟨w.heap.size, 1, none⟩ (.string (bsOf t))).setCell ⟨w.heap.size, 2, none⟩ (.slice none 0 0)).setCell ⟨w.heap.size, 3, none⟩ (.slice none 0 0)) = WF at *
            clear n0 n1 n2 n3 f0 f1 f2 f3 m0 m1 m2 m3
            have c0 := blk_cell HF.out 0
            have c1 := blk_cell HF.out 1
            have c2 := blk_cell HF.out 2
            have c3 := blk_cell HF.out 3
            simp at c0 c1 c2 c3
            refine bodyPost_ret (v := .tuple #[.string (bsOf k), .agg #[.int .u8 1, .string (bsOf t), .slice none 0 0, .slice none 0 0], .bool true]) (by simp [results, Tryz.results46, go_sem, c0, c1, c2, c3]) rfl ?_
            exact ⟨below_drew HBF.out, _, rfl, .slice none 0 0, rfl, trivial⟩
end Go.Proofs.YtpdnopfjnmjnnaaGreatDoor.Cn
