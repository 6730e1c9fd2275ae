/- Package http: the cursor: chunks: the walk. -/
import Derived.Test.YtaihnhhapplmbaaGreatDoorCh
import Derived.Deep.RegionWith
import Derived.RegionDies
set_option linter.unusedVariables false
set_option linter.unusedSimpArgs false
namespace Go.Proofs.YtaihnhhapplmbaaGreatDoor.Ht
open Go.Sort Go.RowKit Go.Proofs Go.Proofs.YtaihnhhapplmbaaGreatDoorW.PrintWords Go.Proofs.YtaihnhhapplmbaaGreatDoor.Bs Go.Proofs.YtaihnhhapplmbaaGreatDoor.Ir Go.Proofs.YtaihnhhapplmbaaGreatDoor.Gn

def endI : Nat → Int | 0 => 13 | _ => 10
def crlfAt (s : ByteArray) : Nat → Nat → Except Int (ByteArray × Nat)
  | 0, q => crlfP s q
  | 1, q => bindE (takeP s q 1) fun b q2 => if byte0 b = 10 then .ok (b, q2) else .error 13
  | _, q => .ok (⟨#[]⟩, q)
theorem crlfAt_step {β : Type} (s : ByteArray) (k q : Nat) (hk : k < 2) (f : ByteArray → Nat → Except Int (β × Nat)) (hf : ∀ a b q, f a q = f b q) :
    bindE (crlfAt s k q) f = bindE (takeP s q 1) fun a q1 => if byte0 a = endI k then bindE (crlfAt s (k + 1) q1) f else .error 13 := by
  match k, hk with
  | 0, _ =>
    simp only [crlfAt, crlfP, endI]
    cases takeP s q 1 with
    | error y => rfl
    | ok z =>
      obtain ⟨a, q1⟩ := z
      by_cases h : byte0 a = 13
      · simp [bindE, h]
      · simp [bindE, h]
  | 1, _ =>
    simp only [crlfAt, endI]
    cases takeP s q 1 with
    | error y => rfl
    | ok z =>
      obtain ⟨a, q1⟩ := z
      by_cases h : byte0 a = 10
      · simp only [bindE, if_pos h]
        exact hf _ _ _
      · simp [bindE, h]
theorem must_t (c : Bool) (why : Int) (w : World) (h : c = true) : Calls Tryz.prog 33 #[.bool c, .int .i64 why] w fun e w' => e = .returned (.tuple #[]) ∧ w = w' := by subst h; exact must_ok why w
theorem must_f (c : Bool) (why : Int) (w : World) (h : c = false) : Calls Tryz.prog 33 #[.bool c, .int .i64 why] w fun e w' => e = .panicked [{ v := .iface 28 (.int .i64 why), recovered := false }] ∧ w = w' := by subst h; exact must_no why w
theorem builder_keep {B b : Nat} {bs : List Value} {w w' : World} (h : Lib.IsBuilder 115 5 B b bs w) (hm : ∀ k, B ≤ k → k < w.heap.size → w'.heap[k]? = w.heap[k]?) : Lib.IsBuilder 115 5 B b bs w' := by
  have key : ∀ p, Lib.BuilderAt 115 5 B b p bs w → Lib.BuilderAt 115 5 B b p bs w' := by
    rintro p ⟨hB, v, hb, ho, hne⟩
    exact ⟨hB, v, (hm b hB (blk_lt hb)).trans hb, own_move ho (fun k hk => hm k (own_base ho k hk) (own_lt ho k hk)), hne⟩
  exact h.imp (key _) (key _)
theorem grown_belowB {w W W' : World} {b : Nat} (h : w.grownBy W (some b)) (hb : Below w.heap.size W W') : w.grownBy W' (some b) :=
  ⟨hb.os.trans h.os, hb.tape.trans h.tape, hb.output.trans h.output, Nat.le_trans h.size hb.size, fun k hk hne => (hb.block k hk).trans (h.block k hk hne)⟩
theorem builder_grown {B b c : Nat} {bs : List Value} {w w' : World} (h : Lib.IsBuilder 115 5 B c bs w) (hg : w.grownBy w' (some b)) (hb : b < B) : Lib.IsBuilder 115 5 B c bs w' :=
  builder_keep h (fun k h1 h2 => hg.block k h2 (fun e => by have := Option.some.inj e; omega))
theorem builder_below {B c : Nat} {bs : List Value} {w w' : World} (h : Lib.IsBuilder 115 5 B c bs w) (hb : Below w.heap.size w w') : Lib.IsBuilder 115 5 B c bs w' :=
  builder_keep h (fun k _ h2 => hb.block k h2)

set_option maxRecDepth 100000 in
set_option maxHeartbeats 8000000 in
theorem chunks_any (b p : Nat) (s : ByteArray) (most : Int) (w : World) (G : Gnd w) (hb64 : lowG ≤ b) (hs : s.size ≤ 1073741824) (hp : p ≤ s.size) (hm0 : 0 ≤ most) (hm1 : most ≤ 65536) (hc : CurAt b s p w) :
    Calls Tryz.prog 96 #[.pointer (some ⟨b, 0, none⟩), .int .i64 most] w fun e w' => OutP strV b s w (chunksP s most p) e w' := by
  have hbw := blk_lt hc
  have hB0 := Lib.fresh_isBuilder 115 5 w
  have HC0 := Lib.hid (CurAt.below hc (below_alloc (Below.refl _ _) (.cells #[.pointer none, .slice none 0 0] 115)))
  have HG0 := Lib.hid (grown_below (grown_refl w (some b)) (below_alloc (Below.refl _ _) (.cells #[.pointer none, .slice none 0 0] 115)))
  have HGn := Lib.hid G
  have HB0 := Lib.hid hB0
  clear hc G hB0
  go_enter Tryz.func96, Tryz.ntmps96
  go_wp2_with fail
  go_loopw [12] (fun _ wr => ∃ (q F : Nat) (acc : List UInt8), Hid (Lib.IsBuilder 115 5 w.heap.size w.heap.size (Lib.byteCells acc) wr) ∧ Hid (CurAt b s q wr) ∧ Hid (q ≤ s.size ∧ acc.length ≤ q ∧ s.size < F + q) ∧ Hid (chunksP s most p = chunksGo s most F q acc) ∧ Hid (w.grownBy wr (some b)) ∧ w.heap.size < wr.heap.size)
    (fun _ wr => match wr.cell? ⟨b, 1, none⟩ with | some (.int _ q') => s.size - q'.toNat | _ => 0)
  case atStart => exact ⟨p, s.size + 1, [], HB0, HC0, Lib.hid ⟨hp, by simp, by omega⟩, Lib.hid rfl, HG0, by simp⟩
  case round =>
    obtain ⟨q, F, acc, hBd, hC, hQ, hE, hGw, hBs⟩ := hrel
    obtain ⟨F', rfl⟩ : ∃ F', F = F' + 1 := ⟨F - 1, by have := hQ.out; omega⟩
    have hl := lineP_any b q s wr hs hQ.out.1 hC.out
    have hE1 := hE.out
    rw [chunksGo] at hE1
    cases hlp : lineP s q with
    | error y =>
      rw [hlp] at hl hE1
      have HRES := Lib.hid (show chunksP s most p = .error y from hE1)
      clear hE hE1 hlp
      go_wp2_with (go_at_call 63; refine hl.mono ?_; rintro e w1 ⟨hg1, rfl⟩; unfold pv)
      refine ⟨rfl, ?_⟩
      rw [HRES.out]
      exact ⟨grown_step hGw.out hg1, rfl⟩
    | ok z =>
      obtain ⟨x, q1⟩ := z
      rw [hlp] at hl hE1
      obtain ⟨hq1, hq2, hx⟩ := lineP_ok hQ.out.1 hlp
      have hE2 : chunksP s most p = (if chunkOk (digitsOf x) then
        if hexN (bl (digitsOf x)) ≤ most - acc.length then
          if hexN (bl (digitsOf x)) = 0 then bindE (headsP s q1) fun _ q' => .ok (⟨acc.toArray⟩, q')
          else bindE (takeP s q1 (hexN (bl (digitsOf x)))) fun t q1 => bindE (crlfP s q1) fun _ q2 => chunksGo s most F' q2 (acc ++ t.data.toList)
        else .error 4
      else .error 13) := hE1
      have HE2 := Lib.hid hE2
      clear hE hE1 hE2 hlp
      have hcut : ∀ W, Gnd W → _ := fun W G => cut_any x 59 W G (by omega)
      have hpl := fun W => plain_any (digitsOf x) W
      have hds : (digitsOf x).size ≤ x.size := by unfold digitsOf; rw [size_arr]; exact (cut_sizes x 59).1
      unfold digitsOf at hpl hds HE2
      generalize (⟨(Lib.cut x.data.toList [59]).1.toArray⟩ : ByteArray) = d at *
      generalize (⟨(Lib.cut x.data.toList [59]).2.1.toArray⟩ : ByteArray) = rv at *
      generalize (Lib.cut x.data.toList [59]).2.2 = bx at *
      go_wp2_with (first | (go_at_call 63; refine hl.mono ?_; rintro e w1 ⟨hg1, ⟨_, rfl, rfl⟩, hc1, _⟩) | (go_at_call 93; refine (hcut _ (gnd_grown HGn.out (grown_step hGw.out hg1) hb64)).mono ?_; rintro e w2 ⟨rfl, hb2⟩))
      have hgw1 := grown_step hGw.out hg1
      have HBd1 := Lib.hid (builder_below (builder_grown hBd.out hg1 hbw) hb2)
      have HC2 := Lib.hid (CurAt.below hc1 hb2)
      have HG2 := Lib.hid (grown_below hgw1 hb2)
      have hz2 : w.heap.size < w2.heap.size := by have := hg1.size; have := hb2.size; omega
      have HC0' := hC
      clear hl hcut hg1 hc1 hb2 hgw1 hBd hGw hC
      obtain ⟨n, hn, hcx⟩ := hpl w2
      clear hpl
      by_cases hok : chunkOk d = true
      · obtain ⟨he, hd0, hd8, hdh, hN0, hN1⟩ := hexN_range d hok
        have hpi := fun W => parseInt_hex d W hd0 hd8 hdh
        have hd8d : decide ((d.size : Int) ≤ 8) = true := by simp; omega
        have hnt : decide (n < 0) = true := by
          rw [hn]
          simp only [chunkOk, Bool.and_eq_true] at hok
          exact hok.2
        have hE3 := HE2.out
        rw [if_pos hok] at hE3
        clear HE2 hok hn hdh hd0
        generalize hexN (bl d) = N at *
        have HE3 := Lib.hid hE3
        clear hE3
        have ha0 : (acc.length : Int) ≤ 1073741824 := by have := hQ.out; omega
        have hlenb := fun W h => Go.Proofs.Tryz.Builder_Len w.heap.size w.heap.size (Lib.byteCells acc) W h
        rw [Lib.byteCells_length] at hlenb
        by_cases hNm : N ≤ most - acc.length
        · have hE4 := HE3.out
          rw [if_pos hNm] at hE4
          have hNd : decide (N ≤ most - (acc.length : Int)) = true := by simpa using hNm
          have HE4 := Lib.hid hE4
          clear hE4 HE3
          by_cases hN : N = 0
          · have hE5 := HE4.out
            rw [if_pos hN] at hE5
            have HE5 := Lib.hid hE5
            subst hN
            clear hE5 HE4
            go_wp2_with (first | (go_at_call 50; refine hcx.mono ?_; rintro e w3 ⟨rfl, hb3⟩) | (go_at_call 33; refine (must_t _ _ _ (by first | (simp; done) | (simp; omega))).mono ?_; rintro e w9 ⟨rfl, rfl⟩) | (go_at_call 145; refine (hpi _).mono ?_; rintro e w4 ⟨rfl, hb4⟩) | (go_at_call 146; refine (hlenb _ (builder_below (builder_below HBd1.out hb3) hb4)).mono ?_; rintro e w5 ⟨rfl, rfl⟩))
            have HG5 := grown_below (grown_below HG2.out hb3) hb4
            have HB5 := builder_below (builder_below HBd1.out hb3) hb4
            have hC5 := CurAt.below (CurAt.below HC2.out hb3) hb4
            have hhd := heads_any b q1 s w5 (gnd_grown HGn.out HG5 hb64) hb64 hs hq2 hC5
            cases hhp : headsP s q1 with
            | error y =>
              rw [hhp] at hhd
              have HRES := Lib.hid (show chunksP s most p = .error y from by rw [HE5.out, hhp]; rfl)
              clear HE5 hhp
              go_wp2_with (go_at_call 64; refine hhd.mono ?_; rintro e w6 ⟨hg6, rfl⟩; unfold pv)
              refine ⟨rfl, ?_⟩
              rw [HRES.out]
              exact ⟨grown_step HG5 hg6, rfl⟩
            | ok z =>
              obtain ⟨l, q2⟩ := z
              rw [hhp] at hhd
              have HRES := Lib.hid (show chunksP s most p = .ok (⟨acc.toArray⟩, q2) from by rw [HE5.out, hhp]; rfl)
              clear HE5 hhp
              have hz5 : w.heap.size ≤ w5.heap.size := HG5.size
              go_wp2_with (first | (go_at_call 64; refine hhd.mono ?_; rintro e w6 ⟨hg6, ⟨v, rfl, _⟩, hc6, hq6⟩) | (go_at_call 58; refine (Go.Proofs.Tryz.Builder_String_any w.heap.size w.heap.size _ _ (builder_grown HB5 hg6 hbw) (by have := hg6.size; omega)).mono ?_; rintro e w7 ⟨rfl, hb7⟩))
              go_ret
              rw [HRES.out]
              exact ⟨grown_belowB (grown_step HG5 hg6) hb7, ⟨_, rfl, rfl⟩, (hb7.block b hbw).trans hc6, hq6⟩
          · have hE5 := HE4.out
            rw [if_neg hN] at hE5
            have HE5 := Lib.hid hE5
            have hNe : (N == 0) = false := by rw [beq_eq_false_iff_ne]; exact hN
            clear hE5 HE4 hN
            go_wp2_with (first | (go_at_call 50; refine hcx.mono ?_; rintro e w3 ⟨rfl, hb3⟩) | (go_at_call 33; refine (must_t _ _ _ (by first | (simp; done) | (simp; omega))).mono ?_; rintro e w9 ⟨rfl, rfl⟩) | (go_at_call 145; refine (hpi _).mono ?_; rintro e w4 ⟨rfl, hb4⟩) | (go_at_call 146; refine (hlenb _ (builder_below (builder_below HBd1.out hb3) hb4)).mono ?_; rintro e w5 ⟨rfl, rfl⟩))
            have HG5 := grown_below (grown_below HG2.out hb3) hb4
            have HB5 := builder_below (builder_below HBd1.out hb3) hb4
            have hC5 := CurAt.below (CurAt.below HC2.out hb3) hb4
            have htk := takeP_any b q1 s N w5 hs hN0 (by omega) hq2 hC5
            cases htp : takeP s q1 N with
            | error y =>
              rw [htp] at htk
              have HRES := Lib.hid (show chunksP s most p = .error y from by rw [HE5.out, htp]; rfl)
              clear HE5 htp
              go_wp2_with (go_at_call 97; refine htk.mono ?_; rintro e w6 ⟨hg6, rfl⟩; unfold pv)
              refine ⟨rfl, ?_⟩
              rw [HRES.out]
              exact ⟨grown_step HG5 hg6, rfl⟩
            | ok z =>
              obtain ⟨t, q2⟩ := z
              rw [htp] at htk
              obtain ⟨hq3, hq4, ht⟩ := takeP_ok hq2 htp hN0
              have HE6 := Lib.hid (show chunksP s most p = bindE (crlfP s q2) fun _ q2 => chunksGo s most F' q2 (acc ++ t.data.toList) from by rw [HE5.out, htp]; rfl)
              have HT := Lib.hid ht
              have HQ3 := Lib.hid hq3
              clear HE5 htp hq3 ht
              have hz5 : w.heap.size ≤ w5.heap.size := HG5.size
              go_wp2_with (first | (go_at_call 97; refine htk.mono ?_; rintro e w6 ⟨hg6, ⟨_, rfl, rfl⟩, hc6, hq6⟩) | (go_at_call 56; refine (Bd.WriteString w.heap.size w.heap.size _ t _ (builder_grown HB5 hg6 hbw) (by rw [Lib.byteCells_length]; have := HT.out; omega) (by have := hg6.size; omega)).mono ?_; rintro e w7 ⟨rfl, hB7, hb7, _⟩))
              have HG7 := Lib.hid (grown_belowB (grown_step HG5 hg6) hb7)
              have HC7 := Lib.hid (show CurAt b s q2 w7 from (hb7.block b hbw).trans hc6)
              have HB7 := Lib.hid hB7
              have hz7 : w.heap.size < w7.heap.size := blk_lt (builder_block (Or.inr hB7)).choose_spec
              have HB8 := Lib.hid (show Lib.IsBuilder 115 5 w.heap.size w.heap.size (Lib.byteCells (acc ++ t.data.toList)) w7 from by rw [Lib.byteCells_append]; exact Or.inr hB7)
              have HE7 := Lib.hid (show chunksP s most p = bindE (crlfAt s 0 q2) (fun _ q2 => chunksGo s most F' q2 (acc ++ t.data.toList)) from HE6.out)
              have HAQ := Lib.hid (show (acc ++ t.data.toList).length ≤ q2 ∧ s.size < F' + q2 ∧ q1 ≤ q2 from by
                have e : t.data.toList.length = t.size := rfl
                have := HT.out
                have := HQ3.out
                have := hQ.out
                rw [List.length_append, e]
                omega)
              clear HB7 hB7 hb7 hc6 hg6 HE6 htk HB5 hC5 HG5 hcx hpi hlenb hb3 hb4 HBd1 HC2 HG2
              go_loopw [12, 54] (fun _ vi wi => ∃ k q3 : Nat, k ≤ 2 ∧ vi = .int .i64 k ∧ Hid (CurAt b s q3 wi) ∧ Hid (q2 ≤ q3 ∧ q3 ≤ s.size) ∧ Hid (w.grownBy wi (some b)) ∧ Hid (Lib.IsBuilder 115 5 w.heap.size w.heap.size (Lib.byteCells (acc ++ t.data.toList)) wi) ∧ Hid (chunksP s most p = bindE (crlfAt s k q3) (fun _ q2 => chunksGo s most F' q2 (acc ++ t.data.toList))) ∧ w.heap.size < wi.heap.size) (fun _ vi _ => 2 - (intOf vi).toNat)
              case atStart => exact ⟨0, q2, by omega, rfl, HC7, Lib.hid ⟨Nat.le_refl _, hq4⟩, HG7, HB8, HE7, hz7⟩
              case round =>
                obtain ⟨k, q3, hk2, rfl, hCi, hQi, hGi, hBi, hEi, hzi⟩ := hrel
                by_cases hk : k < 2
                · have hEs := hEi.out
                  rw [crlfAt_step s k q3 hk _ (fun _ _ _ => rfl)] at hEs
                  have htk := takeP_any b q3 s 1 wr.drew hs (by decide) (by decide) hQi.out.2 hCi.out
                  have HGd := Lib.hid (show w.grownBy wr.drew (some b) from grown_drewN hGi.out 1)
                  have HBd := Lib.hid (builder_below hBi.out (below_drew (Below.refl _ _)))
                  cases htp : takeP s q3 1 with
                  | error y =>
                    rw [htp] at htk hEs
                    have HRES := Lib.hid (show chunksP s most p = .error y from hEs)
                    clear hEs hEi htp
                    obtain rfl | rfl : k = 0 ∨ k = 1 := by omega
                    all_goals (go_wp2_with fail)
                    all_goals go_region_dies
                    all_goals (refine htk.mono ?_; rintro e w8 ⟨hg8, rfl⟩; refine ⟨rfl, ?_⟩; rw [HRES.out]; exact ⟨grown_step HGd.out hg8, rfl⟩)
                  | ok z =>
                    obtain ⟨a, q4⟩ := z
                    rw [htp] at htk hEs
                    obtain ⟨hq5, hq6, ha⟩ := takeP_ok hQi.out.2 htp (by decide)
                    have h0 : 0 < a.size := by omega
                    have hx0 : ((a[0]'h0).toNat : Int) = byte0 a := by
                      unfold byte0
                      rw [List.getD_eq_getElem?_getD, bl, List.getElem?_map, List.getElem?_eq_getElem (show 0 < a.data.toList.length from h0)]
                      simp
                      rfl
                    have h0i : (0 : Int) < (a.size : Int) := by omega
                    have HQ5 := Lib.hid hq5
                    clear hEi htp ha hq5
                    by_cases hby : byte0 a = endI k
                    · have HEN := Lib.hid (show chunksP s most p = bindE (crlfAt s (k + 1) q4) (fun _ q2 => chunksGo s most F' q2 (acc ++ t.data.toList)) from by
                        have := hEs
                        simp only [bindE] at this
                        rw [if_pos hby] at this
                        exact this)
                      clear hEs
                      obtain rfl | rfl : k = 0 ∨ k = 1 := by omega
                      · have hbe : ((a[0]'h0).toNat : Int) = (((⟨#[13, 10]⟩ : ByteArray)[0]'(by decide)).toNat : Int) := hx0.trans hby
                        have HBE := Lib.hid hbe
                        clear hx0 hby hbe
                        go_wp2_with fail
                        go_region_dies
                        all_goals (refine htk.mono ?_; rintro e w8 ⟨hg8, ⟨v8, rfl, rfl⟩, hc8, hq8⟩; rename_i K hK; refine hK _ _ ?_; clear hK K)
                        · (refine wpAny_ready (rs := [2, 4]) (by kernel_rfl) (by simp) ?_; refine AllReady.cons rfl (fun K hK => ?_) (AllReady.cons rfl (fun K hK => ?_) AllReady.nil) <;> (go_simp; refine hK _ _ ?_; clear hK K))
                          · (refine wpAny_ready (rs := [4]) (by kernel_rfl) (by simp) ?_; refine AllReady.cons rfl (fun K hK => ?_) AllReady.nil; go_simp; refine hK _ _ ?_; clear hK K)
                            (refine wpAny_ready (rs := [5]) (by kernel_rfl) (by simp) ?_; refine AllReady.cons rfl (fun K hK => ?_) AllReady.nil; go_simp; refine hK _ _ ?_; clear hK K)
                            (refine wpAny_ready (rs := [6]) (by kernel_rfl) (by simp) ?_; refine AllReady.cons rfl (fun K hK => ?_) AllReady.nil; go_simp; refine (must_t _ _ _ (by simp; exact HBE.out)).mono ?_; rintro e w9 ⟨rfl, rfl⟩; refine hK _ _ ?_; clear hK K; refine wpAny_done (by kernel_rfl) ?_ _)
                            go_wp2_with fail
                            go_roundw
                            case rel => exact ⟨1, q4, by omega, by go_num, Lib.hid hc8, Lib.hid ⟨by have := hQi.out; have := HQ5.out; omega, hq6⟩, Lib.hid (grown_step HGd.out hg8), Lib.hid (builder_grown HBd.out hg8 hbw), HEN, by have := hg8.size; simp at this; omega⟩
                            case measure => simp [intOf]
                          · (refine wpAny_ready (rs := [2]) (by kernel_rfl) (by simp) ?_; refine AllReady.cons rfl (fun K hK => ?_) AllReady.nil; go_simp; refine hK _ _ ?_; clear hK K)
                            (refine wpAny_ready (rs := [5]) (by kernel_rfl) (by simp) ?_; refine AllReady.cons rfl (fun K hK => ?_) AllReady.nil; go_simp; refine hK _ _ ?_; clear hK K)
                            (refine wpAny_ready (rs := [6]) (by kernel_rfl) (by simp) ?_; refine AllReady.cons rfl (fun K hK => ?_) AllReady.nil; go_simp; refine (must_t _ _ _ (by simp; exact HBE.out)).mono ?_; rintro e w9 ⟨rfl, rfl⟩; refine hK _ _ ?_; clear hK K; refine wpAny_done (by kernel_rfl) ?_ _)
                            go_wp2_with fail
                            go_roundw
                            case rel => exact ⟨1, q4, by omega, by go_num, Lib.hid hc8, Lib.hid ⟨by have := hQi.out; have := HQ5.out; omega, hq6⟩, Lib.hid (grown_step HGd.out hg8), Lib.hid (builder_grown HBd.out hg8 hbw), HEN, by have := hg8.size; simp at this; omega⟩
                            case measure => simp [intOf]
                        · (refine wpAny_ready (rs := [2]) (by kernel_rfl) (by simp) ?_; refine AllReady.cons rfl (fun K hK => ?_) AllReady.nil; go_simp; refine hK _ _ ?_; clear hK K)
                          (refine wpAny_ready (rs := [5]) (by kernel_rfl) (by simp) ?_; refine AllReady.cons rfl (fun K hK => ?_) AllReady.nil; go_simp; refine hK _ _ ?_; clear hK K)
                          (refine wpAny_ready (rs := [6]) (by kernel_rfl) (by simp) ?_; refine AllReady.cons rfl (fun K hK => ?_) AllReady.nil; go_simp; refine (must_t _ _ _ (by simp; exact HBE.out)).mono ?_; rintro e w9 ⟨rfl, rfl⟩; refine hK _ _ ?_; clear hK K; refine wpAny_done (by kernel_rfl) ?_ _)
                          go_wp2_with fail
                          go_roundw
                          case rel => exact ⟨1, q4, by omega, by go_num, Lib.hid hc8, Lib.hid ⟨by have := hQi.out; have := HQ5.out; omega, hq6⟩, Lib.hid (grown_step HGd.out hg8), Lib.hid (builder_grown HBd.out hg8 hbw), HEN, by have := hg8.size; simp at this; omega⟩
                          case measure => simp [intOf]
                      · have hbe : ((a[0]'h0).toNat : Int) = (((⟨#[13, 10]⟩ : ByteArray)[1]'(by decide)).toNat : Int) := hx0.trans hby
                        have HBE := Lib.hid hbe
                        clear hx0 hby hbe
                        go_wp2_with fail
                        go_region_dies
                        all_goals (refine htk.mono ?_; rintro e w8 ⟨hg8, ⟨v8, rfl, rfl⟩, hc8, hq8⟩; rename_i K hK; refine hK _ _ ?_; clear hK K)
                        · (refine wpAny_ready (rs := [2, 4]) (by kernel_rfl) (by simp) ?_; refine AllReady.cons rfl (fun K hK => ?_) (AllReady.cons rfl (fun K hK => ?_) AllReady.nil) <;> (go_simp; refine hK _ _ ?_; clear hK K))
                          · (refine wpAny_ready (rs := [4]) (by kernel_rfl) (by simp) ?_; refine AllReady.cons rfl (fun K hK => ?_) AllReady.nil; go_simp; refine hK _ _ ?_; clear hK K)
                            (refine wpAny_ready (rs := [5]) (by kernel_rfl) (by simp) ?_; refine AllReady.cons rfl (fun K hK => ?_) AllReady.nil; go_simp; refine hK _ _ ?_; clear hK K)
                            (refine wpAny_ready (rs := [6]) (by kernel_rfl) (by simp) ?_; refine AllReady.cons rfl (fun K hK => ?_) AllReady.nil; go_simp; refine (must_t _ _ _ (by simp; exact HBE.out)).mono ?_; rintro e w9 ⟨rfl, rfl⟩; refine hK _ _ ?_; clear hK K; refine wpAny_done (by kernel_rfl) ?_ _)
                            go_wp2_with fail
                            go_roundw
                            case rel => exact ⟨2, q4, by omega, by go_num, Lib.hid hc8, Lib.hid ⟨by have := hQi.out; have := HQ5.out; omega, hq6⟩, Lib.hid (grown_step HGd.out hg8), Lib.hid (builder_grown HBd.out hg8 hbw), HEN, by have := hg8.size; simp at this; omega⟩
                            case measure => simp [intOf]
                          · (refine wpAny_ready (rs := [2]) (by kernel_rfl) (by simp) ?_; refine AllReady.cons rfl (fun K hK => ?_) AllReady.nil; go_simp; refine hK _ _ ?_; clear hK K)
                            (refine wpAny_ready (rs := [5]) (by kernel_rfl) (by simp) ?_; refine AllReady.cons rfl (fun K hK => ?_) AllReady.nil; go_simp; refine hK _ _ ?_; clear hK K)
                            (refine wpAny_ready (rs := [6]) (by kernel_rfl) (by simp) ?_; refine AllReady.cons rfl (fun K hK => ?_) AllReady.nil; go_simp; refine (must_t _ _ _ (by simp; exact HBE.out)).mono ?_; rintro e w9 ⟨rfl, rfl⟩; refine hK _ _ ?_; clear hK K; refine wpAny_done (by kernel_rfl) ?_ _)
                            go_wp2_with fail
                            go_roundw
                            case rel => exact ⟨2, q4, by omega, by go_num, Lib.hid hc8, Lib.hid ⟨by have := hQi.out; have := HQ5.out; omega, hq6⟩, Lib.hid (grown_step HGd.out hg8), Lib.hid (builder_grown HBd.out hg8 hbw), HEN, by have := hg8.size; simp at this; omega⟩
                            case measure => simp [intOf]
                        · (refine wpAny_ready (rs := [2]) (by kernel_rfl) (by simp) ?_; refine AllReady.cons rfl (fun K hK => ?_) AllReady.nil; go_simp; refine hK _ _ ?_; clear hK K)
                          (refine wpAny_ready (rs := [5]) (by kernel_rfl) (by simp) ?_; refine AllReady.cons rfl (fun K hK => ?_) AllReady.nil; go_simp; refine hK _ _ ?_; clear hK K)
                          (refine wpAny_ready (rs := [6]) (by kernel_rfl) (by simp) ?_; refine AllReady.cons rfl (fun K hK => ?_) AllReady.nil; go_simp; refine (must_t _ _ _ (by simp; exact HBE.out)).mono ?_; rintro e w9 ⟨rfl, rfl⟩; refine hK _ _ ?_; clear hK K; refine wpAny_done (by kernel_rfl) ?_ _)
                          go_wp2_with fail
                          go_roundw
                          case rel => exact ⟨2, q4, by omega, by go_num, Lib.hid hc8, Lib.hid ⟨by have := hQi.out; have := HQ5.out; omega, hq6⟩, Lib.hid (grown_step HGd.out hg8), Lib.hid (builder_grown HBd.out hg8 hbw), HEN, by have := hg8.size; simp at this; omega⟩
                          case measure => simp [intOf]
                    · have HRES := Lib.hid (show chunksP s most p = .error 13 from by
                        have := hEs
                        simp only [bindE] at this
                        rw [if_neg hby] at this
                        exact this)
                      clear hEs
                      obtain rfl | rfl : k = 0 ∨ k = 1 := by omega
                      · have hbe : ¬ ((a[0]'h0).toNat : Int) = (((⟨#[13, 10]⟩ : ByteArray)[0]'(by decide)).toNat : Int) := fun e => hby (hx0.symm.trans e)
                        have HBE := Lib.hid hbe
                        clear hx0 hby hbe
                        go_wp2_with fail
                        go_region_dies
                        all_goals (refine htk.mono ?_; rintro e w8 ⟨hg8, ⟨v8, rfl, rfl⟩, hc8, hq8⟩; rename_i K hK; refine hK _ _ ?_; clear hK K)
                        · (refine wpAny_ready (rs := [2, 4]) (by kernel_rfl) (by simp) ?_; refine AllReady.cons rfl (fun K hK => ?_) (AllReady.cons rfl (fun K hK => ?_) AllReady.nil) <;> (go_simp; refine hK _ _ ?_; clear hK K))
                          · (refine wpAny_ready (rs := [4]) (by kernel_rfl) (by simp) ?_; refine AllReady.cons rfl (fun K hK => ?_) AllReady.nil; go_simp; refine hK _ _ ?_; clear hK K)
                            (refine wpAny_ready (rs := [5]) (by kernel_rfl) (by simp) ?_; refine AllReady.cons rfl (fun K hK => ?_) AllReady.nil; go_simp; refine hK _ _ ?_; clear hK K)
                            (refine wpAny_ready (rs := [6]) (by kernel_rfl) (by simp) ?_; refine AllReady.cons rfl (fun K hK => ?_) AllReady.nil; go_simp; refine (must_f _ _ _ (by simp; exact HBE.out)).mono ?_; rintro e w9 ⟨rfl, rfl⟩)
                            refine ⟨rfl, ?_⟩
                            rw [HRES.out]
                            exact ⟨grown_step HGd.out hg8, rfl⟩
                          · (refine wpAny_ready (rs := [2]) (by kernel_rfl) (by simp) ?_; refine AllReady.cons rfl (fun K hK => ?_) AllReady.nil; go_simp; refine hK _ _ ?_; clear hK K)
                            (refine wpAny_ready (rs := [5]) (by kernel_rfl) (by simp) ?_; refine AllReady.cons rfl (fun K hK => ?_) AllReady.nil; go_simp; refine hK _ _ ?_; clear hK K)
                            (refine wpAny_ready (rs := [6]) (by kernel_rfl) (by simp) ?_; refine AllReady.cons rfl (fun K hK => ?_) AllReady.nil; go_simp; refine (must_f _ _ _ (by simp; exact HBE.out)).mono ?_; rintro e w9 ⟨rfl, rfl⟩)
                            refine ⟨rfl, ?_⟩
                            rw [HRES.out]
                            exact ⟨grown_step HGd.out hg8, rfl⟩
                        · (refine wpAny_ready (rs := [2]) (by kernel_rfl) (by simp) ?_; refine AllReady.cons rfl (fun K hK => ?_) AllReady.nil; go_simp; refine hK _ _ ?_; clear hK K)
                          (refine wpAny_ready (rs := [5]) (by kernel_rfl) (by simp) ?_; refine AllReady.cons rfl (fun K hK => ?_) AllReady.nil; go_simp; refine hK _ _ ?_; clear hK K)
                          (refine wpAny_ready (rs := [6]) (by kernel_rfl) (by simp) ?_; refine AllReady.cons rfl (fun K hK => ?_) AllReady.nil; go_simp; refine (must_f _ _ _ (by simp; exact HBE.out)).mono ?_; rintro e w9 ⟨rfl, rfl⟩)
                          refine ⟨rfl, ?_⟩
                          rw [HRES.out]
                          exact ⟨grown_step HGd.out hg8, rfl⟩
                      · have hbe : ¬ ((a[0]'h0).toNat : Int) = (((⟨#[13, 10]⟩ : ByteArray)[1]'(by decide)).toNat : Int) := fun e => hby (hx0.symm.trans e)
                        have HBE := Lib.hid hbe
                        clear hx0 hby hbe
                        go_wp2_with fail
                        go_region_dies
                        all_goals (refine htk.mono ?_; rintro e w8 ⟨hg8, ⟨v8, rfl, rfl⟩, hc8, hq8⟩; rename_i K hK; refine hK _ _ ?_; clear hK K)
                        · (refine wpAny_ready (rs := [2, 4]) (by kernel_rfl) (by simp) ?_; refine AllReady.cons rfl (fun K hK => ?_) (AllReady.cons rfl (fun K hK => ?_) AllReady.nil) <;> (go_simp; refine hK _ _ ?_; clear hK K))
                          · (refine wpAny_ready (rs := [4]) (by kernel_rfl) (by simp) ?_; refine AllReady.cons rfl (fun K hK => ?_) AllReady.nil; go_simp; refine hK _ _ ?_; clear hK K)
                            (refine wpAny_ready (rs := [5]) (by kernel_rfl) (by simp) ?_; refine AllReady.cons rfl (fun K hK => ?_) AllReady.nil; go_simp; refine hK _ _ ?_; clear hK K)
                            (refine wpAny_ready (rs := [6]) (by kernel_rfl) (by simp) ?_; refine AllReady.cons rfl (fun K hK => ?_) AllReady.nil; go_simp; refine (must_f _ _ _ (by simp; exact HBE.out)).mono ?_; rintro e w9 ⟨rfl, rfl⟩)
                            refine ⟨rfl, ?_⟩
                            rw [HRES.out]
                            exact ⟨grown_step HGd.out hg8, rfl⟩
                          · (refine wpAny_ready (rs := [2]) (by kernel_rfl) (by simp) ?_; refine AllReady.cons rfl (fun K hK => ?_) AllReady.nil; go_simp; refine hK _ _ ?_; clear hK K)
                            (refine wpAny_ready (rs := [5]) (by kernel_rfl) (by simp) ?_; refine AllReady.cons rfl (fun K hK => ?_) AllReady.nil; go_simp; refine hK _ _ ?_; clear hK K)
                            (refine wpAny_ready (rs := [6]) (by kernel_rfl) (by simp) ?_; refine AllReady.cons rfl (fun K hK => ?_) AllReady.nil; go_simp; refine (must_f _ _ _ (by simp; exact HBE.out)).mono ?_; rintro e w9 ⟨rfl, rfl⟩)
                            refine ⟨rfl, ?_⟩
                            rw [HRES.out]
                            exact ⟨grown_step HGd.out hg8, rfl⟩
                        · (refine wpAny_ready (rs := [2]) (by kernel_rfl) (by simp) ?_; refine AllReady.cons rfl (fun K hK => ?_) AllReady.nil; go_simp; refine hK _ _ ?_; clear hK K)
                          (refine wpAny_ready (rs := [5]) (by kernel_rfl) (by simp) ?_; refine AllReady.cons rfl (fun K hK => ?_) AllReady.nil; go_simp; refine hK _ _ ?_; clear hK K)
                          (refine wpAny_ready (rs := [6]) (by kernel_rfl) (by simp) ?_; refine AllReady.cons rfl (fun K hK => ?_) AllReady.nil; go_simp; refine (must_f _ _ _ (by simp; exact HBE.out)).mono ?_; rintro e w9 ⟨rfl, rfl⟩)
                          refine ⟨rfl, ?_⟩
                          rw [HRES.out]
                          exact ⟨grown_step HGd.out hg8, rfl⟩
                · obtain rfl : k = 2 := by omega
                  have HE9 := Lib.hid (show chunksP s most p = chunksGo s most F' q3 (acc ++ t.data.toList) from hEi.out)
                  have hm0 := HC0'.out.c1
                  have hm1 := hCi.out.c1
                  clear hEi
                  go_wp2_with fail
                  go_roundw
                  case rel => exact ⟨q3, F', acc ++ t.data.toList, hBi, hCi, Lib.hid ⟨hQi.out.2, by have := HAQ.out; have := hQi.out; omega, by have := HAQ.out; have := hQi.out; omega⟩, HE9, hGi, hzi⟩
                  case measure => rw [hm0, hm1]; have := HAQ.out; have := hQi.out; simp; omega
        · have HRES := Lib.hid (show chunksP s most p = .error 4 from by rw [HE3.out, if_neg hNm])
          have hNd : decide (N ≤ most - (acc.length : Int)) = false := by simpa using hNm
          clear HE3
          go_wp2_with (first | (go_at_call 50; refine hcx.mono ?_; rintro e w3 ⟨rfl, hb3⟩) | (go_at_call 33; refine (must_t _ _ _ (by first | (simp; done) | (simp; omega))).mono ?_; rintro e w9 ⟨rfl, rfl⟩) | (go_at_call 33; refine (must_f _ _ _ (by first | (simp; done) | (simp; omega))).mono ?_; rintro e w9 ⟨rfl, rfl⟩) | (go_at_call 145; refine (hpi _).mono ?_; rintro e w4 ⟨rfl, hb4⟩) | (go_at_call 146; refine (hlenb _ (builder_below (builder_below HBd1.out hb3) hb4)).mono ?_; rintro e w5 ⟨rfl, rfl⟩))
          refine ⟨rfl, ?_⟩
          rw [HRES.out]
          exact ⟨grown_below (grown_below HG2.out hb3) hb4, rfl⟩
      · have HRES := Lib.hid (show chunksP s most p = .error 13 from by rw [HE2.out, if_neg hok])
        clear HE2
        cases he : d.toList.isEmpty with
        | true =>
          clear hn hok
          go_wp2_with (first | (go_at_call 50; refine hcx.mono ?_; rintro e w3 ⟨rfl, hb3⟩) | (go_at_call 33; refine (must_f _ _ _ (by first | (simp; done) | (simp; omega))).mono ?_; rintro e w9 ⟨rfl, rfl⟩))
          refine ⟨rfl, ?_⟩
          rw [HRES.out]
          exact ⟨grown_below HG2.out hb3, rfl⟩
        | false =>
          by_cases h8 : (d.size : Int) ≤ 8
          · have hnt : decide (n < 0) = false := by
              rw [hn]
              cases hpp : plainH d with
              | false => rfl
              | true => exact absurd (by simp [chunkOk, he, hpp]; omega) hok
            clear hn hok
            go_wp2_with (first | (go_at_call 50; refine hcx.mono ?_; rintro e w3 ⟨rfl, hb3⟩) | (go_at_call 33; refine (must_f _ _ _ (by first | (simp; done) | (simp; omega))).mono ?_; rintro e w9 ⟨rfl, rfl⟩))
            refine ⟨rfl, ?_⟩
            rw [HRES.out]
            exact ⟨grown_below HG2.out hb3, rfl⟩
          · have h8f : decide ((d.size : Int) ≤ 8) = false := by simp; omega
            clear hn hok h8
            go_wp2_with (first | (go_at_call 50; refine hcx.mono ?_; rintro e w3 ⟨rfl, hb3⟩) | (go_at_call 33; refine (must_f _ _ _ (by first | (simp; done) | (simp; omega))).mono ?_; rintro e w9 ⟨rfl, rfl⟩))
            refine ⟨rfl, ?_⟩
            rw [HRES.out]
            exact ⟨grown_below HG2.out hb3, rfl⟩
end Go.Proofs.YtaihnhhapplmbaaGreatDoor.Ht
