/- A region that draws its order: first operations that are quiet in a class of worlds, in whatever order, then a tail in one order. No program in sight. -/
import Derived.StillTail
import Derived.Lib.QuietBelow
set_option linter.unusedVariables false
set_option linter.unusedSimpArgs false
namespace Go.Proofs.YtpdnopfjnmjnnaaGreatDoor.Qt
open Go Go.Sort Go.RowKit
section
variable {P : Program} {ops : Array Oper} {md : Region.Mode} {C : World → Prop}

def HeadQ (P : Program) (md : Region.Mode) (ops : Array Oper) (C : World → Prop) (n : Nat) (L : Array Bool → Act → Prop) : Nat → Array Bool → Act → Prop
  | 0, li, a => L li a
  | f + 1, li, a => Region.ready md ops li ≠ [] ∧ ∀ i ∈ Region.ready md ops li, i < n ∧ qOp P ops C i (HeadQ P md ops C n L f (li.setIfInBounds i true)) a

theorem HeadQ.any {n g : Nat} {L : Array Bool → Act → Prop} {Q : Exit → Act → World → Prop} (hL : ∀ li a w, C w → L li a → wpAny P md ops Q g li a w) (f : Nat) :
    ∀ (li : Array Bool) (a : Act) (w : World), C w → HeadQ P md ops C n L f li a → wpAny P md ops Q (f + g) li a w := by
  induction f with
  | zero => intro li a w hw h; rw [Nat.zero_add]; exact hL li a w hw h
  | succ f ih =>
    intro li a w hw h
    have e : f + 1 + g = f + g + 1 := by omega
    rw [e]
    refine ⟨fun h0 => absurd h0 h.1, fun i hi => ?_⟩
    exact wpOp_of_qOp hw (fun a' w' hw' h' => ih _ a' w' hw' h') (h.2 i hi).2

/-- What may come up and is quiet may be taken first. -/
theorem HeadQ.first {n i : Nat} {oi : Oper} {v : Value} {L : Array Bool → Act → Prop} (hi : ops[i]? = some oi) (hno : Region.noSelect ops = true) (hsk : Region.sinkB md ops n = true) (hch : Region.chainB md ops n = true) (hn : n < ops.size) (hin : i < n)
    (hL : ∀ li a, L li a → ∀ j ∈ Region.ready md ops li, n ≤ j) (f : Nat) :
    ∀ (li : Array Bool) (a : Act), HeadInv md ops n li → (∀ j oj, ops[j]? = some oj → j ≠ i → li.getD j true = false → (∀ e ∈ oj.after, Region.binds md e = true → e.on ≠ i) → oi.apart ops oj = true) →
      i ∈ Region.ready md ops li → YieldsIn P ops C oi v a → HeadQ P md ops C n L f (li.setIfInBounds i true) (a.put oi.dst v) → HeadQ P md ops C n L (f + 1) li a := by
  have hsel := Region.noSelect_spec hno
  induction f with
  | zero =>
    intro li a inv _ hr hy H
    have hun := (mem_ready.1 hr).1
    refine ⟨List.ne_nil_of_mem hr, fun j hj => ?_⟩
    have hjn : j < n := Nat.lt_of_not_le fun hle => tail_waits hsk hch hn inv _ i rfl hin hun j hle hj
    refine ⟨hjn, ?_⟩
    rcases Nat.decEq j i with hji | hji
    · have := hL _ _ H j (ready_mono hj hji)
      omega
    · rw [hji]; exact hy.qOp hi H
  | succ f ih =>
    intro li a inv hfree hr hy H
    have hun := (mem_ready.1 hr).1
    refine ⟨List.ne_nil_of_mem hr, fun j hj => ?_⟩
    have hjn : j < n := Nat.lt_of_not_le fun hle => tail_waits hsk hch hn inv _ i rfl hin hun j hle hj
    refine ⟨hjn, ?_⟩
    rcases Nat.decEq j i with hji | hji
    · obtain ⟨hjun, oj, hoj, hall⟩ := mem_ready.1 hj
      have hwait : ∀ e ∈ oj.after, Region.binds md e = true → e.on ≠ i := by
        intro e he hb heq
        have := hall e he hb
        rw [heq, getD_both hun] at this
        exact Bool.noConfusion this
      have hap := hfree j oj hoj hji hjun hwait
      refine qOp_mono ?_ (qOp_put hoj hap (fun cs b => hsel i oi cs b hi) (fun cs b => hsel j oj cs b hoj) hy (H.2 j (ready_mono hj hji)).2)
      intro a' hh
      refine ih _ a' (inv.set hj hjn) ?_ (ready_mono hr (Ne.symm hji)) hh.1 ?_
      · intro k ok hk hki hkun hkno
        refine hfree k ok hk hki ?_ hkno
        rcases Nat.decEq j k with hjk | hjk
        · rwa [getD_set_ne true hjk] at hkun
        · rw [← hjk]; exact hjun
      · rw [Array.setIfInBounds_comm _ _ hji]
        exact hh.2
    · rw [hji]; exact hy.qOp hi H

theorem HeadQ.walk {n g : Nat} {R : Act → Prop} (hno : Region.noSelect ops = true) (hsk : Region.sinkB md ops n = true) (hch : Region.chainB md ops n = true) (hn : n < ops.size) (l : List Oper) :
    ∀ (k : Nat) (li : Array Bool) (a : Act), (∀ j, j < l.length → l[j]? = ops[k + j]?) → k + l.length = n → HeadInv md ops n li → Region.lexHead md ops g l.length k li = true → wpQuiet P ops C R l a →
      HeadQ P md ops C n (fun li' a' => Region.seqB md ops g n li' = true ∧ R a') l.length li a := by
  induction l with
  | nil =>
    intro k li a _ hk _ hB h
    have hkn : k = n := hk
    subst hkn
    exact ⟨hB, h⟩
  | cons o l ih =>
    intro k li a hl hk inv hB h
    rw [List.length_cons] at hk
    have h0 : ops[k]? = some o := (hl 0 (Nat.zero_lt_succ _)).symm
    have hB2 : ((Region.ready md ops li).contains k && Region.free md ops li k && Region.lexHead md ops g l.length (k + 1) (li.setIfInBounds k true)) = true := hB
    rw [Bool.and_eq_true, Bool.and_eq_true] at hB2
    have hr : k ∈ Region.ready md ops li := List.contains_iff_mem.1 hB2.1.1
    have hq : qOp P ops C k (wpQuiet P ops C R l) a := by simp only [qOp, h0]; exact h
    obtain ⟨v, hy, hK⟩ := yieldsIn_of_qOp h0 hq
    refine HeadQ.first h0 hno hsk hch hn (by omega) (fun li' a' hL => seqB_ready hL.1) l.length li a inv (Region.free_spec h0 hB2.1.2) hr hy ?_
    refine ih (k + 1) _ _ (fun j hj => ?_) (by omega) (inv.set hr (by omega)) hB2.2 hK
    have := hl (j + 1) (by simpa using hj)
    rw [List.getElem?_cons_succ] at this
    rw [this]
    congr 1
    omega

/-- THE REGION. -/
theorem region_quiet_tail {id : Nat} {Q : Exit → Act → World → Prop} {a : Act} {w : World} {l : List Oper} (n : Nat) (hm : P.follows .mixedOrders = true) (hB : Region.lexTailB .any l.toArray n = true) (hC : C { w with drawn := w.drawn + 1 })
    (h : wpQuiet P l.toArray C (fun a' => ∀ w', C w' → wpList P l.toArray Q (l.drop n) a' w') (l.take n) a) : (Code.region id l.toArray true).wp P Q a w := by
  unfold Region.lexTailB at hB
  rw [Bool.and_eq_true, Bool.and_eq_true, Bool.and_eq_true, Bool.and_eq_true, decide_eq_true_eq] at hB
  obtain ⟨⟨⟨⟨hno, hn⟩, hsk⟩, hch⟩, hlex⟩ := hB
  have hsz : l.toArray.size = l.length := List.size_toArray
  have htk : (l.take n).length = n := by rw [List.length_take]; omega
  have hdr : (l.drop n).length = l.toArray.size - n := by rw [List.length_drop, hsz]
  have inv : HeadInv .any l.toArray n (Array.replicate l.toArray.size false) := by
    refine ⟨Array.size_replicate, fun j oj _ hl => ?_, fun t _ ht => getD_in (by rw [Array.size_replicate]; exact ht) (getD_replicate_false _ _)⟩
    rw [getD_replicate_false] at hl
    exact Bool.noConfusion hl
  have hw := HeadQ.walk (md := .any) (C := C) (g := l.toArray.size - n) hno hsk hch hn (l.take n) 0 (Array.replicate l.toArray.size false) a
    (fun j hj => by
      rw [htk] at hj
      rw [List.getElem?_take_of_lt hj, List.getElem?_toArray]
      congr 1
      omega) (by omega) inv (by rw [htk]; exact hlex) h
  have ht := HeadQ.any (Q := Q) (g := l.toArray.size - n) (fun li a' w' hw' hL => by
    have := wpAny_of_seq (md := .any) (Q' := Q) (l.drop n) n li a' w' (fun j => by rw [List.getElem?_drop, List.getElem?_toArray]) (by rw [hdr]; exact hL.1) (hL.2 w' hw')
    rwa [hdr] at this) _ _ _ _ hC hw
  rw [htk, show n + (l.toArray.size - n) = l.toArray.size from by omega] at ht
  exact wp_region_any hm ht

/-- The class: what was there is as it was. -/
theorem region_below_tail {id : Nat} {Q : Exit → Act → World → Prop} {a : Act} {w : World} {l : List Oper} (n : Nat) (hm : P.follows .mixedOrders = true) (hB : Region.lexTailB .any l.toArray n = true)
    (h : wpQuiet P l.toArray (fun w' => ∃ p : Regrown, w' = grow (redrawn w p.d) p.os) (fun a' => ∀ w', (∃ p : Regrown, w' = grow (redrawn w p.d) p.os) → wpList P l.toArray Q (l.drop n) a' w') (l.take n) a) : (Code.region id l.toArray true).wp P Q a w :=
  region_quiet_tail n hm hB ⟨⟨w.drawn + 1, #[]⟩, by rw [grow_empty]; rfl⟩ h
end
end Go.Proofs.YtpdnopfjnmjnnaaGreatDoor.Qt
