/- Package conf: the scanner: take, spaces, over. -/
import Derived.Test.YtpdnopfjnmjnnaaGreatDoorNj
import Derived.Shelf.Strings.Trim
import Derived.WalkLawsBesides
import Derived.WalkSpells
import Derived.StillTailTactics
set_option linter.unusedVariables false
set_option linter.unusedSimpArgs false
namespace Go.Proofs.YtpdnopfjnmjnnaaGreatDoor.Cn
open Go.Sort Go.RowKit Go.Proofs Go.Proofs.YtpdnopfjnmjnnaaGreatDoorW.PrintWords Go.Proofs.YtpdnopfjnmjnnaaGreatDoor.Bs Go.Proofs.YtpdnopfjnmjnnaaGreatDoor.Ir Go.Proofs.YtpdnopfjnmjnnaaGreatDoor.Cz

/-- The scanner's block: what is left. -/
def ScAt (b : Nat) (l : List UInt8) (w : World) : Prop := ∃ s : ByteArray, s.data.toList = l ∧ w.heap[b]? = some (.cells #[.string s] 126 (0, 0))
theorem ScAt.lt {b : Nat} {l : List UInt8} {w : World} (h : ScAt b l w) : b < w.heap.size := by
  obtain ⟨s, _, h⟩ := h
  exact blk_lt h
theorem ScAt.move {b : Nat} {l : List UInt8} {w w' : World} (h : ScAt b l w) (hm : w'.heap[b]? = w.heap[b]?) : ScAt b l w' := by
  obtain ⟨s, e, h⟩ := h
  exact ⟨s, e, hm.trans h⟩
theorem ScAt.below {b : Nat} {l : List UInt8} {w w' : World} (h : ScAt b l w) (hb : Below w.heap.size w w') : ScAt b l w' := h.move (hb.block _ h.lt)
theorem ScAt.grown {b : Nat} {l : List UInt8} {w w' : World} {row : Option Nat} (h : ScAt b l w) (hg : w.grownBy w' row) (hne : some b ≠ row) : ScAt b l w' := h.move (hg.block _ h.lt hne)
theorem ScAt.put {b : Nat} {s : ByteArray} {w : World} (h : w.heap[b]? = some (.cells #[.string s] 126 (0, 0))) (l : List UInt8) : ScAt b l (w.setCell ⟨b, 0, none⟩ (.string ⟨l.toArray⟩)) :=
  ⟨⟨l.toArray⟩, rfl, blk_set h 0 (.string ⟨l.toArray⟩)⟩
theorem grown_refl (w : World) (row : Option Nat) : w.grownBy w row := ⟨rfl, rfl, rfl, Nat.le_refl _, fun _ _ _ => rfl⟩
theorem grown_drewN {w w' : World} {row : Option Nat} (h : w.grownBy w' row) (n : Nat) : w.grownBy (w'.drewN n) row := ⟨h.os, h.tape, h.output, h.size, h.block⟩
theorem grown_set {w w' : World} {b i : Nat} {v : Value} (h : w.grownBy w' (some b)) : w.grownBy (w'.setCell ⟨b, i, none⟩ v) (some b) :=
  ⟨h.os, h.tape, h.output, by simpa [World.setCell] using h.size, fun k hk hne => (Below.heap_setCell w' _ _ k (fun e => hne (by rw [e]))).trans (h.block k hk hne)⟩
theorem grown_trans {w w1 w2 : World} {row : Option Nat} (h : w.grownBy w1 row) (k : w1.grownBy w2 row) : w.grownBy w2 row :=
  ⟨k.os.trans h.os, k.tape.trans h.tape, k.output.trans h.output, Nat.le_trans h.size k.size, fun j hj hne => (k.block j (Nat.lt_of_lt_of_le hj h.size) hne).trans (h.block j hj hne)⟩
theorem grown_of_below {w w1 : World} {row : Option Nat} (h : Below w.heap.size w w1) : w.grownBy w1 row :=
  ⟨h.os, h.tape, h.output, h.size, fun k hk _ => h.block k hk⟩
theorem grown_below {w w1 w2 : World} {row : Option Nat} (h : w.grownBy w1 row) (k : Below w1.heap.size w1 w2) : w.grownBy w2 row := grown_trans h (grown_of_below k)
/-- Behind a step that writes no elder block but those from w's size on. -/
theorem grown_far {w w1 w2 : World} {row : Option Nat} {r2 : Option Nat} (h : w.grownBy w1 row) (k : w1.grownBy w2 r2) (hr : ∀ j, r2 = some j → w.heap.size ≤ j) : w.grownBy w2 row :=
  ⟨k.os.trans h.os, k.tape.trans h.tape, k.output.trans h.output, Nat.le_trans h.size k.size, fun j hj hne => (k.block j (Nat.lt_of_lt_of_le hj h.size) (fun e => by have := hr j e.symm; omega)).trans (h.block j hj hne)⟩
/-- The one elder block that changes is the scanner's. -/
def Sc (b : Nat) (l : List UInt8) (w w' : World) : Prop := w.grownBy w' (some b) ∧ ScAt b l w'
/-- What a reader of the scanner does. -/
def Outr {α : Type} (val : α → World → Value → Prop) (b : Nat) (w : World) (r : Rd α) (e : Ending) (w' : World) : Prop :=
  w.grownBy w' (some b) ∧ match r with
    | .ok (x, l) => (∃ v, e = .returned v ∧ val x w' v) ∧ ScAt b l w'
    | .error y => e = pf y
def strV (x : List UInt8) (_ : World) (v : Value) : Prop := v = .string ⟨x.toArray⟩

theorem take_any (b : Nat) (l : List UInt8) (p : ByteArray) (w : World) (hc : ScAt b l w) :
    Calls Tryz.prog 77 #[.pointer (some ⟨b, 0, none⟩), .string p] w fun e w' => e = .returned (.bool (Lib.hasPrefix l p.data.toList)) ∧ Sc b (Lib.trimPrefix l p.data.toList) w w' := by
  obtain ⟨s, rfl, hb⟩ := hc
  have h0 := blk_cell hb 0
  have hf := blk_frozen hb 0
  have H := Lib.hid hb
  clear hb
  go_enter Tryz.func77, Tryz.ntmps77
  go_wp2_with (go_at_call 105; refine (Tryz.strings_CutPrefix s p _).mono ?_; rintro e w1 ⟨rfl, rfl⟩)
  go_ret
  exact ⟨rfl, grown_set (grown_refl _ _), ScAt.put H.out _⟩
theorem spaces_any (b : Nat) (l : List UInt8) (w : World) (hc : ScAt b l w) :
    Calls Tryz.prog 78 #[.pointer (some ⟨b, 0, none⟩)] w fun e w' => e = .returned (.tuple #[]) ∧ Sc b (spacesL l) w w' := by
  obtain ⟨s, rfl, hb⟩ := hc
  have h0 := blk_cell hb 0
  have hf := blk_frozen hb 0
  have H := Lib.hid hb
  clear hb
  go_enter Tryz.func78, Tryz.ntmps78
  go_wp2_with (go_at_call 45; refine (Tryz.strings_TrimLeft_one s 32 (by decide) _).mono ?_; rintro e w1 ⟨rfl, rfl⟩)
  go_end0
  exact ⟨rfl, grown_set (grown_refl _ _), ScAt.put H.out _⟩
theorem over_any (b : Nat) (l : List UInt8) (w : World) (hc : ScAt b l w) :
    Calls Tryz.prog 76 #[.pointer (some ⟨b, 0, none⟩)] w fun e w' => e = .returned (.bool (overL l)) ∧ Sc b l w w' := by
  have HC := Lib.hid hc
  obtain ⟨s, rfl, hb⟩ := hc
  have h0 := blk_cell hb 0
  have hf := blk_frozen hb 0
  have hcT := fun W => Tryz.strings_TrimLeft_one s 32 (by decide) W
  unfold overL spacesL
  obtain ⟨t, ht⟩ : ∃ t : ByteArray, t = ⟨(Lib.trimLeftB s.data.toList 32).toArray⟩ := ⟨_, rfl⟩
  have hl : Lib.trimLeftB s.data.toList 32 = t.data.toList := by rw [ht]
  rw [hl]
  rw [← ht] at hcT
  have es : s.data.toList.length = s.size := rfl
  have et : t.data.toList.length = t.size := rfl
  rw [es, et, ← isEmpty_eq]
  clear hl ht hb es et
  cases he : t.toList.isEmpty
  · have hpos : 0 < t.size := by
      rw [Lib.toList_data, List.isEmpty_eq_false_iff] at he
      exact List.length_pos_iff.2 he
    obtain ⟨x, hx⟩ : ∃ x : UInt8, t[0]'hpos = x := ⟨_, rfl⟩
    have hx0 : t.data.toList.headD 0 = x := by
      have := data_at t 0 hpos
      rw [hx] at this
      rw [List.headD_eq_head?_getD, List.head?_eq_getElem?, this]
      rfl
    rw [hx0]
    clear hx0
    by_cases h1 : x.toNat = 35
    · have hx35 : (x == 35) = true := by rw [beq_iff_eq]; exact UInt8.toNat_inj.1 h1
      have h2 : ((x.toNat : Int) == 35) = true := by rw [beq_iff_eq]; omega
      rw [hx35]
      clear hx35 h1
      by_cases hlt : t.size < s.size
      all_goals
        go_enter Tryz.func76, Tryz.ntmps76
        go_wp2_with (go_at_call 45; refine (hcT _).mono ?_; rintro e w1 ⟨rfl, rfl⟩)
        go_ret
        exact ⟨by simp [hlt], grown_refl _ _, HC.out⟩
    · have hx35 : (x == 35) = false := by rw [beq_eq_false_iff_ne]; rintro rfl; exact h1 rfl
      have h2 : ((x.toNat : Int) == 35) = false := by rw [beq_eq_false_iff_ne]; omega
      rw [hx35]
      clear hx35 h1
      go_enter Tryz.func76, Tryz.ntmps76
      go_wp2_with (go_at_call 45; refine (hcT _).mono ?_; rintro e w1 ⟨rfl, rfl⟩)
      go_ret
      exact ⟨by simp, grown_refl _ _, HC.out⟩
  · go_enter Tryz.func76, Tryz.ntmps76
    go_wp2_with (go_at_call 45; refine (hcT _).mono ?_; rintro e w1 ⟨rfl, rfl⟩)
    go_ret
    exact ⟨by simp, grown_refl _ _, HC.out⟩
end Go.Proofs.YtpdnopfjnmjnnaaGreatDoor.Cn
