/- Package http: the cursor: heads. -/
import Derived.Test.YtaihnhhapplmbaaGreatDoorCu
import Derived.Test.YtaihnhhapplmbaaGreatDoorCl
set_option linter.unusedVariables false
set_option linter.unusedSimpArgs false
namespace Go.Proofs.YtaihnhhapplmbaaGreatDoor.Ht
open Go.Sort Go.RowKit Go.Proofs Go.Proofs.YtaihnhhapplmbaaGreatDoorW.PrintWords Go.Proofs.YtaihnhhapplmbaaGreatDoor.Bs Go.Proofs.YtaihnhhapplmbaaGreatDoor.Ir Go.Proofs.YtaihnhhapplmbaaGreatDoor.Gn

/-- The same as 'Outc', the place behind it in whole. -/
def OutP {α : Type} (val : α → World → Value → Prop) (b : Nat) (s : ByteArray) (w : World) (r : Except Int (α × Nat)) (e : Ending) (w' : World) : Prop :=
  w.grownBy w' (some b) ∧ match r with
    | .ok (x, q) => (∃ v, e = .returned v ∧ val x w' v) ∧ CurAt b s q w' ∧ q ≤ s.size
    | .error y => e = pv y
def plus {α : Type} (p : Nat) : Except Int (α × Nat) → Except Int (α × Nat)
  | .ok (x, k) => .ok (x, p + k)
  | .error y => .error y
theorem OutP.of {α : Type} {val : α → World → Value → Prop} {b p : Nat} {s : ByteArray} {w w' : World} {r : Except Int (α × Nat)} {e : Ending} (h : Outc val b s p w r e w') : OutP val b s w (plus p r) e w' := by
  obtain ⟨h1, h2⟩ := h
  refine ⟨h1, ?_⟩
  cases r with
  | error y => exact h2
  | ok z => exact h2
def lineP (s : ByteArray) (p : Nat) : Except Int (ByteArray × Nat) := plus p (lineB (rest s p))
def takeP (s : ByteArray) (p : Nat) (n : Int) : Except Int (ByteArray × Nat) := plus p (takeB (rest s p) n)
theorem size_arr (l : List UInt8) : (⟨l.toArray⟩ : ByteArray).size = l.length := by simp [ByteArray.size]
theorem lineB_ok {r x : ByteArray} {k : Nat} (h : lineB r = .ok (x, k)) : 1 ≤ k ∧ k ≤ r.size ∧ x.size < k := by
  have hp := Lib.indexByte_piece r 0 (min (r.size : Int) 4098).toNat 10
  have hm := Int.min_le_left (r.size : Int) 4098
  unfold lineB at h
  dsimp only at h
  generalize Lib.indexByte (r.extract 0 (min (r.size : Int) 4098).toNat).data.toList 10 = i at h hp
  generalize min (r.size : Int) 4098 = m at hp hm
  have key : ∀ o : Nat, (⟨(Lib.trimSuffix (r.extract 0 o).data.toList [13]).toArray⟩ : ByteArray).size ≤ o := by
    intro o
    have h1 : (Lib.trimSuffix (r.extract 0 o).data.toList [13]).length ≤ (r.extract 0 o).data.toList.length := by
      unfold Lib.trimSuffix
      split
      · rw [List.length_take]; omega
      · omega
    have e2 : (r.extract 0 o).data.toList.length = (r.extract 0 o).size := rfl
    rw [e2, ByteArray.size_extract] at h1
    have e3 : (⟨(Lib.trimSuffix (r.extract 0 o).data.toList [13]).toArray⟩ : ByteArray).size = (Lib.trimSuffix (r.extract 0 o).data.toList [13]).length := size_arr _
    rw [e3]
    omega
  by_cases hi : i < 0
  · rw [if_pos hi] at h
    by_cases hr : r.size < 4098
    · rw [if_pos hr] at h; exact absurd h (by simp)
    · rw [if_neg hr] at h; exact absurd h (by simp)
  · rw [if_neg hi] at h
    by_cases hs : Lib.hasSuffix (r.extract 0 i.toNat).data.toList [13] = true
    · rw [if_pos hs] at h
      have h1 := Prod.mk.inj (Except.ok.inj h)
      have h2 := key i.toNat
      rw [h1.1] at h2
      rcases hp with hp | ⟨o, hp, ho⟩
      · omega
      · omega
    · rw [if_neg hs] at h; exact absurd h (by simp)
theorem lineP_ok {s x : ByteArray} {p q : Nat} (hp : p ≤ s.size) (h : lineP s p = .ok (x, q)) : p < q ∧ q ≤ s.size ∧ x.size ≤ s.size := by
  unfold lineP plus at h
  cases hl : lineB (rest s p) with
  | error y => rw [hl] at h; cases h
  | ok z =>
    obtain ⟨x', k⟩ := z
    rw [hl] at h
    cases h
    have := lineB_ok hl
    rw [rest_size] at this
    omega

def headOf (x : ByteArray) : Head := ⟨⟨(Lib.cut x.data.toList [58]).1.toArray⟩, trimB ⟨(Lib.cut x.data.toList [58]).2.1.toArray⟩⟩
def headOk (x : ByteArray) : Bool := (Lib.cut x.data.toList [58]).2.2 && tokenB (headOf x).name && valueB (headOf x).value
def more (cnt : Nat) (x : ByteArray) : Nat := if framingB (headOf x).name then cnt else cnt + 1
def bindE {α β : Type} (r : Except Int (α × Nat)) (f : α → Nat → Except Int (β × Nat)) : Except Int (β × Nat) :=
  match r with
  | .error y => .error y
  | .ok (x, q) => f x q
def headsGo (s : ByteArray) : Nat → Nat → Nat → List Head → ByteArray → Except Int (List Head × Nat)
  | 0, _, _, _, _ => .error 0
  | F + 1, q, cnt, out, x =>
    if x.size = 0 then .ok (out, q)
    else if headOk x then
      if more cnt x ≤ 64 then
        bindE (lineP s q) fun x' q' => headsGo s F q' (more cnt x) (out ++ [headOf x]) x'
      else .error 4
    else .error 13
def headsP (s : ByteArray) (p : Nat) : Except Int (List Head × Nat) :=
  bindE (lineP s p) fun x q => headsGo s (s.size + 1) q 0 [] x

theorem gnd_grown {w w' : World} {b : Nat} (h : Gnd w) (hg : w.grownBy w' (some b)) (hb : lowG ≤ b) : Gnd w' := by
  have hc : ∀ (a : Nat) (v : Value), a < lowG → w.cell? ⟨a, 0, none⟩ = some v → w'.cell? ⟨a, 0, none⟩ = some v := fun a v ha hv => by
    rw [World.cell?_of_block (w := w) (hg.block a (World.block_lt_of_cell? w _ hv) (by simp; omega))]
    exact hv
  refine ⟨h.mx.imp fun _ h => hc _ _ (by decide) h, by obtain ⟨t, p, h⟩ := h.es; exact ⟨t, p, hc _ _ (by decide) h⟩, by obtain ⟨t, p, h⟩ := h.er; exact ⟨t, p, hc _ _ (by decide) h⟩, ?_⟩
  have ht := h.tab
  have hgl : Tryz.prog.globalNamed "internal/strconv.uint64pow10" = some 3 := by kernel_rfl
  unfold Lib.TabIs World.var? at ht ⊢
  rw [hgl] at ht ⊢
  simp only [Option.bind_some] at ht ⊢
  have hlt : 3 < w.heap.size := by
    rcases Nat.lt_or_ge 3 w.heap.size with h' | h'
    · exact h'
    · rw [Array.getElem?_eq_none h'] at ht; cases ht
  have hlg : 3 < lowG := by decide
  rw [hg.block _ hlt (by simp; omega)]
  exact ht
theorem cut_any (s : ByteArray) (c : UInt8) (w : World) (G : Gnd w) (hs : s.size ≤ 1073741824) :
    Calls Tryz.prog 93 #[.string s, .string ⟨#[c]⟩] w fun e w' => e = .returned (.tuple #[.string ⟨(Lib.cut s.data.toList [c]).1.toArray⟩, .string ⟨(Lib.cut s.data.toList [c]).2.1.toArray⟩, .bool (Lib.cut s.data.toList [c]).2.2]) ∧ Below w.heap.size w w' := by
  obtain ⟨m, hm⟩ := G.mx
  refine (Tryz.strings_Cut s ⟨#[c]⟩ m w (by omega) hm).mono ?_
  rintro e w' ⟨rfl, n, rfl⟩
  exact ⟨rfl, pw_below_drewN (Below.refl _ _) n⟩
theorem CurAt.below {b p : Nat} {s : ByteArray} {w w' : World} (h : CurAt b s p w) (hb : Below w.heap.size w w') : CurAt b s p w' := (hb.block b (blk_lt h)).trans h
theorem CurAt.grown {b p : Nat} {s : ByteArray} {w w' : World} {row : Option Nat} (h : CurAt b s p w) (hg : w.grownBy w' row) (hr : some b ≠ row) : CurAt b s p w' := (hg.block b (blk_lt h) hr).trans h
/-- Behind what was there: new rows alone. -/
theorem grown_far {w W W' : World} {b : Nat} {row : Option Nat} (h : w.grownBy W (some b)) (hg : W.grownBy W' row) (hr : ∀ k, row = some k → w.heap.size ≤ k) : w.grownBy W' (some b) :=
  ⟨hg.os.trans h.os, hg.tape.trans h.tape, hg.output.trans h.output, Nat.le_trans h.size hg.size, fun k hk hne => (hg.block k (Nat.lt_of_lt_of_le hk h.size) (fun e => by have := hr k e.symm; omega)).trans (h.block k hk hne)⟩
theorem grown_below {w W W' : World} {b : Nat} (h : w.grownBy W (some b)) (hb : Below W.heap.size W W') : w.grownBy W' (some b) := grown_far h (grown_of_below hb none) (fun _ h => by cases h)
theorem grown_step {w W W' : World} {b : Nat} (h : w.grownBy W (some b)) (hg : W.grownBy W' (some b)) : w.grownBy W' (some b) :=
  ⟨hg.os.trans h.os, hg.tape.trans h.tape, hg.output.trans h.output, Nat.le_trans h.size hg.size, fun k hk hne => (hg.block k (Nat.lt_of_lt_of_le hk h.size) hne).trans (h.block k hk hne)⟩
theorem cut_sizes (x : ByteArray) (c : UInt8) : (Lib.cut x.data.toList [c]).1.length ≤ x.size ∧ (Lib.cut x.data.toList [c]).2.1.length ≤ x.size := by
  have e : x.data.toList.length = x.size := rfl
  unfold Lib.cut
  split
  · simp only [List.length_take, List.length_drop]; omega
  · simp [e]

def rowsV (base : Nat) (l : List Head) (w : World) (v : Value) : Prop := Kd.R kH 82 w base (fun k => base ≤ k) v l
end Go.Proofs.YtaihnhhapplmbaaGreatDoor.Ht
