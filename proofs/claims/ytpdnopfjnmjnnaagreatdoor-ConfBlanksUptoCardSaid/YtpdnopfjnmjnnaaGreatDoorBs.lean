/- Words of this proof's own: rows and blocks of a world, lists of bytes as numbers. No program in sight. -/
import Derived.Test.YtpdnopfjnmjnnaaGreatDoorWWords
import Derived.Lib.Hide
import Derived.WalkLawsBesides
import Derived.WalkSpells
import Derived.Lib.ConvBytes
import Derived.Lib.QuietBelow
set_option linter.unusedVariables false
set_option linter.unusedSimpArgs false
namespace Go.Proofs.YtpdnopfjnmjnnaaGreatDoor.Bs
open Go.RowKit Go.Proofs Go.Proofs.YtpdnopfjnmjnnaaGreatDoorW.PrintWords

/-- A row of the call's own: block B's first cells, none of them frozen. -/
def Row (W : World) (B : Nat) (e : TypeId) (xs : List Value) : Prop :=
  ∃ cells fr, W.heap[B]? = some (.cells cells e fr) ∧ xs.length ≤ cells.size ∧ (∀ j, j < xs.length → cells[j]? = xs[j]?) ∧ (∀ j, j < xs.length → ¬ (fr.1 ≤ j ∧ j < fr.2))
theorem Row.cell {W : World} {B : Nat} {e : TypeId} {xs : List Value} (h : Row W B e xs) {j : Nat} (hj : j < xs.length) : W.cell? ⟨B, j, none⟩ = xs[j]? := by
  obtain ⟨cells, fr, hb, hl, hc, hf⟩ := h
  simp only [World.cell?, hb]
  simpa using hc j hj
theorem Row.frozen {W : World} {B : Nat} {e : TypeId} {xs : List Value} (h : Row W B e xs) {j : Nat} (hj : j < xs.length) : W.frozen? ⟨B, j, none⟩ = false := by
  obtain ⟨cells, fr, hb, hl, hc, hf⟩ := h
  have := hf j hj
  simp only [World.frozen?, hb]
  simp only [Bool.and_eq_false_iff, decide_eq_false_iff_not]
  omega
theorem Row.lt {W : World} {B : Nat} {e : TypeId} {xs : List Value} (h : Row W B e xs) : B < W.heap.size := by
  obtain ⟨cells, fr, hb, _⟩ := h
  exact (Array.getElem?_eq_some_iff.1 hb).1
theorem Row.set {W : World} {B : Nat} {e : TypeId} {xs : List Value} (h : Row W B e xs) (j : Nat) (v : Value) : Row (W.setCell ⟨B, j, none⟩ v) B e (xs.set j v) := by
  obtain ⟨cells, fr, hb, hl, hc, hf⟩ := h
  refine ⟨cells.setIfInBounds j v, fr, by simp [World.setCell, Array.getElem?_modify, hb], by simpa using hl, fun i hi => ?_, fun i hi => hf i (by simpa using hi)⟩
  simp only [List.length_set] at hi
  rw [Array.getElem?_setIfInBounds, List.getElem?_set]
  by_cases e : j = i
  · subst e
    simp [hi, show j < cells.size by omega]
  · simp [e, hc i hi]
theorem Row.move {W W1 : World} {B : Nat} {e : TypeId} {xs : List Value} (h : Row W B e xs) (hb : W1.heap[B]? = W.heap[B]?) : Row W1 B e xs := by
  obtain ⟨cells, fr, hb', r⟩ := h
  exact ⟨cells, fr, hb.trans hb', r⟩
theorem Row.drewN {W : World} {B : Nat} {e : TypeId} {xs : List Value} (h : Row W B e xs) (n : Nat) : Row (W.drewN n) B e xs := h.move rfl
theorem Row.below {W W1 : World} {B : Nat} {e : TypeId} {xs : List Value} (h : Row W B e xs) (hb : Below W.heap.size W W1) : Row W1 B e xs := h.move (hb.block _ h.lt)
theorem Row.bytes (w : World) (e : TypeId) (s : ByteArray) : Row (Lib.bytesWorld w e s) w.heap.size e (s.data.toList.map fun b => .int .u8 b.toNat) := by
  refine ⟨_, _, Lib.bytesWorld_at_new w e s, by simp [Lib.bytesCells], fun j hj => ?_, fun j hj => ?_⟩
  · simp only [List.length_map, Array.length_toList] at hj
    have hj' : j < s.size := hj
    simp [Lib.bytesCells, Array.getElem?_append, hj']
  · simp only [List.length_map, Array.length_toList] at hj
    have hj' : j < s.size := hj
    have : s.data.size = s.size := rfl
    simp only [Lib.bytesCells, Array.size_append, Array.size_map, Array.size_replicate]
    omega
theorem below_bytes (w : World) (e : TypeId) (s : ByteArray) : Below w.heap.size w (Lib.bytesWorld w e s) :=
  ⟨rfl, rfl, rfl, by rw [Lib.bytesWorld_size]; omega, fun k hk => Lib.bytesWorld_at_old w e s k hk⟩

/-- A string's bytes, as numbers. -/
def bl (s : ByteArray) : List Int := s.data.toList.map fun b => (b.toNat : Int)
theorem bl_length (s : ByteArray) : (bl s).length = s.size := by
  unfold bl
  rw [List.length_map]
  rfl
theorem bl_range (s : ByteArray) (k : Nat) : 0 ≤ (bl s).getD k 0 ∧ (bl s).getD k 0 ≤ 255 := by
  simp only [bl, List.getD_eq_getElem?_getD, List.getElem?_map]
  cases h : s.data.toList[k]? with
  | none => simp
  | some b => have := b.toNat_lt; simp; omega

/-- A list of which the first k are done. -/
def mid (f : Int → Int) (l : List Int) (k : Nat) : List Int := (l.take k).map f ++ l.drop k
theorem mid_zero (f : Int → Int) (l : List Int) : mid f l 0 = l := by simp [mid]
theorem mid_all (f : Int → Int) (l : List Int) : mid f l l.length = l.map f := by simp [mid]
theorem mid_length (f : Int → Int) (l : List Int) (k : Nat) : (mid f l k).length = l.length := by simp [mid]; omega
theorem mid_get (f : Int → Int) (l : List Int) (k : Nat) (hk : k < l.length) : (mid f l k)[k]? = some (l.getD k 0) := by
  have h1 : ((l.take k).map f).length = k := by simp; omega
  rw [mid, List.getElem?_append_right (by omega), h1, Nat.sub_self, List.getElem?_drop, Nat.add_zero]
  simp [List.getElem?_eq_getElem hk]
theorem mid_step (f : Int → Int) (l : List Int) (k : Nat) (hk : k < l.length) : (mid f l k).set k (f (l.getD k 0)) = mid f l (k + 1) := by
  have h1 : ((l.take k).map f).length = k := by simp; omega
  have h2 : l.drop k = l[k] :: l.drop (k + 1) := List.drop_eq_getElem_cons hk
  have h3 : l.getD k 0 = l[k] := by simp [List.getElem?_eq_getElem hk]
  rw [h3]
  unfold mid
  rw [List.set_append_right _ _ (by omega), h1, h2, List.take_succ_eq_append_getElem hk, Nat.sub_self, List.set_cons_zero, List.map_append, List.append_assoc]
  rfl
theorem mid_same (f : Int → Int) (l : List Int) (k : Nat) (hk : k < l.length) (h : f (l.getD k 0) = l.getD k 0) : mid f l (k + 1) = mid f l k := by
  rw [← mid_step f l k hk, h]
  apply List.ext_getElem?
  intro i
  rw [List.getElem?_set]
  split
  · rename_i e
    subst e
    split
    · rw [mid_get f l _ hk]
    · rename_i h
      rw [mid_length] at h
      omega
  · rfl
/-- What was there reads as before: two rules for the walk. -/
theorem bcell {W w1 : World} (hb : Below W.heap.size W w1) : (∀ b o, b < W.heap.size → w1.cell? ⟨b, o, none⟩ = W.cell? ⟨b, o, none⟩) ∧ (∀ b o, b < W.heap.size → w1.frozen? ⟨b, o, none⟩ = W.frozen? ⟨b, o, none⟩) :=
  ⟨fun b o h => hb.cell (p := ⟨b, o, none⟩) h, fun b o h => hb.frozen (p := ⟨b, o, none⟩) h⟩
/-- Behind a call that lays blocks. -/
theorem below_via {w X w1 : World} (k : Below X.heap.size X w1) (h : Below w.heap.size w X) : Below w.heap.size w w1 := below_then h h.size k
theorem cell_new (w : World) (cs : Array Value) (t : TypeId) (i : Nat) (v : Value) (h : cs[i]? = some v) : (w.alloc (.cells cs t)).cell? ⟨w.heap.size, i, none⟩ = some v := by
  rw [cell_of_row (w.alloc (.cells cs t)) w.heap.size i cs t (0, 0) (heap_alloc_new w _)]
  exact h
theorem cell_past (w : World) (o : Obj) (a : Addr) (v : Value) (h : w.cell? a = some v) : (w.alloc o).cell? a = some v := by
  rw [World.cell?_of_block (w := w) (Below.heap_alloc w o a.block (World.block_lt_of_cell? w a h))]
  exact h
end Go.Proofs.YtpdnopfjnmjnnaaGreatDoor.Bs
