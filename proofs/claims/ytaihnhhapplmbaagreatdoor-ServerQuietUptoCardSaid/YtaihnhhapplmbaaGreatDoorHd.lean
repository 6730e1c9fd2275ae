/- Package http: heads in memory; framing; slices.IndexFunc and ContainsFunc of heads. -/
import Derived.Test.YtaihnhhapplmbaaGreatDoorCa
import Derived.Test.YtaihnhhapplmbaaGreatDoorPr
import Derived.Deep.RegionWith
import Derived.Outline
set_option linter.unusedVariables false
set_option linter.unusedSimpArgs false
namespace Go.Proofs.YtaihnhhapplmbaaGreatDoor.Ht
open Go.Sort Go.RowKit Go.Proofs Go.Proofs.YtaihnhhapplmbaaGreatDoorW.PrintWords Go.Proofs.YtaihnhhapplmbaaGreatDoor.Bs Go.Proofs.YtaihnhhapplmbaaGreatDoor.Ir

structure Head where
  name : ByteArray
  value : ByteArray
def zH : Head := ⟨⟨#[]⟩, ⟨#[]⟩⟩
def kH : Kd Head := Kd.iso (Kd.pair Kd.string Kd.string) (fun x : Head => (x.name, x.value))
theorem kH_open {w : World} {x : Head} {cs : List Value} (h : kH.K w x cs) : cs = [.string x.name, .string x.value] := by
  obtain ⟨_, _, rfl, rfl, rfl⟩ := h
  exact rfl
theorem kH_mk (w : World) (x : Head) : kH.K w x [.string x.name, .string x.value] := ⟨[.string x.name], [.string x.value], rfl, rfl, rfl⟩
theorem kH_mkM (w : World) (base : Nat) (ok : Nat → Prop) (x : Head) : kH.M w base ok x [.string x.name, .string x.value] := ⟨[.string x.name], [.string x.value], rfl, rfl, rfl⟩
theorem at_H {w : World} {A : Option Addr} {n : Nat} {xs : List Head} (h : Kd.C kH w A n xs) (i : Nat) (h1 : i < n) : ∃ ad, A = some ad ∧ w.cell? (ad.add (i * 2)) = some (.string (xs.getD i zH).name) ∧ w.cell? ⟨(ad.add (i * 2)).block, (ad.add (i * 2)).off + 1, none⟩ = some (.string (xs.getD i zH).value) := by
  obtain ⟨ad, c, e, _, hK, hc0⟩ := Kd.C_get h zH (i : Int) (by omega) (by omega)
  have hc : ∀ j u, c[j]? = some u → w.cell? (ad.add (i * 2 + j)) = some u := hc0
  obtain rfl := kH_open hK
  exact ⟨ad, e, hc 0 _ rfl, by rw [← add_field _ _ 1 (by omega)]; exact hc 1 _ rfl⟩
/-- None of the texts is too long. -/
def HOk (h : Head) : Prop := h.name.size ≤ 1073741824 ∧ h.value.size ≤ 1073741824
abbrev aggH (h : Head) : Value := .agg #[.string h.name, .string h.value]

def lenS : ByteArray := ⟨#[67, 111, 110, 116, 101, 110, 116, 45, 76, 101, 110, 103, 116, 104]⟩
def codS : ByteArray := ⟨#[84, 114, 97, 110, 115, 102, 101, 114, 45, 69, 110, 99, 111, 100, 105, 110, 103]⟩
def framingB (n : ByteArray) : Bool := calledB lenS n || calledB codS n

set_option maxRecDepth 100000 in
set_option maxHeartbeats 2000000 in
theorem framing_any (n v : ByteArray) (w : World) (hn : n.size ≤ 1073741824) :
    Calls Tryz.prog 53 #[.agg #[.string n, .string v]] w fun e w' => e = .returned (.bool (framingB n)) ∧ Below w.heap.size w w' := by
  have c1 := fun b W => called1_any n v lenS b W (by omega) (by decide)
  have c2 := fun b W => called1_any n v codS b W (by omega) (by decide)
  unfold framingB
  generalize calledB lenS n = b1 at *
  generalize calledB codS n = b2 at *
  unfold lenS at c1
  unfold codS at c2
  cases b1
  · go_enter Tryz.func53, Tryz.ntmps53
    go_wp2_with fail
    go_region_with (first | (go_at_call 29; refine (called_any _ _).mono ?_; rintro e w1 ⟨rfl, rfl⟩) | (go_at_call 59; refine Calls.mono (c1 _ _ ?_) ?_; (· (simp; done)); rintro e w1 ⟨rfl, hb⟩; obtain ⟨hbc, hbf⟩ := bcell hb; have hz : w.heap.size + 1 < w1.heap.size := (by have := hb.size; simp at this; omega); have hz' : w.heap.size < w1.heap.size := (by omega); have hx0 : w1.cell? ⟨w.heap.size, 0, none⟩ = some (.string n) := (hb.cell (p := ⟨w.heap.size, 0, none⟩) (by simp; omega)).trans (cell_past _ _ _ _ (cell_new w #[.string n, .string v] 82 0 (.string n) rfl)); have hx1 : w1.cell? ⟨w.heap.size, 1, none⟩ = some (.string v) := (hb.cell (p := ⟨w.heap.size, 1, none⟩) (by simp; omega)).trans (cell_past _ _ _ _ (cell_new w #[.string n, .string v] 82 1 (.string v) rfl)); clear hbc hbf) | (go_at_call 59; refine Calls.mono (c2 _ _ ?_) ?_; (· (simp; done)); rintro e w1 ⟨rfl, hb⟩; obtain ⟨hbc, hbf⟩ := bcell hb))
    all_goals (go_wp2_with fail; go_ret; exact ⟨by first | rfl | (simp; done), (by repeat (first | assumption | exact Below.refl _ _ | apply below_drew | apply pw_below_drewN | apply below_alloc | (refine below_via (by assumption) ?_)))⟩)
  · go_enter Tryz.func53, Tryz.ntmps53
    go_wp2_with fail
    go_region_with (first | (go_at_call 29; refine (called_any _ _).mono ?_; rintro e w1 ⟨rfl, rfl⟩) | (go_at_call 59; refine Calls.mono (c1 _ _ ?_) ?_; (· (simp; done)); rintro e w1 ⟨rfl, hb⟩; obtain ⟨hbc, hbf⟩ := bcell hb; have hz : w.heap.size + 1 < w1.heap.size := (by have := hb.size; simp at this; omega); have hz' : w.heap.size < w1.heap.size := (by omega); have hx0 : w1.cell? ⟨w.heap.size, 0, none⟩ = some (.string n) := (hb.cell (p := ⟨w.heap.size, 0, none⟩) (by simp; omega)).trans (cell_past _ _ _ _ (cell_new w #[.string n, .string v] 82 0 (.string n) rfl)); have hx1 : w1.cell? ⟨w.heap.size, 1, none⟩ = some (.string v) := (hb.cell (p := ⟨w.heap.size, 1, none⟩) (by simp; omega)).trans (cell_past _ _ _ _ (cell_new w #[.string n, .string v] 82 1 (.string v) rfl)); clear hbc hbf) | (go_at_call 59; refine Calls.mono (c2 _ _ ?_) ?_; (· (simp; done)); rintro e w1 ⟨rfl, hb⟩; obtain ⟨hbc, hbf⟩ := bcell hb))
    all_goals (go_wp2_with fail; go_ret; exact ⟨by first | rfl | (simp; done), (by repeat (first | assumption | exact Below.refl _ _ | apply below_drew | apply pw_below_drewN | apply below_alloc | (refine below_via (by assumption) ?_)))⟩)
end Go.Proofs.YtaihnhhapplmbaaGreatDoor.Ht
