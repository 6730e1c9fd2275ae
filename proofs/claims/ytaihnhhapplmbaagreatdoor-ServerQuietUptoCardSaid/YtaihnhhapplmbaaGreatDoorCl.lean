/- slices.Clone of heads. -/
import Derived.Test.YtaihnhhapplmbaaGreatDoorHs
import Derived.Lib.SliceRun
set_option linter.unusedVariables false
set_option linter.unusedSimpArgs false
namespace Go.Proofs.YtaihnhhapplmbaaGreatDoor.Ht
open Go.Sort Go.RowKit Go.Proofs Go.Proofs.YtaihnhhapplmbaaGreatDoorW.PrintWords Go.Proofs.YtaihnhhapplmbaaGreatDoor.Bs Go.Proofs.YtaihnhhapplmbaaGreatDoor.Ir

theorem Tu_heads : Tryz.prog.underlying 49 = some (.slice 82) := by kernel_rfl
theorem inH : (Tryz.prog.info? 82).map (fun i => (i.zero, i.size, i.bytes)) = some (some (.agg #[.string ⟨#[]⟩, .string ⟨#[]⟩]), 2, 32) := by kernel_rfl
/-- the cells of some heads -/
def cellsH (l : List Head) : List Value := l.flatMap fun h => [.string h.name, .string h.value]
theorem cellsH_length (l : List Head) : (cellsH l).length = l.length * 2 := by
  induction l with
  | nil => rfl
  | cons h l ih => simp [cellsH] at ih ⊢; omega
theorem cellsH_get (l : List Head) : ∀ (j : Nat) (u : Value), (cellsH l)[j]? = some u → ∃ i, ∃ hi : i < l.length, (j = i * 2 ∧ u = .string l[i].name) ∨ (j = i * 2 + 1 ∧ u = .string l[i].value) := by
  induction l with
  | nil => intro j u h; simp [cellsH] at h
  | cons x l ih =>
    intro j u h
    match j, h with
    | 0, h => exact ⟨0, by simp, .inl ⟨rfl, by simpa [cellsH] using h.symm⟩⟩
    | 1, h => exact ⟨0, by simp, .inr ⟨rfl, by simpa [cellsH] using h.symm⟩⟩
    | j + 2, h =>
      obtain ⟨i, hi, hh⟩ := ih j u (by simpa [cellsH] using h)
      refine ⟨i + 1, by simp; omega, ?_⟩
      rcases hh with ⟨rfl, rfl⟩ | ⟨rfl, rfl⟩
      · exact .inl ⟨by omega, rfl⟩
      · exact .inr ⟨by omega, rfl⟩
theorem cellsH_one (l : List Head) : ∀ u ∈ cellsH l, u.oneCell' = true := by
  intro u hu
  simp only [cellsH, List.mem_flatMap] at hu
  obtain ⟨h, _, hu⟩ := hu
  simp only [List.mem_cons, List.not_mem_nil, or_false] at hu
  rcases hu with rfl | rfl <;> rfl
theorem cellsH_reps (R : Head → List Value → Prop) (hR : ∀ h, R h [.string h.name, .string h.value]) (l : List Head) : Reps R 2 l (cellsH l) := by
  refine ⟨cellsH_length l, ?_⟩
  induction l with
  | nil => intro j p h; simp at h
  | cons x l ih =>
    intro j p h
    match j, h with
    | 0, h =>
      have : x = p := by simpa using h
      subst this
      simpa [cellsH] using hR x
    | j + 1, h =>
      have := ih j p (by simpa using h)
      rw [show (j + 1) * 2 = j * 2 + 2 from by omega]
      simpa [cellsH] using this
theorem cellsH_at {w : World} {ad : Addr} {n : Nat} {l : List Head} (h : Kd.C kH w (some ad) n l) : ∀ j u, (cellsH l)[j]? = some u → w.cell? (ad.add j) = some u := by
  intro j u hj
  obtain ⟨i, hi, hh⟩ := cellsH_get l j u hj
  have hn : l.length = n := h.1
  obtain ⟨ad', e, h0, h1⟩ := at_H h i (by omega)
  obtain rfl := Option.some.inj e
  have hx : l.getD i zH = l[i] := by simp [List.getElem?_eq_getElem hi]
  rw [hx] at h0 h1
  rcases hh with ⟨rfl, rfl⟩ | ⟨rfl, rfl⟩
  · exact h0
  · rw [add_field _ _ 1 (by omega)]; exact h1

set_option maxRecDepth 100000 in
set_option maxHeartbeats 1000000 in
theorem clone_H (A : Option Addr) (c : Nat) (l : List Head) (w : World) (hl : l.length ≤ 1073741824) (hC : Kd.C kH w A l.length l) :
    Calls Tryz.prog 57 #[.slice A l.length c] w fun e w' => ∃ v, e = .returned v ∧ Kd.R kH 82 w' w.heap.size (fun _ => True) v l ∧ Below w.heap.size w w' := by
  have heq := Lib.run_eql_slice_nil (P := Tryz.prog) w 49 82 A l.length c 0 0 Tu_heads
  cases A with
  | none =>
    have hnil : l = [] := by
      cases l with
      | nil => rfl
      | cons x l =>
        obtain ⟨ad, e, _⟩ := at_H hC 0 (by simp)
        cases e
    subst hnil
    clear hC heq
    have heq := Lib.run_eql_slice_nil (P := Tryz.prog) w 49 82 none 0 c 0 0 Tu_heads
    go_enter Tryz.func57, Tryz.ntmps57
    go_wp2_with fail
    go_ret
    exact ⟨_, rfl, Kd.R_nil _ _ _ _ _, Below.refl _ _⟩
  | some ad =>
    have HC := Lib.hid hC
    clear hC
    obtain ⟨i0, hi, hz0, hz1, hz2⟩ := info_parts inH
    go_enter Tryz.func57, Tryz.ntmps57
    go_wp2_with (at_builtin; refine wpList_append_own _ rfl (.tmp 5) (.tmp 6) 49 rfl w.heap.size 82 i0 (.agg #[.string ⟨#[]⟩, .string ⟨#[]⟩]) 2 32 Tu_heads hi hz0 hz1 hz2 rfl (by decide) _ 0 [] rfl ?c0 ad l.length c (cellsH l) rfl ?c6 ?c1 ?c2 ?c3 ?c4 ?c5 ?_)
    case c0 => exact World.ownsRow_made w #[] 0 (Nat.le_refl _) (by unfold maxLen; omega) rfl
    case c6 => exact cellsH_length l
    case c1 => exact fun j u hj => cell_past _ _ _ _ (cellsH_at HC.out j u hj)
    case c2 => exact cellsH_one l
    case c3 => unfold maxLen; omega
    case c4 => omega
    case c5 => simp
    intro v' w1 hown hgrow _
    have hbel : Below w.heap.size w w1 := (below_alloc (Below.refl _ _) _).grown hgrow (by simp) (fun k hk => by
      simp only [Value.ownBlock, Option.some.injEq] at hk
      omega)
    have hown2 : w1.ownsRow w.heap.size 82 2 v' l.length (cellsH l) := by simpa using hown
    clear hown hgrow heq
    go_wp2_with fail
    go_ret
    exact ⟨v', rfl, ⟨fun _ _ => trivial, cellsH l, hown2, cellsH_reps _ (fun h => kH_mkM _ _ _ h) l⟩, hbel⟩
end Go.Proofs.YtaihnhhapplmbaaGreatDoor.Ht
