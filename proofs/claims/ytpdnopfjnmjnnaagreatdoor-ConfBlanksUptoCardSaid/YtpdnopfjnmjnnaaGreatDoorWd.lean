/- Plain laws: lines that say nothing are no matter to Parse; what it reads is no longer than may be. No program in sight. -/
import Derived.Test.YtpdnopfjnmjnnaaGreatDoorNy
import Derived.Test.YtpdnopfjnmjnnaaGreatDoorNx
set_option linter.unusedVariables false
set_option linter.unusedSimpArgs false
namespace Go.Proofs.YtpdnopfjnmjnnaaGreatDoor.Cz
open Go.Proofs Go.Proofs.YtpdnopfjnmjnnaaGreatDoor.Cn

theorem index_pos {c : UInt8} {r : List UInt8} : ∀ {x : List UInt8}, c ∉ x → Lib.index (x ++ c :: r) [c] = (x.length : Int)
  | [], _ => by
    unfold Lib.index
    simp
  | b :: x, h => by
    have hb : ¬ c = b := fun e => h (by rw [e]; exact List.mem_cons_self)
    have hx : c ∉ x := fun e => h (List.mem_cons_of_mem _ e)
    have ih := index_pos (r := r) hx
    rw [List.cons_append]
    unfold Lib.index
    rw [if_neg (by simp [hb]), ih, if_neg (by rw [beq_iff_eq]; omega), List.length_cons]
    omega
theorem cut_at {c : UInt8} {x r : List UInt8} (hx : c ∉ x) : Lib.cut (x ++ c :: r) [c] = (x, r, true) := by
  unfold Lib.cut
  rw [index_pos hx, if_pos (by omega), Int.toNat_natCast]
  simp
theorem cut_short (r : List UInt8) (h : r ≠ []) : (Lib.cut r [10]).2.1.length < r.length := by
  have : 0 < r.length := List.length_pos_iff.2 h
  unfold Lib.cut
  split <;> simp <;> omega
theorem go_succ (f : Nat) (n : Int) (s : List UInt8) : linesGo (f + 1) n s = if s.isEmpty then [] else lineOf n (Lib.cut s [10]).1 ++ linesGo f (n + 1) (Lib.cut s [10]).2.1 := rfl
theorem go_line (f : Nat) (n : Int) {t : List UInt8} (r : List UInt8) (h : (10 : UInt8) ∉ t) : linesGo (f + 1) n (t ++ 10 :: r) = lineOf n t ++ linesGo f (n + 1) r := by
  rw [go_succ, cut_at h, if_neg (by simp)]
theorem go_nil (f : Nat) (n : Int) : linesGo f n [] = [] := by
  cases f <;> rfl
theorem go_fuel : ∀ (f g : Nat) (n : Int) (s : List UInt8), s.length < f → s.length < g → linesGo f n s = linesGo g n s
  | 0, _, _, _, h, _ => absurd h (Nat.not_lt_zero _)
  | _, 0, _, _, _, h => absurd h (Nat.not_lt_zero _)
  | f + 1, g + 1, n, s, hf, hg => by
    rw [go_succ, go_succ]
    by_cases he : s = []
    · subst he; rfl
    · have := cut_short s he
      rw [go_fuel f g (n + 1) _ (by omega) (by omega)]
def shiftN (d : Int) (x : Ln) : Ln := ⟨x.indent, x.number + d, x.text⟩
theorem line_shift (d n : Int) (t : List UInt8) : lineOf (n + d) t = (lineOf n t).map (shiftN d) := by
  unfold lineOf
  split <;> rfl
theorem go_shift (d : Int) : ∀ (f : Nat) (n : Int) (s : List UInt8), linesGo f (n + d) s = (linesGo f n s).map (shiftN d)
  | 0, _, _ => rfl
  | f + 1, n, s => by
    rw [go_succ, go_succ]
    split
    · rfl
    · rw [List.map_append, line_shift, show n + d + 1 = n + 1 + d by omega, go_shift d f]
def errShift {α : Type} (d : Int) : Except (Int × Int) α → Except (Int × Int) α
  | .error y => .error (y.1, y.2 + d)
  | .ok s => .ok s
theorem fold_shift (d : Int) : ∀ (l : List Ln) (s : St), foldL (l.map (shiftN d)) s = errShift d (foldL l s)
  | [], s => rfl
  | x :: l, s => by
    rw [List.map_cons, foldL, foldL]
    have e : putL (shiftN d x).indent (shiftN d x).text s = putL x.indent x.text s := rfl
    rw [e]
    cases putL x.indent x.text s with
    | error y => rfl
    | ok s' => exact fold_shift d l s'
/-- Of a text whose lines are whole, and what follows it. -/
theorem go_app (r : List UInt8) : ∀ (k : Nat) (s : List UInt8) (f g : Nat) (n : Int), s.length ≤ k → (s = [] ∨ s.getLast? = some 10) → s.length < f → s.length + r.length < g → ∃ m : Int, linesGo g n (s ++ r) = linesGo f n s ++ linesGo g m r
  | k, s, f, g, n, hk, hs, hf, hg => by
    by_cases he : s = []
    · subst he
      exact ⟨n, by rw [go_nil]; rfl⟩
    · have hl : s.getLast? = some 10 := hs.resolve_left he
      have hm : (10 : UInt8) ∈ s := List.mem_of_getLast? hl
      obtain ⟨t, s', e, ht⟩ := List.eq_append_cons_of_mem hm
      subst e
      have hs' : s' = [] ∨ s'.getLast? = some 10 := by
        by_cases h0 : s' = []
        · exact .inl h0
        · right
          rw [show t ++ 10 :: s' = (t ++ [10]) ++ s' by simp, List.getLast?_append] at hl
          cases hg : s'.getLast? with
          | none => exact absurd (List.getLast?_eq_none_iff.1 hg) h0
          | some b => rw [hg] at hl; exact hl
      simp only [List.length_append, List.length_cons] at hk hf hg
      cases k with
      | zero => omega
      | succ k =>
        obtain ⟨m, hm⟩ := go_app r k s' (f - 1) (g - 1) (n + 1) (by omega) hs' (by omega) (by omega)
        obtain ⟨f, rfl⟩ : ∃ i, f = i + 1 := ⟨f - 1, by omega⟩
        obtain ⟨g, rfl⟩ : ∃ i, g = i + 1 := ⟨g - 1, by omega⟩
        refine ⟨m, ?_⟩
        rw [List.append_assoc, List.cons_append, go_line _ _ _ ht, go_line _ _ _ ht]
        simp only [Nat.add_sub_cancel] at hm
        rw [hm, List.append_assoc, go_fuel g (g + 1) m r (by omega) (by omega)]
theorem spaces_rep (k : Nat) (t : List UInt8) : spacesL (List.replicate k 32 ++ t) = spacesL t := by
  induction k with
  | zero => rfl
  | succ k ih =>
    rw [List.replicate_succ, List.cons_append]
    unfold spacesL Lib.trimLeftB at ih ⊢
    rw [List.dropWhile_cons_of_pos (by rfl)]
    exact ih
theorem line_none (n : Int) (t : List UInt8) (h : spacesL t = [] ∨ ∃ r, spacesL t = 35 :: r) : lineOf n t = [] := by
  unfold lineOf
  rcases h with h | ⟨r, h⟩ <;> rw [h] <;> rfl
def padL (k : Nat) : List UInt8 := List.replicate k 32
theorem pad_no (k : Nat) (t : List UInt8) (h : (10 : UInt8) ∉ t) : (10 : UInt8) ∉ padL k ++ t := by
  intro hm
  rcases List.mem_append.1 hm with hm | hm
  · have := List.eq_of_mem_replicate hm
    exact absurd this (by decide)
  · exact h hm
/-- Three lines that say nothing, ahead of a text. -/
def aheadL (k : Nat) (s : List UInt8) : List UInt8 := padL k ++ 10 :: ([35, 120, 58, 32, 121] ++ 10 :: (padL k ++ [35, 32, 122] ++ 10 :: s))
theorem ahead_lines (k : Nat) (s : List UInt8) : linesL (aheadL k s) = (linesL s).map (shiftN 3) := by
  have hl : (aheadL k s).length = s.length + (2 * k + 11) := by
    unfold aheadL padL
    simp
    omega
  unfold linesL
  rw [hl, show s.length + (2 * k + 11) + 1 = s.length + (2 * k + 9) + 1 + 1 + 1 by omega]
  unfold aheadL
  have h1 : (10 : UInt8) ∉ padL k := by have := pad_no k [] (by simp); rwa [List.append_nil] at this
  rw [go_line _ _ _ h1, go_line _ _ _ (by decide), go_line _ _ _ (pad_no k _ (by decide)), line_none, line_none, line_none]
  · rw [List.nil_append, List.nil_append, List.nil_append, go_fuel _ (s.length + 1) _ s (by omega) (by omega), show (1 : Int) + 1 + 1 + 1 = 1 + 3 by rfl, go_shift]
  · exact .inr ⟨[32, 122], by unfold padL; rw [spaces_rep]; rfl⟩
  · exact .inr ⟨[120, 58, 32, 121], rfl⟩
  · exact .inl (by have := spaces_rep k []; rw [List.append_nil] at this; unfold padL; rw [this]; rfl)
theorem parse_ahead (k : Nat) (s : List UInt8) (hs : s.length ≤ 8000) (hk : k ≤ 9) : parseL (aheadL k s) = errShift 3 (parseL s) := by
  have hl : (aheadL k s).length = s.length + (2 * k + 11) := by
    unfold aheadL padL
    simp
    omega
  unfold parseL
  rw [if_neg (by omega), if_neg (by omega), ahead_lines, fold_shift]
  cases foldL (linesL s) ⟨[], [], false⟩ with
  | error y => rfl
  | ok s => rfl
/-- .. behind it. -/
theorem parse_behind (k : Nat) (s : List UInt8) (hs : s.length ≤ 8000) (hk : k ≤ 9) (hz : s = [] ∨ s.getLast? = some 10) : parseL (s ++ (padL k ++ [10, 10, 35])) = parseL s := by
  have hp : (padL k).length = k := List.length_replicate
  have hl : (s ++ (padL k ++ [10, 10, 35])).length = s.length + (k + 3) := by
    simp [hp]
  have h1 : (10 : UInt8) ∉ padL k := by have := pad_no k [] (by simp); rwa [List.append_nil] at this
  have hL : linesL (s ++ (padL k ++ [10, 10, 35])) = linesL s := by
    unfold linesL
    rw [hl]
    have hc : Lib.cut [35] [10] = ([35], [], false) := by rfl
    obtain ⟨m, hm⟩ := go_app (padL k ++ [10, 10, 35]) s.length s (s.length + 1) (s.length + (k + 3) + 1) 1 (Nat.le_refl _) hz (by omega) (by simp [hp])
    have ht : linesGo (s.length + (k + 3) + 1) m (padL k ++ [10, 10, 35]) = [] := by
      rw [show s.length + (k + 3) + 1 = s.length + k + 1 + 1 + 1 + 1 by omega, go_line _ _ _ h1, show ([10, 35] : List UInt8) = [] ++ 10 :: [35] from rfl, go_line _ _ _ (by simp), go_succ, hc, line_none _ _ (.inl (by have := spaces_rep k []; rw [List.append_nil] at this; unfold padL; rw [this]; rfl)), line_none _ [] (.inl rfl), line_none _ [35] (.inr ⟨[], rfl⟩), go_nil]
      rfl
    rw [hm, ht, List.append_nil]
  unfold parseL
  rw [if_neg (by omega), if_neg (by omega), hL]

/-! What is read is no longer than may be. -/
def FitC (l : List Kn) : Prop := (∀ y ∈ l, Fit y) ∧ l.length ≤ 256
def FitS (p : List Lv) : Prop := ∀ v ∈ p, (∀ y ∈ v.sibs, Fit y) ∧ v.sibs.length ≤ 255
theorem fit_shut (k : ByteArray) {l : List Kn} (h : FitC l) : Fit (shutK k l) := Fit.mk _ (by simp [shutK]) (by have := h.2; simp [shutK]; omega) h.1
theorem fit_snoc {l : List Kn} {y : Kn} (h : ∀ y ∈ l, Fit y) (hl : l.length ≤ 255) (hy : Fit y) : FitC (l ++ [y]) := by
  refine ⟨fun z hz => ?_, by simp; omega⟩
  rcases List.mem_append.1 hz with hz | hz
  · exact h z hz
  · rw [List.mem_singleton.1 hz]; exact hy
theorem fit_pop (i : Int) : ∀ (p : List Lv) (c : List Kn) (p' : List Lv) (c' : List Kn), FitS p → FitC c → popTo i p c = some (p', c') → FitS p' ∧ FitC c'
  | [], c, p', c', hp, hc, h => by
    unfold popTo at h
    split at h
    · cases h; exact ⟨hp, hc⟩
    · cases h
  | x :: p, c, p', c', hp, hc, h => by
    unfold popTo at h
    split at h
    · cases h; exact ⟨hp, hc⟩
    · have hx := hp x List.mem_cons_self
      exact fit_pop i p _ p' c' (fun v hv => hp v (List.mem_cons_of_mem _ hv)) (fit_snoc hx.1 hx.2 (fit_shut _ hc)) h
theorem fit_place (i : Int) (s : St) {p' : List Lv} {c' : List Kn} (hp : FitS s.path) (hc : FitC s.cur) (h : placeL i s = some (p', c')) : FitS p' ∧ FitC c' := by
  unfold placeL at h
  split at h
  · cases h
    refine ⟨fun v hv => ?_, fun y hy => absurd hy List.not_mem_nil, by simp⟩
    rcases List.mem_cons.1 hv with rfl | hv
    · exact ⟨fun y hy => hc.1 y (List.dropLast_subset _ hy), by have := hc.2; simp; omega⟩
    · exact hp v hv
  · exact fit_pop i _ _ _ _ hp hc h
theorem fit_put (i : Int) (t : List UInt8) (s s' : St) (hp : FitS s.path) (hc : FitC s.cur) (h : putL i t s = .ok s') : FitS s'.path ∧ FitC s'.cur := by
  unfold putL at h
  split at h
  · cases h
  · rename_i k v _
    split at h
    · cases h
    · rename_i path cur hpl
      obtain ⟨h1, h2⟩ := fit_place i s hp hc hpl
      have key : ∀ has : Bool, (if !(has || decide (path.length + 1 ≤ 8)) then Except.error 11 else if !longK (leaf k v) then .error 4 else if 256 < (leaf k v).f3.length then .error 3 else if cur.any (fun y => y.f0.data.toList == (leaf k v).f0.data.toList) then .error 15 else if 256 ≤ cur.length then .error 3 else .ok (⟨path, cur ++ [leaf k v], !has⟩ : St)) = (Except.ok s' : Except Int St) → FitS s'.path ∧ FitC s'.cur := by
        intro has h
        by_cases g1 : (!(has || decide (path.length + 1 ≤ 8))) = true
        · rw [if_pos g1] at h; cases h
        rw [if_neg g1] at h
        by_cases g2 : (!longK (leaf k v)) = true
        · rw [if_pos g2] at h; cases h
        rw [if_neg g2] at h
        by_cases g3 : 256 < (leaf k v).f3.length
        · rw [if_pos g3] at h; cases h
        rw [if_neg g3] at h
        by_cases g4 : cur.any (fun y => y.f0.data.toList == (leaf k v).f0.data.toList) = true
        · rw [if_pos g4] at h; cases h
        rw [if_neg g4] at h
        by_cases g5 : 256 ≤ cur.length
        · rw [if_pos g5] at h; cases h
        rw [if_neg g5] at h
        cases h
        refine ⟨h1, fit_snoc h2.1 (by omega) (Fit.mk _ (by omega) (by cases v <;> simp [leaf]) (fun y hy => ?_))⟩
        cases v <;> exact absurd hy List.not_mem_nil
      cases v <;> exact key _ h
theorem fit_fold : ∀ (l : List Ln) (s s' : St), FitS s.path → FitC s.cur → foldL l s = .ok s' → FitS s'.path ∧ FitC s'.cur
  | [], s, s', hp, hc, h => by cases h; exact ⟨hp, hc⟩
  | x :: l, s, s', hp, hc, h => by
    rw [foldL] at h
    split at h
    · cases h
    · rename_i s1 h1
      obtain ⟨a, b⟩ := fit_put _ _ _ _ hp hc h1
      exact fit_fold l s1 s' a b h
theorem fit_shutAll : ∀ (p : List Lv) (c : List Kn), FitS p → FitC c → FitC (shutAll p c)
  | [], c, _, hc => hc
  | x :: p, c, hp, hc => by
    have hx := hp x List.mem_cons_self
    exact fit_shutAll p _ (fun v hv => hp v (List.mem_cons_of_mem _ hv)) (fit_snoc hx.1 hx.2 (fit_shut _ hc))
theorem parse_fit {s : List UInt8} {l : List Kn} (h : parseL s = .ok l) : FitC l := by
  unfold parseL at h
  split at h
  · cases h
  · split at h
    · cases h
    · rename_i s' h1
      cases h
      obtain ⟨a, b⟩ := fit_fold _ _ _ (fun v hv => absurd hv List.not_mem_nil) ⟨fun y hy => absurd hy List.not_mem_nil, by simp⟩ h1
      exact fit_shutAll _ _ a b
end Go.Proofs.YtpdnopfjnmjnnaaGreatDoor.Cz
