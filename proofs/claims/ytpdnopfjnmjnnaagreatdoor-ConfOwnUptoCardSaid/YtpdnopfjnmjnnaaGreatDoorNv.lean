/- Package conf: slices.Clone of keys and of texts. -/
import Derived.Test.YtpdnopfjnmjnnaaGreatDoorNm
import Derived.Lib.SliceRun
set_option linter.unusedVariables false
set_option linter.unusedSimpArgs false
namespace Go.Proofs.YtpdnopfjnmjnnaaGreatDoor.Cn
open Go.Sort Go.RowKit Go.Proofs Go.Proofs.YtpdnopfjnmjnnaaGreatDoorW.PrintWords Go.Proofs.YtpdnopfjnmjnnaaGreatDoor.Bs Go.Proofs.YtpdnopfjnmjnnaaGreatDoor.Ir Go.Proofs.YtpdnopfjnmjnnaaGreatDoor.Cz

theorem Tu_texts : Tryz.prog.underlying 29 = some (.slice 9) := by kernel_rfl
theorem reps_one {α : Type} {R : α → List Value → Prop} {size : Nat} {xs : List α} {inner : List Value} (h1 : ∀ x cs, R x cs → ∀ u ∈ cs, u.oneCell' = true) (h2 : ∀ x cs, R x cs → cs.length = size) (h : Reps R size xs inner) : ∀ u ∈ inner, u.oneCell' = true := by
  intro u hu
  obtain ⟨j, hj, rfl⟩ := List.getElem_of_mem hu
  rcases Nat.eq_zero_or_pos size with h0 | h0
  · have := h.1
    rw [h0, Nat.mul_zero] at this
    omega
  · have hlt : j / size < xs.length := by
      have := h.1
      rw [Nat.div_lt_iff_lt_mul h0]
      omega
    have hr := h.2 (j / size) _ (List.getElem?_eq_getElem hlt)
    refine h1 _ _ hr _ ?_
    have hm := Nat.div_add_mod j size
    rw [Nat.mul_comm] at hm
    refine List.mem_iff_getElem?.2 ⟨j % size, ?_⟩
    rw [List.getElem?_take, if_pos (Nat.mod_lt j h0), List.getElem?_drop, hm]
    exact List.getElem?_eq_getElem hj

set_option maxRecDepth 100000 in
set_option maxHeartbeats 1000000 in
theorem clone_K (R : Kn → List Value → Prop) (h1 : ∀ x cs, R x cs → ∀ u ∈ cs, u.oneCell' = true) (h2 : ∀ x cs, R x cs → cs.length = 5) (A : Option Addr) (c : Nat) (xs : List Kn) (w : World) (hl : xs.length ≤ 1073741824) (hC : ReadsRow R 5 w A xs.length xs) :
    Calls Tryz.prog 57 #[.slice A xs.length c] w fun e w' => ∃ v inner, e = .returned v ∧ w'.ownsRow w.heap.size 44 5 v xs.length inner ∧ Reps R 5 xs inner ∧ Below w.heap.size w w' := by
  have heq := Lib.run_eql_slice_nil (P := Tryz.prog) w 30 44 A xs.length c 0 0 Tu_keys
  cases A with
  | none =>
    have hnil : xs = [] := by
      cases xs with
      | nil => rfl
      | cons x l =>
        obtain ⟨ad, e, _⟩ := hC.2.2 (by simp)
        cases e
    subst hnil
    clear hC heq
    have heq := Lib.run_eql_slice_nil (P := Tryz.prog) w 30 44 none 0 c 0 0 Tu_keys
    go_enter Tryz.func57, Tryz.ntmps57
    go_wp2_with fail
    go_ret
    exact ⟨_, [], rfl, own_nil _ _ _ _, Reps.none _ _, Below.refl _ _⟩
  | some ad =>
    obtain ⟨inner, hr, hat⟩ := ReadsRow.inner_ hC
    have hone : ∀ u ∈ inner, u.oneCell' = true := reps_one h1 h2 hr
    have hlen : inner.length = xs.length * 5 := hr.1
    have HR := Lib.hid (And.intro hr (And.intro hat (And.intro hone hlen)))
    clear hC hr hat hone hlen h1 h2
    obtain ⟨i0, hi, hz0, hz1, hz2⟩ := info_parts inK
    go_enter Tryz.func57, Tryz.ntmps57
    go_wp2_with (at_builtin; refine wpList_append_own _ rfl (.tmp 5) (.tmp 6) 30 rfl w.heap.size 44 i0 (.agg #[.string ⟨#[]⟩, .int .u8 0, .string ⟨#[]⟩, .slice none 0 0, .slice none 0 0]) 5 88 Tu_keys hi hz0 hz1 hz2 rfl (by decide) _ 0 [] rfl ?c0 ad xs.length c inner rfl ?c6 ?c1 ?c2 ?c3 ?c4 ?c5 ?_)
    case c0 => exact World.ownsRow_made w #[] 0 (Nat.le_refl _) (by unfold maxLen; omega) rfl
    case c6 => exact HR.out.2.2.2
    case c1 => exact fun j u hj => cell_past _ _ _ _ (HR.out.2.1 j u hj)
    case c2 => exact HR.out.2.2.1
    case c3 => unfold maxLen; omega
    case c4 => omega
    case c5 => simp
    intro v' w1 hown hgrow _
    have hbel : Below w.heap.size w w1 := (below_alloc (Below.refl _ _) _).grown hgrow (by simp) (fun k hk => by
      simp only [Value.ownBlock, Option.some.injEq] at hk
      omega)
    have hown2 : w1.ownsRow w.heap.size 44 5 v' xs.length inner := by simpa using hown
    have HX := Lib.hid (And.intro hown2 hbel)
    clear hown hgrow heq hown2 hbel
    go_wp2_with fail
    go_ret
    exact ⟨v', inner, rfl, HX.out.1, HR.out.1, HX.out.2⟩

set_option maxRecDepth 100000 in
set_option maxHeartbeats 1000000 in
theorem clone_S (R : ByteArray → List Value → Prop) (h1 : ∀ x cs, R x cs → ∀ u ∈ cs, u.oneCell' = true) (h2 : ∀ x cs, R x cs → cs.length = 1) (A : Option Addr) (c : Nat) (xs : List ByteArray) (w : World) (hl : xs.length ≤ 1073741824) (hC : ReadsRow R 1 w A xs.length xs) :
    Calls Tryz.prog 56 #[.slice A xs.length c] w fun e w' => ∃ v inner, e = .returned v ∧ w'.ownsRow w.heap.size 9 1 v xs.length inner ∧ Reps R 1 xs inner ∧ Below w.heap.size w w' := by
  have heq := Lib.run_eql_slice_nil (P := Tryz.prog) w 29 9 A xs.length c 0 0 Tu_texts
  cases A with
  | none =>
    have hnil : xs = [] := by
      cases xs with
      | nil => rfl
      | cons x l =>
        obtain ⟨ad, e, _⟩ := hC.2.2 (by simp)
        cases e
    subst hnil
    clear hC heq
    have heq := Lib.run_eql_slice_nil (P := Tryz.prog) w 29 9 none 0 c 0 0 Tu_texts
    go_enter Tryz.func56, Tryz.ntmps56
    go_wp2_with fail
    go_ret
    exact ⟨_, [], rfl, own_nil _ _ _ _, Reps.none _ _, Below.refl _ _⟩
  | some ad =>
    obtain ⟨inner, hr, hat⟩ := ReadsRow.inner_ hC
    have hone : ∀ u ∈ inner, u.oneCell' = true := reps_one h1 h2 hr
    have hlen : inner.length = xs.length * 1 := hr.1
    have HR := Lib.hid (And.intro hr (And.intro hat (And.intro hone hlen)))
    clear hC hr hat hone hlen h1 h2
    obtain ⟨i0, hi, hz0, hz1, hz2⟩ := info_parts inS
    go_enter Tryz.func56, Tryz.ntmps56
    go_wp2_with (at_builtin; refine wpList_append_own _ rfl (.tmp 5) (.tmp 6) 29 rfl w.heap.size 9 i0 (.string ⟨#[]⟩) 1 16 Tu_texts hi hz0 hz1 hz2 rfl (by decide) _ 0 [] rfl ?c0 ad xs.length c inner rfl ?c6 ?c1 ?c2 ?c3 ?c4 ?c5 ?_)
    case c0 => exact World.ownsRow_made w #[] 0 (Nat.le_refl _) (by unfold maxLen; omega) rfl
    case c6 => exact HR.out.2.2.2
    case c1 => exact fun j u hj => cell_past _ _ _ _ (HR.out.2.1 j u hj)
    case c2 => exact HR.out.2.2.1
    case c3 => unfold maxLen; omega
    case c4 => omega
    case c5 => simp
    intro v' w1 hown hgrow _
    have hbel : Below w.heap.size w w1 := (below_alloc (Below.refl _ _) _).grown hgrow (by simp) (fun k hk => by
      simp only [Value.ownBlock, Option.some.injEq] at hk
      omega)
    have hown2 : w1.ownsRow w.heap.size 9 1 v' xs.length inner := by simpa using hown
    have HX := Lib.hid (And.intro hown2 hbel)
    clear hown hgrow heq hown2 hbel
    go_wp2_with fail
    go_ret
    exact ⟨v', inner, rfl, HX.out.1, HR.out.1, HX.out.2⟩
end Go.Proofs.YtpdnopfjnmjnnaaGreatDoor.Cn
