/- Package conf: shown. -/
import Derived.Test.YtpdnopfjnmjnnaaGreatDoorVi
set_option linter.unusedVariables false
set_option linter.unusedSimpArgs false
namespace Go.Proofs.YtpdnopfjnmjnnaaGreatDoor.Cn
open Go.Sort Go.RowKit Go.Proofs Go.Proofs.YtpdnopfjnmjnnaaGreatDoorW.PrintWords Go.Proofs.YtpdnopfjnmjnnaaGreatDoor.Bs Go.Proofs.YtpdnopfjnmjnnaaGreatDoor.Ir Go.Proofs.YtpdnopfjnmjnnaaGreatDoor.Cz

theorem rT_new (w : World) : Kd.string.C (w.alloc (.cells #[.string ⟨#[92]⟩, .string ⟨#[92, 92]⟩, .string ⟨#[34]⟩, .string ⟨#[92, 34]⟩, .string ⟨#[10]⟩, .string ⟨#[92, 110]⟩, .string ⟨#[9]⟩, .string ⟨#[92, 116]⟩] 9)) (some ⟨w.heap.size, 0, none⟩) 8 rT := by
  have hn := heap_alloc_new w (.cells #[.string ⟨#[92]⟩, .string ⟨#[92, 92]⟩, .string ⟨#[34]⟩, .string ⟨#[92, 34]⟩, .string ⟨#[10]⟩, .string ⟨#[92, 110]⟩, .string ⟨#[9]⟩, .string ⟨#[92, 116]⟩] 9)
  refine ⟨rfl, by decide, fun _ => ⟨_, rfl, fun j p hp => ⟨[.string p], rfl, rfl, fun i u hu => ?_⟩⟩⟩
  have hi : i = 0 := by
    have := (List.getElem?_eq_some_iff.1 hu).1
    simp at this
    exact this
  subst hi
  have e : j * Kd.string.sz + 0 = j := Nat.mul_one j
  rw [e, add_plain]
  have hu' : u = .string p := by simpa using hu.symm
  subst hu'
  have hj : j < 8 := (List.getElem?_eq_some_iff.1 hp).1
  refine (blk_cell hn j).trans ?_
  match j, hj, hp with
  | 0, _, hp => injection hp with hp; rw [← hp]; rfl
  | 1, _, hp => injection hp with hp; rw [← hp]; rfl
  | 2, _, hp => injection hp with hp; rw [← hp]; rfl
  | 3, _, hp => injection hp with hp; rw [← hp]; rfl
  | 4, _, hp => injection hp with hp; rw [← hp]; rfl
  | 5, _, hp => injection hp with hp; rw [← hp]; rfl
  | 6, _, hp => injection hp with hp; rw [← hp]; rfl
  | 7, _, hp => injection hp with hp; rw [← hp]; rfl
def quoB (s : ByteArray) : ByteArray := ⟨#[34]⟩ ++ s ++ ⟨#[34]⟩
set_option maxRecDepth 100000 in
theorem shown_any (g : Nat) (eg : ∀ args w, (callFunc g args).run Tryz.prog w = .ok (.enter g args) w) (p : Bool) (s : ByteArray) (w : World) (hp : Calls Tryz.prog g #[.string s] w fun e w' => e = .returned (.bool p) ∧ Below w.heap.size w w') (hok : p = true ∨ s.size < 32 ∧ ∀ b ∈ s.data.toList, spB b = false) :
    Calls Tryz.prog 39 #[.string s, .func (.func g) #[] #[]] w fun e w' => e = .returned (.string (if p then s else quoB s)) ∧ Below w.heap.size w w' := by
  cases p
  case true =>
    go_enter Tryz.func39, Tryz.ntmps39
    go_wp2_with (go_at_fn g; refine hp.mono ?_; rintro e w1 ⟨rfl, hb1⟩)
    go_ret
    exact ⟨rfl, hb1⟩
  case false =>
    have hok' : s.size < 32 ∧ ∀ b ∈ s.data.toList, spB b = false := by
      rcases hok with h | h
      · cases h
      · exact h
    have HOK := Lib.hid hok'
    have hsz : s.size < 32 := hok'.1
    clear hok hok'
    go_enter Tryz.func39, Tryz.ntmps39
    go_wp2_with (go_at_fn g; refine hp.mono ?_; rintro e w1 ⟨rfl, hb1⟩)
    have hba : Below w.heap.size w (w1.alloc (.cells #[.string ⟨#[92]⟩, .string ⟨#[92, 92]⟩, .string ⟨#[34]⟩, .string ⟨#[92, 34]⟩, .string ⟨#[10]⟩, .string ⟨#[92, 110]⟩, .string ⟨#[9]⟩, .string ⟨#[92, 116]⟩] 9)) := below_alloc hb1 _
    have hn := newReplacer_any w1.heap.size _ (rT_new w1)
    generalize w1.alloc (.cells #[.string ⟨#[92]⟩, .string ⟨#[92, 92]⟩, .string ⟨#[34]⟩, .string ⟨#[92, 34]⟩, .string ⟨#[10]⟩, .string ⟨#[92, 110]⟩, .string ⟨#[9]⟩, .string ⟨#[92, 116]⟩] 9) = w2 at *
    refine hn.mono ?_
    rintro e w3 ⟨rp, ab, c, rfl, h3, hC3, hne, hge, hb3⟩
    have hr := replace_same rp ab c w2.heap.size s w3 h3 hC3 hge hne HOK.out.1 HOK.out.2
    have HB3 := Lib.hid (hba.trans (hb3.mono hba.size))
    have HSZ := Lib.hid hba.size
    clear hn h3 hC3 hb3 hba
    go_wp2_with fail
    refine hr.mono ?_
    rintro e w4 ⟨rfl, hb4⟩
    have HB4 := Lib.hid (HB3.out.trans (hb4.mono HSZ.out))
    clear hr hb4
    go_wp2_with fail
    all_goals trace_state
    go_ret
    exact ⟨rfl, HB4.out⟩
end Go.Proofs.YtpdnopfjnmjnnaaGreatDoor.Cn
