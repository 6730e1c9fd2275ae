/- HttpMost: the walk. -/
import Derived.Test.YtjbehnalmgcbpaaGreatDoorLb
import Derived.Test.YtjbehnalmgcbpaaGreatDoorBk
set_option linter.unusedVariables false
set_option linter.unusedSimpArgs false
namespace Go.Proofs.YtjbehnalmgcbpaaGreatDoor.Ht
open Go.Sort Go.RowKit Go.Proofs Go.Proofs.YtjbehnalmgcbpaaGreatDoorW.PrintWords Go.Proofs.YtjbehnalmgcbpaaGreatDoor.Bs Go.Proofs.YtjbehnalmgcbpaaGreatDoor.Ir Go.Proofs.YtjbehnalmgcbpaaGreatDoor.Gn

theorem message_size {first : ByteArray} {l : List Head} {b : ByteArray} (hr : rightB l b = true) (hf : first.size ≤ 4096) : (messageB first l b).size ≤ 1000000 := by
  have hs := rightB_spec hr
  have hk : ∀ L : List Head, (∀ h ∈ L, HGood h) → (L.flatMap lineL).length ≤ L.length * 4098 := by
    intro L
    induction L with
    | nil => simp
    | cons x L ih =>
      intro h
      have h1 := (h x (by simp)).2.2
      have h2 := ih (fun y hy => h y (by simp [hy]))
      have e1 : x.name.data.toList.length = x.name.size := rfl
      have e2 : x.value.data.toList.length = x.value.size := rfl
      rw [List.flatMap_cons, List.length_append, List.length_cons]
      have : (lineL x).length = x.name.size + 2 + x.value.size + 2 := by unfold lineL; simp only [List.length_append, e1, e2, List.length_cons, List.length_nil]
      omega
  have hL := hk (allH l b) (fun x hx => by
    rcases List.mem_append.1 hx with hx | hx
    · exact (hs.2.2 x hx).1
    · rw [List.mem_singleton.1 hx]
      exact clH_good b hs.2.1)
  have hl : (allH l b).length ≤ 65 := by unfold allH; rw [List.length_append, List.length_singleton]; omega
  show (messageL first l b).toArray.size ≤ _
  have e1 : first.data.toList.length = first.size := rfl
  have e2 : b.data.toList.length = b.size := rfl
  simp only [List.size_toArray, messageL, List.length_append, e1, e2, List.length_cons, List.length_nil]
  have : (allH l b).length * 4098 ≤ 65 * 4098 := Nat.mul_le_mul_right _ hl
  omega
theorem reqOk_right {m t : ByteArray} {l : List Head} {b : ByteArray} (h : reqOk m t l b = true) : rightB l b = true ∧ (firstB m t).size ≤ 4096 := by
  simp only [reqOk, Bool.and_eq_true, decide_eq_true_eq] at h
  exact ⟨h.2, h.1.2⟩
set_option maxRecDepth 100000 in
set_option maxHeartbeats 4000000 in
theorem httpMost_any (body : ByteArray) (most : Int) (w : World) (G : Gnd w) (hs : body.size ≤ 1048576) :
    Calls Tryz.prog 6 #[.string body, .int .i64 most] w fun e w' => e = .returned (.bool true) ∧ Below w.heap.size w w' := by
  have hlv := lives_any w G
  have hwr := fun W (hb : Below w.heap.size w W) => writeRequest_any ⟨#[80, 79, 83, 84]⟩ ⟨#[47]⟩ none 0 [] body W (G.below hb) (by decide) (by decide) (by decide) (Kd.C_nil kH W) (by simp)
  simp only [List.length_nil] at hwr
  have hpw := post_write body
  have HG := Lib.hid G
  clear G
  by_cases h6 : body.size ≤ 65536
  · have hok : reqOk ⟨#[80, 79, 83, 84]⟩ ⟨#[47]⟩ [] body = true := by rw [hpw]; exact decide_eq_true h6
    have hmz := message_size (reqOk_right hok).1 (reqOk_right hok).2
    have hbk := fun h0 h1 => req_back hok ⟨#[]⟩ most h0 h1
    rw [append_empty] at hbk
    unfold writeReq at hwr
    rw [if_pos hok] at hwr
    clear hpw hok
    generalize messageB (firstB ⟨#[80, 79, 83, 84]⟩ ⟨#[47]⟩) [] body = msg at *
    by_cases hm : 0 ≤ most ∧ most ≤ 65536
    · obtain ⟨hm0, hm1⟩ := hm
      have hbk1 := hbk hm0 hm1
      clear hbk
      by_cases hbm : (body.size : Int) ≤ most
      · rw [if_pos hbm] at hbk1
        have c1 := fun W (hb : Below w.heap.size w W) => rr_ok hbk1 W (HG.out.below hb) (by omega)
        have hse := str_eq body body
        rw [decide_eq_true rfl] at hse
        have hsame := fun A c W (h0 : Kd.C kH W A 0 []) => sameHeads_any A none c 0 [] [] W h0 (Kd.C_nil kH W) (by decide) (by decide)
        simp only [List.length_nil] at hsame c1
        simp only [decide_true] at hsame
        have d1 : decide (most < 0) = false := by simp; omega
        have d2 : decide (65536 < most) = false := by simp; omega
        have d3 : decide (most < (body.size : Int)) = false := by simp; omega
        clear hbk1
        go_enter Tryz.func6, Tryz.ntmps6
        go_wp2_with (first
          | (go_at_call 10; (with_reducible refine hlv.mono ?_); rintro e w1 ⟨rfl, hb1⟩)
          | (go_at_call 14; (with_reducible refine (hwr _ (by repeat (first | assumption | exact Below.refl _ _ | apply below_drew | apply pw_below_drewN | apply below_alloc | (refine below_via (by assumption) ?_)))).mono ?_); rintro e w2 ⟨rfl, hb2⟩)
          | (go_at_call 11; (with_reducible refine (c1 _ (by repeat (first | assumption | exact Below.refl _ _ | apply below_drew | apply pw_below_drewN | apply below_alloc | (refine below_via (by assumption) ?_)))).mono ?_); rintro e w3 ⟨A, c, rfl, hC3, hb3⟩)
          | (go_at_call 18; refine (hsame _ _ _ (Kd.C_below hC3.out (by repeat (first | assumption | exact Below.refl _ _ | apply below_drew | apply pw_below_drewN | apply below_alloc | (refine below_via (by assumption) ?_))))).mono ?_; rintro e w4 ⟨rfl, hb4⟩))
        all_goals (go_ret; exact ⟨rfl, (by repeat (first | assumption | exact Below.refl _ _ | apply below_drew | apply pw_below_drewN | apply below_alloc | (refine below_via (by assumption) ?_)))⟩)
      · rw [if_neg hbm] at hbk1
        have c1 := fun W (hb : Below w.heap.size w W) => rr_err hbk1 W (HG.out.below hb) (by omega)
        have d1 : decide (most < 0) = false := by simp; omega
        have d2 : decide (65536 < most) = false := by simp; omega
        have d3 : decide (most < (body.size : Int)) = true := by simp; omega
        clear hbk1
        go_enter Tryz.func6, Tryz.ntmps6
        go_wp2_with (first
          | (go_at_call 10; (with_reducible refine hlv.mono ?_); rintro e w1 ⟨rfl, hb1⟩)
          | (go_at_call 14; (with_reducible refine (hwr _ (by repeat (first | assumption | exact Below.refl _ _ | apply below_drew | apply pw_below_drewN | apply below_alloc | (refine below_via (by assumption) ?_)))).mono ?_); rintro e w2 ⟨rfl, hb2⟩)
          | (go_at_call 11; (with_reducible refine (c1 _ (by repeat (first | assumption | exact Below.refl _ _ | apply below_drew | apply pw_below_drewN | apply below_alloc | (refine below_via (by assumption) ?_)))).mono ?_); rintro e w3 ⟨rfl, hb3⟩))
        all_goals (go_ret; exact ⟨rfl, (by repeat (first | assumption | exact Below.refl _ _ | apply below_drew | apply pw_below_drewN | apply below_alloc | (refine below_via (by assumption) ?_)))⟩)
    · have hrr := req_range msg hm
      have c1 := fun W (hb : Below w.heap.size w W) => rr_err hrr W (HG.out.below hb) (by omega)
      clear hbk hrr
      by_cases hneg : most < 0
      · go_enter Tryz.func6, Tryz.ntmps6
        go_wp2_with (first
          | (go_at_call 10; (with_reducible refine hlv.mono ?_); rintro e w1 ⟨rfl, hb1⟩)
          | (go_at_call 14; (with_reducible refine (hwr _ (by repeat (first | assumption | exact Below.refl _ _ | apply below_drew | apply pw_below_drewN | apply below_alloc | (refine below_via (by assumption) ?_)))).mono ?_); rintro e w2 ⟨rfl, hb2⟩)
          | (go_at_call 11; (with_reducible refine (c1 _ (by repeat (first | assumption | exact Below.refl _ _ | apply below_drew | apply pw_below_drewN | apply below_alloc | (refine below_via (by assumption) ?_)))).mono ?_); rintro e w3 ⟨rfl, hb3⟩))
        all_goals (go_ret; exact ⟨rfl, (by repeat (first | assumption | exact Below.refl _ _ | apply below_drew | apply pw_below_drewN | apply below_alloc | (refine below_via (by assumption) ?_)))⟩)
      · have d1 : decide (most < 0) = false := by simpa using hneg
        have d2 : decide (65536 < most) = true := by simp; omega
        clear hm hneg
        go_enter Tryz.func6, Tryz.ntmps6
        go_wp2_with (first
          | (go_at_call 10; (with_reducible refine hlv.mono ?_); rintro e w1 ⟨rfl, hb1⟩)
          | (go_at_call 14; (with_reducible refine (hwr _ (by repeat (first | assumption | exact Below.refl _ _ | apply below_drew | apply pw_below_drewN | apply below_alloc | (refine below_via (by assumption) ?_)))).mono ?_); rintro e w2 ⟨rfl, hb2⟩)
          | (go_at_call 11; (with_reducible refine (c1 _ (by repeat (first | assumption | exact Below.refl _ _ | apply below_drew | apply pw_below_drewN | apply below_alloc | (refine below_via (by assumption) ?_)))).mono ?_); rintro e w3 ⟨rfl, hb3⟩))
        all_goals (go_ret; exact ⟨rfl, (by repeat (first | assumption | exact Below.refl _ _ | apply below_drew | apply pw_below_drewN | apply below_alloc | (refine below_via (by assumption) ?_)))⟩)
  · have hok : reqOk ⟨#[80, 79, 83, 84]⟩ ⟨#[47]⟩ [] body = false := by rw [hpw]; exact decide_eq_false h6
    unfold writeReq at hwr
    rw [if_neg (by rw [hok]; simp)] at hwr
    have d3 : decide ((65536 : Int) < (body.size : Int)) = true := by simp; omega
    clear hpw hok h6
    go_enter Tryz.func6, Tryz.ntmps6
    go_wp2_with (first
      | (go_at_call 10; (with_reducible refine hlv.mono ?_); rintro e w1 ⟨rfl, hb1⟩)
      | (go_at_call 14; (with_reducible refine (hwr _ (by repeat (first | assumption | exact Below.refl _ _ | apply below_drew | apply pw_below_drewN | apply below_alloc | (refine below_via (by assumption) ?_)))).mono ?_); rintro e w2 ⟨rfl, hb2⟩))
    all_goals (go_ret; exact ⟨rfl, (by repeat (first | assumption | exact Below.refl _ _ | apply below_drew | apply pw_below_drewN | apply below_alloc | (refine below_via (by assumption) ?_)))⟩)
end Go.Proofs.YtjbehnalmgcbpaaGreatDoor.Ht
