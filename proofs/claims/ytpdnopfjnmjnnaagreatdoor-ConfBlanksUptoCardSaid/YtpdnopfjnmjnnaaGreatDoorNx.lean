/- Package conf: own's memory. -/
import Derived.Test.YtpdnopfjnmjnnaaGreatDoorNv
import Derived.BigRegion
set_option linter.unusedVariables false
set_option linter.unusedSimpArgs false
namespace Go.Proofs.YtpdnopfjnmjnnaaGreatDoor.Cn
open Go.Sort Go.RowKit Go.Proofs Go.Proofs.YtpdnopfjnmjnnaaGreatDoorW.PrintWords Go.Proofs.YtpdnopfjnmjnnaaGreatDoor.Bs Go.Proofs.YtpdnopfjnmjnnaaGreatDoor.Ir Go.Proofs.YtpdnopfjnmjnnaaGreatDoor.Cz

theorem own_cut {w : World} {base n size : Nat} {e : TypeId} {v : Value} {xs : List Value} (h : w.ownsRow base e size v n xs) : ∃ A c, v = .slice A n c := by
  rcases h.2 with ⟨rfl, rfl⟩ | ⟨g, cap, cur, rfl, _⟩
  · exact ⟨none, 0, rfl⟩
  · exact ⟨_, _, rfl⟩
/-- No list in it is too long. -/
inductive Fit : Kn → Prop
  | mk (x : Kn) : x.f3.length ≤ 1073741824 → x.f4.length ≤ 1073741824 → (∀ y ∈ x.f4, Fit y) → Fit x
def OwnQ (x : Kn) (w : World) (e : Ending) (w' : World) : Prop :=
  ∃ v3 v4, e = .returned (.agg #[.int .u8 x.f1, .string x.f2, v3, v4]) ∧ Kd.string.R 9 w' w.heap.size (fun k => w.heap.size ≤ k) v3 x.f3 ∧ kK.R 44 w' w.heap.size (fun k => w.heap.size ≤ k) v4 x.f4 ∧ Below w.heap.size w w'
/-- Behind the two clones: the box, the new list's row, the new keys' row, whose elements are still the old ones. -/
structure OwnP (x : Kn) (w W : World) (s2 : Nat) (v3 v4 : Value) (i : Nat) : Prop where
  box : W.heap[w.heap.size]? = some (.cells #[.int .u8 x.f1, .string x.f2, v3, v4] 32 (0, 0))
  res : W.heap[w.heap.size + 1]? = some (.cells #[.int .u8 0, .string ⟨#[]⟩, .slice none 0 0, .slice none 0 0] 32 (0, 0))
  list : Kd.string.R 9 W (w.heap.size + 2) (fun k => w.heap.size + 2 ≤ k ∧ k < s2) v3 x.f3
  low : w.heap.size + 2 ≤ s2
  keys : ∃ done rest, W.ownsRow s2 44 5 v4 x.f4.length (done ++ rest) ∧ Reps (kK.M W s2 (fun k => s2 ≤ k ∧ some k ≠ v4.ownBlock)) 5 (x.f4.take i) done ∧ Reps (kK.K w) 5 (x.f4.drop i) rest
  bel : Below w.heap.size w W
theorem own_start {x : Kn} {w wa w2 w5 : World} {v3 v4 o3 o4 : Value} {in3 in4 : List Value} (hba : Below w.heap.size w wa) (hsz : wa.heap.size = w.heap.size + 1 + 1) (hk1 : wa.heap[w.heap.size + 1]? = some (.cells #[.int .u8 0, .string ⟨#[]⟩, .slice none 0 0, .slice none 0 0] 32 (0, 0)))
    (ho3 : w2.ownsRow wa.drew.heap.size 9 1 v3 x.f3.length in3) (hr3 : Reps (Kd.string.K w) 1 x.f3 in3) (hb2 : Below wa.drew.heap.size wa.drew w2) (hk5 : w5.heap[w.heap.size]? = some (.cells #[.int .u8 x.f1, .string x.f2, o3, o4] 32 (0, 0)))
    (ho4 : w5.ownsRow w2.heap.size 44 5 v4 x.f4.length in4) (hr4 : Reps (kK.K w) 5 x.f4 in4) (hb5 : Below w2.heap.size w2 w5) : OwnP x w ((w5.setCell ⟨w.heap.size, 2, none⟩ v3).setCell ⟨w.heap.size, 3, none⟩ v4) w2.heap.size v3 v4 0 := by
  obtain ⟨WF, hWF⟩ : ∃ WF, WF = (w5.setCell ⟨w.heap.size, 2, none⟩ v3).setCell ⟨w.heap.size, 3, none⟩ v4 := ⟨_, rfl⟩
  rw [← hWF]
  have hsz' : wa.drew.heap.size = w.heap.size + 1 + 1 := hsz
  have hs2 := hb2.size
  have hk : ∀ k, k ≠ w.heap.size → WF.heap[k]? = w5.heap[k]? := fun k hne => by rw [hWF, Below.heap_setCell _ _ _ k (by exact hne), Below.heap_setCell _ _ _ k (by exact hne)]
  have hbF : Below w.heap.size w WF := by
    rw [hWF]
    exact ((((below_drew hba).trans (hb2.mono (by omega))).trans (hb5.mono (by omega))).setCell (p := ⟨w.heap.size, 2, none⟩) (Nat.le_refl _) _).setCell (p := ⟨w.heap.size, 3, none⟩) (Nat.le_refl _) _
  refine ⟨?_, ?_, ?_, by omega, ⟨[], in4, own_move ho4 (fun k hk' => hk k ?_), Reps.none _ _, hr4⟩, hbF⟩
  · rw [hWF]
    have e2 : (#[.int .u8 x.f1, .string x.f2, o3, o4] : Array Value).setIfInBounds 2 v3 = #[.int .u8 x.f1, .string x.f2, v3, o4] := by simp
    have e3 : (#[.int .u8 x.f1, .string x.f2, v3, o4] : Array Value).setIfInBounds 3 v4 = #[.int .u8 x.f1, .string x.f2, v3, v4] := by simp
    have d2 := blk_set hk5 2 v3
    rw [e2] at d2
    have d3 := blk_set d2 3 v4
    rw [e3] at d3
    exact d3
  · rw [hk _ (by omega), hb5.block _ (by omega), hb2.block _ (by omega)]
    exact hk1
  · have hin : in3 = encs Value.string x.f3 := by
      have : ∀ (l : List ByteArray) (i : List Value), Reps (Kd.string.K w) 1 l i → i = encs Value.string l := by
        intro l
        induction l with
        | nil => intro i hi; have := hi.1; exact List.length_eq_zero_iff.1 (by simpa using this)
        | cons a l ih =>
          intro i hi
          have h0 := hi.2 0 a rfl
          have hlen := hi.1
          have ht := ih (i.drop 1) (by have := Kd.reps_drop (m := 1) hi; simpa using this)
          cases i with
          | nil => simp at hlen
          | cons y i =>
            have e0 : [y] = [Value.string a] := h0
            simp at e0 ht
            subst e0
            rw [ht]
            rfl
      exact this _ _ hr3
    subst hin
    have ho : WF.ownsRow wa.drew.heap.size 9 1 v3 x.f3.length (encs Value.string x.f3) := own_move ho3 (fun k hk' => by
      have h1 := own_base ho3 k hk'
      have h2 := own_lt ho3 k hk'
      rw [hk k (by omega)]
      exact hb5.block _ h2)
    refine ⟨fun k hk' => ⟨?_, own_lt ho3 k hk'⟩, _, ?_, Kd.reps_scalar (enc := Value.string) x.f3⟩
    · have := own_base ho3 k hk'
      omega
    · rw [hsz'] at ho
      exact ho
  · have := own_base ho4 k hk'
    omega
theorem OwnP.elem {x : Kn} {w W : World} {s2 i : Nat} {v3 : Value} {B4 : Option Addr} {d4 : Nat} (h : OwnP x w W s2 v3 (.slice B4 x.f4.length d4) i) (hi : i < x.f4.length) :
    ∃ g A c A' c', B4 = some ⟨g, 0, none⟩ ∧ s2 ≤ g ∧ x.f4.length ≤ d4 ∧ W.cell? ⟨g, i * 5 + 1, none⟩ = some (.int .u8 (x.f4[i]).f1) ∧ W.cell? ⟨g, i * 5 + 2, none⟩ = some (.string (x.f4[i]).f2) ∧ W.cell? ⟨g, i * 5 + 3, none⟩ = some (.slice A (x.f4[i]).f3.length c) ∧ W.cell? ⟨g, i * 5 + 4, none⟩ = some (.slice A' (x.f4[i]).f4.length c') ∧ (∀ j, W.frozen? ⟨g, j, none⟩ = false) ∧ Kd.string.C w A (x.f4[i]).f3.length (x.f4[i]).f3 ∧ kK.C w A' (x.f4[i]).f4.length (x.f4[i]).f4 := by
  obtain ⟨done, rest, ho, hd, hr⟩ := h.keys
  have hdl : done.length = i * 5 := by have := hd.1; rw [List.length_take, Nat.min_eq_left (by omega)] at this; exact this
  have hK := hr.2 0 (x.f4[i]) (by rw [List.getElem?_drop]; simp [List.getElem?_eq_getElem hi])
  obtain ⟨A, c, A', c', hc5, _, hC3, _, hC4⟩ := kK_open hK
  have hcap : x.f4.length ≤ d4 ∧ ∃ g, B4 = some ⟨g, 0, none⟩ := by
    rcases ho.2 with ⟨e, h0⟩ | ⟨g, cap, cur, e, _, _, hcap, _⟩
    · omega
    · injection e with e1 _ e2
      exact ⟨by omega, g, e1⟩
  obtain ⟨hcap, g, rfl⟩ := hcap
  have hcell : ∀ j u, [Value.string (x.f4[i]).f0, .int .u8 (x.f4[i]).f1, .string (x.f4[i]).f2, .slice A (x.f4[i]).f3.length c, .slice A' (x.f4[i]).f4.length c'][j]? = some u → W.cell? ⟨g, i * 5 + j, none⟩ = some u := fun j u hj => by
    rw [← hc5] at hj
    simp only [Nat.zero_mul, List.drop_zero] at hj
    rw [List.getElem?_take] at hj
    split at hj
    · have := ho.cells (g := g) rfl (i * 5 + j) u (by
        rw [List.getElem?_append_right (by omega), hdl, Nat.add_sub_cancel_left]
        exact hj)
      rw [add_plain] at this
      exact this
    · cases hj
  obtain ⟨cells, hcs⟩ := own_typed ho g rfl
  exact ⟨g, A, c, A', c', rfl, own_base ho g rfl, hcap, hcell 1 _ rfl, hcell 2 _ rfl, hcell 3 _ rfl, hcell 4 _ rfl, fun j => blk_frozen hcs j, hC3, hC4⟩
theorem OwnP.next {x : Kn} {w W WR WF : World} {s2 i g d4 : Nat} {v3 vL vK : Value} (h : OwnP x w W s2 v3 (.slice (some ⟨g, 0, none⟩) x.f4.length d4) i) (hi : i < x.f4.length) (hL : Kd.string.R 9 WR W.drew.heap.size (fun k => W.drew.heap.size ≤ k) vL (x.f4[i]).f3) (hK : kK.R 44 WR W.drew.heap.size (fun k => W.drew.heap.size ≤ k) vK (x.f4[i]).f4) (hb : Below W.drew.heap.size W.drew WR)
    (hWF : WF = (((WR.setCell ⟨g, i * 5 + 1, none⟩ (.int .u8 (x.f4[i]).f1)).setCell ⟨g, i * 5 + 2, none⟩ (.string (x.f4[i]).f2)).setCell ⟨g, i * 5 + 3, none⟩ vL).setCell ⟨g, i * 5 + 4, none⟩ vK) : OwnP x w WF s2 v3 (.slice (some ⟨g, 0, none⟩) x.f4.length d4) (i + 1) := by
  have hbW : Below W.heap.size W WR := (below_drew (Below.refl _ W)).trans hb
  obtain ⟨done, rest, ho, hd, hr⟩ := h.keys
  have hgs := own_base ho g rfl
  have hgl := own_lt ho g rfl
  have hlow := h.low
  have hdl : done.length = i * 5 := by have := hd.1; rw [List.length_take, Nat.min_eq_left (by omega)] at this; exact this
  have hK0 := hr.2 0 (x.f4[i]) (by rw [List.getElem?_drop]; simp [List.getElem?_eq_getElem hi])
  obtain ⟨A, c, A', c', hc5, -, -, -, -⟩ := kK_open hK0
  simp only [Nat.zero_mul, List.drop_zero] at hc5
  have hrest : rest = [Value.string (x.f4[i]).f0, .int .u8 (x.f4[i]).f1, .string (x.f4[i]).f2, .slice A (x.f4[i]).f3.length c, .slice A' (x.f4[i]).f4.length c'] ++ rest.drop 5 := by
    rw [← hc5]; exact (List.take_append_drop 5 rest).symm
  have hr' := Kd.reps_drop (m := 1) hr
  rw [List.drop_drop, Nat.one_mul] at hr'
  generalize rest.drop 5 = rest' at hrest hr'
  subst hrest
  have hfar : ∀ k, k ≠ g → WF.heap[k]? = WR.heap[k]? := fun k hk => by
    rw [hWF, Below.heap_setCell _ _ _ k (by exact hk), Below.heap_setCell _ _ _ k (by exact hk), Below.heap_setCell _ _ _ k (by exact hk), Below.heap_setCell _ _ _ k (by exact hk)]
  have hWS : W.heap.size ≤ WR.heap.size := hbW.size
  have hlen : (done ++ ([Value.string (x.f4[i]).f0, .int .u8 (x.f4[i]).f1, .string (x.f4[i]).f2, .slice A (x.f4[i]).f3.length c, .slice A' (x.f4[i]).f4.length c'] ++ rest')).length = i * 5 + 5 + rest'.length := by simp [hdl]; omega
  have ho1 := own_move (w1 := WR) ho (fun k hk => hbW.block k (own_lt ho k hk))
  have ho2 := own_put1 ho1 (i * 5 + 1) (by rw [hlen]; omega) (.int .u8 (x.f4[i]).f1)
  have ho3 := own_put1 ho2 (i * 5 + 2) (by rw [List.length_set, hlen]; omega) (.string (x.f4[i]).f2)
  have ho4 := own_put1 ho3 (i * 5 + 3) (by rw [List.length_set, List.length_set, hlen]; omega) vL
  have ho5 := own_put1 ho4 (i * 5 + 4) (by rw [List.length_set, List.length_set, List.length_set, hlen]; omega) vK
  rw [← hWF] at ho5
  have eL : ((((done ++ ([Value.string (x.f4[i]).f0, .int .u8 (x.f4[i]).f1, .string (x.f4[i]).f2, .slice A (x.f4[i]).f3.length c, .slice A' (x.f4[i]).f4.length c'] ++ rest')).set (i * 5 + 1) (.int .u8 (x.f4[i]).f1)).set (i * 5 + 2) (.string (x.f4[i]).f2)).set (i * 5 + 3) vL).set (i * 5 + 4) vK = (done ++ [Value.string (x.f4[i]).f0, .int .u8 (x.f4[i]).f1, .string (x.f4[i]).f2, vL, vK]) ++ rest' := by
    rw [List.set_append_right _ _ (by omega), List.set_append_right _ _ (by omega), List.set_append_right _ _ (by omega), List.set_append_right _ _ (by omega), hdl]
    simp
  rw [eL] at ho5
  have hbF : Below w.heap.size w WF := by
    rw [hWF]
    exact (((((h.bel.trans (hbW.mono h.bel.size)).setCell (p := ⟨g, i * 5 + 1, none⟩) (by show _ ≤ g; omega) _).setCell (p := ⟨g, i * 5 + 2, none⟩) (by show _ ≤ g; omega) _).setCell (p := ⟨g, i * 5 + 3, none⟩) (by show _ ≤ g; omega) _).setCell (p := ⟨g, i * 5 + 4, none⟩) (by show _ ≤ g; omega) _)
  have hmv : ∀ k, k < W.heap.size → k ≠ g → WF.heap[k]? = W.heap[k]? := fun k h1 h2 => (hfar k h2).trans (hbW.block k h1)
  have hown : (Value.slice (some ⟨g, 0, none⟩) x.f4.length d4).ownBlock = some g := rfl
  refine ⟨(hmv _ (blk_lt h.box) (by omega)).trans h.box, (hmv _ (blk_lt h.res) (by omega)).trans h.res, Kd.R_mono (Kd.R_move (Kd.R_bound h.list) (fun k hk => hmv k hk.2.2.1 (by have := hk.1.2; omega))) (fun k hk => hk.1), h.low, ⟨_, rest', ho5, ?_, hr'⟩, hbF⟩
  rw [List.take_succ_eq_append_getElem hi]
  refine Reps.snoc (hd.imp_ (fun _ _ hp => kK.M_mono (fun k hk => hk.1) (kK.M_move (fun k hk => hmv k hk.2.2.1 (fun e => hk.1.2 (by rw [e, hown]))) (kK.M_bound hp)))) ?_ rfl
  have hWd : W.drew.heap.size = W.heap.size := rfl
  refine kK_mkM WF s2 _ (x.f4[i]) (Kd.R_mono (Kd.R_lower (Kd.R_move hL (fun k hk => hfar k (by omega))) (by omega)) (fun k hk => ⟨by omega, fun e => ?_⟩)) (Kd.R_mono (Kd.R_lower (Kd.R_move hK (fun k hk => hfar k (by omega))) (by omega)) (fun k hk => ⟨by omega, fun e => ?_⟩))
  · rw [hown] at e
    have := Option.some.inj e
    omega
  · rw [hown] at e
    have := Option.some.inj e
    omega
theorem node_set {w : World} {b : Nat} {t : TypeId} {v0 v1 v2 v3 : Value} (h : w.heap[b]? = some (.cells #[v0, v1, v2, v3] t (0, 0))) (u0 u1 u2 u3 : Value) : (w.setCells b 0 [u0, u1, u2, u3]).heap[b]? = some (.cells #[u0, u1, u2, u3] t (0, 0)) := by
  have e0 : (#[v0, v1, v2, v3] : Array Value).setIfInBounds 0 u0 = #[u0, v1, v2, v3] := by simp
  have e1 : (#[u0, v1, v2, v3] : Array Value).setIfInBounds 1 u1 = #[u0, u1, v2, v3] := by simp
  have e2 : (#[u0, u1, v2, v3] : Array Value).setIfInBounds 2 u2 = #[u0, u1, u2, v3] := by simp
  have e3 : (#[u0, u1, u2, v3] : Array Value).setIfInBounds 3 u3 = #[u0, u1, u2, u3] := by simp
  have d0 := blk_set h 0 u0
  rw [e0] at d0
  have d1 := blk_set d0 1 u1
  rw [e1] at d1
  have d2 := blk_set d1 2 u2
  rw [e2] at d2
  have d3 := blk_set d2 3 u3
  rw [e3] at d3
  exact d3
theorem node_far {w : World} {b k : Nat} (u0 u1 u2 u3 : Value) (h : k ≠ b) : (w.setCells b 0 [u0, u1, u2, u3]).heap[k]? = w.heap[k]? := setCells_far _ _ k h
theorem OwnP.done {x : Kn} {w W WF : World} {s2 : Nat} {v3 v4 : Value} (h : OwnP x w W s2 v3 v4 x.f4.length) (hk : ∀ k, k ≠ w.heap.size + 1 → WF.heap[k]? = W.heap[k]?) (hb : Below w.heap.size W WF) :
    Kd.string.R 9 WF w.heap.size (fun k => w.heap.size ≤ k) v3 x.f3 ∧ kK.R 44 WF w.heap.size (fun k => w.heap.size ≤ k) v4 x.f4 ∧ Below w.heap.size w WF := by
  obtain ⟨done, rest, ho, hd, hr⟩ := h.keys
  have hlow := h.low
  have hr0 : rest = [] := by
    have := hr.1
    rw [List.drop_length] at this
    exact List.length_eq_zero_iff.1 (by simpa using this)
  subst hr0
  rw [List.append_nil] at ho
  rw [List.take_length] at hd
  refine ⟨Kd.R_mono (Kd.R_lower (Kd.R_move h.list (fun k hk' => hk k (by omega))) (by omega)) (fun k hk' => by have := hk'.1; omega), Kd.R_mono (Kd.R_lower (base := s2) (ok := fun k => s2 ≤ k) ⟨fun k hk' => own_base ho k hk', done, own_move ho (fun k hk' => hk k (by have := own_base ho k hk'; omega)), hd.imp_ (fun _ _ hp => kK.M_move (fun k hk' => hk k (by omega)) hp)⟩ (by omega)) (fun k hk' => by omega), h.bel.trans hb⟩
end Go.Proofs.YtpdnopfjnmjnnaaGreatDoor.Cn
