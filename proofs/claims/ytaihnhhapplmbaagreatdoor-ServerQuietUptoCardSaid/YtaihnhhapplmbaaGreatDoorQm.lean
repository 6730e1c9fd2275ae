/- A region that draws its order, by an invariant over what is done: each operation that may come up keeps it. No program in sight. -/
import Derived.StillTail
import Derived.RegionTactic
set_option linter.unusedVariables false
set_option linter.unusedSimpArgs false
namespace Go.Proofs.YtaihnhhapplmbaaGreatDoor.Qm
open Go
section
variable {P : Program} {ops : Array Oper}

/-- Each edge that binds leads back. -/
def backB (ops : Array Oper) : Bool := (List.range ops.size).all fun i => ((ops[i]?).map (·.after.all fun e => !Region.binds .any e || decide (e.on < i))).getD true
theorem backB_spec (h : backB ops = true) {i : Nat} {o : Oper} (ho : ops[i]? = some o) : ∀ e ∈ o.after, Region.binds .any e = true → e.on < i := by
  unfold backB at h
  rw [List.all_eq_true] at h
  have hi : i < ops.size := (Array.getElem?_eq_some_iff.1 ho).1
  have h1 := h i (List.mem_range.2 hi)
  rw [ho] at h1
  simp only [Option.map_some, Option.getD_some] at h1
  intro e he hb
  have h2 := (Array.all_eq_true'.1 h1) e he
  rw [hb] at h2
  simpa using h2
theorem ready_some (hB : backB ops = true) (li : Array Bool) (hz : li.size = ops.size) (k : Nat) (hk : k < ops.size) (hf : li.getD k true = false) : Region.ready .any ops li ≠ [] := by
  induction k using Nat.strongRecOn with
  | _ k ih =>
    by_cases h : ∃ j, j < k ∧ li.getD j true = false
    · obtain ⟨j, hj, hjf⟩ := h
      exact ih j hj (by omega) hjf
    · have hall : ∀ j, j < k → li.getD j false = true := fun j hj => by
        have h1 : ¬ li.getD j true = false := fun e => h ⟨j, hj, e⟩
        have hjz : j < li.size := by omega
        simp only [Array.getD, hjz, dif_pos] at h1 ⊢
        simpa using h1
      refine List.ne_nil_of_mem (a := k) (mem_ready.2 ⟨hf, ops[k], Array.getElem?_eq_getElem hk, fun e he hb => hall _ (backB_spec hB (Array.getElem?_eq_getElem hk) e he hb)⟩)
theorem mask_any {Q : Exit → Act → World → Prop} (hB : backB ops = true) (Inv : (Nat → Bool) → Act → World → Prop)
    (hs : ∀ i o, ops[i]? = some o → ∀ f a w, Inv f a w → f i = false → (∀ e ∈ o.after, Region.binds .any e = true → f e.on = true) → wpOp P ops Q i (Inv (fun j => if j = i then true else f j)) a w)
    (he : ∀ f a w, (∀ i, i < ops.size → f i = true) → Inv f a w → Q .normal a w) :
    ∀ (fuel : Nat) (li : Array Bool) (f : Nat → Bool) (a : Act) (w : World), li.size = ops.size → (∀ j, j < ops.size → li[j]? = some (f j)) → li.toList.count false ≤ fuel → Inv f a w → wpAny P .any ops Q fuel li a w := by
  intro fuel
  induction fuel with
  | zero =>
    intro li f a w hz hf hc hI
    have hall : ∀ i, i < ops.size → f i = true := fun i hi => by
      have h1 := hf i hi
      cases hfi : f i with
      | true => rfl
      | false =>
        rw [hfi] at h1
        have hm : false ∈ li.toList := List.mem_of_getElem? (by rw [Array.getElem?_toList]; exact h1)
        have := List.count_pos_iff.2 hm
        omega
    have hr : Region.ready .any ops li = [] := by
      cases h : Region.ready .any ops li with
      | nil => rfl
      | cons i rs =>
        have hm : i ∈ Region.ready .any ops li := by rw [h]; exact List.mem_cons_self ..
        obtain ⟨h1, o, ho, _⟩ := mem_ready.1 hm
        have hi : i < ops.size := (Array.getElem?_eq_some_iff.1 ho).1
        have h2 := hf i hi
        rw [hall i hi] at h2
        simp [Array.getD_eq_getD_getElem?, h2] at h1
    exact ⟨hr, he f a w hall hI⟩
  | succ fuel ih =>
    intro li f a w hz hf hc hI
    refine ⟨fun hr => he f a w (fun i hi => ?_) hI, fun i hi => ?_⟩
    · cases hfi : f i with
      | true => rfl
      | false =>
        refine absurd hr (ready_some hB li hz i hi ?_)
        have h1 := hf i hi
        rw [hfi] at h1
        simp [Array.getD_eq_getD_getElem?, h1]
    · obtain ⟨h1, o, ho, ha⟩ := mem_ready.1 hi
      have hio : i < ops.size := (Array.getElem?_eq_some_iff.1 ho).1
      have hfi : f i = false := by
        have h2 := hf i hio
        simp [Array.getD_eq_getD_getElem?, h2] at h1
        exact h1
      refine wpOp_mono (fun a' w' hI' => ?_) (hs i o ho f a w hI hfi (fun e he' hb => ?_))
      · refine ih _ _ a' w' (by simpa using hz) (fun j hj => ?_) ?_ hI'
        · by_cases hji : j = i
          · subst hji
            simp [hz, hj]
          · rw [Array.getElem?_setIfInBounds_ne (Ne.symm hji)]
            simp [hji, hf j hj]
        · have hil : i < li.toList.length := by simp; omega
          have hli : li.toList[i] = false := by
            have h2 := hf i hio
            rw [hfi] at h2
            obtain ⟨_, h3⟩ := Array.getElem?_eq_some_iff.1 h2
            simpa using h3
          rw [Array.toList_setIfInBounds, List.count_set hil, hli]
          have hm : false ∈ li.toList := by rw [← hli]; exact List.getElem_mem hil
          have := List.count_pos_iff.2 hm
          simp only [beq_self_eq_true, if_true, show (true == false) = false from rfl, Bool.false_eq_true, if_false, Nat.add_zero]
          omega
      · have h2 := ha e he' hb
        have hlt := backB_spec hB ho e he' hb
        have h3 := hf e.on (by omega)
        simp [Array.getD_eq_getD_getElem?, h3] at h2
        exact h2
/-- THE REGION. -/
theorem region_mask {id : Nat} {Q : Exit → Act → World → Prop} {a : Act} {w : World} (hm : P.follows .mixedOrders = true) (hB : backB ops = true) (Inv : (Nat → Bool) → Act → World → Prop)
    (h0 : Inv (fun _ => false) a { w with drawn := w.drawn + 1 })
    (hs : ∀ i o, ops[i]? = some o → ∀ f a w, Inv f a w → f i = false → (∀ e ∈ o.after, Region.binds .any e = true → f e.on = true) → wpOp P ops Q i (Inv (fun j => if j = i then true else f j)) a w)
    (he : ∀ f a w, (∀ i, i < ops.size → f i = true) → Inv f a w → Q .normal a w) : (Code.region id ops true).wp P Q a w := by
  refine wp_region_any hm (mask_any hB Inv hs he ops.size _ (fun _ => false) a _ (by simp) (fun j hj => by simp [hj]) ?_ h0)
  simp
theorem step_plain {i : Nat} {o : Oper} {Q : Exit → Act → World → Prop} {K : Act → World → Prop} {a : Act} {w : World} (ho : ops[i]? = some o) (hg : o.guard = none) (h : ∀ K' : Act → World → Prop, (∀ a w, K a w → K' a w) → Oper.wp P o a w K' Q) : wpOp P ops Q i K a w :=
  wpOp_step ho fun K' hK => by
    simp only [Region.wanted, hg]
    first
      | exact h K' hK
      | (simp; exact h K' hK)
/-- A slot that is set where something is done. -/
def cput (b : Bool) (d : Nat) (v : Value) (a : Act) : Act := if b then a.put (some d) v else a
theorem put_comm {a : Act} {d d' : Nat} {v v' : Value} (h : d ≠ d') : (a.put (some d) v).put (some d') v' = (a.put (some d') v').put (some d) v := by
  unfold Act.put
  simp only [Array.setIfInBounds_comm _ _ h]
theorem cput_put {a : Act} {b : Bool} {d d' : Nat} {v v' : Value} (h : d ≠ d') : (cput b d v a).put (some d') v' = cput b d v (a.put (some d') v') := by
  unfold cput
  split
  · exact put_comm h
  · rfl
theorem cput_new' {a : Act} {d : Nat} {v v0 : Value} : (cput false d v0 a).put (some d) v = cput true d v a := rfl
theorem cput_new {a : Act} {d : Nat} {v : Value} : (cput false d v a).put (some d) v = cput true d v a := rfl
theorem eval_cput_ne {a : Act} {b : Bool} {d s : Nat} {v : Value} (h : d ≠ s) : (cput b d v a).eval (.tmp s) = a.eval (.tmp s) := by
  unfold cput
  split
  · simp [Act.eval, Act.put, h, Array.getD_eq_getD_getElem?, Array.getElem?_setIfInBounds_ne h]
  · rfl
theorem eval_cput_eq {a : Act} {d : Nat} {v : Value} (h : d < a.tmps.size) : (cput true d v a).eval (.tmp d) = v := by
  simp [cput, Act.eval, Act.put, Array.getD_eq_getD_getElem?, h]
theorem get_cput_ne {a : Act} {b : Bool} {d s : Nat} {v : Value} (h : d ≠ s) : (cput b d v a).tmps[s]? = a.tmps[s]? := by
  unfold cput
  split
  · simp [Act.put, Array.getElem?_setIfInBounds_ne h]
  · rfl
theorem get_cput_eq {a : Act} {d : Nat} {v : Value} (h : d < a.tmps.size) : (cput true d v a).tmps[d]? = some v := by
  simp [cput, Act.put, h]
theorem size_cput {a : Act} {b : Bool} {d : Nat} {v : Value} : (cput b d v a).tmps.size = a.tmps.size := by
  unfold cput
  split
  · simp [Act.put]
  · rfl
end
end Go.Proofs.YtaihnhhapplmbaaGreatDoor.Qm
