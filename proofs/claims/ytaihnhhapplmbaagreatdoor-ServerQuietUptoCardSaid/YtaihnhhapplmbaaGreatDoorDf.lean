/- slices.DeleteFunc of heads. -/
import Derived.Test.YtaihnhhapplmbaaGreatDoorCl
set_option linter.unusedVariables false
set_option linter.unusedSimpArgs false
namespace Go.Proofs.YtaihnhhapplmbaaGreatDoor.Ht
open Go.Sort Go.RowKit Go.Proofs Go.Proofs.YtaihnhhapplmbaaGreatDoorW.PrintWords Go.Proofs.YtaihnhhapplmbaaGreatDoor.Bs Go.Proofs.YtaihnhhapplmbaaGreatDoor.Ir

/-- 'clear(s)': whatever its elements' cells are. -/
theorem run_clear_cells {P : Program} (w : World) (t e ty : TypeId) (z : Value) (zs : List Value) (ht : P.underlying t = some (.slice e)) (hv : ∀ w, (zeroValue e).run P w = .ok z w) (b o n c : Nat) (hn : 0 < n) (hzs : (Builtin.zeroCells z.cells n).toList = zs) (h1 : ∀ v ∈ zs, v.oneCell' = true)
    (hc : ∀ j, j < zs.length → (w.cell? ⟨b, o + j, none⟩).isSome = true) (hf : ∀ j, j < zs.length → w.frozen? ⟨b, o + j, none⟩ = false) :
    (Builtin.clear_ #[t] ty #[.slice (some ⟨b, o, none⟩) n c]).run P w = .ok (.tuple #[]) (w.setCells b o zs) := by
  have hst := run_storeCells_cells (P := P) b o zs 0 w (by simpa using hc) (by simpa using hf) h1
  simp only [Nat.add_zero] at hst
  obtain ⟨m, rfl⟩ : ∃ m, n = m + 1 := ⟨n - 1, by omega⟩
  simp [Builtin.clear_, run_underlying ht, hv, hzs, hst]
theorem setCells_before (b : Nat) : ∀ (vs : List Value) (o : Nat) (w : World) (j : Nat), j < o → (w.setCells b o vs).cell? ⟨b, j, none⟩ = w.cell? ⟨b, j, none⟩
  | [], _, _, _, _ => rfl
  | v :: vs, o, w, j, h => by
    rw [World.setCells, setCells_before b vs (o + 1) _ j (by omega)]
    rw [World.cell?_setCell_other _ _ _ _ (by simp <;> omega)]
theorem setCells_below {B : Nat} {w : World} (b : Nat) (hb : B ≤ b) : ∀ (vs : List Value) (o : Nat) (W : World), Below B w W → Below B w (W.setCells b o vs)
  | [], _, _, h => h
  | v :: vs, o, W, h => setCells_below b hb vs (o + 1) _ (h.setCell (p := ⟨b, o, none⟩) hb v)
theorem zeroH (w : World) : (zeroValue 82).run Tryz.prog w = .ok (.agg #[.string ⟨#[]⟩, .string ⟨#[]⟩]) w := by kernel_rfl
theorem szH : (Tryz.prog.info? 82).map (·.size) = some 2 := by kernel_rfl
theorem zerosH (n : Nat) : ((Builtin.zeroCells (Value.agg #[.string ⟨#[]⟩, .string ⟨#[]⟩]).cells n).toList) = List.replicate (n * 2) (.string ⟨#[]⟩) := by
  simp only [Builtin.zeroCells, Value.cells]
  apply List.ext_getElem
  · simp
  · intro i h1 h2
    simp
    have : i % 2 = 0 ∨ i % 2 = 1 := by omega
    rcases this with h | h <;> simp [h]

theorem keep_step (l M : List Head) (p : Head → Bool) (i j : Nat) (hM : M.length = l.length) (hj : j < l.length) (hij : i < j) (h1 : M.take i = (l.take j).filter (fun h => !p h)) (h2 : M.drop j = l.drop j) :
    (p l[j] = true → M.take i = (l.take (j + 1)).filter (fun h => !p h) ∧ M.drop (j + 1) = l.drop (j + 1)) ∧
    (p l[j] = false → (M.set i l[j]).take (i + 1) = (l.take (j + 1)).filter (fun h => !p h) ∧ (M.set i l[j]).drop (j + 1) = l.drop (j + 1)) := by
  have hd : M.drop (j + 1) = l.drop (j + 1) := by
    have := congrArg (List.drop 1) h2
    simpa [List.drop_drop] using this
  constructor
  · intro hp
    refine ⟨?_, hd⟩
    rw [List.take_succ_eq_append_getElem hj, List.filter_append, h1]
    simp [hp]
  · intro hp
    constructor
    · rw [List.take_succ_eq_append_getElem hj, List.filter_append, ← h1]
      have : (M.set i l[j]).take (i + 1) = M.take i ++ [l[j]] := by
        rw [List.take_succ_eq_append_getElem (by simp; omega)]
        have e : (M.set i l[j]).take i = M.take i := by
          apply List.ext_getElem?
          intro n
          simp only [List.getElem?_take]
          split
          · rw [List.getElem?_set_ne (by omega)]
          · rfl
        rw [e]
        simp
      rw [this]
      simp [hp]
    · rw [List.drop_set_of_lt (by omega)]
      exact hd
theorem keep_start (l : List Head) (p : Head → Bool) (k : Nat) (hk : k < l.length) (h1 : p l[k] = true) (h2 : ∀ j (hj : j < k), p (l[j]'(by omega)) = false) : l.take k = (l.take (k + 1)).filter (fun h => !p h) := by
  rw [List.take_succ_eq_append_getElem hk, List.filter_append]
  have : (l.take k).filter (fun h => !p h) = l.take k := by
    rw [List.filter_eq_self]
    intro x hx
    obtain ⟨j, hj, rfl⟩ := List.getElem_of_mem hx
    simp only [List.getElem_take]
    simp [h2 j (by simpa using (List.length_take_le' k l |> fun _ => by simpa using hj : j < min k l.length) |> fun h => by omega)]
  rw [this]
  simp [h1]

theorem row_cells {w : World} {e B g n c : Nat} {ok : Nat → Prop} {M : List Head} (h : Kd.R kH e w B ok (.slice (some ⟨g, 0, none⟩) n c) M) (q : Nat) (hq : q < n * 2) : (w.cell? ⟨g, q, none⟩).isSome = true ∧ w.frozen? ⟨g, q, none⟩ = false := by
  obtain ⟨cc, hl, _, hc, hf⟩ := Kd.R_elem h zH ((q / 2 : Nat) : Int) (by omega) (by omega)
  have hl2 : cc.length = 2 := hl
  have e1 : ((q / 2 : Nat) : Int).toNat * kH.sz + q % 2 = q := by
    rw [Int.toNat_natCast]
    show q / 2 * 2 + q % 2 = q
    omega
  have hj : q % 2 < cc.length := by omega
  have h1 := hc (q % 2) _ (List.getElem?_eq_getElem hj)
  have h2 := hf (q % 2)
  rw [e1] at h1 h2
  exact ⟨by rw [h1]; rfl, h2⟩
theorem take_C {w : World} {e B g n c i : Nat} {ok : Nat → Prop} {M : List Head} (h : Kd.R kH e w B ok (.slice (some ⟨g, 0, none⟩) n c) M) (hi : i ≤ n) (zs : List Value) : Kd.C kH (w.setCells g (i * 2) zs) (some ⟨g, 0, none⟩) (M.take i).length (M.take i) := by
  obtain ⟨hn, _, hC⟩ := Kd.R_reads' h
  obtain ⟨e1, h2, h3⟩ := Kd.C_take hC (m := i) (by omega)
  refine ⟨e1, h2, fun hp => ?_⟩
  obtain ⟨ad, ha, hc⟩ := h3 hp
  refine ⟨ad, ha, fun j p hj => ?_⟩
  obtain ⟨cc, hl, hk, hcell⟩ := hc j p hj
  obtain rfl := Option.some.inj ha
  have hji : j < i := by
    have := (List.getElem?_eq_some_iff.1 hj).1
    rw [List.length_take] at this
    omega
  have hl2 : cc.length = 2 := hl
  refine ⟨cc, hl, by rw [kH_open hk]; exact kH_mk _ p, fun q u hu => ?_⟩
  have hq : q < 2 := by have := (List.getElem?_eq_some_iff.1 hu).1; omega
  have h4 := hcell q u hu
  rw [add_plain] at h4 ⊢
  rw [setCells_before _ _ _ _ _ (by show j * 2 + q < i * 2; omega)]
  exact h4

set_option maxRecDepth 100000 in
set_option maxHeartbeats 1000000 in
theorem deleteFunc_H (g0 : Nat) (lb : Array Value) (eg : ∀ args w, (callFunc g0 args).run Tryz.prog w = .ok (.enter g0 args) w) (p : Head → Bool) (v : Value) (l : List Head) (B : Nat) (w : World) (hB : B ≤ w.heap.size)
    (hl : l.length ≤ 1073741824) (hR : Kd.R kH 82 w B (fun _ => True) v l) (hok : ∀ h ∈ l, HOk h)
    (hp : ∀ W h, HOk h → Below B w W → Calls Tryz.prog g0 (#[aggH h] ++ lb) W fun e w' => e = .returned (.bool (p h)) ∧ Below W.heap.size W w') :
    Calls Tryz.prog 66 #[v, .func (.func g0) #[] lb] w fun e w' => ∃ A c, e = .returned (.slice A (l.filter (fun h => !p h)).length c) ∧ (l.filter (fun h => !p h)).length ≤ c ∧ Kd.C kH w' A (l.filter (fun h => !p h)).length (l.filter (fun h => !p h)) ∧ (∀ ad, A = some ad → B ≤ ad.block) ∧ Below B w w' := by
  obtain ⟨A, c, rfl, hlc, hC⟩ := Kd.R_reads hR
  have HAd := Lib.hid (show ∀ ad, A = some ad → B ≤ ad.block from fun ad e => by subst e; obtain ⟨-, inner, ho, -⟩ := hR; exact own_base ho ad.block (by simp [Value.ownBlock]))
  have hidx := indexFunc_H g0 lb eg p A c l w hl hC hok (fun W h h1 h2 => hp W h h1 (h2.mono hB))
  cases hfi : l.findIdx? p with
  | none =>
    have hfl : l.filter (fun h => !p h) = l := by
      rw [List.findIdx?_eq_none_iff] at hfi
      rw [List.filter_eq_self]
      intro x hx
      rw [hfi x hx]
      rfl
    rw [show idxH p l = -1 from by unfold idxH; rw [hfi]] at hidx
    rw [hfl]
    have HC := Lib.hid hC
    clear hR hok hp hfi hfl hC
    go_enter Tryz.func66, Tryz.ntmps66
    go_wp2_with (go_at_call 28; refine hidx.mono ?_; rintro e w1 ⟨rfl, hb⟩)
    go_ret
    exact ⟨A, c, rfl, hlc, Kd.C_below HC.out hb, HAd.out, hb.mono hB⟩
  | some k0 =>
    obtain ⟨hk0, hp0, hp1⟩ := List.findIdx?_eq_some_iff_getElem.1 hfi
    rw [show idxH p l = (k0 : Int) from by unfold idxH; rw [hfi]] at hidx
    obtain ⟨gb, cap, hv, hBg, hgl, _⟩ := Kd.R_form hR (by omega)
    obtain ⟨rfl, -, rfl⟩ := Value.slice.inj hv
    have HK := Lib.hid (keep_start l p k0 hk0 hp0 (fun j hj => by simpa using hp1 j hj))
    have HR := Lib.hid hR
    have HP := Lib.hid hp
    have HO := Lib.hid hok
    have hgB : B ≤ gb := hBg
    have hk1 : ((k0 : Int) == -1) = false := by rw [beq_eq_false_iff_ne]; omega
    clear hR hok hp hfi hC hv hp0 hp1
    go_enter Tryz.func66, Tryz.ntmps66
    go_wp2_with (go_at_call 28; refine hidx.mono ?_; rintro e w1 ⟨rfl, hb⟩)
    have HR1 := Lib.hid (Kd.R_below HR.out hb)
    have hb1 : Below B w w1 := hb.mono hB
    have hgl1 : gb < w1.heap.size := by have := hb.size; omega
    clear hidx hb
    go_loopw [5, 6] (fun vi vj wr => ∃ (i j : Nat) (M : List Head), vi = .int .i64 i ∧ vj = .int .i64 j ∧ i < j ∧ j ≤ l.length ∧ Hid (M.length = l.length ∧ M.take i = (l.take j).filter (fun h => !p h) ∧ M.drop j = l.drop j) ∧ Hid (Kd.R kH 82 wr B (fun _ => True) (.slice (some ⟨gb, 0, none⟩) l.length c) M) ∧ Below B w wr ∧ gb < wr.heap.size) (fun _ vj _ => l.length - (intOf vj).toNat)
    case atStart => exact ⟨k0, k0 + 1, l, rfl, by go_num, by omega, by omega, Lib.hid ⟨rfl, HK.out, rfl⟩, HR1, hb1, hgl1⟩
    case round =>
      obtain ⟨i, j, M, rfl, rfl, hij, hjl, hM, hRr, hbr, hglr⟩ := hrel
      by_cases hlt : j < l.length
      · obtain ⟨-, -, hCr⟩ := Kd.R_reads' hRr.out
        have hML := hM.out.1
        obtain ⟨ad, had, h0, h1⟩ := at_H hCr j (by omega)
        obtain rfl := Option.some.inj had
        have hx : M.getD j zH = l[j] := by
          rw [List.getD_eq_getElem?_getD]
          have := congrArg (fun l => l[0]?) hM.out.2.2
          simp only [List.getElem?_drop, Nat.add_zero] at this
          rw [this, List.getElem?_eq_getElem hlt]
          rfl
        rw [hx] at h0 h1
        have hok := HO.out _ (List.getElem_mem hlt)
        have hKS := keep_step l M p i j hML hlt hij hM.out.2.1 hM.out.2.2
        have hcall := fun W hb => HP.out W l[j] hok hb
        obtain ⟨⟨nm, vl⟩, hxx⟩ : ∃ x, x = l[j] := ⟨_, rfl⟩
        rw [← hxx] at h0 h1 hKS hcall
        rw [add_plain] at h0 h1
        dsimp only at h0 h1
        have HML := Lib.hid hML
        clear hxx hx hCr hML hok had
        have hgr : gb ≠ wr.heap.size := by omega
        cases hpx : p ⟨nm, vl⟩ with
        | true =>
          have HKS := Lib.hid (hKS.1 hpx)
          rw [hpx] at hcall
          clear hpx hKS
          go_wp2_with (go_at_fn g0; refine (hcall _ ?_).mono ?_; (· exact (hbr.alloc (by have := hbr.size; omega) _)); rintro e w2 ⟨rfl, hb2⟩)
          have HR2 := Lib.hid (Kd.R_below (Kd.R_alloc hRr.out (.cells #[.string nm, .string vl] 82)) hb2)
          have hbr2 : Below B w w2 := (hbr.alloc (by have := hbr.size; omega) _).trans (hb2.mono (by have := hbr.size; simp; omega))
          have hz2 : gb < w2.heap.size := by have := hb2.size; simp at this; omega
          go_roundw
          case rel => exact ⟨i, j + 1, M, rfl, by go_num, by omega, by omega, Lib.hid ⟨HML.out, HKS.out⟩, HR2, hbr2, hz2⟩
          case measure => simp [intOf]; omega
        | false =>
          have HKS := Lib.hid (hKS.2 hpx)
          rw [hpx] at hcall
          clear hpx hKS
          go_wp2_with (first | (go_at_fn g0; refine (hcall _ ?_).mono ?_; (· exact (hbr.alloc (by have := hbr.size; omega) _)); rintro e w2 ⟨rfl, hb2⟩; obtain ⟨hbc2, hbf2⟩ := bcell hb2; have hz2 : wr.heap.size < w2.heap.size := (by have := hb2.size; simp at this; omega); have hbr2 : Below B w w2 := (hbr.alloc (by have := hbr.size; omega) _).trans (hb2.mono (by have := hbr.size; simp; omega)); have hR2 := Kd.R_below (Kd.R_alloc hRr.out (.cells #[.string nm, .string vl] 82)) hb2; obtain ⟨cc, hcl, _, hcc, _⟩ := Kd.R_elem hR2 zH (i : Int) (by omega) (by omega)) | (refine Kd.R_store kH B rfl rfl 82 (.tmp 33) (.tmp 32) rfl 82 (i : Int) 0 M ⟨nm, vl⟩ (.agg #[.string nm, .string vl]) [.string nm, .string vl] cc (fun _ => True) (fun k => k ≠ gb) rfl ?a1 rfl rfl szH ?a2 hR2 (by omega) (by omega) hcl hcc ?a3 ?a4 (fun k hk => ⟨trivial, hk⟩) hbr2 ?_))
          case a1 => rw [Int.toNat_natCast]; rfl
          case a2 =>
            intro u hu
            simp only [List.mem_cons, List.not_mem_nil, or_false] at hu
            rcases hu with rfl | rfl <;> rfl
          case a3 => exact Nat.le_refl _
          case a4 =>
            have e : cc.drop 2 = [] := List.drop_eq_nil_of_le (by rw [hcl]; exact Nat.le_refl _)
            show kH.M w2 B _ _ ([Value.string nm, Value.string vl] ++ cc.drop 2)
            rw [e]
            exact kH_mkM _ _ _ ⟨nm, vl⟩
          intro w3 hR3 hb3 hg3
          have HR3 := Lib.hid hR3
          have hz3 : gb < w3.heap.size := by have := hg3.size; omega
          clear hR3 hg3 hcc hcl hbc2 hbf2
          go_wp2_with fail
          go_roundw
          case rel => exact ⟨i + 1, j + 1, M.set i ⟨nm, vl⟩, by go_num, by go_num, by omega, by omega, Lib.hid ⟨by rw [List.length_set]; exact HML.out, HKS.out⟩, by simpa using HR3, hb3, hz3⟩
          case measure => simp [intOf]; omega
      · obtain rfl : j = l.length := by omega
        obtain ⟨hML, hT, -⟩ := hM.out
        rw [List.take_length] at hT
        have hrc := row_cells hRr.out
        have hclr := fun ty => run_clear_cells wr 49 82 ty _ _ Tu_heads zeroH gb (i * 2) (l.length - i) (c - i) (by omega) (zerosH _) (fun v hv => by rw [List.eq_of_mem_replicate hv]; rfl) (fun j hj => (hrc _ (by rw [List.length_replicate] at hj; omega)).1) (fun j hj => (hrc _ (by rw [List.length_replicate] at hj; omega)).2)
        have hCf := take_C (i := i) hRr.out (by omega) (List.replicate ((l.length - i) * 2) (Value.string ⟨#[]⟩))
        have hBf := setCells_below gb hgB (List.replicate ((l.length - i) * 2) (Value.string ⟨#[]⟩)) (i * 2) wr hbr
        have hlen : (l.filter (fun h => !p h)).length = i := by rw [← hT, List.length_take]; omega
        rw [hT] at hCf
        have HL := Lib.hid hlen
        have HT := Lib.hid hT
        clear hrc hlen hT hML hRr hM
        generalize wr.setCells gb (i * 2) (List.replicate ((l.length - i) * 2) (Value.string ⟨#[]⟩)) = w4 at *
        go_wp2_with fail
        go_ret
        exact ⟨some ⟨gb, 0, none⟩, c, by rw [HL.out]; rfl, by rw [HL.out]; omega, hCf, (fun ad e => by have := Option.some.inj e; subst this; exact hgB), hBf⟩
end Go.Proofs.YtaihnhhapplmbaaGreatDoor.Ht
