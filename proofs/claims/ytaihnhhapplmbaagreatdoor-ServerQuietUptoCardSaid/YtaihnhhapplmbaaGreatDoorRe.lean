/- Package http: reason. -/
import Derived.Test.YtaihnhhapplmbaaGreatDoorMs
import Derived.Maps.OwnOps
set_option linter.unusedVariables false
set_option linter.unusedSimpArgs false
namespace Go.Proofs.YtaihnhhapplmbaaGreatDoor.Ht
open Go.Sort Go.RowKit Go.Maps Go.Proofs Go.Proofs.YtaihnhhapplmbaaGreatDoorW.PrintWords Go.Proofs.YtaihnhhapplmbaaGreatDoor.Bs Go.Proofs.YtaihnhhapplmbaaGreatDoor.Ir Go.Proofs.YtaihnhhapplmbaaGreatDoor.Gn

/-- a map literal's entry -/
theorem wpList_insert_own {H : Type} {P : Program} (w : World) {ops : Array Oper} {rest : List Oper} {o : Oper} {a : Act} {Q : Exit → Act → World → Prop}
    (hg : o.guard = none) (m x v : Operand) (t : TypeId) (hop : o.op = Op.insert t m x v)
    (k e : TypeId) (K : Keyed P k) (ht : P.underlying t = some (.map k e)) (R : Value → Option (DataW H × List MemPlace)) (b n : Nat) (D : DataW H)
    (hm : a.eval m = .map (some b)) (hown : w.ownsMap P k R b n D) (hn : n < maxLen) (key val : Value) (kl : Lit) (hx : a.eval x = key) (hv : a.eval v = val) (hkey : keyOf P k key = some kl)
    (d : DataW H) (ps : List MemPlace) (hval : R val = some (d, ps))
    (hK : ∀ w', w'.ownsMap P k R b (n + 1) (D.put kl d) → w.grownBy w' (some b) → wpList P ops Q rest (a.put o.dst undef) w') :
    wpList P ops Q (o :: rest) a w := by
  refine wpList_plain hg fun K' hK' => ?_
  obtain ⟨w', hrun, r1, r2⟩ := hown.update K ht hn hkey hval
  unfold Oper.wp
  simp [execOp, hop, hm, hx, hv, hrun, Result.andThen]
  exact hK' _ _ (hK w' r1 r2)

theorem tInt : Tryz.prog.underlying 3 = some (.int .i64) := by kernel_rfl
theorem tMap : Tryz.prog.underlying 175 = some (.map 3 3) := by kernel_rfl
theorem lawI : Keyed Tryz.prog 3 := int_keyed tInt
theorem zeroI (w : World) : (zeroValue 3).run Tryz.prog w = .ok (.int .i64 0) w := by kernel_rfl
def i64D (c : Int) : DataW Unit := .lit (.int .i64 c)
def codes : List (Int × Int) := [(200, 1), (400, 2), (404, 3), (405, 4), (408, 5), (413, 6), (415, 7), (429, 8), (503, 9)]
def codesD (k : Nat) : DataW Unit := (codes.take k).foldl (fun D p => D.put (.int .i64 p.1) (i64D p.2)) (.map [])
def reasonIx (s : Int) : Int := if s = 200 then 1 else if s = 400 then 2 else if s = 404 then 3 else if s = 405 then 4 else if s = 408 then 5 else if s = 413 then 6 else if s = 415 then 7 else if s = 429 then 8 else if s = 503 then 9 else 0
theorem codesD_all : codesD 9 = .map (codes.map fun p => (.int .i64 p.1, i64D p.2)) := by rfl
theorem reason_at (s c : Int) (h : (codesD 9).atKey (.int .i64 s) (.lit (.int .i64 0)) = .lit (.int .i64 c)) : c = reasonIx s := by
  rw [codesD_all] at h
  unfold reasonIx
  simp only [DataW.atKey, codes, List.map_cons, List.map_nil, List.find?_cons, List.find?_nil, Lit.sameKey] at h
  repeat' split
  all_goals (first | (subst_vars; simp [i64D] at h; omega) | (simp [i64D, eq_comm, *] at h; omega) | (rename_i n1 n2 n3 n4 n5 n6 n7 n8 n9; simp [i64D, Ne.symm n1, Ne.symm n2, Ne.symm n3, Ne.symm n4, Ne.symm n5, Ne.symm n6, Ne.symm n7, Ne.symm n8, Ne.symm n9] at h; omega))
def words : List ByteArray := [⟨#[79, 116, 104, 101, 114]⟩, ⟨#[79, 75]⟩, ⟨#[66, 97, 100, 32, 82, 101, 113, 117, 101, 115, 116]⟩, ⟨#[78, 111, 116, 32, 70, 111, 117, 110, 100]⟩, ⟨#[77, 101, 116, 104, 111, 100, 32, 78, 111, 116, 32, 65, 108, 108, 111, 119, 101, 100]⟩, ⟨#[82, 101, 113, 117, 101, 115, 116, 32, 84, 105, 109, 101, 111, 117, 116]⟩, ⟨#[67, 111, 110, 116, 101, 110, 116, 32, 84, 111, 111, 32, 76, 97, 114, 103, 101]⟩, ⟨#[85, 110, 115, 117, 112, 112, 111, 114, 116, 101, 100, 32, 77, 101, 100, 105, 97, 32, 84, 121, 112, 101]⟩, ⟨#[84, 111, 111, 32, 77, 97, 110, 121, 32, 82, 101, 113, 117, 101, 115, 116, 115]⟩, ⟨#[83, 101, 114, 118, 105, 99, 101, 32, 85, 110, 97, 118, 97, 105, 108, 97, 98, 108, 101]⟩]
def reasonB (s : Int) : ByteArray := words.getD (reasonIx s).toNat ⟨#[]⟩
theorem reasonIx_range (s : Int) : 0 ≤ reasonIx s ∧ reasonIx s ≤ 9 := by
  unfold reasonIx
  repeat' split
  all_goals omega
theorem wordsD_get (k : Nat) (hk : k ≤ 9) : (words.map Value.string).toArray[k]? = some (.string (words.getD k ⟨#[]⟩)) := by
  have : k < words.length := by show k < 10; omega
  simp [List.getElem?_eq_getElem this]
set_option maxRecDepth 100000 in
set_option maxHeartbeats 2000000 in
theorem reason_any (s : Int) (hs : 0 ≤ s ∧ s ≤ 599) (w : World) :
    Calls Tryz.prog 70 #[.int .i64 s] w fun e w' => e = .returned (.string (reasonB s)) ∧ Below w.heap.size w w' := by
  have hmm := @run_makeMap Tryz.prog
  have H0 := Lib.hid (World.ownsMap_made w Tryz.prog 3 (plainElem (H := Unit) Tryz.prog 3))
  have HB := Lib.hid ((Below.refl w.heap.size w).alloc (Nat.le_refl _) (.map #[] 0))
  go_enter Tryz.func70, Tryz.ntmps70
  go_wp2_with (refine wpList_insert_own _ rfl _ _ _ 175 rfl 3 3 lawI tMap _ w.heap.size 0 (codesD 0) rfl H0.out (by unfold maxLen; omega) _ _ _ rfl rfl (keyOf_int_mk tInt (by decide)) (i64D 1) [] (plainElem_int tInt (by decide)) ?_)
  intro w1 hown1 hgrow1
  have H1 := Lib.hid (show w1.ownsMap Tryz.prog 3 (plainElem (H := Unit) Tryz.prog 3) w.heap.size 1 (codesD 1) from hown1)
  have HB1 := Lib.hid ((HB.out).grown hgrow1 (by simp) (fun k hk => by cases hk; exact Nat.le_refl _))
  clear hown1 hgrow1
  go_wp2_with (refine wpList_insert_own _ rfl _ _ _ 175 rfl 3 3 lawI tMap _ w.heap.size 1 (codesD 1) rfl H1.out (by unfold maxLen; omega) _ _ _ rfl rfl (keyOf_int_mk tInt (by decide)) (i64D 2) [] (plainElem_int tInt (by decide)) ?_)
  intro w2 hown2 hgrow2
  have H2 := Lib.hid (show w2.ownsMap Tryz.prog 3 (plainElem (H := Unit) Tryz.prog 3) w.heap.size 2 (codesD 2) from hown2)
  have HB2 := Lib.hid ((HB1.out).grown hgrow2 HB1.out.size (fun k hk => by cases hk; exact Nat.le_refl _))
  clear hown2 hgrow2
  go_wp2_with (refine wpList_insert_own _ rfl _ _ _ 175 rfl 3 3 lawI tMap _ w.heap.size 2 (codesD 2) rfl H2.out (by unfold maxLen; omega) _ _ _ rfl rfl (keyOf_int_mk tInt (by decide)) (i64D 3) [] (plainElem_int tInt (by decide)) ?_)
  intro w3 hown3 hgrow3
  have H3 := Lib.hid (show w3.ownsMap Tryz.prog 3 (plainElem (H := Unit) Tryz.prog 3) w.heap.size 3 (codesD 3) from hown3)
  have HB3 := Lib.hid ((HB2.out).grown hgrow3 HB2.out.size (fun k hk => by cases hk; exact Nat.le_refl _))
  clear hown3 hgrow3
  go_wp2_with (refine wpList_insert_own _ rfl _ _ _ 175 rfl 3 3 lawI tMap _ w.heap.size 3 (codesD 3) rfl H3.out (by unfold maxLen; omega) _ _ _ rfl rfl (keyOf_int_mk tInt (by decide)) (i64D 4) [] (plainElem_int tInt (by decide)) ?_)
  intro w4 hown4 hgrow4
  have H4 := Lib.hid (show w4.ownsMap Tryz.prog 3 (plainElem (H := Unit) Tryz.prog 3) w.heap.size 4 (codesD 4) from hown4)
  have HB4 := Lib.hid ((HB3.out).grown hgrow4 HB3.out.size (fun k hk => by cases hk; exact Nat.le_refl _))
  clear hown4 hgrow4
  go_wp2_with (refine wpList_insert_own _ rfl _ _ _ 175 rfl 3 3 lawI tMap _ w.heap.size 4 (codesD 4) rfl H4.out (by unfold maxLen; omega) _ _ _ rfl rfl (keyOf_int_mk tInt (by decide)) (i64D 5) [] (plainElem_int tInt (by decide)) ?_)
  intro w5 hown5 hgrow5
  have H5 := Lib.hid (show w5.ownsMap Tryz.prog 3 (plainElem (H := Unit) Tryz.prog 3) w.heap.size 5 (codesD 5) from hown5)
  have HB5 := Lib.hid ((HB4.out).grown hgrow5 HB4.out.size (fun k hk => by cases hk; exact Nat.le_refl _))
  clear hown5 hgrow5
  go_wp2_with (refine wpList_insert_own _ rfl _ _ _ 175 rfl 3 3 lawI tMap _ w.heap.size 5 (codesD 5) rfl H5.out (by unfold maxLen; omega) _ _ _ rfl rfl (keyOf_int_mk tInt (by decide)) (i64D 6) [] (plainElem_int tInt (by decide)) ?_)
  intro w6 hown6 hgrow6
  have H6 := Lib.hid (show w6.ownsMap Tryz.prog 3 (plainElem (H := Unit) Tryz.prog 3) w.heap.size 6 (codesD 6) from hown6)
  have HB6 := Lib.hid ((HB5.out).grown hgrow6 HB5.out.size (fun k hk => by cases hk; exact Nat.le_refl _))
  clear hown6 hgrow6
  go_wp2_with (refine wpList_insert_own _ rfl _ _ _ 175 rfl 3 3 lawI tMap _ w.heap.size 6 (codesD 6) rfl H6.out (by unfold maxLen; omega) _ _ _ rfl rfl (keyOf_int_mk tInt (by decide)) (i64D 7) [] (plainElem_int tInt (by decide)) ?_)
  intro w7 hown7 hgrow7
  have H7 := Lib.hid (show w7.ownsMap Tryz.prog 3 (plainElem (H := Unit) Tryz.prog 3) w.heap.size 7 (codesD 7) from hown7)
  have HB7 := Lib.hid ((HB6.out).grown hgrow7 HB6.out.size (fun k hk => by cases hk; exact Nat.le_refl _))
  clear hown7 hgrow7
  go_wp2_with (refine wpList_insert_own _ rfl _ _ _ 175 rfl 3 3 lawI tMap _ w.heap.size 7 (codesD 7) rfl H7.out (by unfold maxLen; omega) _ _ _ rfl rfl (keyOf_int_mk tInt (by decide)) (i64D 8) [] (plainElem_int tInt (by decide)) ?_)
  intro w8 hown8 hgrow8
  have H8 := Lib.hid (show w8.ownsMap Tryz.prog 3 (plainElem (H := Unit) Tryz.prog 3) w.heap.size 8 (codesD 8) from hown8)
  have HB8 := Lib.hid ((HB7.out).grown hgrow8 HB7.out.size (fun k hk => by cases hk; exact Nat.le_refl _))
  clear hown8 hgrow8
  go_wp2_with (refine wpList_insert_own _ rfl _ _ _ 175 rfl 3 3 lawI tMap _ w.heap.size 8 (codesD 8) rfl H8.out (by unfold maxLen; omega) _ _ _ rfl rfl (keyOf_int_mk tInt (by decide)) (i64D 9) [] (plainElem_int tInt (by decide)) ?_)
  intro w9 hown9 hgrow9
  have H9 := Lib.hid (show w9.ownsMap Tryz.prog 3 (plainElem (H := Unit) Tryz.prog 3) w.heap.size 9 (codesD 9) from hown9)
  have HB9 := Lib.hid ((HB8.out).grown hgrow9 HB8.out.size (fun k hk => by cases hk; exact Nat.le_refl _))
  clear hown9 hgrow9
  have hz := HB9.out.size
  go_wp2_with (at_lookup; refine wpList_lookup_own_int _ rfl _ _ 175 rfl 3 3 .i64 lawI tMap tInt (zeroI _) w.heap.size 9 _ rfl (H9.out.alloc _) _ _ rfl (keyOf_int_mk tInt ?_) ?_)
  · exact WalkArith.wf_i64 (by omega)
  · intro c hat hwc
    obtain rfl := reason_at s c hat
    obtain ⟨k, hk⟩ : ∃ k : Nat, reasonIx s = k := ⟨(reasonIx s).toNat, by have := reasonIx_range s; omega⟩
    have hk9 : k ≤ 9 := by have := reasonIx_range s; omega
    have hget := wordsD_get k hk9
    have hres : reasonB s = words.getD k ⟨#[]⟩ := by unfold reasonB; rw [hk]; rfl
    rw [hk]
    generalize words.getD k ⟨#[]⟩ = x at *
    have HX := Lib.hid hres
    have hc : (w9.alloc (.cells (words.map Value.string).toArray 9)).cell? ⟨w9.heap.size, k, none⟩ = some (.string x) := cell_new w9 _ _ k _ hget
    clear hat hwc hk hres hget
    unfold words at hc
    simp only [List.map_cons, List.map_nil] at hc
    go_wp2_with fail
    go_ret
    exact ⟨by rw [HX.out]; rfl, (below_alloc HB9.out _)⟩
end Go.Proofs.YtaihnhhapplmbaaGreatDoor.Ht
