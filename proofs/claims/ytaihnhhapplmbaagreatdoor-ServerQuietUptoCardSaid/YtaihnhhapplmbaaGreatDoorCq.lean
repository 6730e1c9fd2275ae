/- What ServerQuiet says is true, for every connection, all rules and every time: a connection that is quiet long enough is closed, one that waits for an answer never; ahead of that a tick changes nothing. Where the arguments, and the listed variables, are of bulk at most 1048576. -/
import Derived.Test.YtaihnhhapplmbaaGreatDoorOp
import Derived.Test.YtaihnhhapplmbaaGreatDoorOb
import Derived.Test.YtaihnhhapplmbaaGreatDoorSx
import Derived.Test.YtaihnhhapplmbaaGreatDoorSu
set_option linter.unusedVariables false
set_option linter.unusedSimpArgs false
namespace Go.Proofs.YtaihnhhapplmbaaGreatDoor.CardServerQuiet
open Go.ChangeShapes Go.WideShapes Go.ChangeAt Go.RowKit Go.Deep Go.Joins Go.Proofs.YtaihnhhapplmbaaGreatDoor Go.Proofs.YtaihnhhapplmbaaGreatDoor.Gl Go.Proofs.YtaihnhhapplmbaaGreatDoor.Op Go.Proofs.YtaihnhhapplmbaaGreatDoor.Ht Go.Proofs.YtaihnhhapplmbaaGreatDoorW.PrintWords
open Go.ChangeMaps (open_string shut_string)

set_option maxRecDepth 100000 in
set_option maxHeartbeats 2000000 in
theorem contract (H : Type) (enc : TypeId × Value → H) (F : Stop.Interp) (W : World) (base : Nat) (args : Array Value) (ds gs : List (DataW H)) (before : List MemPlace)
    (hval : ∀ (j : Nat) t v, Tryz.f4.params[j]? = some t → args[j]? = some v → Value.okWide Tryz.prog W .any base t v)
    (hW : DataW.Whole enc Tryz.prog Tryz.f4.params.toList (Rows.OpenSpec.upto Rows.serverQuietSpec).vars false W args.toList ds gs before) (hk : Rows.uptoSmall H (ds ++ gs) = true) (hL : laidMetH Tryz.prog Rows.serverQuietUptoRow.laid W) (hsh : W.ShapedOpen Tryz.prog) :
    Calls Tryz.prog 4 args W fun e W' => ∃ v, e = .returned v ∧ ((Rows.OpenSpec.upto Rows.serverQuietSpec).at F).post enc Tryz.prog Tryz.f4 false true false false W args v W' := by
  have hW' := hW
  obtain ⟨p, q, hA0, hV, rfl, hfz, hnd⟩ := hW
  have hA : DataW.TrodAll enc Tryz.prog W 0 (fun _ => true) true Tryz.f4.params.toList args.toList ds p := hA0
  rw [Tryz.params4] at hA hval
  obtain ⟨v0, vs0, d0, ds0, p0, q0, hargs, rfl, rfl, h0, r0⟩ := trodAll_cons hA
  obtain ⟨v1, vs1, d1, ds1, p1, q1, rfl, rfl, rfl, h1, r1⟩ := trodAll_cons r0
  obtain ⟨v2, vs2, d2, ds2, p2, q2, rfl, rfl, rfl, h2, r2⟩ := trodAll_cons r1
  obtain ⟨rfl, rfl, rfl⟩ := trodAll_nil r2
  obtain rfl : args = #[v0, v1, v2] := by cases args; simp_all
  obtain ⟨rfl, rfl⟩ := trodVars_none hV
  have hbulk := small_of hk
  simp only [List.append_nil, List.cons_append, List.nil_append, Rows.uptoBulkAll] at hbulk
  have bk0 : Rows.uptoBulk d0 ≤ 1048576 := by omega
  have k0 := h0
  have lt0 : ∀ x ∈ p0, x.block < W.heap.size := by obtain ⟨m, hm⟩ := k0; exact DataW.trod_lt m _ _ _ hm
  obtain ⟨w0, w1, w2, w3, w4, w5, yr0, yr1, yr2, yr3, yr4, yr5, n0, rfl, rfl, rfl, g0, g1, g2, g3, g4, g5⟩ := open_agg6 Tryz.underlying24 (by kernel_rfl) (by kernel_rfl) (hval 0 24 v0 rfl rfl) h0
  simp only [Rows.uptoBulk, Rows.uptoBulkAll] at bk0
  obtain ⟨cb, s0, zz, _⟩ := DataW.trod_string Tryz.underlying9 g0
  obtain rfl : w0 = .string cb := by simpa using s0
  subst zz
  obtain ⟨co, s1, zz, _⟩ := DataW.trod_string Tryz.underlying9 g1
  obtain rfl : w1 = .string co := by simpa using s1
  subst zz
  obtain ⟨cc, s2, zz⟩ := DataW.trod_bool Tryz.underlying4 g2
  obtain rfl : w2 = .bool cc := by simpa using s2
  subst zz
  obtain ⟨cy, s3, zz⟩ := DataW.trod_bool Tryz.underlying4 g3
  obtain rfl : w3 = .bool cy := by simpa using s3
  subst zz
  obtain ⟨cl, s4, zz⟩ := DataW.trod_bool Tryz.underlying4 g4
  obtain rfl : w4 = .bool cl := by simpa using s4
  subst zz
  obtain ⟨cs, s5, zz, wsc⟩ := DataW.trod_int Tryz.underlying22 g5
  obtain rfl : w5 = .int .u64 cs := by simpa using s5
  subst zz
  obtain ⟨zcs, ucs⟩ := bounds_u64 wsc
  dsimp only at bk0
  have zcb : cb.size ≤ 1048576 := short (H := H) (by omega)
  have zco : co.size ≤ 1048576 := short (H := H) (by omega)
  have bk1 : Rows.uptoBulk d1 ≤ 1048576 := by omega
  have k1 := h1
  have lt1 : ∀ x ∈ p1, x.block < W.heap.size := by obtain ⟨m, hm⟩ := k1; exact DataW.trod_lt m _ _ _ hm
  obtain ⟨w6, w7, yu0, yu1, n1, rfl, rfl, rfl, g6, g7⟩ := open_agg2 Tryz.underlying26 (by kernel_rfl) (by kernel_rfl) (hval 1 26 v1 rfl rfl) h1
  obtain ⟨rm, s6, zz, wmr⟩ := DataW.trod_int Tryz.underlying3 g6
  obtain rfl : w6 = .int .i64 rm := by simpa using s6
  subst zz
  obtain ⟨zrm, urm⟩ := bounds_i64 wmr
  obtain ⟨ri, s7, zz, wir⟩ := DataW.trod_int Tryz.underlying22 g7
  obtain rfl : w7 = .int .u64 ri := by simpa using s7
  subst zz
  obtain ⟨zri, uri⟩ := bounds_u64 wir
  have bk2 : Rows.uptoBulk d2 ≤ 1048576 := by omega
  obtain ⟨now, rfl, rfl, rfl, yy2⟩ := open_int Tryz.underlying22 (hval 2 22 v2 rfl rfl) h2
  obtain ⟨znow, unow⟩ := bounds_u64 yy2
  clear hA0
  simp only [List.append_nil] at hW'
  refine (Sv.serverQuiet_any Sv.lives_any cb co cc cy cl cs rm ri now W (gnd_of hL hsh) zcb zco zcs ucs znow unow).mono fun e W' ⟨he, hg⟩ => ?_
  subst he
  exact ⟨_, rfl, _, _, _, [], _, [], hW', trodAll_cons_mk (shut_bool Tryz.underlying4 _) trodAll_mk0, (trodAll_cons_mk (Below.trod laidOut (by kernel_rfl) (of_decide_eq_true (by kernel_rfl)) k0 hg lt0) (trodAll_cons_mk (Below.trod laidOut (by kernel_rfl) (of_decide_eq_true (by kernel_rfl)) k1 hg lt1) (trodAll_cons_mk (shut_int Tryz.underlying22 yy2) trodAll_mk0))), rfl, hg.frame _, fun h => by cases h⟩

abbrev wit : Array Value := #[.agg #[.string ⟨#[]⟩, .string ⟨#[]⟩, .bool false, .bool false, .bool false, .int .u64 0], .agg #[.int .i64 0, .int .u64 0], .int .u64 0]
set_option maxRecDepth 100000 in
theorem reads (os : Os) {H : Type} (enc : TypeId × Value → H) : ∃ places, DataW.whole enc Tryz.prog ((laidWorld os).forCall (fun _ _ => 0) ⟨#[], wit, []⟩).memory Tryz.f4.params.toList (Rows.OpenSpec.upto Rows.serverQuietSpec).vars false wit.toList 8 = some ([.agg [.lit (.string []), .lit (.string []), .lit (.bool false), .lit (.bool false), .lit (.bool false), .lit (.int .u64 0)], .agg [.lit (.int .i64 0), .lit (.int .u64 0)], .lit (.int .u64 0)], [], places) :=
  ⟨[], by kernel_rfl⟩
set_option maxRecDepth 100000 in
theorem lifted (os : Os) (started : os.Started) (H : Type) (enc : TypeId × Value → H) (F : Stop.Interp) :
    ReturnsInHanded {} Tryz.checked os 4 .any ((Rows.OpenSpec.upto Rows.serverQuietSpec).preRow enc Tryz.prog Tryz.f4 Rows.serverQuietUptoRow.domain false Rows.serverQuietUptoRow.laid) (((Rows.OpenSpec.upto Rows.serverQuietSpec).at F).post enc Tryz.prog Tryz.f4 false true false false) := by
  obtain ⟨places, hx⟩ := reads os enc
  refine returnsInHanded_of_row (C := Tryz.checked) (s := Rows.OpenSpec.upto Rows.serverQuietSpec) own started (by kernel_rfl) Tryz.func4
    (witness_row_atRef (enc := enc) (C := Tryz.checked) false (laidWorld os) wit rfl (by kernel_rfl) (by kernel_rfl) (by kernel_rfl)
      (OpenSpec.preRow_of_cond 8 hx (by kernel_rfl) (fun k hk => by cases hk; kernel_rfl) (by kernel_rfl) (laid_met os wit))) ?_
  intro W base args ds gs before hval hW _ hcond _ hL hsh _
  exact contract H enc F W base args ds gs before hval hW (hcond _ rfl) hL hsh
theorem saidUpto : Rows.ServerQuietUptoSaid :=
  OpenClaim.holds_of_cond 4 Tryz.f4 rfl rfl rfl rfl rfl rfl rfl ⟨rfl, rfl, rfl, rfl, rfl⟩ rfl rfl rfl rfl rfl (by kernel_rfl) Tryz.func4 (by kernel_rfl)
    (of_decide_eq_true (by kernel_rfl)) (by unfold Func.isWrapper; first | (rw [if_pos (by decide +kernel)]; kernel_rfl) | (rw [if_neg (by decide +kernel)]; exact ⟨rfl, rfl⟩))
    (fun os started H enc _ F => by rw [OpenClaim.pre_eq_preRow]; exact lifted os started H enc F)
theorem plain (f : FuncId) (fn : Func) (hf : Tryz.pinned.checked.prog.funcNamed "penstock/penstocklaw08.ServerQuiet" = some f) (hfn : Tryz.pinned.checked.prog.funcs[f]? = some fn) :
    true = Tryz.pinned.checked.prog.looks [] ∧ ∀ (j : Nat) t, fn.params[j]? = some t → Tryz.pinned.checked.prog.wantsStandIn t = false := by
  obtain rfl : f = 4 := Option.some.inj ((show Tryz.prog.funcNamed "penstock/penstocklaw08.ServerQuiet" = some 4 by kernel_rfl).symm.trans hf) |>.symm
  obtain rfl : fn = Tryz.f4 := (Option.some.inj (Tryz.func4.symm.trans hfn)).symm
  refine ⟨by kernel_rfl, fun j t ht => ?_⟩
  rw [Tryz.params4] at ht
  have hm := Array.mem_of_getElem? ht
  simp only [List.mem_toArray, List.mem_cons, List.not_mem_nil, or_false] at hm
  rcases hm with rfl | rfl | rfl
  · exact (show Tryz.prog.wantsStandIn 24 = false by kernel_rfl)
  · exact (show Tryz.prog.wantsStandIn 26 = false by kernel_rfl)
  · exact (show Tryz.prog.wantsStandIn 22 = false by kernel_rfl)
/-- THE CARD. -/
theorem cardUpto : Rows.ServerQuietUptoCardSaid :=
  Claim7.holds_tied_plain_at .later [] _ _ _ _ saidUpto (fun _ h => by cases h) (by kernel_rfl) (fun _ h => by cases h) serverQuietUpto_row_tie rfl ⟨rfl, rfl⟩ (by kernel_rfl) rfl plain (by kernel_rfl)
#print axioms cardUpto
end Go.Proofs.YtaihnhhapplmbaaGreatDoor.CardServerQuiet
