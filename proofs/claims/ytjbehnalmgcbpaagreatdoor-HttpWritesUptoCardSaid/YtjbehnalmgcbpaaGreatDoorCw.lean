/- What HttpWrites says is true: the product and the reference write the same octets. Where the arguments, and the listed variables, are of bulk at most 1048576. -/
import Derived.Test.YtjbehnalmgcbpaaGreatDoorOp
import Derived.Test.YtjbehnalmgcbpaaGreatDoorLw
set_option linter.unusedVariables false
set_option linter.unusedSimpArgs false
namespace Go.Proofs.YtjbehnalmgcbpaaGreatDoor.CardHttpWrites
open Go.ChangeShapes Go.WideShapes Go.ChangeAt Go.RowKit Go.Deep Go.Joins Go.Proofs.YtjbehnalmgcbpaaGreatDoor.Gl Go.Proofs.YtjbehnalmgcbpaaGreatDoor.Op Go.Proofs.YtjbehnalmgcbpaaGreatDoor.Ht Go.Proofs.YtjbehnalmgcbpaaGreatDoorW.PrintWords
open Go.ChangeMaps (open_string shut_string)

set_option maxRecDepth 100000 in
set_option maxHeartbeats 2000000 in
theorem contract (H : Type) (enc : TypeId × Value → H) (F : Stop.Interp) (W : World) (base : Nat) (args : Array Value) (ds gs : List (DataW H)) (before : List MemPlace)
    (hval : ∀ (j : Nat) t v, Tryz.f5.params[j]? = some t → args[j]? = some v → Value.okWide Tryz.prog W .any base t v)
    (hW : DataW.Whole enc Tryz.prog Tryz.f5.params.toList (Rows.OpenSpec.upto Rows.httpWritesSpec).vars false W args.toList ds gs before) (hk : Rows.uptoSmall H (ds ++ gs) = true) (hL : laidMetH Tryz.prog Rows.httpWritesUptoRow.laid W) (hsh : W.ShapedOpen Tryz.prog) :
    Calls Tryz.prog 5 args W fun e W' => ∃ v, e = .returned v ∧ ((Rows.OpenSpec.upto Rows.httpWritesSpec).at F).post enc Tryz.prog Tryz.f5 false true false false W args v W' := by
  have hW' := hW
  obtain ⟨p, q, hA0, hV, rfl, hfz, hnd⟩ := hW
  have hA : DataW.TrodAll enc Tryz.prog W 0 (fun _ => true) true Tryz.f5.params.toList args.toList ds p := hA0
  rw [Tryz.params5] at hA hval
  obtain ⟨v0, vs0, d0, ds0, p0, q0, hargs, rfl, rfl, h0, r0⟩ := trodAll_cons hA
  obtain ⟨v1, vs1, d1, ds1, p1, q1, rfl, rfl, rfl, h1, r1⟩ := trodAll_cons r0
  obtain ⟨rfl, rfl, rfl⟩ := trodAll_nil r1
  obtain rfl : args = #[v0, v1] := by cases args; simp_all
  obtain ⟨rfl, rfl⟩ := trodVars_none hV
  have hbulk := small_of hk
  simp only [List.append_nil, List.cons_append, List.nil_append, Rows.uptoBulkAll] at hbulk
  have bk0 : Rows.uptoBulk d0 ≤ 1048576 := by omega
  have k0 := h0
  have lt0 : ∀ x ∈ p0, x.block < W.heap.size := by obtain ⟨m, hm⟩ := k0; exact DataW.trod_lt m _ _ _ hm
  obtain ⟨w0, w1, w2, w3, yr0, yr1, yr2, yr3, n0, rfl, rfl, rfl, g0, g1, g2, g3⟩ := open_agg4 Tryz.underlying25 (by kernel_rfl) (by kernel_rfl) (hval 0 25 v0 rfl rfl) h0
  simp only [Rows.uptoBulk, Rows.uptoBulkAll] at bk0
  obtain ⟨rm, s0, zz, _⟩ := DataW.trod_string Tryz.underlying9 g0
  obtain rfl : w0 = .string rm := by simpa using s0
  subst zz
  dsimp only at bk0
  have zrm : rm.size ≤ 1048576 := short (H := H) (by omega)
  obtain ⟨rt, s1, zz, _⟩ := DataW.trod_string Tryz.underlying9 g1
  obtain rfl : w1 = .string rt := by simpa using s1
  subst zz
  dsimp only at bk0
  have zrt : rt.size ≤ 1048576 := short (H := H) (by omega)
  obtain ⟨rb, s3, zz, _⟩ := DataW.trod_string Tryz.underlying9 g3
  obtain rfl : w3 = .string rb := by simpa using s3
  subst zz
  dsimp only at bk0
  have zrb : rb.size ≤ 1048576 := short (H := H) (by omega)
  obtain ⟨Ar, cr, r, e0, Cr, okr, nr⟩ := open_heads g2 (by omega)
  obtain rfl : w2 = .slice Ar r.length cr := by simpa using e0
  have bk1 : Rows.uptoBulk d1 ≤ 1048576 := by omega
  have k1 := h1
  have lt1 : ∀ x ∈ p1, x.block < W.heap.size := by obtain ⟨m, hm⟩ := k1; exact DataW.trod_lt m _ _ _ hm
  obtain ⟨w0, w1, w2, ys0, ys1, ys2, n1, rfl, rfl, rfl, g0, g1, g2⟩ := open_agg3 Tryz.underlying35 (by kernel_rfl) (by kernel_rfl) (hval 1 35 v1 rfl rfl) h1
  simp only [Rows.uptoBulk, Rows.uptoBulkAll] at bk1
  obtain ⟨pk, s0, _, wkp⟩ := DataW.trod_int Tryz.underlying3 g0
  obtain rfl : w0 = .int .i64 pk := by simpa using s0
  obtain ⟨pb, s2, zz, _⟩ := DataW.trod_string Tryz.underlying9 g2
  obtain rfl : w2 = .string pb := by simpa using s2
  subst zz
  dsimp only at bk1
  have zpb : pb.size ≤ 1048576 := short (H := H) (by omega)
  obtain ⟨Ap, cp, p, e1, Cp, okp, np⟩ := open_heads g1 (by omega)
  obtain rfl : w1 = .slice Ap p.length cp := by simpa using e1
  clear hA0
  simp only [List.append_nil] at hW'
  refine (Ht.httpWrites_any rm rt rb Ar cr r pk pb Ap cp p W (gnd_of hL hsh) zrm zrt nr np Cr Cp okr okp).mono fun e W' ⟨he, hg⟩ => ?_
  subst he
  exact ⟨_, rfl, _, _, _, [], _, [], hW', trodAll_cons_mk (shut_bool Tryz.underlying4 _) trodAll_mk0, (trodAll_cons_mk (Below.trod laidOut (by kernel_rfl) (of_decide_eq_true (by kernel_rfl)) k0 hg lt0) (trodAll_cons_mk (Below.trod laidOut (by kernel_rfl) (of_decide_eq_true (by kernel_rfl)) k1 hg lt1) trodAll_mk0)), rfl, hg.frame _, fun h => by cases h⟩

abbrev wit : Array Value := #[.agg #[.string ⟨#[]⟩, .string ⟨#[]⟩, .slice none 0 0, .string ⟨#[]⟩], .agg #[.int .i64 0, .slice none 0 0, .string ⟨#[]⟩]]
set_option maxRecDepth 100000 in
theorem reads (os : Os) {H : Type} (enc : TypeId × Value → H) : ∃ places, DataW.whole enc Tryz.prog ((laidWorld os).forCall (fun _ _ => 0) ⟨#[], wit, []⟩).memory Tryz.f5.params.toList (Rows.OpenSpec.upto Rows.httpWritesSpec).vars false wit.toList 8 = some ([.agg [.lit (.string []), .lit (.string []), .nil, .lit (.string [])], .agg [.lit (.int .i64 0), .nil, .lit (.string [])]], [], places) :=
  ⟨[], by kernel_rfl⟩
set_option maxRecDepth 100000 in
theorem lifted (os : Os) (started : os.Started) (H : Type) (enc : TypeId × Value → H) (F : Stop.Interp) :
    ReturnsInHanded {} Tryz.checked os 5 .any ((Rows.OpenSpec.upto Rows.httpWritesSpec).preRow enc Tryz.prog Tryz.f5 Rows.httpWritesUptoRow.domain false Rows.httpWritesUptoRow.laid) (((Rows.OpenSpec.upto Rows.httpWritesSpec).at F).post enc Tryz.prog Tryz.f5 false true false false) := by
  obtain ⟨places, hx⟩ := reads os enc
  refine returnsInHanded_of_row (C := Tryz.checked) (s := Rows.OpenSpec.upto Rows.httpWritesSpec) own started (by kernel_rfl) Tryz.func5
    (witness_row_atRef (enc := enc) (C := Tryz.checked) false (laidWorld os) wit rfl (by kernel_rfl) (by kernel_rfl) (by kernel_rfl)
      (OpenSpec.preRow_of_cond 8 hx (by kernel_rfl) (fun k hk => by cases hk; kernel_rfl) (by kernel_rfl) (laid_met os wit))) ?_
  intro W base args ds gs before hval hW _ hcond _ hL hsh _
  exact contract H enc F W base args ds gs before hval hW (hcond _ rfl) hL hsh
theorem saidUpto : Rows.HttpWritesUptoSaid :=
  OpenClaim.holds_of_cond 5 Tryz.f5 rfl rfl rfl rfl rfl rfl rfl ⟨rfl, rfl, rfl, rfl, rfl⟩ rfl rfl rfl rfl rfl (by kernel_rfl) Tryz.func5 (by kernel_rfl)
    (of_decide_eq_true (by kernel_rfl)) (by unfold Func.isWrapper; first | (rw [if_pos (by decide +kernel)]; kernel_rfl) | (rw [if_neg (by decide +kernel)]; exact ⟨rfl, rfl⟩))
    (fun os started H enc _ F => by rw [OpenClaim.pre_eq_preRow]; exact lifted os started H enc F)
theorem plain (f : FuncId) (fn : Func) (hf : Tryz.pinned.checked.prog.funcNamed "penstock/penstocklaw07.HttpWrites" = some f) (hfn : Tryz.pinned.checked.prog.funcs[f]? = some fn) :
    true = Tryz.pinned.checked.prog.looks [] ∧ ∀ (j : Nat) t, fn.params[j]? = some t → Tryz.pinned.checked.prog.wantsStandIn t = false := by
  obtain rfl : f = 5 := Option.some.inj ((show Tryz.prog.funcNamed "penstock/penstocklaw07.HttpWrites" = some 5 by kernel_rfl).symm.trans hf) |>.symm
  obtain rfl : fn = Tryz.f5 := (Option.some.inj (Tryz.func5.symm.trans hfn)).symm
  refine ⟨by kernel_rfl, fun j t ht => ?_⟩
  rw [Tryz.params5] at ht
  have hm := Array.mem_of_getElem? ht
  simp only [List.mem_toArray, List.mem_cons, List.not_mem_nil, or_false] at hm
  rcases hm with rfl | rfl
  · exact (show Tryz.prog.wantsStandIn 25 = false by kernel_rfl)
  · exact (show Tryz.prog.wantsStandIn 35 = false by kernel_rfl)
/-- THE CARD. -/
theorem cardUpto : Rows.HttpWritesUptoCardSaid :=
  Claim7.holds_tied_plain_at .later [] _ _ _ _ saidUpto (fun _ h => by cases h) (by kernel_rfl) (fun _ h => by cases h) httpWritesUpto_row_tie rfl ⟨rfl, rfl⟩ (by kernel_rfl) rfl plain (by kernel_rfl)
#print axioms cardUpto
end Go.Proofs.YtjbehnalmgcbpaaGreatDoor.CardHttpWrites
