/- Package conf: the reader's put, its end: the key is appended. -/
import Derived.Test.YtpdnopfjnmjnnaaGreatDoorNl
set_option linter.unusedVariables false
set_option linter.unusedSimpArgs false
namespace Go.Proofs.YtpdnopfjnmjnnaaGreatDoor.Cn
open Go.Sort Go.RowKit Go.Proofs Go.Proofs.YtpdnopfjnmjnnaaGreatDoorW.PrintWords Go.Proofs.YtpdnopfjnmjnnaaGreatDoor.Bs Go.Proofs.YtpdnopfjnmjnnaaGreatDoor.Ir Go.Proofs.YtpdnopfjnmjnnaaGreatDoor.Cz

/-- The code behind a sequence's first parts. -/
def seqR : Code → Code
  | .seq _ b => b
  | c => c
def seqL : Code → Code
  | .seq a _ => a
  | c => c
noncomputable def put9 : Code := seqL (seqR (seqR (seqR (seqR (seqR (seqR (seqR (seqR (seqR ((Tryz.f28).body.getD .skip))))))))))
noncomputable def put10 : Code := seqR (seqR (seqR (seqR (seqR (seqR (seqR (seqR (seqR (seqR ((Tryz.f28).body.getD .skip))))))))))
set_option maxRecDepth 100000 in
set_option maxHeartbeats 100000000 in
theorem put_tail (w w7 w8 w9 : World) (base fl rt rb b0 ab ao g1 c1 : Nat) (x : Kn) (N4 : Nat → Prop) (bs4 : List Nat) (ads' : List Addr) (Ak : Option Addr) (ck : Nat) (vL4 : Value) (path : List Lv) (cur : List Kn) (opn hs : Bool) (Al : Option Addr) (cl : Nat) (k : ByteArray)
    (HZ7 : Hid (Zs w7 base fl rt rb N4 bs4 (⟨ab, ao, none⟩ :: ads') (.slice Ak cur.length ck) vL4 path cur opn)) (HF4 : Hid (x.f4 = [])) (HR7 : Hid (Kd.string.R 9 w7 b0 (fun k => b0 ≤ k) (.slice Al x.f3.length cl) x.f3)) (HWB : Hid (base ≤ b0)) (HC4 : Hid (cur.length < 256)) (hbase : base ≤ w.heap.size) (HB7 : Hid (BK base w w7)) (HWF : Hid (fl ≤ b0)) (HS7 : Hid (b0 ≤ w7.heap.size))
    (HOP : Hid (hs = false → x = shutK k [] ∧ Value.slice Al x.f3.length cl = .slice none 0 0 ∧ path.length + 1 ≤ 8))
    (hR8 : kK.R 44 w8 base (fun k => N4 k ∨ some k = (Value.slice Ak cur.length ck).ownBlock ∨ w7.heap.size ≤ k) (.slice (some ⟨g1, 0, none⟩) (cur.length + 1) c1) (cur ++ [zKn])) (hg8 : w7.drew.grownBy w8 (Value.slice Ak cur.length ck).ownBlock) (hat8 : (Value.slice (some ⟨g1, 0, none⟩) (cur.length + 1) c1).ownBlock = (Value.slice Ak cur.length ck).ownBlock ∨ ∃ b, (Value.slice (some ⟨g1, 0, none⟩) (cur.length + 1) c1).ownBlock = some b ∧ w7.drew.heap.size ≤ b) (hne : ab ≠ g1)
    (hw9 : w9 = (((((w8.setCell ⟨g1, cur.length * 5, none⟩ (.string x.f0)).setCell ⟨g1, cur.length * 5 + 1, none⟩ (.int .u8 x.f1)).setCell ⟨g1, cur.length * 5 + 2, none⟩ (.string x.f2)).setCell ⟨g1, cur.length * 5 + 3, none⟩ (.slice Al x.f3.length cl)).setCell ⟨g1, cur.length * 5 + 4, none⟩ (.slice none 0 0)).setCell ⟨ab, ao + 3, none⟩ (.slice (some ⟨g1, 0, none⟩) (cur.length + 1) c1)
      ∨ w9 = (((((w8.setCell ⟨ab, ao + 3, none⟩ (.slice (some ⟨g1, 0, none⟩) (cur.length + 1) c1)).setCell ⟨g1, cur.length * 5, none⟩ (.string x.f0)).setCell ⟨g1, cur.length * 5 + 1, none⟩ (.int .u8 x.f1)).setCell ⟨g1, cur.length * 5 + 2, none⟩ (.string x.f2)).setCell ⟨g1, cur.length * 5 + 3, none⟩ (.slice Al x.f3.length cl)).setCell ⟨g1, cur.length * 5 + 4, none⟩ (.slice none 0 0))
    (Kc : Act → World → Prop) (hK : ∀ a W, Code.wp Tryz.prog put10 (bodyPost Tryz.prog Tryz.f28 (fun e w' => PutQ base fl rt rb w (.ok ⟨path, cur ++ [x], !hs⟩) e w')) a W → Kc a W) (v1 v2 v3 v4 v5 v7 v8 v9 v10 v11 v12 v13 v14 v15 v16 v17 v18 v19 v20 v21 v22 v23 v24 v25 v26 v27 v28 v29 v30 v31 v32 v33 v34 v35 v36 v37 v38 v39 v40 v41 v42 v43 v44 v45 v46 v47 v48 v49 v50 v51 v52 v53 v54 v55 v56 v57 v58 v59 v60 v61 v62 v63 v64 v65 v66 v67 v68 v69 v70 v71 v72 v73 v74 v75 v76 v77 v78 v79 v80 v81 v82 v83 v84 v85 v86 v87 v88 v89 v90 : Value) :
    Exit.then Kc (bodyPost Tryz.prog Tryz.f28 (fun e w' => PutQ base fl rt rb w (.ok ⟨path, cur ++ [x], !hs⟩) e w')) .normal { tmps := #[.pointer (some ⟨rb, 0, none⟩), v1, v2, v3, v4, v5, .bool hs, v7, v8, v9, v10, v11, v12, v13, v14, v15, v16, v17, v18, v19, v20, v21, v22, v23, v24, v25, v26, v27, v28, v29, v30, v31, v32, v33, v34, v35, v36, v37, v38, v39, v40, v41, v42, v43, v44, v45, v46, v47, v48, v49, v50, v51, v52, v53, v54, v55, v56, v57, v58, v59, v60, v61, v62, v63, v64, v65, v66, v67, v68, v69, v70, v71, v72, v73, v74, v75, v76, v77, v78, v79, v80, v81, v82, v83, v84, v85, v86, v87, v88, v89, v90], defers := [] } w9 := by
  obtain ⟨hB9, N9, hz9, ho9⟩ := appended2 HZ7.out rfl hR8 hg8 hat8 x HF4.out _ HR7.out HWB.out HC4.out (Nat.le_trans hbase HB7.out.size) HWF.out HS7.out hne w9 hw9
  refine hK _ _ ?_
  clear hK hw9 hR8 hg8 hat8
  generalize hQ : (bodyPost Tryz.prog _ _) = Q'
  dsimp only [put10, seqL, seqR, Option.getD, Tryz.f28]
  subst hQ
  have u1 := blk_cell hz9.rd 1
  have zf1 := blk_frozen hz9.rd 1
  have HB9 := Lib.hid (HB7.out.trans hB9)
  have HZ9 := Lib.hid hz9
  have HO9 := Lib.hid ho9
  clear hB9 hz9 ho9
  go_wp2_with fail
  refine bodyPost_end (results_none (fn := Tryz.f28) (by kernel_rfl) _ _ _) rfl ?_
  obtain ⟨hzF, hbF, hoF⟩ := HZ9.out.flag (!hs) rfl
  refine ⟨HB9.out.trans hbF, rfl, N9, bs4, _, _, vL4, hzF, fun e => ?_⟩
  obtain ⟨hk1, hk2, hk3⟩ := HOP.out (by simpa using e)
  exact ⟨cur, _, by rw [hk1], hoF _ _ (HO9.out _ hk1 hk2), hk3⟩
set_option maxRecDepth 100000 in
set_option maxHeartbeats 100000000 in
/-- The last two regions: the key is appended, the mark is set. -/
theorem put_end (w w7 : World) (base fl rt rb b0 kb ab ao : Nat) (x : Kn) (N4 : Nat → Prop) (bs4 : List Nat) (ads' : List Addr) (Ak : Option Addr) (ck : Nat) (vL4 : Value) (path : List Lv) (cur : List Kn) (opn hs : Bool) (Al : Option Addr) (cl : Nat) (k : ByteArray)
    (HZ7 : Hid (Zs w7 base fl rt rb N4 bs4 (⟨ab, ao, none⟩ :: ads') (.slice Ak cur.length ck) vL4 path cur opn)) (HF4 : Hid (x.f4 = [])) (HR7 : Hid (Kd.string.R 9 w7 b0 (fun k => b0 ≤ k) (.slice Al x.f3.length cl) x.f3)) (HWB : Hid (base ≤ b0)) (HC4 : Hid (cur.length < 256)) (hbase : base ≤ w.heap.size) (HB7 : Hid (BK base w w7)) (HWF : Hid (fl ≤ b0)) (HS7 : Hid (b0 ≤ w7.heap.size))
    (HK7 : Hid (w7.heap[kb]? = some (.cells #[.string x.f0] 9 (0, 0)))) (HN7 : Hid (w7.heap[kb + 1]? = some (.cells #[.int .u8 x.f1, .string x.f2, .slice Al x.f3.length cl, .slice none 0 0] 32 (0, 0))))
    (HOP : Hid (hs = false → x = shutK k [] ∧ Value.slice Al x.f3.length cl = .slice none 0 0 ∧ path.length + 1 ≤ 8))
    (Kc : Act → World → Prop) (Q' : Exit → Act → World → Prop) (hQ : Q' = bodyPost Tryz.prog Tryz.f28 (fun e w' => PutQ base fl rt rb w (.ok ⟨path, cur ++ [x], !hs⟩) e w')) (hK : ∀ a W, Code.wp Tryz.prog put10 Q' a W → Kc a W) (v1 v2 v3 v8 v9 v10 v11 v12 v13 v14 v15 v16 v17 v18 v19 v20 v21 v22 v23 v24 v25 v26 v27 v28 v29 v30 v31 v32 v33 v34 v35 v36 v37 v38 v39 v40 v41 v42 v43 v44 v45 v46 v47 v48 v49 v50 v51 v52 v53 v54 v55 v56 v57 v58 v59 v60 v61 v62 v63 v64 v65 v66 v67 v68 v69 v70 v71 v72 : Value) :
    Code.wp Tryz.prog put9 (Exit.then Kc Q') { tmps := #[.pointer (some ⟨rb, 0, none⟩), v1, v2, v3, .pointer (some ⟨kb, 0, none⟩), .pointer (some ⟨kb + 1, 0, none⟩), .bool hs, .pointer (some ⟨ab, ao, none⟩), v8, v9, v10, v11, v12, v13, v14, v15, v16, v17, v18, v19, v20, v21, v22, v23, v24, v25, v26, v27, v28, v29, v30, v31, v32, v33, v34, v35, v36, v37, v38, v39, v40, v41, v42, v43, v44, v45, v46, v47, v48, v49, v50, v51, v52, v53, v54, v55, v56, v57, v58, v59, v60, v61, v62, v63, v64, v65, v66, v67, v68, v69, v70, v71, v72, undef, undef, undef, undef, undef, undef, undef, undef, undef, undef, undef, undef, undef, undef, undef, undef, undef, undef], defers := [] } w7 := by
  dsimp only [put9, seqL, seqR, Option.getD, Tryz.f28]
  subst hQ
  have HKc := Lib.hid hK
  clear hK
  obtain ⟨-, k0, kf0⟩ := HZ7.out.zp.keys
  have q0 := blk_cell HK7.out 0
  have y0 := blk_cell HN7.out 0
  have y1 := blk_cell HN7.out 1
  have y2 := blk_cell HN7.out 2
  have y3 := blk_cell HN7.out 3
  have q0b := cell_past w7 (.cells #[.string ⟨#[]⟩, .int .u8 0, .string ⟨#[]⟩, .slice none 0 0, .slice none 0 0] 44) _ _ q0
  have y0b := cell_past w7 (.cells #[.string ⟨#[]⟩, .int .u8 0, .string ⟨#[]⟩, .slice none 0 0, .slice none 0 0] 44) _ _ y0
  have y1b := cell_past w7 (.cells #[.string ⟨#[]⟩, .int .u8 0, .string ⟨#[]⟩, .slice none 0 0, .slice none 0 0] 44) _ _ y1
  have y2b := cell_past w7 (.cells #[.string ⟨#[]⟩, .int .u8 0, .string ⟨#[]⟩, .slice none 0 0, .slice none 0 0] 44) _ _ y2
  have y3b := cell_past w7 (.cells #[.string ⟨#[]⟩, .int .u8 0, .string ⟨#[]⟩, .slice none 0 0, .slice none 0 0] 44) _ _ y3
  have k0b := cell_past w7 (.cells #[.string ⟨#[]⟩, .int .u8 0, .string ⟨#[]⟩, .slice none 0 0, .slice none 0 0] 44) _ _ k0
  have hbase7 : base ≤ w7.drew.heap.size := Nat.le_trans hbase HB7.out.size
  have HAP := Lib.hid (HZ7.out.toAppend)
  have hltm : ((cur.length : Nat) : Int) < ((cur.length : Nat) : Int) + 1 := by omega
  go_region_law (refine Kd.R_append_step kK (w0 := w7.drew) (W := w7.drew) base rfl (.tmp 76) (.tmp 81) 30 44 (.agg #[.string ⟨#[]⟩, .int .u8 0, .string ⟨#[]⟩, .slice none 0 0, .slice none 0 0]) 88 rfl Tu_keys inK rfl (by decide) (by decide) _ _ zKn [.string ⟨#[]⟩, .int .u8 0, .string ⟨#[]⟩, .slice none 0 0, .slice none 0 0] (fun k => N4 k ∨ some k = (Value.slice Ak cur.length ck).ownBlock ∨ w7.heap.size ≤ k) (fun _ => False) rfl rfl (kK_mkM _ _ _ zKn (Kd.R_nil _ _ _ _ _) (Kd.R_nil _ _ _ _ _)) (fun _ h => h.elim) (fun k hk => .inr (.inr hk)) HAP.out (Below.refl _ _) hbase7 (by have := HC4.out; omega) ?_; intro v1' w8 hR8 hB8 hg8 hat8; obtain ⟨g1, c1, hv1, ⟨u0, z0⟩, ⟨u1, z1⟩, ⟨u2, z2⟩, ⟨u3, z3⟩, ⟨u4, z4⟩, zf, ⟨ua, a0⟩, af, hne1, hne2⟩ := HZ7.out.after hR8 hg8 hat8; have HNE := Lib.hid hne1; subst hv1)
  all_goals refine gen_exit ?_
  all_goals intro w9 hw9
  all_goals have hg8' : w7.drew.grownBy w8 (Value.slice Ak cur.length ck).ownBlock := hg8
  all_goals have hat8' : (Value.slice (some ⟨g1, 0, none⟩) (cur.length + 1) c1).ownBlock = (Value.slice Ak cur.length ck).ownBlock ∨ ∃ b, (Value.slice (some ⟨g1, 0, none⟩) (cur.length + 1) c1).ownBlock = some b ∧ w7.drew.heap.size ≤ b := hat8
  all_goals have hor : w9 = ((((((w8.setCell ⟨g1, cur.length * 5, none⟩ (.string x.f0)).setCell ⟨g1, cur.length * 5 + 1, none⟩ (.int .u8 x.f1)).setCell ⟨g1, cur.length * 5 + 2, none⟩ (.string x.f2)).setCell ⟨g1, cur.length * 5 + 3, none⟩ (.slice Al x.f3.length cl)).setCell ⟨g1, cur.length * 5 + 4, none⟩ (.slice none 0 0)).setCell ⟨ab, ao + 3, none⟩ (.slice (some ⟨g1, 0, none⟩) (cur.length + 1) c1)) ∨ w9 = ((((((w8.setCell ⟨ab, ao + 3, none⟩ (.slice (some ⟨g1, 0, none⟩) (cur.length + 1) c1)).setCell ⟨g1, cur.length * 5, none⟩ (.string x.f0)).setCell ⟨g1, cur.length * 5 + 1, none⟩ (.int .u8 x.f1)).setCell ⟨g1, cur.length * 5 + 2, none⟩ (.string x.f2)).setCell ⟨g1, cur.length * 5 + 3, none⟩ (.slice Al x.f3.length cl)).setCell ⟨g1, cur.length * 5 + 4, none⟩ (.slice none 0 0)) := by first | (with_reducible exact Or.inl hw9) | (with_reducible exact Or.inr hw9)
  all_goals clear hg8 hat8 hw9 hB8 z0 z1 z2 z3 z4 zf a0 af q0 y0 y1 y2 y3 q0b y0b y1b y2b y3b k0 k0b kf0
  all_goals exact put_tail w w7 w8 w9 base fl rt rb b0 ab ao g1 c1 x N4 bs4 ads' Ak ck vL4 path cur opn hs Al cl k HZ7 HF4 HR7 HWB HC4 hbase HB7 HWF HS7 HOP hR8 hg8' hat8' HNE.out hor Kc HKc.out _ _ _ _ _ _ _ _ _ _ _ _ _ _ _ _ _ _ _ _ _ _ _ _ _ _ _ _ _ _ _ _ _ _ _ _ _ _ _ _ _ _ _ _ _ _ _ _ _ _ _ _ _ _ _ _ _ _ _ _ _ _ _ _ _ _ _ _ _ _ _ _ _ _ _ _ _ _ _ _ _ _ _ _ _ _ _ _ _
end Go.Proofs.YtpdnopfjnmjnnaaGreatDoor.Cn
