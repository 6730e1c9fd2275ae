/- Package conf: Parse. -/
import Derived.Test.YtpdnopfjnmjnnaaGreatDoorNu
import Derived.Test.YtpdnopfjnmjnnaaGreatDoorNq
set_option linter.unusedVariables false
set_option linter.unusedSimpArgs false
namespace Go.Proofs.YtpdnopfjnmjnnaaGreatDoor.Cn
open Go.Sort Go.RowKit Go.Proofs Go.Proofs.YtpdnopfjnmjnnaaGreatDoorW.PrintWords Go.Proofs.YtpdnopfjnmjnnaaGreatDoor.Bs Go.Proofs.YtpdnopfjnmjnnaaGreatDoor.Ir Go.Proofs.YtpdnopfjnmjnnaaGreatDoor.Cz Go.Proofs.YtpdnopfjnmjnnaaGreatDoor.Rf
attribute [local go_sem] Oper.semAt_some

theorem parse_results (W : World) (g ab : Nat) (tm : Array Value) (v : Value) (y n : Int) (h2 : tm[2]? = some (.pointer (some ⟨g, 0, none⟩))) (h3 : tm[3]? = some (.pointer (some ⟨g + 1, 0, none⟩))) (h4 : tm[4]? = some (.pointer (some ⟨ab, 0, none⟩)))
    (hout : W.heap[g]? = some (.cells #[.int .u8 0, .string ⟨#[]⟩, .slice none 0 0, v] 32 (0, 0))) (hwhy : W.heap[g + 1]? = some (.cells #[.int .i64 y] 23 (0, 0))) (hat : W.heap[ab]? = some (.cells #[.int .i64 n] 3 (0, 0))) (hv : v.oneCell' = true) :
    (results Tryz.f16 tm).run Tryz.prog W = .ok (.tuple #[.agg #[.int .u8 0, .string ⟨#[]⟩, .slice none 0 0, v], .int .i64 y, .int .i64 n]) W := by
  have c0 := blk_cell hout 0
  have c1 := blk_cell hout 1
  have c2 := blk_cell hout 2
  have c3 := blk_cell hout 3
  have d0 := blk_cell hwhy 0
  have e0 := blk_cell hat 0
  clear hout hwhy hat
  simp [results, Tryz.results16, go_sem, h2, h3, h4, c0, c1, c2, c3, d0, e0]
theorem set4 {w : World} {b : Nat} {t : TypeId} {v0 v1 v2 v3 : Value} (h : w.heap[b]? = some (.cells #[v0, v1, v2, v3] t (0, 0))) (u0 u1 u2 u3 : Value) : (w.setCells b 0 [u0, u1, u2, u3]).heap[b]? = some (.cells #[u0, u1, u2, u3] t (0, 0)) := by
  have e0 : (#[v0, v1, v2, v3] : Array Value).setIfInBounds 0 u0 = #[u0, v1, v2, v3] := by simp
  have e1 : (#[u0, v1, v2, v3] : Array Value).setIfInBounds 1 u1 = #[u0, u1, v2, v3] := by simp
  have e2 : (#[u0, u1, v2, v3] : Array Value).setIfInBounds 2 u2 = #[u0, u1, u2, v3] := by simp
  have e3 : (#[u0, u1, u2, v3] : Array Value).setIfInBounds 3 u3 = #[u0, u1, u2, u3] := by simp
  have d0 := blk_set h 0 u0
  rw [e0] at d0
  have d1 := blk_set d0 1 u1
  rw [e1] at d1
  have d2 := blk_set d1 2 u2
  rw [e2] at d2
  have d3 := blk_set d2 3 u3
  rw [e3] at d3
  exact d3
theorem set4_far {w : World} {b k : Nat} (u0 u1 u2 u3 : Value) (h : k ≠ b) : (w.setCells b 0 [u0, u1, u2, u3]).heap[k]? = w.heap[k]? := setCells_far _ _ k h
theorem parse_dies (w W : World) (D ab : Nat) (y n : Int) (tm : Array Value) (h : Pin w D W) (hat : W.heap[ab]? = some (.cells #[.int .i64 n] 3 (0, 0))) (hab : w.heap.size + 1 < ab) (hD : ab < D) (h2 : tm[2]? = some (.pointer (some ⟨w.heap.size, 0, none⟩))) (h3 : tm[3]? = some (.pointer (some ⟨w.heap.size + 1, 0, none⟩))) (h4 : tm[4]? = some (.pointer (some ⟨ab, 0, none⟩)))
    (Q : Ending → World → Prop) (hQ : ∀ w', Below w.heap.size w w' → Q (.returned (.tuple #[.agg #[.int .u8 0, .string ⟨#[]⟩, .slice none 0 0, .slice none 0 0], .int .i64 y, .int .i64 n])) w') :
    bodyPostW Tryz.prog Tryz.f16 Q (.panic [{ v := .iface 63 (.agg #[.int .i64 y]), recovered := false }]) { tmps := tm, defers := [{ target := .collected D, args := #[] }, { target := .fn (.func 26) #[.pointer (some ⟨w.heap.size, 0, none⟩), .pointer (some ⟨w.heap.size + 1, 0, none⟩)], args := #[] }] } W := by
  refine .inr ⟨by simp, _, _, D, _, rfl, rfl, run_takeDeferred h.dd, ?_⟩
  obtain ⟨W3, hW3⟩ : ∃ W3, W3 = W.putObj D (.deferred none) := ⟨_, rfl⟩
  rw [← hW3]
  have hk : ∀ k, k ≠ D → W3.heap[k]? = W.heap[k]? := fun k hk => by rw [hW3]; exact World.putObj_heap_other hk
  have hb3 : Below w.heap.size w W3 := by rw [hW3]; exact h.bl.trans (below_putObj _ (by omega))
  have ho := (hk _ (by omega)).trans h.out
  have hw := (hk _ (by omega)).trans h.why
  have ha := (hk _ (by omega)).trans hat
  clear hW3 hk hat h
  refine leaves_cons (f := 26) (args := #[.pointer (some ⟨w.heap.size, 0, none⟩), .pointer (some ⟨w.heap.size + 1, 0, none⟩)]) (by simp) (by simp [go_sem]) ?_
  refine (catch_panicking w.heap.size _ _ _ _ _ y [] W3 ho (by rw [blk_cell hw]; rfl) (blk_frozen hw _)).mono ?_
  rintro e u' w'' ⟨rfl, rfl, rfl⟩
  have d0 := set4 ho (.int .u8 0) (.string ⟨#[]⟩) (.slice none 0 0) (.slice none 0 0)
  have d1 := (set4_far (w := W3) (b := w.heap.size) (.int .u8 0) (.string ⟨#[]⟩) (.slice none 0 0) (.slice none 0 0) (show w.heap.size + 1 ≠ w.heap.size by omega)).trans hw
  have d2 := (set4_far (w := W3) (b := w.heap.size) (.int .u8 0) (.string ⟨#[]⟩) (.slice none 0 0) (.slice none 0 0) (show ab ≠ w.heap.size by omega)).trans ha
  have hb4 : Below w.heap.size w (W3.setCells w.heap.size 0 [.int .u8 0, .string ⟨#[]⟩, .slice none 0 0, .slice none 0 0]) := (((hb3.setCell (p := ⟨w.heap.size, 0, none⟩) (Nat.le_refl _) _).setCell (p := ⟨w.heap.size, 1, none⟩) (Nat.le_refl _) _).setCell (p := ⟨w.heap.size, 2, none⟩) (Nat.le_refl _) _).setCell (p := ⟨w.heap.size, 3, none⟩) (Nat.le_refl _) _
  generalize W3.setCells w.heap.size 0 [.int .u8 0, .string ⟨#[]⟩, .slice none 0 0, .slice none 0 0] = W4 at *
  obtain ⟨WF, hWF⟩ : ∃ WF, WF = (W4.setCell ⟨w.heap.size + 1, 0, none⟩ (.int .i64 y)).drew := ⟨_, rfl⟩
  rw [← hWF]
  have r0 : WF.heap[w.heap.size]? = some (.cells #[.int .u8 0, .string ⟨#[]⟩, .slice none 0 0, .slice none 0 0] 32 (0, 0)) := by
    rw [hWF]
    exact blk_far (p := ⟨w.heap.size + 1, 0, none⟩) d0 (by show w.heap.size ≠ w.heap.size + 1; omega) (.int .i64 y)
  have r1 : WF.heap[w.heap.size + 1]? = some (.cells #[.int .i64 y] 23 (0, 0)) := by
    rw [hWF]
    exact blk_set d1 0 (.int .i64 y)
  have r2 : WF.heap[ab]? = some (.cells #[.int .i64 n] 3 (0, 0)) := by
    rw [hWF]
    exact blk_far (p := ⟨w.heap.size + 1, 0, none⟩) d2 (by show ab ≠ w.heap.size + 1; omega) (.int .i64 y)
  have hbF : Below w.heap.size w WF := by
    rw [hWF]
    exact below_drew (hb4.setCell (p := ⟨w.heap.size + 1, 0, none⟩) (by simp) _)
  clear hWF d0 d1 d2 ho hw ha hb3 hb4
  have hres := parse_results WF w.heap.size ab tm (.slice none 0 0) y n h2 h3 h4 r0 r1 r2 rfl
  exact ⟨_, hres, hQ _ hbF⟩
theorem parse_ends (w W : World) (D ab : Nat) (v : Value) (tm : Array Value) (hv : v.oneCell' = true) (hout : W.heap[w.heap.size]? = some (.cells #[.int .u8 0, .string ⟨#[]⟩, .slice none 0 0, v] 32 (0, 0))) (hwhy : W.heap[w.heap.size + 1]? = some (.cells #[.int .i64 0] 23 (0, 0))) (hat : W.heap[ab]? = some (.cells #[.int .i64 0] 3 (0, 0)))
    (hdd : W.heap[D]? = some (.deferred (some []))) (hab : w.heap.size + 1 < ab) (hD : ab < D) (h2 : tm[2]? = some (.pointer (some ⟨w.heap.size, 0, none⟩))) (h3 : tm[3]? = some (.pointer (some ⟨w.heap.size + 1, 0, none⟩))) (h4 : tm[4]? = some (.pointer (some ⟨ab, 0, none⟩)))
    (Q : Ending → World → Prop) (hQ : Q (.returned (.tuple #[.agg #[.int .u8 0, .string ⟨#[]⟩, .slice none 0 0, v], .int .i64 0, .int .i64 0])) (W.putObj D (.deferred none))) :
    bodyPostW Tryz.prog Tryz.f16 Q .ret { tmps := tm, defers := [{ target := .collected D, args := #[] }, { target := .fn (.func 26) #[.pointer (some ⟨w.heap.size, 0, none⟩), .pointer (some ⟨w.heap.size + 1, 0, none⟩)], args := #[] }] } W := by
  refine .inr ⟨by simp, _, _, D, _, rfl, rfl, run_takeDeferred hdd, ?_⟩
  have hk : ∀ k, k ≠ D → (W.putObj D (.deferred none)).heap[k]? = W.heap[k]? := fun k hk => World.putObj_heap_other hk
  refine leaves_cons (f := 26) (args := #[.pointer (some ⟨w.heap.size, 0, none⟩), .pointer (some ⟨w.heap.size + 1, 0, none⟩)]) (by simp) (by simp [go_sem]) ?_
  refine (catch_idle ⟨w.heap.size, 0, none⟩ ⟨w.heap.size + 1, 0, none⟩ _).mono ?_
  rintro e u' w'' ⟨rfl, rfl, rfl⟩
  exact ⟨_, parse_results _ w.heap.size ab tm v 0 0 h2 h3 h4 ((hk _ (by omega)).trans hout) ((hk _ (by omega)).trans hwhy) ((hk _ (by omega)).trans hat) hv, hQ⟩
set_option maxRecDepth 100000 in
set_option maxHeartbeats 2000000 in
theorem parse_any (s : ByteArray) (w : World) (hm : Mx w) (hs : s.size ≤ 1073741824) :
    Calls Tryz.prog 16 #[.string s] w (ParseQ w (parseL s.data.toList)) := by
  refine calls_of_wpAt Tryz.func16 rfl (fun b hbf hro => ?_)
  simp only [Tryz.ntmps16, List.size_toArray, List.length_cons, List.length_nil, Nat.reduceAdd, Nat.reduceSub, Array.replicate_succ, Array.replicate_zero, List.push_toArray, List.append_toArray, List.nil_append, List.cons_append]
  refine wpAt_seq_k (n := 3) hro (fun K hK => ?_)
  gi_wp2
  by_cases hz : 16384 < s.size
  · refine wpAt_of (n := 3) hro ?_
    gi_wp2
    have hL : parseL s.data.toList = .error (4, 0) := if_pos hz
    rw [hL]
    obtain ⟨n0, s0⟩ := new_alloc (w := w) (.cells #[.int .u8 0, .string ⟨#[]⟩, .slice none 0 0, .slice none 0 0] 32) rfl
    obtain ⟨n1, s1⟩ := new_alloc (.cells #[.int .i64 4] 23) s0
    obtain ⟨n2, s2⟩ := new_alloc (.cells #[.int .i64 0] 3) s1
    exact .inl ⟨_, parse_results _ w.heap.size (w.heap.size + 1 + 1) _ (.slice none 0 0) 4 0 rfl rfl rfl (at_alloc _ (at_alloc _ n0)) (at_alloc _ n1) n2 rfl, below_alloc (below_alloc (below_alloc (Below.refl _ _) _) _) _, rfl⟩
  · refine wpAt_seq_k (n := 3) hro (fun K hK => ?_)
    gi_wp2
    refine wpAt_seq_k (n := 3) hro (fun K hK => ?_)
    gi_wp2
    refine wpAt_seq_k (n := 3) hro (fun K hK => ?_)
    gi_wp2
    refine wpAt_seq_k (n := 3) hro (fun K hK => ?_)
    gi_wp2
    obtain ⟨W0, hW0⟩ : ∃ W0, W0 = ((((((w.alloc (.cells #[.int .u8 0, .string ⟨#[]⟩, .slice none 0 0, .slice none 0 0] 32)).alloc (.cells #[.int .i64 0] 23)).alloc (.cells #[.int .i64 0] 3)).alloc (.cells #[.int .u8 0, .string ⟨#[]⟩, .slice none 0 0, .slice none 0 0] 32)).alloc (.cells #[.pointer (some ⟨w.heap.size + 1 + 1 + 1, 0, none⟩), .int .i64 0] 67)).alloc (.cells #[.slice (some ⟨w.heap.size + 1 + 1 + 1 + 1, 0, none⟩) 1 1, .bool false] 70)).alloc (.cells #[.pointer (some ⟨w.heap.size + 1 + 1 + 1 + 1 + 1, 0, none⟩)] 64) := ⟨_, rfl⟩
    rw [← hW0]
    obtain ⟨f0, f1, f2, f3, f4, f5, f6, fs, fb⟩ := heap7 w _ _ _ _ _ _ _ W0 hW0
    obtain ⟨ab, hab⟩ : ∃ k, k = w.heap.size + 1 + 1 := ⟨_, rfl⟩
    rw [← hab] at f2 f3 f4 f5 f6 fs ⊢
    obtain ⟨rt, hrt⟩ : ∃ k, k = ab + 1 := ⟨_, rfl⟩
    rw [← hrt] at f3 f4 f5 f6 fs ⊢
    obtain ⟨lv, hlv⟩ : ∃ k, k = rt + 1 := ⟨_, rfl⟩
    rw [← hlv] at f4 f5 f6 fs ⊢
    obtain ⟨rb, hrb⟩ : ∃ k, k = lv + 1 := ⟨_, rfl⟩
    rw [← hrb] at f5 f6 fs ⊢
    obtain ⟨tb, htb⟩ : ∃ k, k = rb + 1 := ⟨_, rfl⟩
    rw [← htb] at f6 fs ⊢
    clear hW0
    have hz2 : s.data.toList.length ≤ 16384 := by show s.size ≤ _; omega
    have HL := Lib.hid (show parseL s.data.toList = match foldL (linesL s.data.toList) ⟨[], [], false⟩ with | .error y => .error y | .ok s => .ok (shutAll s.path s.cur) from if_neg hz)
    have HE := Lib.hid (And.intro hab (And.intro hrt (And.intro hlv (And.intro hrb htb))))
    clear hab hrt hlv hrb htb
    refine wpAt_seq_kk (fun K hK => ?_)
    refine wpAt_seq_k (n := 3) hro (fun K2 hK2 => ?_)
    gi_wp2_with (refine ⟨trivial, ?_⟩; gi_at_call 27; refine (callsIn_wide.2 (lines_any _ _)).mono ?_; rintro e w1 ⟨rfl, rfl⟩)
    obtain ⟨W1, hW1⟩ : ∃ W1, W1 = W0.alloc (.cells #[.string s] 9) := ⟨_, rfl⟩
    rw [← hW1]
    obtain ⟨sb, hsb⟩ : ∃ k, k = tb + 1 := ⟨_, rfl⟩
    have fsb : W0.heap.size = sb := by rw [hsb]; exact fs
    rw [← hsb]
    obtain ⟨n7, s7⟩ := new_alloc (w := W0) (.cells #[.string s] 9) fsb
    rw [← hW1] at n7 s7
    have fb1 : Below w.heap.size w W1 := by rw [hW1]; exact below_alloc fb _
    have k1 : ∀ {k : Nat} {p : Obj}, W0.heap[k]? = some p → W1.heap[k]? = some p := fun h => by rw [hW1]; exact at_alloc _ h
    replace f0 := k1 f0
    replace f1 := k1 f1
    replace f2 := k1 f2
    replace f3 := k1 f3
    replace f4 := k1 f4
    replace f5 := k1 f5
    replace f6 := k1 f6
    clear k1 fb fs fsb hW1
    refine wpAt_block ?_
    refine wpAt_range (m := 1) (gf := 43) (lb := #[.pointer (some ⟨sb, 0, none⟩)]) hro ⟨_, by rw [hbf]; rfl⟩ rfl (fun args w => by kernel_rfl) (fun rec hround => ?_)
    rw [s7] at hround ⊢
    have hord : Ord w ab rt lv rb tb sb := ⟨HE.out.1, HE.out.2.1, HE.out.2.2.1, HE.out.2.2.2.1, HE.out.2.2.2.2, hsb⟩
    have HO := Lib.hid hord
    clear hsb HE hord
    have hY : ∀ r st (x : Ln) W, PJ w ab rt rb tb sb (sb + 1) (sb + 1 + 1) rec r st W → 0 ≤ x.indent → x.indent ≤ 1073741824 → x.text.length ≤ 1073741824 → YieldAt Fence.wide 1 Tryz.prog (sb + 1 + 1) #[.agg #[.int .i64 x.indent, .int .i64 x.number, .string (bsOf x.text)]] W (RoundQ (PJ w ab rt rb tb sb (sb + 1) (sb + 1 + 1) rec) (PE w ab (sb + 1)) r x.number (putL x.indent x.text st)) := by
      intro r st x W hJ h0 h1 hl
      refine hround _ W _ hJ.lp rfl ?_
      clear hround f0 f1 f2 f3 f4 f5 f6 fb1 n7 s7 HL hK
      have HJ := Lib.hid hJ
      clear hJ
      gi_wp2
      obtain ⟨Wa, hWa⟩ : ∃ Wa, Wa = W.alloc (.cells #[.int .i64 x.indent, .int .i64 x.number, .string (bsOf x.text)] 75) := ⟨_, rfl⟩
      rw [← hWa]
      have hba : Below W.heap.size W Wa := by rw [hWa]; exact below_alloc (Below.refl _ _) _
      have hla : Wa.heap[W.heap.size]? = some (.cells #[.int .i64 x.indent, .int .i64 x.number, .string (bsOf x.text)] 75 (0, 0)) := by rw [hWa]; exact heap_alloc_new W _
      have hJa := HJ.out.below hba
      have hlb : sb + 1 + 1 < W.heap.size := (Array.getElem?_eq_some_iff.1 HJ.out.lp).1
      generalize W.heap.size = lb at *
      refine ⟨hJa.lp, ?_⟩
      obtain ⟨Wb, hWb⟩ : ∃ Wb, Wb = Wa.putObj (sb + 1 + 1) (.loop (rec .busy none)) := ⟨_, rfl⟩
      obtain ⟨Wc, hWc⟩ : ∃ Wc, Wc = Wb.setCell ⟨ab, 0, none⟩ (.int .i64 x.number) := ⟨_, rfl⟩
      obtain ⟨hPB, hZc⟩ := hJa.begin HO.out x.number (W' := Wc) (by rw [hWc, hWb])
      have habl : ab < sb + 1 + 1 := by obtain ⟨e1, e2, e3, e4, e5, e6⟩ := HO.out; omega
      have hlB : Wb.heap[lb]? = some (.cells #[.int .i64 x.indent, .int .i64 x.number, .string (bsOf x.text)] 75 (0, 0)) := by rw [hWb, World.putObj_heap_other (by omega)]; exact hla
      have hlC : Wc.heap[lb]? = some (.cells #[.int .i64 x.indent, .int .i64 x.number, .string (bsOf x.text)] 75 (0, 0)) := by rw [hWc, Below.heap_setCell Wb _ _ lb (by show lb ≠ ab; omega)]; exact hlB
      obtain ⟨av, hav⟩ := hJa.at'
      have haB : Wb.heap[ab]? = some (.cells #[.int .i64 av] 3 (0, 0)) := by rw [hWb, World.putObj_heap_other (by omega)]; exact hav
      have HPB := Lib.hid hPB
      have HZC := Lib.hid hZc
      have HWC := Lib.hid hWc
      have b1 := blk_cell hlB 1
      have a0 := blk_cell haB 0
      have af := blk_frozen haB 0
      have b0 := blk_cell hlC 0
      have b3 := blk_cell hlC 1
      have b2 := blk_cell hlC 2
      have t0 := blk_cell hPB.tb' 0
      rw [hWc] at b0 b3 b2 t0
      rw [← hWb]
      clear hWa hba hla hJa hlb hWb hWc hPB hZc habl hlB hlC hav haB
      gi_wp2_with fail
      rw [← HWC.out]
      have hlt1 := blk_lt HPB.out.tb'
      have hlt2 : sb + 1 + 1 < Wc.heap.size := (Array.getElem?_eq_some_iff.1 HPB.out.lp).1
      have hmx : 2 < w.heap.size := by
        obtain ⟨m, hm⟩ := hm
        exact World.block_lt_of_cell? w _ hm
      have hrtw : w.heap.size < rt ∧ rt < tb := by obtain ⟨e1, e2, e3, e4, e5, e6⟩ := HO.out; omega
      refine ⟨trivial, (CallsIn.inRound (sb + 1 + 1) (callsIn_wide.2 (put_any Wc rt (sb + 1 + 1 + 1) rt rb st x HZC.out (by omega) (by omega) h0 h1 hl (hm.below HPB.out.pin.bl) (by omega)))).mono ?_⟩
      rintro e W4 ⟨hbk, hq⟩
      have HP4 := Lib.hid (HPB.out.put HO.out hbk)
      clear a0 af b0 b1 b2 b3 t0 hlt1 hlt2 hmx hrtw
      cases hp : putL x.indent x.text st with
      | error y =>
        rw [hp] at hq
        obtain rfl := hq
        unfold pf
        exact ⟨rfl, rfl, HP4.out.err⟩
      | ok st' =>
        rw [hp] at hq
        obtain ⟨rfl, hz4⟩ := hq
        have HZ4 := Lib.hid hz4
        clear hz4 hbk
        gi_wp2
        refine ⟨HP4.out.lp, ?_⟩
        unfold RoundQ
        rw [hp]
        exact ⟨rfl, HP4.out.ready HO.out HZ4.out⟩
    clear hround
    obtain ⟨n8, s8⟩ := new_alloc (w := W1) (.deferred (some [])) s7
    obtain ⟨n9, s9⟩ := new_alloc (.loop (rec .ready none)) s8
    have hst : PJ w ab rt rb tb sb (sb + 1) (sb + 1 + 1) rec s.data.toList ⟨[], [], false⟩ ((W1.alloc (.deferred (some []))).alloc (.loop (rec .ready none))) := by
      obtain ⟨e1, e2, e3, e4, e5, e6⟩ := HO.out
      have hbs : bsOf s.data.toList = s := by simp [bsOf]
      refine ⟨⟨at_alloc _ (at_alloc _ f0), at_alloc _ (at_alloc _ f1), at_alloc _ n8, below_alloc (below_alloc fb1 _) _⟩, ⟨0, at_alloc _ (at_alloc _ f2)⟩, ZsO.start (lv := lv) (at_alloc _ (at_alloc _ f3)) (at_alloc _ (at_alloc _ f4)) (at_alloc _ (at_alloc _ f5)) (Nat.le_refl _) (by omega) (by omega), at_alloc _ (at_alloc _ f6), ?_, n9⟩
      rw [hbs]
      exact at_alloc _ (at_alloc _ n7)
    refine (lines_iter (sb + 1 + 1) sb 1 (PJ w ab rt rb tb sb (sb + 1) (sb + 1 + 1) rec) (PE w ab (sb + 1)) (fun r st W h => h.sb') (fun r r' st W h => h.set HO.out r') (fun r st W W' h hb => h.below hb) (fun r st W h => hm.below h.pin.bl) hY s.data.toList hz2 ⟨[], [], false⟩ _ hst).mono ?_
    clear hst hY n7 n8 n9 s7 s8 s9 f0 f1 f2 f3 f4 f5 f6 fb1
    rintro e W2 hq
    cases hf : foldL (linesL s.data.toList) ⟨[], [], false⟩ with
    | error y =>
      rw [hf] at hq
      obtain ⟨rfl, hPE⟩ := hq
      have hL2 : parseL s.data.toList = .error y := by rw [HL.out, hf]
      refine parse_dies w W2 (sb + 1) ab y.1 y.2 _ hPE.1 hPE.2 ?_ ?_ rfl rfl rfl _ (fun w' hb => ⟨hb, ?_⟩)
      · obtain ⟨e1, e2, e3, e4, e5, e6⟩ := HO.out; omega
      · obtain ⟨e1, e2, e3, e4, e5, e6⟩ := HO.out; omega
      · rw [hL2]
    | ok st =>
      rw [hf] at hq
      obtain ⟨rfl, r, hPJ⟩ := hq
      have hL2 : parseL s.data.toList = .ok (shutAll st.path st.cur) := by rw [HL.out, hf]
      refine ⟨hPJ.lp, ?_⟩
      refine hK _ _ ?_
      dsimp only
      obtain ⟨W3, hW3⟩ : ∃ W3, W3 = W2.putObj (sb + 1 + 1) (.loop (rec .exhausted none)) := ⟨_, rfl⟩
      rw [← hW3]
      have hk3 : ∀ k, k ≠ sb + 1 + 1 → W3.heap[k]? = W2.heap[k]? := fun k hk => by rw [hW3]; exact World.putObj_heap_other hk
      obtain ⟨e1, e2, e3, e4, e5, e6⟩ := HO.out
      have hb2 : Below w.heap.size W2 W3 := by rw [hW3]; exact below_putObj _ (by omega)
      have hz3 : ZsO W3 rt (sb + 1 + 1 + 1) rt rb st := hPJ.zs.other (p := sb + 1 + 1) (by omega) (by omega) (by omega) (fun cells hc => by rw [hPJ.lp] at hc; cases hc) (fun k _ hne => hk3 k hne) hb2.size
      obtain ⟨v0, hroot, hrow⟩ := hz3.row
      have ho := (hk3 _ (by omega)).trans hPJ.pin.out
      have hw := (hk3 _ (by omega)).trans hPJ.pin.why
      have hd := (hk3 _ (by omega)).trans hPJ.pin.dd
      obtain ⟨n0, hat2⟩ := hPJ.at'
      have ha := (hk3 _ (by omega)).trans hat2
      have hb3 := hPJ.pin.bl.trans hb2
      obtain ⟨A, cp, rfl⟩ := Kd.R_slice hrow
      have q0 := blk_cell hroot 0
      have q1 := blk_cell hroot 1
      have q2 := blk_cell hroot 2
      have q3 := blk_cell hroot 3
      have o0 := blk_cell ho 0
      have o1 := blk_cell ho 1
      have o2 := blk_cell ho 2
      have o3 := blk_cell ho 3
      have p0 := blk_frozen ho 0
      have p1 := blk_frozen ho 1
      have p2 := blk_frozen ho 2
      have p3 := blk_frozen ho 3
      have y0 := blk_cell hw 0
      have y1 := blk_frozen hw 0
      have z0 := blk_cell ha 0
      have z1 := blk_frozen ha 0
      have nn1 : w.heap.size ≠ w.heap.size + 1 := by omega
      have nn2 : w.heap.size ≠ ab := by omega
      have nn3 : w.heap.size + 1 ≠ ab := by omega
      have HX := Lib.hid (And.intro ho (And.intro hw (And.intro hd (And.intro ha (And.intro hb3 hrow)))))
      clear hroot ho hw hd ha hb3 hrow hat2 hz3 hb2 hk3 hW3 e1 e2 e3 e4 e5 e6 hPJ
      refine wpAt_of (n := 3) hro ?_
      gi_wp2
      clear q0 q1 q2 q3 o0 o1 o2 o3 p0 p1 p2 p3 y0 y1 z0 z1
      obtain ⟨ho, hw, hd, ha, hb3, hrow⟩ := HX.out
      obtain ⟨vl, hvl⟩ : ∃ vl, vl = Value.slice A (shutAll st.path st.cur).length cp := ⟨_, rfl⟩
      have hv1 : vl.oneCell' = true := by rw [hvl]; rfl
      rw [← hvl] at hrow ⊢
      obtain ⟨e1, e2, e3, e4, e5, e6⟩ := HO.out
      have f0 := set4 ho (.int .u8 0) (.string ⟨#[]⟩) (.slice none 0 0) vl
      have f1 := (set4_far (w := W3) (b := w.heap.size) (.int .u8 0) (.string ⟨#[]⟩) (.slice none 0 0) vl (show w.heap.size + 1 ≠ w.heap.size by omega)).trans hw
      have f2 := (set4_far (w := W3) (b := w.heap.size) (.int .u8 0) (.string ⟨#[]⟩) (.slice none 0 0) vl (show ab ≠ w.heap.size by omega)).trans ha
      have f3 := (set4_far (w := W3) (b := w.heap.size) (.int .u8 0) (.string ⟨#[]⟩) (.slice none 0 0) vl (show sb + 1 ≠ w.heap.size by omega)).trans hd
      have hrow4 := Kd.R_move hrow (w1 := W3.setCells w.heap.size 0 [.int .u8 0, .string ⟨#[]⟩, .slice none 0 0, vl]) (fun k hk => set4_far _ _ _ _ (by omega))
      have hb4 : Below w.heap.size w (W3.setCells w.heap.size 0 [.int .u8 0, .string ⟨#[]⟩, .slice none 0 0, vl]) := (((hb3.setCell (p := ⟨w.heap.size, 0, none⟩) (Nat.le_refl _) _).setCell (p := ⟨w.heap.size, 1, none⟩) (Nat.le_refl _) _).setCell (p := ⟨w.heap.size, 2, none⟩) (Nat.le_refl _) _).setCell (p := ⟨w.heap.size, 3, none⟩) (Nat.le_refl _) _
      obtain ⟨W4, hW4⟩ : ∃ W4, W4 = W3.setCells w.heap.size 0 [.int .u8 0, .string ⟨#[]⟩, .slice none 0 0, vl] := ⟨_, rfl⟩
      rw [← hW4] at f0 f1 f2 f3 hrow4 hb4
      have hgo : ((((W3.setCell ⟨w.heap.size, 0, none⟩ (.int .u8 0)).setCell ⟨w.heap.size, 1, none⟩ (.string ⟨#[]⟩)).setCell ⟨w.heap.size, 2, none⟩ (.slice none 0 0)).setCell ⟨w.heap.size, 3, none⟩ vl) = W4 := hW4.symm
      rw [hgo]
      clear hgo hW4 hrow ho hw hd ha hb3 HX
      obtain ⟨W5, hW5⟩ : ∃ W5, W5 = (W4.setCell ⟨w.heap.size + 1, 0, none⟩ (.int .i64 0)).setCell ⟨ab, 0, none⟩ (.int .i64 0) := ⟨_, rfl⟩
      rw [← hW5]
      have hk5 : ∀ k, k ≠ w.heap.size + 1 → k ≠ ab → W5.heap[k]? = W4.heap[k]? := fun k h1 h2 => by
        rw [hW5, Below.heap_setCell _ _ _ k (by exact h2), Below.heap_setCell _ _ _ k (by exact h1)]
      have g0 := (hk5 _ nn1 nn2).trans f0
      have g1 : W5.heap[w.heap.size + 1]? = some (.cells #[.int .i64 0] 23 (0, 0)) := by
        rw [hW5, Below.heap_setCell _ _ _ _ (by exact nn3)]
        exact blk_set f1 0 _
      have g2 : W5.heap[ab]? = some (.cells #[.int .i64 0] 3 (0, 0)) := by
        rw [hW5]
        exact blk_set ((Below.heap_setCell W4 _ _ ab (by exact nn3.symm)).trans f2) 0 _
      have g3 := (hk5 (sb + 1) (by omega) (by omega)).trans f3
      have hb5 : Below w.heap.size w W5 := by rw [hW5]; exact (hb4.setCell (p := ⟨w.heap.size + 1, 0, none⟩) (by simp) _).setCell (p := ⟨ab, 0, none⟩) (by show _ ≤ ab; omega) _
      have hrow5 := Kd.R_move hrow4 (w1 := W5) (fun k hk => hk5 k (by omega) (by omega))
      have hlt5 : tb ≠ sb + 1 := by omega
      refine parse_ends w W5 (sb + 1) ab vl _ hv1 g0 g1 g2 g3 (by omega) (by omega) rfl rfl rfl _ ⟨hb5.trans (below_putObj _ (by omega)), ?_⟩
      rw [hL2]
      refine ⟨vl, rfl, Kd.R_mono (Kd.R_lower (Kd.R_move (Kd.R_bound hrow5) (fun k hk => ?_)) (by omega)) (fun k hk => by have := hk.1; omega)⟩
      refine World.putObj_heap_other ?_
      rintro rfl
      obtain ⟨_, _, _, q, _, cells, hc⟩ := hk
      rw [g3] at hc
      cases hc
end Go.Proofs.YtpdnopfjnmjnnaaGreatDoor.Cn
