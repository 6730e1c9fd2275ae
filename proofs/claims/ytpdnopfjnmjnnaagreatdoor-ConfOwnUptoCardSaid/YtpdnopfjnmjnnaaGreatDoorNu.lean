/- Package conf: what stays of Parse's own while its lines are read. -/
import Derived.Test.YtpdnopfjnmjnnaaGreatDoorNl
import Derived.Test.YtpdnopfjnmjnnaaGreatDoorNr
import Derived.Test.YtpdnopfjnmjnnaaGreatDoorNs
set_option linter.unusedVariables false
set_option linter.unusedSimpArgs false
namespace Go.Proofs.YtpdnopfjnmjnnaaGreatDoor.Cn
open Go.Sort Go.RowKit Go.Proofs Go.Proofs.YtpdnopfjnmjnnaaGreatDoorW.PrintWords Go.Proofs.YtpdnopfjnmjnnaaGreatDoor.Bs Go.Proofs.YtpdnopfjnmjnnaaGreatDoor.Ir Go.Proofs.YtpdnopfjnmjnnaaGreatDoor.Cz Go.Proofs.YtpdnopfjnmjnnaaGreatDoor.Rf
theorem Zp.shut {w : World} {base rt : Nat} : ∀ (path : List Lv) (bs : List Nat) (ads : List Addr) (v : Value) (cur : List Kn) (N : Nat → Prop), Zp w base rt N path bs ads v → RowN w base N v cur → bs.Nodup → (∀ g ∈ bs, ¬ N g ∧ v.ownBlock ≠ some g) → (∀ k, v.ownBlock = some k → ¬ N k) →
    ∃ v0 N', w.heap[rt]? = some (.cells #[.int .u8 0, .string ⟨#[]⟩, .slice none 0 0, v0] 32 (0, 0)) ∧ RowN w base N' v0 (shutAll path cur) ∧ ∀ k, v0.ownBlock = some k → ¬ N' k
  | [], [], [_], v, cur, N, h, hr, _, _, hv => ⟨v, N, h.2.2, hr, hv⟩
  | x :: p, g :: bs, a :: ads, v, cur, N, h, hr, hnd, hex, hv => by
    obtain ⟨cap, h2, hr2⟩ := h.pop hr hv
    have own : (Value.slice (some ⟨g, 0, none⟩) (x.sibs.length + 1) cap).ownBlock = some g := rfl
    refine Zp.shut p bs ads _ _ _ h2 hr2 (List.nodup_cons.1 hnd).2 (fun g' hg' => ⟨?_, ?_⟩) (fun k hk => ?_)
    · rintro (hn | hn)
      · exact (hex g' (List.mem_cons_of_mem _ hg')).1 hn
      · exact (hex g' (List.mem_cons_of_mem _ hg')).2 hn
    · rw [own]
      intro e
      exact (List.nodup_cons.1 hnd).1 (Option.some.inj e ▸ hg')
    · rw [own] at hk
      have := Option.some.inj hk
      subst this
      rintro (hn | hn)
      · exact (hex g List.mem_cons_self).1 hn
      · exact (hex g List.mem_cons_self).2 hn
  | [], [], [], _, _, _, h, _, _, _, _ => h.elim
  | [], [], _ :: _ :: _, _, _, _, h, _, _, _, _ => h.elim
  | [], _ :: _, _, _, _, _, h, _, _, _, _ => h.elim
  | _ :: _, [], _, _, _, _, h, _, _, _, _ => h.elim
  | _ :: _, _ :: _, [], _, _, _, h, _, _, _, _ => h.elim
theorem ZsO.row {w : World} {base fl rt rb : Nat} {s : St} (h : ZsO w base fl rt rb s) : ∃ v0, w.heap[rt]? = some (.cells #[.int .u8 0, .string ⟨#[]⟩, .slice none 0 0, v0] 32 (0, 0)) ∧ kK.R 44 w base (fun k => base ≤ k) v0 (shutAll s.path s.cur) := by
  obtain ⟨N, bs, ads, v, vL, hz, _⟩ := h
  obtain ⟨v0, N', h1, h2, h3⟩ := Zp.shut _ _ _ _ _ _ hz.zp hz.cu hz.nd hz.ex hz.ev
  obtain ⟨inner, ho, hr⟩ := h2
  exact ⟨v0, h1, fun k hk => own_base ho k hk, inner, ho, hr.imp_ (fun _ _ hp => kK.M_mono (fun k hk => ⟨hk.2.1, fun e => h3 k e.symm hk.1⟩) (kK.M_bound hp))⟩
/-- A block that is none of the reader's is written. -/
theorem ZsO.other {w w' : World} {base fl rt rb p : Nat} {s : St} (h : ZsO w base fl rt rb s) (hp : p < fl) (h1 : p ≠ rt) (h2 : p ≠ rb) (h3 : ∀ cells, w.heap[p]? ≠ some (.cells cells 67 (0, 0)))
    (hk : ∀ k, k < w.heap.size → k ≠ p → w'.heap[k]? = w.heap[k]?) (hsz : w.heap.size ≤ w'.heap.size) : ZsO w' base fl rt rb s := by
  obtain ⟨N, bs, ads, v, vL, hz, ho⟩ := h
  obtain ⟨gl, cap, a, ads', rfl, _, rfl, _, _, ⟨lc, hlc⟩, _, _⟩ := hz.top
  have hN : ∀ k, N k → w'.heap[k]? = w.heap[k]? := fun k hn => hk k (hz.lo k hn).1 (by have := hz.fr k (.inl hn); omega)
  have hown : ∀ k, v.ownBlock = some k → w'.heap[k]? = w.heap[k]? := fun k hv => by
    obtain ⟨inner, hi, _⟩ := hz.cu
    exact hk k (own_lt hi k hv) (by have := hz.fr k (.inr (.inl hv)); omega)
  have hbs : ∀ k ∈ bs, w'.heap[k]? = w.heap[k]? := fun k hb => by
    obtain ⟨_, c, hc⟩ := hz.zp.typed k hb
    exact hk k (blk_lt hc) (by have := hz.fr k (.inr (.inr hb)); omega)
  have hrt : w'.heap[rt]? = w.heap[rt]? := by
    obtain ⟨_, u, hu⟩ := hz.zp.root
    exact hk rt (blk_lt hu) h1.symm
  have hrb : w'.heap[rb]? = w.heap[rb]? := hk rb (blk_lt hz.rd) h2.symm
  refine ⟨N, bs, _, v, _, ⟨hrb.trans hz.rd, ?_, hz.zp.move hN hrt hbs, hz.cu.move hown hN, hz.nd, hz.ex, hz.ev, fun k hn => ?_, hz.rbb, hz.deep, hz.sibs, hz.many, hz.ind, hz.fr⟩, fun e => ?_⟩
  · refine Kd.R_mono (Kd.R_move (Kd.R_bound hz.lv) (fun k hb => ?_)) (fun k hb => hb.1)
    obtain ⟨_, _, hlt, q, hq, cells, hc⟩ := hb
    refine hk k hlt ?_
    rintro rfl
    rcases List.mem_cons.1 hq with rfl | hq
    · exact h3 _ hc
    · cases hq
  · obtain ⟨g1, q, hq, c, hc⟩ := hz.lo k hn
    exact ⟨Nat.lt_of_lt_of_le g1 hsz, q, hq, c, (hN k hn).trans hc⟩
  · obtain ⟨xs, k, e1, e2, e3⟩ := ho e
    exact ⟨xs, k, e1, e2.move hown hN, e3⟩
theorem ZsO.start {W : World} {base fl rt rb lv : Nat} (h1 : W.heap[rt]? = some (.cells #[.int .u8 0, .string ⟨#[]⟩, .slice none 0 0, .slice none 0 0] 32 (0, 0)))
    (h2 : W.heap[lv]? = some (.cells #[.pointer (some ⟨rt, 0, none⟩), .int .i64 0] 67 (0, 0)))
    (h3 : W.heap[rb]? = some (.cells #[.slice (some ⟨lv, 0, none⟩) 1 1, .bool false] 70 (0, 0))) (b1 : base ≤ rt) (b2 : base ≤ lv) (b3 : base ≤ rb) : ZsO W base fl rt rb ⟨[], [], false⟩ := by
  refine ⟨fun _ => False, [], [⟨rt, 0, none⟩], .slice none 0 0, _, ⟨h3, ?_, ⟨rfl, b1, h1⟩, OwnRow.none_ _ _ _ _ _, List.nodup_nil, fun g hg => (by cases hg), fun k hk => (by simp [Value.ownBlock] at hk), fun k hk => hk.elim, b3, by simp, fun x hx => (by cases hx), by simp, fun x hx => (by cases hx), fun k hk => ?_⟩, fun e => (by cases e)⟩
  · refine ⟨fun k hk => ?_, [.pointer (some ⟨rt, 0, none⟩), .int .i64 0], ⟨rfl, .inr ⟨lv, 1, _, rfl, b2, h2, Nat.le_refl _, by decide, rfl, rfl⟩⟩, ?_⟩
    · have : lv = k := by simpa [Value.ownBlock] using hk
      subst this
      exact b2
    · exact Reps.snoc (Reps.none _ _) (kL_mk _ _ _ (⟨rt, 0, none⟩, 0)) rfl
  · rcases hk with hk | hk | hk
    · exact hk.elim
    · simp [Value.ownBlock] at hk
    · cases hk
theorem at_alloc {w : World} {k : Nat} {p : Obj} (o : Obj) (h : w.heap[k]? = some p) : (w.alloc o).heap[k]? = some p := (Below.heap_alloc w o k (Array.getElem?_eq_some_iff.1 h).1).trans h
theorem new_alloc {w : World} {k : Nat} (o : Obj) (h : w.heap.size = k) : (w.alloc o).heap[k]? = some o ∧ (w.alloc o).heap.size = k + 1 := by
  subst h
  exact ⟨World.alloc_heap_new w o, World.size_alloc _ _⟩
theorem heap7 (w : World) (a0 a1 a2 a3 a4 a5 a6 : Obj) (W : World) (hW : W = ((((((w.alloc a0).alloc a1).alloc a2).alloc a3).alloc a4).alloc a5).alloc a6) :
    W.heap[w.heap.size]? = some a0 ∧ W.heap[w.heap.size + 1]? = some a1 ∧ W.heap[w.heap.size + 1 + 1]? = some a2 ∧ W.heap[w.heap.size + 1 + 1 + 1]? = some a3 ∧ W.heap[w.heap.size + 1 + 1 + 1 + 1]? = some a4 ∧ W.heap[w.heap.size + 1 + 1 + 1 + 1 + 1]? = some a5 ∧ W.heap[w.heap.size + 1 + 1 + 1 + 1 + 1 + 1]? = some a6 ∧ W.heap.size = w.heap.size + 1 + 1 + 1 + 1 + 1 + 1 + 1 ∧ Below w.heap.size w W := by
  subst hW
  obtain ⟨n0, s0⟩ := new_alloc (w := w) a0 rfl
  obtain ⟨n1, s1⟩ := new_alloc a1 s0
  obtain ⟨n2, s2⟩ := new_alloc a2 s1
  obtain ⟨n3, s3⟩ := new_alloc a3 s2
  obtain ⟨n4, s4⟩ := new_alloc a4 s3
  obtain ⟨n5, s5⟩ := new_alloc a5 s4
  obtain ⟨n6, s6⟩ := new_alloc a6 s5
  refine ⟨?_, ?_, ?_, ?_, ?_, at_alloc _ n5, n6, s6, ?_⟩
  · exact at_alloc _ (at_alloc _ (at_alloc _ (at_alloc _ (at_alloc _ (at_alloc _ n0)))))
  · exact at_alloc _ (at_alloc _ (at_alloc _ (at_alloc _ (at_alloc _ n1))))
  · exact at_alloc _ (at_alloc _ (at_alloc _ (at_alloc _ n2)))
  · exact at_alloc _ (at_alloc _ (at_alloc _ n3))
  · exact at_alloc _ (at_alloc _ n4)
  · exact below_alloc (below_alloc (below_alloc (below_alloc (below_alloc (below_alloc (below_alloc (Below.refl _ w) _) _) _) _) _) _) _
theorem lines_any (s : ByteArray) (w : World) : Calls Tryz.prog 27 #[.string s] w fun e w' => e = .returned (.func (.func 43) #[] #[.pointer (some ⟨w.heap.size, 0, none⟩)]) ∧ w' = w.alloc (.cells #[.string s] 9) := by
  go_enter Tryz.func27, Tryz.ntmps27
  go_wp2
  go_ret
  exact ⟨rfl, rfl⟩
/-- What stays of Parse's own while its lines are read. -/
structure Pin (w : World) (D : Nat) (W : World) : Prop where
  out : W.heap[w.heap.size]? = some (.cells #[.int .u8 0, .string ⟨#[]⟩, .slice none 0 0, .slice none 0 0] 32 (0, 0))
  why : W.heap[w.heap.size + 1]? = some (.cells #[.int .i64 0] 23 (0, 0))
  dd : W.heap[D]? = some (.deferred (some []))
  bl : Below w.heap.size w W
structure PJ (w : World) (ab rt rb tb sb D L : Nat) (rec : LoopState → Option Code → Loop) (r : List UInt8) (st : St) (W : World) : Prop where
  pin : Pin w D W
  at' : ∃ a, W.heap[ab]? = some (.cells #[.int .i64 a] 3 (0, 0))
  zs : ZsO W rt (L + 1) rt rb st
  tb' : W.heap[tb]? = some (.cells #[.pointer (some ⟨rb, 0, none⟩)] 64 (0, 0))
  sb' : W.heap[sb]? = some (.cells #[.string (bsOf r)] 9 (0, 0))
  lp : W.heap[L]? = some (.loop (rec .ready none))
def PE (w : World) (ab D : Nat) (y n : Int) (W : World) : Prop := Pin w D W ∧ W.heap[ab]? = some (.cells #[.int .i64 n] 3 (0, 0))
/-- What Parse hands back. -/
def ParseQ (w : World) (r : Except (Int × Int) (List Kn)) (e : Ending) (w' : World) : Prop :=
  Below w.heap.size w w' ∧ match r with
    | .error y => e = .returned (.tuple #[.agg #[.int .u8 0, .string ⟨#[]⟩, .slice none 0 0, .slice none 0 0], .int .i64 y.1, .int .i64 y.2])
    | .ok keys => ∃ v, e = .returned (.tuple #[.agg #[.int .u8 0, .string ⟨#[]⟩, .slice none 0 0, v], .int .i64 0, .int .i64 0]) ∧ kK.R 44 w' w.heap.size (fun k => w.heap.size ≤ k) v keys

theorem Pin.away {w W W' : World} {D p : Nat} (h : Pin w D W) (hp : w.heap.size + 1 < p) (hD : p ≠ D) (hk : ∀ k, k ≠ p → W'.heap[k]? = W.heap[k]?) (hb : Below w.heap.size W W') : Pin w D W' :=
  ⟨(hk _ (by omega)).trans h.out, (hk _ (by omega)).trans h.why, (hk _ hD.symm).trans h.dd, h.bl.trans hb⟩
theorem Pin.below {w W W' : World} {D : Nat} (h : Pin w D W) (hb : Below W.heap.size W W') : Pin w D W' :=
  ⟨(hb.block _ (blk_lt h.out)).trans h.out, (hb.block _ (blk_lt h.why)).trans h.why, (hb.block _ (Array.getElem?_eq_some_iff.1 h.dd).1).trans h.dd, h.bl.trans (hb.mono h.bl.size)⟩
theorem below_putObj {B : Nat} {W : World} {L : Nat} (o : Obj) (h : B ≤ L) : Below B W (W.putObj L o) :=
  ⟨rfl, rfl, rfl, by simp, fun k hk => World.putObj_heap_other (by omega)⟩
/-- The blocks' order. -/
def Ord (w : World) (ab rt lv rb tb sb : Nat) : Prop := ab = w.heap.size + 1 + 1 ∧ rt = ab + 1 ∧ lv = rt + 1 ∧ rb = lv + 1 ∧ tb = rb + 1 ∧ sb = tb + 1
section
variable {w W W' : World} {ab rt lv rb tb sb : Nat} {rec : LoopState → Option Code → Loop} {r : List UInt8} {st : St}
theorem PJ.set (E : Ord w ab rt lv rb tb sb) (h : PJ w ab rt rb tb sb (sb + 1) (sb + 1 + 1) rec r st W) (r' : List UInt8) : PJ w ab rt rb tb sb (sb + 1) (sb + 1 + 1) rec r' st (W.setCell ⟨sb, 0, none⟩ (.string (bsOf r'))) := by
  obtain ⟨e1, e2, e3, e4, e5, e6⟩ := E
  have hk : ∀ k, k ≠ sb → (W.setCell ⟨sb, 0, none⟩ (.string (bsOf r'))).heap[k]? = W.heap[k]? := fun k hk => Below.heap_setCell W _ _ k hk
  have hb : Below w.heap.size W (W.setCell ⟨sb, 0, none⟩ (.string (bsOf r'))) := (Below.refl _ W).setCell (p := ⟨sb, 0, none⟩) (by show _ ≤ sb; omega) _
  obtain ⟨a, ha⟩ := h.at'
  refine ⟨h.pin.away (by omega) (by omega) hk hb, ⟨a, (hk _ (by omega)).trans ha⟩, h.zs.other (p := sb) (by omega) (by omega) (by omega) (fun cells hc => ?_) (fun k _ hne => hk k hne) hb.size, (hk _ (by omega)).trans h.tb', blk_set h.sb' 0 _, (hk _ (by omega)).trans h.lp⟩
  rw [h.sb'] at hc
  injection hc with hc
  injection hc with _ hc
  exact absurd hc (by decide)
theorem PJ.below (h : PJ w ab rt rb tb sb (sb + 1) (sb + 1 + 1) rec r st W) (hb : Below W.heap.size W W') : PJ w ab rt rb tb sb (sb + 1) (sb + 1 + 1) rec r st W' := by
  obtain ⟨a, ha⟩ := h.at'
  exact ⟨h.pin.below hb, ⟨a, (hb.block _ (blk_lt ha)).trans ha⟩, h.zs.keep hb, (hb.block _ (blk_lt h.tb')).trans h.tb', (hb.block _ (blk_lt h.sb')).trans h.sb', (hb.block _ (Array.getElem?_eq_some_iff.1 h.lp).1).trans h.lp⟩
/-- The same within a round. -/
structure PB (w : World) (ab rb tb sb D L : Nat) (rec : LoopState → Option Code → Loop) (r : List UInt8) (n : Int) (W : World) : Prop where
  pin : Pin w D W
  at' : W.heap[ab]? = some (.cells #[.int .i64 n] 3 (0, 0))
  tb' : W.heap[tb]? = some (.cells #[.pointer (some ⟨rb, 0, none⟩)] 64 (0, 0))
  sb' : W.heap[sb]? = some (.cells #[.string (bsOf r)] 9 (0, 0))
  lp : W.heap[L]? = some (.loop (rec .busy none))
theorem PJ.begin (E : Ord w ab rt lv rb tb sb) (h : PJ w ab rt rb tb sb (sb + 1) (sb + 1 + 1) rec r st W) (n : Int) (hW' : W' = (W.putObj (sb + 1 + 1) (.loop (rec .busy none))).setCell ⟨ab, 0, none⟩ (.int .i64 n)) :
    PB w ab rb tb sb (sb + 1) (sb + 1 + 1) rec r n W' ∧ ZsO W' rt (sb + 1 + 1 + 1) rt rb st := by
  obtain ⟨e1, e2, e3, e4, e5, e6⟩ := E
  obtain ⟨W1, hW1⟩ : ∃ W1, W1 = W.putObj (sb + 1 + 1) (.loop (rec .busy none)) := ⟨_, rfl⟩
  rw [← hW1] at hW'
  have hk1 : ∀ k, k ≠ sb + 1 + 1 → W1.heap[k]? = W.heap[k]? := fun k hk => by rw [hW1]; exact World.putObj_heap_other hk
  have hb1 : Below w.heap.size W W1 := by rw [hW1]; exact below_putObj _ (by omega)
  have hL := h.lp
  have hlt : sb + 1 + 1 < W.heap.size := (Array.getElem?_eq_some_iff.1 hL).1
  have hl1 : W1.heap[sb + 1 + 1]? = some (.loop (rec .busy none)) := by rw [hW1]; exact World.putObj_heap_same hlt
  have hz1 : ZsO W1 rt (sb + 1 + 1 + 1) rt rb st := h.zs.other (p := sb + 1 + 1) (by omega) (by omega) (by omega) (fun cells hc => by rw [hL] at hc; cases hc) (fun k _ hne => hk1 k hne) hb1.size
  have hk2 : ∀ k, k ≠ ab → W'.heap[k]? = W1.heap[k]? := fun k hk => by rw [hW']; exact Below.heap_setCell W1 _ _ k hk
  have hb2 : Below w.heap.size W1 W' := by rw [hW']; exact (Below.refl _ W1).setCell (p := ⟨ab, 0, none⟩) (by show _ ≤ ab; omega) _
  obtain ⟨a, ha⟩ := h.at'
  have ha1 := (hk1 ab (by omega)).trans ha
  have hk : ∀ k, k ≠ sb + 1 + 1 → k ≠ ab → W'.heap[k]? = W.heap[k]? := fun k h1 h2 => (hk2 k h2).trans (hk1 k h1)
  refine ⟨⟨(h.pin.away (p := sb + 1 + 1) (by omega) (by omega) hk1 hb1).away (p := ab) (by omega) (by omega) hk2 hb2, ?_, (hk _ (by omega) (by omega)).trans h.tb', (hk _ (by omega) (by omega)).trans h.sb', (hk2 _ (by omega)).trans hl1⟩, hz1.other (p := ab) (by omega) (by omega) (by omega) (fun cells hc => ?_) (fun k _ hne => hk2 k hne) hb2.size⟩
  · rw [hW']; exact blk_set ha1 0 _
  · rw [ha1] at hc
    injection hc with hc
    injection hc with _ hc
    exact absurd hc (by decide)
theorem PB.put (E : Ord w ab rt lv rb tb sb) {n : Int} (h : PB w ab rb tb sb (sb + 1) (sb + 1 + 1) rec r n W) (hk : BK rt W W') : PB w ab rb tb sb (sb + 1) (sb + 1 + 1) rec r n W' := by
  obtain ⟨e1, e2, e3, e4, e5, e6⟩ := E
  have hb := hk.1
  refine ⟨⟨(hb.block _ (by omega)).trans h.pin.out, (hb.block _ (by omega)).trans h.pin.why, hk.2 _ _ (fun c t e => by cases e) h.pin.dd, h.pin.bl.trans (hb.mono (by omega))⟩, (hb.block _ (by omega)).trans h.at', hk.2.cells (by decide) h.tb', hk.2.cells (by decide) h.sb', hk.2 _ _ (fun c t e => by cases e) h.lp⟩
theorem PB.ready (E : Ord w ab rt lv rb tb sb) {n : Int} (h : PB w ab rb tb sb (sb + 1) (sb + 1 + 1) rec r n W) (hz : ZsO W rt (sb + 1 + 1 + 1) rt rb st) : PJ w ab rt rb tb sb (sb + 1) (sb + 1 + 1) rec r st (W.putObj (sb + 1 + 1) (.loop (rec .ready none))) := by
  obtain ⟨e1, e2, e3, e4, e5, e6⟩ := E
  have hk1 : ∀ k, k ≠ sb + 1 + 1 → (W.putObj (sb + 1 + 1) (.loop (rec .ready none))).heap[k]? = W.heap[k]? := fun k hk => World.putObj_heap_other hk
  have hb1 : Below w.heap.size W (W.putObj (sb + 1 + 1) (.loop (rec .ready none))) := below_putObj _ (by omega)
  have hlt : sb + 1 + 1 < W.heap.size := (Array.getElem?_eq_some_iff.1 h.lp).1
  exact ⟨h.pin.away (by omega) (by omega) hk1 hb1, ⟨n, (hk1 _ (by omega)).trans h.at'⟩, hz.other (p := sb + 1 + 1) (by omega) (by omega) (by omega) (fun cells hc => by rw [h.lp] at hc; cases hc) (fun k _ hne => hk1 k hne) hb1.size, (hk1 _ (by omega)).trans h.tb', (hk1 _ (by omega)).trans h.sb', World.putObj_heap_same hlt⟩
theorem PB.err {n y : Int} (h : PB w ab rb tb sb (sb + 1) (sb + 1 + 1) rec r n W) : PE w ab (sb + 1) y n W := ⟨h.pin, h.at'⟩
end
end Go.Proofs.YtpdnopfjnmjnnaaGreatDoor.Cn
