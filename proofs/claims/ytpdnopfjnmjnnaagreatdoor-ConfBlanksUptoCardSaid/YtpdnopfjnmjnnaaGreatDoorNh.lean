/- Package conf: the reader's state, and place. -/
import Derived.Test.YtpdnopfjnmjnnaaGreatDoorNg
import Derived.BigRegion
set_option linter.unusedVariables false
set_option linter.unusedSimpArgs false
namespace Go.Proofs.YtpdnopfjnmjnnaaGreatDoor.Cn
open Go.Sort Go.RowKit Go.Proofs Go.Proofs.YtpdnopfjnmjnnaaGreatDoorW.PrintWords Go.Proofs.YtpdnopfjnmjnnaaGreatDoor.Bs Go.Proofs.YtpdnopfjnmjnnaaGreatDoor.Ir Go.Proofs.YtpdnopfjnmjnnaaGreatDoor.Cz

/-- The levels, the innermost one first. -/
def lvls : List Lv → List Addr → List (Addr × Int)
  | [], a :: _ => [(a, 0)]
  | x :: p, a :: ads => (a, x.indent) :: lvls p ads
  | _, _ => []
/-- The reader's state in memory. -/
structure Zs (w : World) (base fl rt rb : Nat) (N : Nat → Prop) (bs : List Nat) (ads : List Addr) (v vL : Value) (path : List Lv) (cur : List Kn) (f : Bool) : Prop where
  rd : w.heap[rb]? = some (.cells #[vL, .bool f] 70 (0, 0))
  lv : kL.R 67 w base (fun k => base ≤ k) vL (lvls path ads).reverse
  zp : Zp w base rt N path bs ads v
  cu : RowN w base N v cur
  nd : bs.Nodup
  ex : ∀ g ∈ bs, ¬ N g ∧ v.ownBlock ≠ some g
  ev : ∀ k, v.ownBlock = some k → ¬ N k
  lo : ∀ k, N k → Typed w k
  rbb : base ≤ rb
  deep : path.length ≤ 8
  sibs : ∀ x ∈ path, x.sibs.length + 1 ≤ 256
  many : cur.length ≤ 256
  ind : ∀ x ∈ path, 0 ≤ x.indent ∧ x.indent ≤ 1073741824
  fr : ∀ k, N k ∨ v.ownBlock = some k ∨ k ∈ bs → fl ≤ k
theorem lvls_len {w : World} {base rt : Nat} {N : Nat → Prop} : ∀ {p : List Lv} {bs : List Nat} {ads : List Addr} {v : Value}, Zp w base rt N p bs ads v → (lvls p ads).length = p.length + 1
  | [], [], [_], v, h => rfl
  | x :: p, g :: bs, a :: ads, v, ⟨ha, cap, inner, v3, ho, h3, hr, hz⟩ => by
    rw [lvls, List.length_cons, lvls_len hz, List.length_cons]
  | [], [], [], _, h => h.elim
  | [], [], _ :: _ :: _, _, h => h.elim
  | [], _ :: _, _, _, h => h.elim
  | _ :: _, [], _, _, h => h.elim
  | _ :: _, _ :: _, [], _, h => h.elim
theorem lvls_head {w : World} {base rt : Nat} {N : Nat → Prop} {p : List Lv} {bs : List Nat} {ads : List Addr} {v : Value} (h : Zp w base rt N p bs ads v) : ∃ a ads', ads = a :: ads' ∧ a.spot = none ∧ (lvls p ads).head? = some (a, indentOf p) := by
  match p, bs, ads, h with
  | [], [], [a], h => exact ⟨a, [], rfl, by rw [h.1], rfl⟩
  | x :: p, g :: bs, a :: ads, h => exact ⟨a, ads, rfl, by rw [h.1], rfl⟩
theorem kL_cells {w : World} {base : Nat} {ok : Nat → Prop} {x : Addr × Int} {cs : List Value} (h : kL.M w base ok x cs) : cs = [.pointer (some x.1), .int .i64 x.2] := by
  obtain ⟨c0, c1, rfl, h0, h1⟩ := h
  have e0 : c0 = [.pointer (some x.1)] := h0
  have e1 : c1 = [.int .i64 x.2] := h1
  rw [e0, e1]
  rfl
/-- The innermost level's cells. -/
theorem Zs.top {w : World} {base fl rt rb : Nat} {N : Nat → Prop} {bs : List Nat} {ads : List Addr} {v vL : Value} {path : List Lv} {cur : List Kn} {f : Bool} (h : Zs w base fl rt rb N bs ads v vL path cur f) :
    ∃ g cap a ads', ads = a :: ads' ∧ a.spot = none ∧ vL = .slice (some ⟨g, 0, none⟩) (path.length + 1) cap ∧ path.length + 1 ≤ cap ∧ base ≤ g ∧ (∃ cells, w.heap[g]? = some (.cells cells 67 (0, 0))) ∧ w.cell? ⟨g, path.length * 2, none⟩ = some (.pointer (some a)) ∧ w.cell? ⟨g, path.length * 2 + 1, none⟩ = some (.int .i64 (indentOf path)) := by
  obtain ⟨a, ads', rfl, hs, hh⟩ := lvls_head h.zp
  have hlen : (lvls path (a :: ads')).reverse.length = path.length + 1 := by rw [List.length_reverse, lvls_len h.zp]
  obtain ⟨g, cap, hv, hb, hg, hc⟩ := Kd.R_form h.lv (by omega)
  rw [hlen] at hv
  have hL := h.lv
  rw [hv] at hL
  obtain ⟨hn, hcp, _⟩ := Kd.R_reads' hL
  obtain ⟨c, hcl, hM, hcc, _⟩ := Kd.R_elem hL (⟨0, 0, none⟩, 0) (path.length : Int) (by omega) (by omega)
  have hel : (lvls path (a :: ads')).reverse.getD ((path.length : Nat) : Int).toNat (⟨0, 0, none⟩, 0) = (a, indentOf path) := by
    rw [Int.toNat_natCast, List.getD_eq_getElem?_getD, List.getElem?_reverse (by rw [lvls_len h.zp]; omega), lvls_len h.zp]
    have : path.length + 1 - 1 - path.length = 0 := by omega
    rw [this, ← List.head?_eq_getElem?, hh]
    rfl
  rw [hel] at hM
  have := kL_cells hM
  subst this
  have e0 := hcc 0 _ rfl
  have e1 := hcc 1 _ rfl
  rw [Int.toNat_natCast] at e0 e1
  exact ⟨g, cap, a, ads', rfl, hs, hv, hcp, hb, hc, e0, e1⟩
theorem Zp.pop_zp {w : World} {base rt g : Nat} {N : Nat → Prop} {x : Lv} {p : List Lv} {bs : List Nat} {a : Addr} {ads : List Addr} {v : Value} (h : Zp w base rt N (x :: p) (g :: bs) (a :: ads) v) : Zp w base rt N p bs ads (.slice (some ⟨g, 0, none⟩) (x.sibs.length + 1) (Classical.choose h.2)) := (Classical.choose_spec h.2).choose_spec.choose_spec.2.2.2
/-- A step that keeps what was there but for some blocks. -/
theorem Zs.keep {w w' : World} {base fl rt rb : Nat} {N : Nat → Prop} {bs : List Nat} {ads : List Addr} {v vL : Value} {path : List Lv} {cur : List Kn} {f : Bool} (h : Zs w base fl rt rb N bs ads v vL path cur f) (hb : Below w.heap.size w w') : Zs w' base fl rt rb N bs ads v vL path cur f := by
  have hN : ∀ k, N k → w'.heap[k]? = w.heap[k]? := fun k hk => hb.block k (h.lo k hk).1
  have hown : ∀ k, v.ownBlock = some k → w'.heap[k]? = w.heap[k]? := fun k hk => by
    obtain ⟨inner, ho, _⟩ := h.cu
    exact hb.block k (own_lt ho k hk)
  refine ⟨(hb.block _ (blk_lt h.rd)).trans h.rd, Kd.R_below h.lv hb, ?_, h.cu.move hown hN, h.nd, h.ex, h.ev, fun k hk => ?_, h.rbb, h.deep, h.sibs, h.many, h.ind, h.fr⟩
  · refine Zp.move hN (hb.block _ ?_) (fun g hg => hb.block _ ?_) h.zp
    · obtain ⟨_, u, hu⟩ := h.zp.root
      exact blk_lt hu
    · obtain ⟨_, c, hc⟩ := h.zp.typed g hg
      exact blk_lt hc
  · obtain ⟨h1, q, hq, c, hc⟩ := h.lo k hk
    exact ⟨Nat.lt_of_lt_of_le h1 hb.size, q, hq, c, (hN k hk).trans hc⟩
theorem OpenRow.keep {w w' : World} {base : Nat} {N : Nat → Prop} {v : Value} {xs : List Kn} {key : ByteArray} (h : OpenRow w base N v xs key) (hN : ∀ k, N k → Typed w k) (hb : Below w.heap.size w w') : OpenRow w' base N v xs key :=
  h.move (fun k hk => by
    obtain ⟨g, cap, inner, v3, rfl, h1, _⟩ := h
    exact hb.block k (own_lt h1 k hk)) (fun k hk => hb.block k (hN k hk).1)

/-- Where all but the levels' row and the reader's block stay. -/
theorem Zs.far {w w' : World} {base fl rt rb g : Nat} {N : Nat → Prop} {bs : List Nat} {ads : List Addr} {v vL : Value} {path : List Lv} {cur : List Kn} {f : Bool} {lc : Array Value} (h : Zs w base fl rt rb N bs ads v vL path cur f) (hg : w.heap[g]? = some (.cells lc 67 (0, 0))) (hk : ∀ k, k < w.heap.size → k ≠ g → k ≠ rb → w'.heap[k]? = w.heap[k]?) (hsz : w.heap.size ≤ w'.heap.size) :
    (∀ k, N k → w'.heap[k]? = w.heap[k]?) ∧ (∀ k, v.ownBlock = some k → w'.heap[k]? = w.heap[k]?) ∧ (∀ k ∈ bs, w'.heap[k]? = w.heap[k]?) ∧ w'.heap[rt]? = w.heap[rt]? ∧ ∀ k, N k → Typed w' k := by
  have hN : ∀ k, N k → w'.heap[k]? = w.heap[k]? := fun k hn => by
    have ht := h.lo k hn
    refine hk k ht.1 ?_ ?_
    · rintro rfl; exact ht.not hg (by decide) (by decide)
    · rintro rfl; exact ht.not h.rd (by decide) (by decide)
  have apart : ∀ {k t : Nat} {cells : Array Value}, w.heap[k]? = some (.cells cells t (0, 0)) → t ≠ 67 → t ≠ 70 → w'.heap[k]? = w.heap[k]? := by
    intro k t cells hb h1 h2
    refine hk k (blk_lt hb) ?_ ?_
    · rintro rfl
      rw [hb] at hg
      injection hg with hg
      injection hg with _ hg
      exact h1 hg
    · rintro rfl
      have hr := h.rd
      rw [hb] at hr
      injection hr with hr
      injection hr with _ hr
      exact h2 hr
  refine ⟨hN, fun k hv => ?_, fun k hb => ?_, ?_, fun k hn => ?_⟩
  · obtain ⟨inner, ho, _⟩ := h.cu
    obtain ⟨cells, hc⟩ := own_typed ho k hv
    exact apart hc (by decide) (by decide)
  · obtain ⟨_, cells, hc⟩ := h.zp.typed k hb
    exact apart hc (by decide) (by decide)
  · obtain ⟨_, u, hu⟩ := h.zp.root
    exact apart hu (by decide) (by decide)
  · obtain ⟨h1, q, hq, c, hc⟩ := h.lo k hn
    exact ⟨Nat.lt_of_lt_of_le h1 hsz, q, hq, c, (hN k hn).trans hc⟩
theorem lvls_cons (x : Lv) (p : List Lv) (a : Addr) (ads : List Addr) : lvls (x :: p) (a :: ads) = (a, x.indent) :: lvls p ads := rfl
/-- A map is shut: the levels are one less. -/
theorem Zs.pop {w w' : World} {base fl rt rb gl cap g : Nat} {N : Nat → Prop} {bs : List Nat} {a : Addr} {ads : List Addr} {v : Value} {x : Lv} {p : List Lv} {cur : List Kn} {f : Bool} (h : Zs w base fl rt rb N (g :: bs) (a :: ads) v (.slice (some ⟨gl, 0, none⟩) (p.length + 1 + 1) cap) (x :: p) cur f)
    (hw : w'.heap[rb]? = some (.cells #[.slice (some ⟨gl, 0, none⟩) (p.length + 1) cap, .bool f] 70 (0, 0))) (hk : ∀ k, k < w.heap.size → k ≠ rb → w'.heap[k]? = w.heap[k]?) (hsz : w.heap.size ≤ w'.heap.size) :
    ∃ v', Zs w' base fl rt rb (fun k => N k ∨ v.ownBlock = some k) bs ads v' (.slice (some ⟨gl, 0, none⟩) (p.length + 1) cap) p (x.sibs ++ [shutK x.key cur]) f := by
  obtain ⟨lc, hlc⟩ := Kd.R_typed h.lv gl rfl
  obtain ⟨f1, f2, f3, f4, f5⟩ := h.far hlc (fun k h1 _ h3 => hk k h1 h3) hsz
  have hz1 := h.zp.move f1 f4 f3
  have hc1 := h.cu.move f2 f1
  obtain ⟨cap', hz2, hc2⟩ := hz1.pop hc1 h.ev
  have hlen := lvls_len h.zp.pop_zp
  refine ⟨_, hw, ?_, hz2, hc2, (List.nodup_cons.1 h.nd).2, fun k hb => ⟨?_, ?_⟩, fun k hv => ?_, fun k hn => ?_, h.rbb, ?_, fun y hy => h.sibs y (List.mem_cons_of_mem _ hy), ?_, fun y hy => h.ind y (List.mem_cons_of_mem _ hy), fun k hk => h.fr k ?_⟩
  · have hlv := h.lv
    rw [lvls_cons, List.reverse_cons] at hlv
    have hgl : gl ≠ rb := by
      rintro rfl
      have hr := h.rd
      rw [hlc] at hr
      injection hr with hr
      injection hr with _ hr
      exact absurd hr (by decide)
    have ht := Kd.R_take (m := p.length + 1) hlv (by simp [hlen])
    rw [List.take_append_of_le_length (by simp [hlen]), List.take_of_length_le (by simp [hlen])] at ht
    refine Kd.R_mono (Kd.R_step (Kd.R_types ht h.rd (fun q hq => by
      rcases List.mem_cons.1 hq with rfl | hq
      · decide
      · cases hq)) (fun k ho hlt => hk k hlt ho.2)) (fun k hk => hk.1)
  · rintro (hn | hn)
    · exact (h.ex k (List.mem_cons_of_mem _ hb)).1 hn
    · exact (h.ex k (List.mem_cons_of_mem _ hb)).2 hn
  · intro e
    have : g = k := by simpa [Value.ownBlock] using e
    subst this
    exact (List.nodup_cons.1 h.nd).1 hb
  · have : g = k := by simpa [Value.ownBlock] using hv
    subst this
    rintro (hn | hn)
    · exact (h.ex g List.mem_cons_self).1 hn
    · exact (h.ex g List.mem_cons_self).2 hn
  · rcases hn with hn | hn
    · exact f5 k hn
    · obtain ⟨inner, ho, _⟩ := hc1
      obtain ⟨cells, hc⟩ := own_typed ho k hn
      exact ⟨own_lt ho k hn, _, .inl rfl, cells, hc⟩
  · have := h.deep
    simp at this
    omega
  · have := h.sibs x List.mem_cons_self
    simpa using this
  · rcases hk with (hk | hk) | hk | hk
    · exact .inl hk
    · exact .inr (.inl hk)
    · have : g = k := by simpa [Value.ownBlock] using hk
      subst this
      exact .inr (.inr List.mem_cons_self)
    · exact .inr (.inr (List.mem_cons_of_mem _ hk))
/-- The blocks stay, but for rows of some types. -/
def Keeps (ts : List TypeId) (w w' : World) : Prop := ∀ (b : Nat) (o : Obj), (∀ cells t, o = .cells cells t (0, 0) → t ∉ ts) → w.heap[b]? = some o → w'.heap[b]? = some o
theorem Keeps.refl (ts : List TypeId) (w : World) : Keeps ts w w := fun _ _ _ h => h
theorem Keeps.trans {ts : List TypeId} {a b c : World} (h : Keeps ts a b) (k : Keeps ts b c) : Keeps ts a c := fun x o h1 h2 => k x o h1 (h x o h1 h2)
theorem Keeps.mono {ts ts' : List TypeId} {a b : World} (h : Keeps ts a b) (hs : ∀ t ∈ ts, t ∈ ts') : Keeps ts' a b := fun x o h1 h2 => h x o (fun c t e hm => h1 c t e (hs t hm)) h2
theorem Keeps.cells {ts : List TypeId} {w w' : World} (h : Keeps ts w w') {b : Nat} {cells : Array Value} {t : TypeId} (ht : t ∉ ts) (hb : w.heap[b]? = some (.cells cells t (0, 0))) : w'.heap[b]? = some (.cells cells t (0, 0)) :=
  h b _ (fun c t' e => by injection e with _ e; exact e ▸ ht) hb
theorem Keeps.below {ts : List TypeId} {w w' : World} (hb : Below w.heap.size w w') : Keeps ts w w' := fun b o _ h => (hb.block b ((Array.getElem?_eq_some_iff.1 h).1)).trans h
theorem Keeps.heap {ts : List TypeId} {w w1 w2 : World} (h : Keeps ts w w1) (e : w2.heap = w1.heap) : Keeps ts w w2 := fun b o h1 h2 => by rw [e]; exact h b o h1 h2
theorem Keeps.set {ts : List TypeId} {w : World} {rb j : Nat} {cs : Array Value} {t : TypeId} (hr : w.heap[rb]? = some (.cells cs t (0, 0))) (ht : t ∈ ts) (v : Value) : Keeps ts w (w.setCell ⟨rb, j, none⟩ v) := fun b o h1 h3 => by
  rw [← h3]
  refine Below.heap_setCell w _ _ b ?_
  rintro rfl
  rw [hr] at h3
  injection h3 with h3
  exact h1 _ _ h3.symm ht
theorem Keeps.grown {ts : List TypeId} {w w' : World} {g : Nat} {cs : Array Value} {t : TypeId} (hr : w.heap[g]? = some (.cells cs t (0, 0))) (ht : t ∈ ts) (hg : w.grownBy w' (some g)) : Keeps ts w w' := fun b o h1 h3 => by
  rw [← h3]
  refine hg.block b ((Array.getElem?_eq_some_iff.1 h3).1) ?_
  intro e
  have := Option.some.inj e
  subst this
  rw [hr] at h3
  injection h3 with h3
  exact h1 _ _ h3.symm ht
/-- The blocks of all types but a reader's and its levels' stay. -/
def KeepT (w w' : World) : Prop := Keeps [67, 70] w w'
theorem KeepT.refl (w : World) : KeepT w w := Keeps.refl _ w
theorem KeepT.trans {a b c : World} (h : KeepT a b) (k : KeepT b c) : KeepT a c := Keeps.trans h k
theorem KeepT.below {w w' : World} (hb : Below w.heap.size w w') : KeepT w w' := Keeps.below hb
theorem KeepT.heap {w w1 w2 : World} (h : KeepT w w1) (e : w2.heap = w1.heap) : KeepT w w2 := Keeps.heap h e
theorem KeepT.set {w : World} {rb j : Nat} {cs : Array Value} (hr : w.heap[rb]? = some (.cells cs 70 (0, 0))) (v : Value) : KeepT w (w.setCell ⟨rb, j, none⟩ v) := Keeps.set hr (by decide) v
theorem KeepT.grown {w w' : World} {g : Nat} {cs : Array Value} (hr : w.heap[g]? = some (.cells cs 67 (0, 0))) (hg : w.grownBy w' (some g)) : KeepT w w' := Keeps.grown hr (by decide) hg
theorem Tu_levels : Tryz.prog.underlying 68 = some (.slice 67) := by kernel_rfl
theorem inL : (Tryz.prog.info? 67).map (fun i => (i.zero, i.size, i.bytes)) = some (some (.agg #[.pointer none, .int .i64 0]), 2, 16) := by kernel_rfl
theorem kL_mk (w : World) (base : Nat) (ok : Nat → Prop) (x : Addr × Int) : kL.M w base ok x [.pointer (some x.1), .int .i64 x.2] := ⟨[.pointer (some x.1)], [.int .i64 x.2], rfl, rfl, rfl⟩
/-- An elder block that is not the row that an append wrote. -/
theorem blk_grown {w w' : World} {row : Option Nat} {b : Nat} {o : Obj} (h : w.heap[b]? = some o) (hg : w.grownBy w' row) (hne : some b ≠ row) : w'.heap[b]? = some o := (hg.block b (blk_lt h) hne).trans h
def PlaceQ (base fl rt rb : Nat) (f : Bool) (w : World) (r : Option (List Lv × List Kn)) (e : Ending) (w' : World) : Prop :=
  Below base w w' ∧ KeepT w w' ∧ match r with
    | none => e = pf 15
    | some (path', cur') => e = .returned (.tuple #[]) ∧ ∃ N' bs' ads' v' vL', Zs w' base fl rt rb N' bs' ads' v' vL' path' cur' f
set_option maxRecDepth 100000 in
set_option maxHeartbeats 2000000 in
theorem place_any (w : World) (base fl rt rb : Nat) (N : Nat → Prop) (bs : List Nat) (ads : List Addr) (v vL : Value) (path : List Lv) (cur : List Kn) (f : Bool) (i : Int) (h : Zs w base fl rt rb N bs ads v vL path cur f) (hbase : base ≤ w.heap.size) (h0 : 0 ≤ i) (h1 : i ≤ 1073741824)
    (ho : f = true → ∃ xs k, cur = xs ++ [shutK k []] ∧ OpenRow w base N v xs k ∧ path.length + 1 ≤ 8) :
    Calls Tryz.prog 47 #[.pointer (some ⟨rb, 0, none⟩), .int .i64 i] w fun e w' =>
      PlaceQ base fl rt rb f w (placeL i ⟨path, cur, f⟩) e w' := by
  obtain ⟨g, cap, a, ads', rfl, hspot, rfl, hcap, hbg, ⟨lc, hlc⟩, t0, t1⟩ := h.top
  obtain ⟨ab, ao, asp⟩ := a
  dsimp only at hspot
  subst hspot
  have hsz := Kd.R_reads' h.lv
  have r0 := blk_cell h.rd 0
  have r1 := blk_cell h.rd 1
  have hdeep := h.deep
  have hnI : ((path.length + 1 : Nat) : Int) - 1 = (path.length : Nat) := by omega
  have hwr : IntKind.i64.wrap ((path.length : Nat) : Int) = (path.length : Nat) := IntWalk.i64_in _ (by omega)
  have r0a := cell_past w (.cells #[.pointer none, .int .i64 0] 67) _ _ r0
  have t0a := cell_past w (.cells #[.pointer none, .int .i64 0] 67) _ _ t0
  have t1a := cell_past w (.cells #[.pointer none, .int .i64 0] 67) _ _ t1
  have H := Lib.hid h
  clear h hsz
  cases hpu : (f && decide (indentOf path < i))
  case true =>
    rw [Bool.and_eq_true, decide_eq_true_eq] at hpu
    obtain ⟨rfl, hlt⟩ := hpu
    obtain ⟨xs, key, hcur, hop, hdp⟩ := ho rfl
    have hpl : placeL i ⟨path, cur, true⟩ = some (⟨xs, key, i⟩ :: path, []) := by
      unfold placeL
      rw [if_pos (by simpa using hlt)]
      simp [hcur, shutK]
    rw [hpl]
    clear hpl
    go_enter Tryz.func47, Tryz.ntmps47
    go_wp2_with fail
    go_region
    obtain ⟨w1, hw1⟩ : ∃ w1, w1 = (w.alloc (.cells #[.pointer (some ⟨ab, ao, none⟩), .int .i64 (indentOf path)] 67)).drew := ⟨_, rfl⟩
    rw [← hw1]
    have hb1 : Below w.heap.size w w1 := by rw [hw1]; exact below_drew (below_alloc (Below.refl _ _) _)
    have hm : w1.heap[w.heap.size]? = some (.cells #[.pointer (some ⟨ab, ao, none⟩), .int .i64 (indentOf path)] 67 (0, 0)) := by rw [hw1]; exact heap_alloc_new w _
    have H1 := Lib.hid (H.out.keep hb1)
    have HB1 := Lib.hid hb1
    have HOP1 := Lib.hid (hop.keep H.out.lo hb1)
    have m0 := blk_cell hm 0
    have m1 := blk_cell hm 1
    have u0 := blk_cell H1.out.rd 0
    have u1 := blk_cell H1.out.rd 1
    have uf := blk_frozen H1.out.rd 0
    obtain ⟨-, k0, k1⟩ := H1.out.zp.keys
    obtain ⟨g2, cap2, hv2, -⟩ := H1.out.zp.push HOP1.out i
    subst hv2
    have hxl : xs.length + 1 ≤ 256 := by have := H1.out.many; rw [hcur] at this; simpa using this
    have hwr2 : IntKind.i64.wrap ((xs.length : Nat) : Int) = (xs.length : Nat) := IntWalk.i64_in _ (by omega)
    have u0b := cell_past w1 (.cells #[.pointer (some ⟨g2, xs.length * 5 + 1, none⟩), .int .i64 i] 67) _ _ u0
    have hlt2 : ((xs.length : Nat) : Int) < ((xs.length : Nat) : Int) + 1 := by omega
    have hwr3 : IntKind.i64.wrap (((xs.length : Nat) : Int) + 1 - 1) = (xs.length : Nat) := by rw [show ((xs.length : Nat) : Int) + 1 - 1 = (xs.length : Nat) from by omega]; exact hwr2
    have HCUR := Lib.hid hcur
    have hsz1 : w.heap.size < w1.heap.size := blk_lt hm
    clear hw1 hm hb1 r0 r1 t0 t1 r0a t0a t1a hop hcur hwr
    go_wp2_with fail
    have hne : some rb ≠ (Value.slice (some ⟨g, 0, none⟩) (path.length + 1) cap).ownBlock := Kd.R_ne H1.out.lv H1.out.rd (by decide)
    have hbase1 : base ≤ w1.drew.heap.size := Nat.le_trans hbase HB1.out.size
    have hlv1 := Kd.R_drew H1.out.lv
    have hlvl : (lvls path (⟨ab, ao, none⟩ :: ads')).reverse.length = path.length + 1 := by rw [List.length_reverse, lvls_len H1.out.zp]
    have HLV := Lib.hid hlvl
    clear hlvl
    go_region_law (refine Kd.R_append_step kL (w0 := w1.drew) (W := w1.drew) base rfl (.tmp 37) (.tmp 46) 68 67 (.agg #[.pointer none, .int .i64 0]) 16 rfl Tu_levels inL rfl (by decide) (by decide) _ _ (⟨g2, xs.length * 5 + 1, none⟩, i) [.pointer (some ⟨g2, xs.length * 5 + 1, none⟩), .int .i64 i] (fun k => base ≤ k) (fun _ => False) rfl rfl (kL_mk _ _ _ _) (fun _ h => h.elim) (fun k hk => Nat.le_trans hbase1 hk) hlv1 (Below.refl _ _) hbase1 (by rw [HLV.out]; omega) ?_; intro v1 w2 hR2 hB2 hg2 hat2; obtain ⟨A1, c1, rfl⟩ := Kd.R_slice hR2; have q0 := blk_grown (show w1.drew.heap[rb]? = _ from H1.out.rd) hg2 hne; have q1 := blk_cell q0 0; have q2 := blk_frozen q0 0)
    all_goals
      go_wp2_with fail
      refine bodyPost_ret (results_none rfl _ _ _) rfl ?_
      have hlt3 : w1.heap.size ≤ w2.heap.size := hg2.size
      have hk2 : ∀ k, k < w1.heap.size → k ≠ g → w2.heap[k]? = w1.heap[k]? := fun k h1 h2 => hg2.block k h1 (fun e => h2 (Option.some.inj e))
      obtain ⟨lc1, hlc1⟩ := Kd.R_typed H1.out.lv g rfl
      obtain ⟨WF, hWF⟩ : ∃ WF, WF = w2.setCell ⟨rb, 0, none⟩ (.slice A1 ((lvls path (⟨ab, ao, none⟩ :: ads')).reverse ++ [((⟨g2, xs.length * 5 + 1, none⟩ : Addr), i)]).length c1) := ⟨_, rfl⟩
      have hk3 : ∀ k, k < w1.heap.size → k ≠ g → k ≠ rb → WF.heap[k]? = w1.heap[k]? := fun k h1 h2 h3 => by
        rw [hWF]
        exact (Below.heap_setCell w2 _ _ k h3).trans (hk2 k h1 h2)
      have hszF : w1.heap.size ≤ WF.heap.size := by rw [hWF]; simpa [World.setCell] using hlt3
      obtain ⟨f1, f2, f3, f4, f5⟩ := H1.out.far hlc1 hk3 hszF
      obtain ⟨g3, cap3, e3, hzp⟩ := H1.out.zp.push HOP1.out i
      injection e3 with e3 _ e4
      injection e3 with e3
      injection e3 with e3
      subst e3
      have hrdF : WF.heap[rb]? = some (.cells #[.slice A1 ((lvls path (⟨ab, ao, none⟩ :: ads')).reverse ++ [((⟨g2, xs.length * 5 + 1, none⟩ : Addr), i)]).length c1, .bool true] 70 (0, 0)) := by rw [hWF]; exact blk_set q0 0 _
      have hBF : Below base w WF := by
        rw [hWF]
        exact (((HB1.out.mono hbase).drew).trans hB2).setCell (p := ⟨rb, 0, none⟩) H1.out.rbb _
      have hlvF : kL.R 67 WF base (fun k => base ≤ k) (.slice A1 ((lvls path (⟨ab, ao, none⟩ :: ads')).reverse ++ [((⟨g2, xs.length * 5 + 1, none⟩ : Addr), i)]).length c1) ((lvls path (⟨ab, ao, none⟩ :: ads')).reverse ++ [((⟨g2, xs.length * 5 + 1, none⟩ : Addr), i)]) := by
        rw [hWF]
        exact Kd.R_set hR2 q0 (fun q hq => by
          rcases List.mem_cons.1 hq with rfl | hq
          · decide
          · cases hq) 0 _
      have hnew : Zs WF base fl rt rb N (g2 :: bs) (⟨g2, xs.length * 5 + 1, none⟩ :: ⟨ab, ao, none⟩ :: ads') (.slice none 0 0) (.slice A1 ((lvls path (⟨ab, ao, none⟩ :: ads')).reverse ++ [((⟨g2, xs.length * 5 + 1, none⟩ : Addr), i)]).length c1) (⟨xs, key, i⟩ :: path) [] true := by
        refine ⟨hrdF, ?_, hzp.move f1 f4 (fun k hk => ?_), OwnRow.none_ _ _ _ _ _, ?_, fun k hk => ⟨?_, by simp [Value.ownBlock]⟩, fun k hk => by simp [Value.ownBlock] at hk, f5, H1.out.rbb, hdp, fun x hx => ?_, by simp, fun x hx => ?_, fun k hk => ?_⟩
        · rw [lvls, List.reverse_cons]
          exact hlvF
        · rcases List.mem_cons.1 hk with rfl | hk
          · exact f2 _ rfl
          · exact f3 k hk
        · exact List.nodup_cons.2 ⟨fun hm => (H1.out.ex g2 hm).2 rfl, H1.out.nd⟩
        · rcases List.mem_cons.1 hk with rfl | hk
          · exact H1.out.ev _ rfl
          · exact (H1.out.ex k hk).1
        · rcases List.mem_cons.1 hx with rfl | hx
          · exact hxl
          · exact H1.out.sibs x hx
        · rcases List.mem_cons.1 hx with rfl | hx
          · exact ⟨h0, h1⟩
          · exact H1.out.ind x hx
        · rcases hk with hk | hk | hk
          · exact H1.out.fr k (.inl hk)
          · simp [Value.ownBlock] at hk
          · rcases List.mem_cons.1 hk with rfl | hk
            · exact H1.out.fr _ (.inr (.inl rfl))
            · exact H1.out.fr k (.inr (.inr hk))
      have e5 : ((lvls path (⟨ab, ao, none⟩ :: ads')).reverse ++ [((⟨g2, xs.length * 5 + 1, none⟩ : Addr), i)]).length = (lvls path (⟨ab, ao, none⟩ :: ads')).length + 1 := by simp
      rw [e5] at hWF
      rw [← hWF]
      have hKT : KeepT w WF := by
        rw [hWF]
        refine ((KeepT.below HB1.out).trans ?_).trans (KeepT.set q0 _)
        exact KeepT.grown (w := w1.drew) hlc1 hg2
      unfold PlaceQ
      exact ⟨hBF, hKT, rfl, N, g2 :: bs, _, _, _, hnew⟩
  case false =>
    have hpl : placeL i ⟨path, cur, f⟩ = popTo i path cur := by
      unfold placeL
      rw [if_neg (by simpa using hpu)]
    rw [hpl]
    clear hpl
    have hcond : (f = true → decide (indentOf path < i) = false) := fun e => by
      subst e
      simpa using hpu
    cases f
    ·
      try (have hd := hcond rfl)
      clear hcond hpu ho
      go_enter Tryz.func47, Tryz.ntmps47
      go_wp2_with fail
      go_region
      obtain ⟨w1, hw1⟩ : ∃ w1, w1 = (w.alloc (.cells #[.pointer (some ⟨ab, ao, none⟩), .int .i64 (indentOf path)] 67)).drew := ⟨_, rfl⟩
      rw [← hw1]
      have hb1 : Below w.heap.size w w1 := by rw [hw1]; exact below_drew (below_alloc (Below.refl _ _) _)
      have hm : w1.heap[w.heap.size]? = some (.cells #[.pointer (some ⟨ab, ao, none⟩), .int .i64 (indentOf path)] 67 (0, 0)) := by rw [hw1]; exact heap_alloc_new w _
      have H1 := Lib.hid (H.out.keep hb1)
      have HB1 := Lib.hid (show Below base w w1 from hb1.mono hbase)
      have HK1 := Lib.hid (KeepT.below hb1)
      have m1 := blk_cell hm 1
      have u1 := blk_cell H1.out.rd 1
      clear hw1 hm hb1 r0 r1 t0 t1 r0a t0a t1a hwr hlc H hcap
      go_wp2_with fail
      go_loopg [] (path.length + 1) (fun gg wx => Hid ((Below base w wx ∧ KeepT w wx) ∧ ((∃ (path' : List Lv) (cur' : List Kn) (N' : Nat → Prop) (bs' : List Nat) (ads' : List Addr) (v' vL' : Value), Zs wx base fl rt rb N' bs' ads' v' vL' path' cur' false ∧ popTo i path cur = popTo i path' cur' ∧ gg = path'.length + 1) ∨ (∃ A cp, wx.heap[rb]? = some (.cells #[.slice A 0 cp, .bool false] 70 (0, 0)) ∧ popTo i path cur = none))))
      case atStart => exact Lib.hid ⟨⟨HB1.out, HK1.out⟩, .inl ⟨path, cur, N, bs, _, v, _, H1.out, rfl, rfl⟩⟩
      case round =>
        rcases hrel.out with ⟨hBw, ⟨path', cur', N', bs', ads2, v', vL', hz, hpop, rfl⟩ | ⟨A, cp, hrd, hnone⟩⟩
        · obtain ⟨g3, cap3, ⟨ab3, ao3, asp3⟩, ads3, rfl, hsp3, rfl, hcap3, hbg3, ⟨lc3, hlc3⟩, t0, t1⟩ := hz.top
          dsimp only at hsp3
          subst hsp3
          have r0 := blk_cell hz.rd 0
          have hdeep3 := hz.deep
          have hwr : IntKind.i64.wrap ((path'.length : Nat) : Int) = (path'.length : Nat) := IntWalk.i64_in _ (by omega)
          have HZ := Lib.hid hz
          have HB := Lib.hid hBw
          by_cases hind : indentOf path' = i
          · have hq1 : (indentOf path' != i) = false := by rw [hind]; simp
            have hq2 : (indentOf path' == i) = true := by rw [hind]; simp
            have HR := Lib.hid (show popTo i path cur = some (path', cur') from by
              rw [hpop]
              cases path' with
              | nil => exact if_pos (show (0 : Int) = i from hind)
              | cons x p => exact if_pos (show x.indent = i from hind))
            clear hpop hrel hz hBw hind
            go_wp2_with fail
            go_quiet (fail)
            have r0' : (wr.drewN nq).cell? ⟨rb, 0, none⟩ = _ := r0
            have hB2 : Below base w (wr.drewN nq) ∧ KeepT w (wr.drewN nq) := ⟨pw_below_drewN HB.out.1 nq, HB.out.2.heap rfl⟩
            have hZ2 := HZ.out.keep (pw_below_drewN (Below.refl wr.heap.size wr) nq)
            generalize wr.drewN nq = w5 at *
            have HZ2 := Lib.hid hZ2
            have HB2 := Lib.hid hB2
            clear hZ2 hB2 r0 t0 t1
            go_wp2_with fail
            refine (must_ok _ _).mono ?_
            rintro e w6 ⟨rfl, rfl⟩
            go_wp2_with fail
            go_end0
            rw [HR.out]
            exact ⟨HB2.out.1, HB2.out.2, rfl, N', bs', _, v', _, HZ2.out⟩
          · have hq1 : (indentOf path' != i) = true := by rw [bne_iff_ne]; exact hind
            have hq2 : (indentOf path' == i) = false := by rw [beq_eq_false_iff_ne]; exact hind
            clear hrel hz hBw
            go_wp2_with fail
            go_quiet (fail)
            have r0' : (wr.drewN nq).cell? ⟨rb, 0, none⟩ = _ := r0
            have hB2 : Below base w (wr.drewN nq) ∧ KeepT w (wr.drewN nq) := ⟨pw_below_drewN HB.out.1 nq, HB.out.2.heap rfl⟩
            have hZ2 := HZ.out.keep (pw_below_drewN (Below.refl wr.heap.size wr) nq)
            generalize wr.drewN nq = w5 at *
            have HZ2 := Lib.hid hZ2
            have HB2 := Lib.hid hB2
            have rf' := blk_frozen hZ2.rd 0
            have hlo : (path'.length : Int) ≤ cap3 := by omega
            clear hZ2 hB2 r0 t0 t1
            go_wp2_with fail
            go_region
            have hFB2 : KeepT w ((w5.setCell ⟨rb, 0, none⟩ (.slice (some ⟨g3, 0, none⟩) path'.length cap3)).drew) := (HB2.out.2.trans (KeepT.set HZ2.out.rd _)).heap rfl
            have hFB : Below base w ((w5.setCell ⟨rb, 0, none⟩ (.slice (some ⟨g3, 0, none⟩) path'.length cap3)).drew) := below_drew (HB2.out.1.setCell (p := ⟨rb, 0, none⟩) HZ2.out.rbb _)
            have hrdF : ((w5.setCell ⟨rb, 0, none⟩ (.slice (some ⟨g3, 0, none⟩) path'.length cap3)).drew).heap[rb]? = some (.cells #[.slice (some ⟨g3, 0, none⟩) path'.length cap3, .bool false] 70 (0, 0)) := blk_set HZ2.out.rd 0 _
            have hkF : ∀ k, k < w5.heap.size → k ≠ rb → ((w5.setCell ⟨rb, 0, none⟩ (.slice (some ⟨g3, 0, none⟩) path'.length cap3)).drew).heap[k]? = w5.heap[k]? := fun k _ h3 => Below.heap_setCell w5 _ _ k h3
            have hsF : w5.heap.size ≤ ((w5.setCell ⟨rb, 0, none⟩ (.slice (some ⟨g3, 0, none⟩) path'.length cap3)).drew).heap.size := by simp [World.setCell, World.drew]
            generalize ((w5.setCell ⟨rb, 0, none⟩ (.slice (some ⟨g3, 0, none⟩) path'.length cap3)).drew) = WF at *
            have hHF := Lib.hid hrdF
            have hKF := Lib.hid hkF
            have hSF := Lib.hid hsF
            have HBF := Lib.hid (And.intro hFB hFB2)
            clear hrdF hkF hsF hFB hFB2
            go_wp2_with fail
            cases path' with
            | nil =>
              have hno : popTo i path cur = none := by
                rw [hpop]
                exact if_neg (show ¬ (0 : Int) = i from hind)
              go_roundg 0
              case measure => simp
              case rel => exact Lib.hid ⟨HBF.out, .inr ⟨_, _, hHF.out, hno⟩⟩
            | cons x p =>
              have hp2 : popTo i path cur = popTo i p (x.sibs ++ [shutK x.key cur']) := by
                rw [hpop]
                exact if_neg (show ¬ x.indent = i from hind)
              cases bs' with
              | nil => exact absurd HZ2.out.zp (fun h => h.elim)
              | cons g5 bs5 =>
                obtain ⟨v5, hz5⟩ := HZ2.out.pop hHF.out hKF.out hSF.out
                go_roundg (p.length + 1)
                case measure => simp
                case rel => exact Lib.hid ⟨HBF.out, .inl ⟨p, _, _, _, _, _, _, hz5, hp2, rfl⟩⟩
        · have r0 := blk_cell hrd 0
          have HB := Lib.hid hBw
          have HR := Lib.hid hnone
          clear hrel hrd hBw hnone
          go_wp2_with fail
          go_quiet (fail)
          have r0' : (wr.drewN nq).cell? ⟨rb, 0, none⟩ = _ := r0
          have HB2 := Lib.hid (show Below base w (wr.drewN nq) ∧ KeepT w (wr.drewN nq) from ⟨pw_below_drewN HB.out.1 nq, HB.out.2.heap rfl⟩)
          generalize wr.drewN nq = w5 at *
          clear r0
          go_wp2_with fail
          refine (must_no _ _).mono ?_
          rintro e w6 ⟨rfl, rfl⟩
          unfold pf
          go_wp2_with fail
          refine ⟨rfl, ?_⟩
          rw [HR.out]
          exact ⟨HB2.out.1, HB2.out.2, rfl⟩
    ·
      try (have hd := hcond rfl)
      clear hcond hpu ho
      go_enter Tryz.func47, Tryz.ntmps47
      go_wp2_with fail
      go_region
      obtain ⟨w1, hw1⟩ : ∃ w1, w1 = (w.alloc (.cells #[.pointer (some ⟨ab, ao, none⟩), .int .i64 (indentOf path)] 67)).drew := ⟨_, rfl⟩
      rw [← hw1]
      have hb1 : Below w.heap.size w w1 := by rw [hw1]; exact below_drew (below_alloc (Below.refl _ _) _)
      have hm : w1.heap[w.heap.size]? = some (.cells #[.pointer (some ⟨ab, ao, none⟩), .int .i64 (indentOf path)] 67 (0, 0)) := by rw [hw1]; exact heap_alloc_new w _
      have H1 := Lib.hid (H.out.keep hb1)
      have HB1 := Lib.hid (show Below base w w1 from hb1.mono hbase)
      have HK1 := Lib.hid (KeepT.below hb1)
      have m1 := blk_cell hm 1
      have u1 := blk_cell H1.out.rd 1
      clear hw1 hm hb1 r0 r1 t0 t1 r0a t0a t1a hwr hlc H hcap
      go_wp2_with fail
      go_loopg [] (path.length + 1) (fun gg wx => Hid ((Below base w wx ∧ KeepT w wx) ∧ ((∃ (path' : List Lv) (cur' : List Kn) (N' : Nat → Prop) (bs' : List Nat) (ads' : List Addr) (v' vL' : Value), Zs wx base fl rt rb N' bs' ads' v' vL' path' cur' true ∧ popTo i path cur = popTo i path' cur' ∧ gg = path'.length + 1) ∨ (∃ A cp, wx.heap[rb]? = some (.cells #[.slice A 0 cp, .bool true] 70 (0, 0)) ∧ popTo i path cur = none))))
      case atStart => exact Lib.hid ⟨⟨HB1.out, HK1.out⟩, .inl ⟨path, cur, N, bs, _, v, _, H1.out, rfl, rfl⟩⟩
      case round =>
        rcases hrel.out with ⟨hBw, ⟨path', cur', N', bs', ads2, v', vL', hz, hpop, rfl⟩ | ⟨A, cp, hrd, hnone⟩⟩
        · obtain ⟨g3, cap3, ⟨ab3, ao3, asp3⟩, ads3, rfl, hsp3, rfl, hcap3, hbg3, ⟨lc3, hlc3⟩, t0, t1⟩ := hz.top
          dsimp only at hsp3
          subst hsp3
          have r0 := blk_cell hz.rd 0
          have hdeep3 := hz.deep
          have hwr : IntKind.i64.wrap ((path'.length : Nat) : Int) = (path'.length : Nat) := IntWalk.i64_in _ (by omega)
          have HZ := Lib.hid hz
          have HB := Lib.hid hBw
          by_cases hind : indentOf path' = i
          · have hq1 : (indentOf path' != i) = false := by rw [hind]; simp
            have hq2 : (indentOf path' == i) = true := by rw [hind]; simp
            have HR := Lib.hid (show popTo i path cur = some (path', cur') from by
              rw [hpop]
              cases path' with
              | nil => exact if_pos (show (0 : Int) = i from hind)
              | cons x p => exact if_pos (show x.indent = i from hind))
            clear hpop hrel hz hBw hind
            go_wp2_with fail
            go_quiet (fail)
            have r0' : (wr.drewN nq).cell? ⟨rb, 0, none⟩ = _ := r0
            have hB2 : Below base w (wr.drewN nq) ∧ KeepT w (wr.drewN nq) := ⟨pw_below_drewN HB.out.1 nq, HB.out.2.heap rfl⟩
            have hZ2 := HZ.out.keep (pw_below_drewN (Below.refl wr.heap.size wr) nq)
            generalize wr.drewN nq = w5 at *
            have HZ2 := Lib.hid hZ2
            have HB2 := Lib.hid hB2
            clear hZ2 hB2 r0 t0 t1
            go_wp2_with fail
            refine (must_ok _ _).mono ?_
            rintro e w6 ⟨rfl, rfl⟩
            go_wp2_with fail
            go_end0
            rw [HR.out]
            exact ⟨HB2.out.1, HB2.out.2, rfl, N', bs', _, v', _, HZ2.out⟩
          · have hq1 : (indentOf path' != i) = true := by rw [bne_iff_ne]; exact hind
            have hq2 : (indentOf path' == i) = false := by rw [beq_eq_false_iff_ne]; exact hind
            clear hrel hz hBw
            go_wp2_with fail
            go_quiet (fail)
            have r0' : (wr.drewN nq).cell? ⟨rb, 0, none⟩ = _ := r0
            have hB2 : Below base w (wr.drewN nq) ∧ KeepT w (wr.drewN nq) := ⟨pw_below_drewN HB.out.1 nq, HB.out.2.heap rfl⟩
            have hZ2 := HZ.out.keep (pw_below_drewN (Below.refl wr.heap.size wr) nq)
            generalize wr.drewN nq = w5 at *
            have HZ2 := Lib.hid hZ2
            have HB2 := Lib.hid hB2
            have rf' := blk_frozen hZ2.rd 0
            have hlo : (path'.length : Int) ≤ cap3 := by omega
            clear hZ2 hB2 r0 t0 t1
            go_wp2_with fail
            go_region
            have hFB2 : KeepT w ((w5.setCell ⟨rb, 0, none⟩ (.slice (some ⟨g3, 0, none⟩) path'.length cap3)).drew) := (HB2.out.2.trans (KeepT.set HZ2.out.rd _)).heap rfl
            have hFB : Below base w ((w5.setCell ⟨rb, 0, none⟩ (.slice (some ⟨g3, 0, none⟩) path'.length cap3)).drew) := below_drew (HB2.out.1.setCell (p := ⟨rb, 0, none⟩) HZ2.out.rbb _)
            have hrdF : ((w5.setCell ⟨rb, 0, none⟩ (.slice (some ⟨g3, 0, none⟩) path'.length cap3)).drew).heap[rb]? = some (.cells #[.slice (some ⟨g3, 0, none⟩) path'.length cap3, .bool true] 70 (0, 0)) := blk_set HZ2.out.rd 0 _
            have hkF : ∀ k, k < w5.heap.size → k ≠ rb → ((w5.setCell ⟨rb, 0, none⟩ (.slice (some ⟨g3, 0, none⟩) path'.length cap3)).drew).heap[k]? = w5.heap[k]? := fun k _ h3 => Below.heap_setCell w5 _ _ k h3
            have hsF : w5.heap.size ≤ ((w5.setCell ⟨rb, 0, none⟩ (.slice (some ⟨g3, 0, none⟩) path'.length cap3)).drew).heap.size := by simp [World.setCell, World.drew]
            generalize ((w5.setCell ⟨rb, 0, none⟩ (.slice (some ⟨g3, 0, none⟩) path'.length cap3)).drew) = WF at *
            have hHF := Lib.hid hrdF
            have hKF := Lib.hid hkF
            have hSF := Lib.hid hsF
            have HBF := Lib.hid (And.intro hFB hFB2)
            clear hrdF hkF hsF hFB hFB2
            go_wp2_with fail
            cases path' with
            | nil =>
              have hno : popTo i path cur = none := by
                rw [hpop]
                exact if_neg (show ¬ (0 : Int) = i from hind)
              go_roundg 0
              case measure => simp
              case rel => exact Lib.hid ⟨HBF.out, .inr ⟨_, _, hHF.out, hno⟩⟩
            | cons x p =>
              have hp2 : popTo i path cur = popTo i p (x.sibs ++ [shutK x.key cur']) := by
                rw [hpop]
                exact if_neg (show ¬ x.indent = i from hind)
              cases bs' with
              | nil => exact absurd HZ2.out.zp (fun h => h.elim)
              | cons g5 bs5 =>
                obtain ⟨v5, hz5⟩ := HZ2.out.pop hHF.out hKF.out hSF.out
                go_roundg (p.length + 1)
                case measure => simp
                case rel => exact Lib.hid ⟨HBF.out, .inl ⟨p, _, _, _, _, _, _, hz5, hp2, rfl⟩⟩
        · have r0 := blk_cell hrd 0
          have HB := Lib.hid hBw
          have HR := Lib.hid hnone
          clear hrel hrd hBw hnone
          go_wp2_with fail
          go_quiet (fail)
          have r0' : (wr.drewN nq).cell? ⟨rb, 0, none⟩ = _ := r0
          have HB2 := Lib.hid (show Below base w (wr.drewN nq) ∧ KeepT w (wr.drewN nq) from ⟨pw_below_drewN HB.out.1 nq, HB.out.2.heap rfl⟩)
          generalize wr.drewN nq = w5 at *
          clear r0
          go_wp2_with fail
          refine (must_no _ _).mono ?_
          rintro e w6 ⟨rfl, rfl⟩
          unfold pf
          go_wp2_with fail
          refine ⟨rfl, ?_⟩
          rw [HR.out]
          exact ⟨HB2.out.1, HB2.out.2, rfl⟩
end Go.Proofs.YtpdnopfjnmjnnaaGreatDoor.Cn
