/- Package conf: a reader's open maps in memory. -/
import Derived.Test.YtpdnopfjnmjnnaaGreatDoorNf
set_option linter.unusedVariables false
set_option linter.unusedSimpArgs false
namespace Go.Proofs.YtpdnopfjnmjnnaaGreatDoor.Cn
open Go.Sort Go.RowKit Go.Proofs Go.Proofs.YtpdnopfjnmjnnaaGreatDoorW.PrintWords Go.Proofs.YtpdnopfjnmjnnaaGreatDoor.Bs Go.Proofs.YtpdnopfjnmjnnaaGreatDoor.Ir Go.Proofs.YtpdnopfjnmjnnaaGreatDoor.Cz

/-- A level: its map, how far it is indented. -/
def kPtr : Kd Addr := Kd.scalar (fun a => .pointer (some a)) (fun _ => rfl)
def kL : Kd (Addr × Int) := Kd.pair kPtr (Kd.int .i64)
/-- A row of keys, whose elements' rows are among N's blocks. -/
def RowN (w : World) (base : Nat) (N : Nat → Prop) (v : Value) (xs : List Kn) : Prop := OwnRow (kK.M w base N) 44 5 w base v xs
/-- The open maps outside of the innermost one: blocks of their rows, their nodes' addresses; v: the innermost map's row. -/
def Zp (w : World) (base rt : Nat) (N : Nat → Prop) : List Lv → List Nat → List Addr → Value → Prop
  | [], [], [a], v => a = ⟨rt, 0, none⟩ ∧ base ≤ rt ∧ w.heap[rt]? = some (.cells #[.int .u8 0, .string ⟨#[]⟩, .slice none 0 0, v] 32 (0, 0))
  | x :: p, g :: bs, a :: ads, v => a = ⟨g, x.sibs.length * 5 + 1, none⟩ ∧ ∃ cap inner v3, w.ownsRow base 44 5 (.slice (some ⟨g, 0, none⟩) (x.sibs.length + 1) cap) (x.sibs.length + 1) (inner ++ [.string x.key, .int .u8 0, .string ⟨#[]⟩, v3, v]) ∧ Kd.string.R 9 w base N v3 [] ∧ Reps (kK.M w base N) 5 x.sibs inner ∧ Zp w base rt N p bs ads (.slice (some ⟨g, 0, none⟩) (x.sibs.length + 1) cap)
  | _, _, _, _ => False
theorem Reps.len {α : Type} {R : α → List Value → Prop} {size : Nat} {ps : List α} {cs : List Value} (h : Reps R size ps cs) : cs.length = ps.length * size := h.1
theorem RowN.mono {w : World} {base : Nat} {N N' : Nat → Prop} {v : Value} {xs : List Kn} (h : RowN w base N v xs) (hn : ∀ k, N k → N' k) : RowN w base N' v xs := OwnRow.imp_ h (fun _ _ hp => kK.M_mono hn hp)
theorem Zp.mono {w : World} {base rt : Nat} {N N' : Nat → Prop} (hn : ∀ k, N k → N' k) : ∀ {p : List Lv} {bs : List Nat} {ads : List Addr} {v : Value}, Zp w base rt N p bs ads v → Zp w base rt N' p bs ads v
  | [], [], [_], _, h => h
  | x :: p, g :: bs, a :: ads, v, ⟨ha, cap, inner, v3, ho, h3, hr, hz⟩ => ⟨ha, cap, inner, v3, ho, Kd.R_mono h3 hn, hr.imp_ (fun _ _ hp => kK.M_mono hn hp), Zp.mono hn hz⟩
  | [], [], [], _, h => h.elim
  | [], [], _ :: _ :: _, _, h => h.elim
  | [], _ :: _, _, _, h => h.elim
  | _ :: _, [], _, _, h => h.elim
  | _ :: _, _ :: _, [], _, h => h.elim
/-- A block of a row of keys, or of texts. -/
def Typed (w : World) (k : Nat) : Prop := k < w.heap.size ∧ ∃ q, (q = 44 ∨ q = 9) ∧ ∃ cells, w.heap[k]? = some (.cells cells q (0, 0))
theorem typed_E {w : World} {N : Nat → Prop} {base k : Nat} (h : N k ∧ base ≤ k ∧ k < w.heap.size ∧ ∃ q, q ∈ kK.E ∧ ∃ cells, w.heap[k]? = some (.cells cells q (0, 0))) : N k ∧ Typed w k := by
  obtain ⟨h1, _, h3, q, hq, hc⟩ := h
  refine ⟨h1, h3, q, ?_, hc⟩
  have hq' : q ∈ [44, 9] := hq
  rcases List.mem_cons.1 hq' with rfl | hq'
  · exact .inl rfl
  · rcases List.mem_cons.1 hq' with rfl | hq'
    · exact .inr rfl
    · cases hq'
theorem typed_S {w : World} {N : Nat → Prop} {base k : Nat} (h : N k ∧ base ≤ k ∧ k < w.heap.size ∧ ∃ q, q ∈ 9 :: Kd.string.E ∧ ∃ cells, w.heap[k]? = some (.cells cells q (0, 0))) : N k ∧ Typed w k := by
  obtain ⟨h1, _, h3, q, hq, hc⟩ := h
  refine ⟨h1, h3, q, ?_, hc⟩
  rcases List.mem_cons.1 hq with rfl | hq
  · exact .inr rfl
  · cases hq
theorem Typed.not {w : World} {k t : Nat} {cells : Array Value} (h : Typed w k) (hb : w.heap[k]? = some (.cells cells t (0, 0))) (h1 : t ≠ 44) (h2 : t ≠ 9) : False := by
  obtain ⟨_, q, hq, c, hc⟩ := h
  rw [hc] at hb
  injection hb with hb
  injection hb with _ hb
  rcases hq with rfl | rfl
  · exact h1 hb.symm
  · exact h2 hb.symm
/-- What is bounded stays bounded. -/
theorem RowN.bound {w : World} {base : Nat} {N : Nat → Prop} {v : Value} {xs : List Kn} (h : RowN w base N v xs) : RowN w base (fun k => N k ∧ Typed w k) v xs := OwnRow.imp_ h (fun _ _ hp => kK.M_mono (fun k hk => typed_E hk) (kK.M_bound hp))
theorem Zp.bound {w : World} {base rt : Nat} {N : Nat → Prop} : ∀ {p : List Lv} {bs : List Nat} {ads : List Addr} {v : Value}, Zp w base rt N p bs ads v → Zp w base rt (fun k => N k ∧ Typed w k) p bs ads v
  | [], [], [_], _, h => h
  | x :: p, g :: bs, a :: ads, v, ⟨ha, cap, inner, v3, ho, h3, hr, hz⟩ => ⟨ha, cap, inner, v3, ho, Kd.R_mono (Kd.R_bound h3) (fun k hk => typed_S hk), hr.imp_ (fun _ _ hp => kK.M_mono (fun k hk => typed_E hk) (kK.M_bound hp)), Zp.bound hz⟩
  | [], [], [], _, h => h.elim
  | [], [], _ :: _ :: _, _, h => h.elim
  | [], _ :: _, _, _, h => h.elim
  | _ :: _, [], _, _, h => h.elim
  | _ :: _, _ :: _, [], _, h => h.elim
/-- Where the spine's and the elements' blocks stay. -/
theorem RowN.move {w w' : World} {base : Nat} {N : Nat → Prop} {v : Value} {xs : List Kn} (h : RowN w base N v xs) (ho : ∀ k, v.ownBlock = some k → w'.heap[k]? = w.heap[k]?) (hn : ∀ k, N k → w'.heap[k]? = w.heap[k]?) : RowN w' base N v xs := by
  obtain ⟨inner, h1, h2⟩ := h
  exact ⟨inner, own_move h1 ho, h2.imp_ (fun _ _ hp => kK.M_move hn hp)⟩
theorem Zp.move {w w' : World} {base rt : Nat} {N : Nat → Prop} (hn : ∀ k, N k → w'.heap[k]? = w.heap[k]?) (ht : w'.heap[rt]? = w.heap[rt]?) : ∀ {p : List Lv} {bs : List Nat} {ads : List Addr} {v : Value}, (∀ g ∈ bs, w'.heap[g]? = w.heap[g]?) → Zp w base rt N p bs ads v → Zp w' base rt N p bs ads v
  | [], [], [_], _, _, h => ⟨h.1, h.2.1, ht.trans h.2.2⟩
  | x :: p, g :: bs, a :: ads, v, hb, ⟨ha, cap, inner, v3, ho, h3, hr, hz⟩ => ⟨ha, cap, inner, v3, own_move ho (fun k hk => by
      have : g = k := by simpa [Value.ownBlock] using hk
      subst this
      exact hb g List.mem_cons_self), Kd.R_move h3 hn, hr.imp_ (fun _ _ hp => kK.M_move hn hp), Zp.move hn ht (fun g' hg => hb g' (List.mem_cons_of_mem _ hg)) hz⟩
  | [], [], [], _, _, h => h.elim
  | [], [], _ :: _ :: _, _, _, h => h.elim
  | [], _ :: _, _, _, _, h => h.elim
  | _ :: _, [], _, _, _, h => h.elim
  | _ :: _, _ :: _, [], _, _, h => h.elim
/-- The spine's blocks are rows of keys. -/
theorem Zp.typed {w : World} {base rt : Nat} {N : Nat → Prop} : ∀ {p : List Lv} {bs : List Nat} {ads : List Addr} {v : Value}, Zp w base rt N p bs ads v → ∀ g ∈ bs, base ≤ g ∧ ∃ cells, w.heap[g]? = some (.cells cells 44 (0, 0))
  | [], [], [_], _, h, g, hg => by cases hg
  | x :: p, g :: bs, a :: ads, v, ⟨ha, cap, inner, v3, ho, h3, hr, hz⟩, g', hg => by
    rcases List.mem_cons.1 hg with rfl | hg
    · exact ⟨own_base ho g' rfl, own_typed ho g' rfl⟩
    · exact Zp.typed hz g' hg
  | [], [], [], _, h, _, _ => h.elim
  | [], [], _ :: _ :: _, _, h, _, _ => h.elim
  | [], _ :: _, _, _, h, _, _ => h.elim
  | _ :: _, [], _, _, h, _, _ => h.elim
  | _ :: _, _ :: _, [], _, h, _, _ => h.elim
theorem Zp.root {w : World} {base rt : Nat} {N : Nat → Prop} : ∀ {p : List Lv} {bs : List Nat} {ads : List Addr} {v : Value}, Zp w base rt N p bs ads v → base ≤ rt ∧ ∃ u, w.heap[rt]? = some (.cells #[.int .u8 0, .string ⟨#[]⟩, .slice none 0 0, u] 32 (0, 0))
  | [], [], [_], v, h => ⟨h.2.1, v, h.2.2⟩
  | x :: p, g :: bs, a :: ads, v, ⟨ha, cap, inner, v3, ho, h3, hr, hz⟩ => Zp.root hz
  | [], [], [], _, h => h.elim
  | [], [], _ :: _ :: _, _, h => h.elim
  | [], _ :: _, _, _, h => h.elim
  | _ :: _, [], _, _, h => h.elim
  | _ :: _, _ :: _, [], _, h => h.elim
theorem Zp.lens {w : World} {base rt : Nat} {N : Nat → Prop} : ∀ {p : List Lv} {bs : List Nat} {ads : List Addr} {v : Value}, Zp w base rt N p bs ads v → bs.length = p.length ∧ ads.length = p.length + 1
  | [], [], [_], v, h => ⟨rfl, rfl⟩
  | x :: p, g :: bs, a :: ads, v, ⟨ha, cap, inner, v3, ho, h3, hr, hz⟩ => by
    obtain ⟨h1, h2⟩ := Zp.lens hz
    exact ⟨by simp [h1], by simp [h2]⟩
  | [], [], [], _, h => h.elim
  | [], [], _ :: _ :: _, _, h => h.elim
  | [], _ :: _, _, _, h => h.elim
  | _ :: _, [], _, _, h => h.elim
  | _ :: _, _ :: _, [], _, h => h.elim
/-- The innermost map's own cell: its keys. -/
theorem Zp.keys {w : World} {base rt : Nat} {N : Nat → Prop} {p : List Lv} {bs : List Nat} {a : Addr} {ads : List Addr} {v : Value} (h : Zp w base rt N p bs (a :: ads) v) : a.spot = none ∧ w.cell? ⟨a.block, a.off + 3, none⟩ = some v ∧ w.frozen? ⟨a.block, a.off + 3, none⟩ = false := by
  match p, bs, ads, h with
  | [], [], [], h =>
    obtain ⟨rfl, _, hb⟩ := h
    exact ⟨rfl, by have := blk_cell hb 3; simpa using this, blk_frozen hb _⟩
  | x :: p, g :: bs, ads, ⟨ha, cap, inner, v3, ho, h3, hr, hz⟩ =>
    subst ha
    refine ⟨rfl, ?_, ?_⟩
    · have := ho.cells (g := g) rfl (x.sibs.length * 5 + 4) v (by
        rw [List.getElem?_append_right (by rw [hr.1]; omega), hr.1]
        have : x.sibs.length * 5 + 4 - x.sibs.length * 5 = 4 := by omega
        rw [this]
        rfl)
      rw [add_plain] at this
      simpa using this
    · obtain ⟨cells, hc⟩ := own_typed ho g rfl
      exact blk_frozen hc _

theorem own_put1 {w : World} {base g n cap size : Nat} {e : TypeId} {xs : List Value} (h : w.ownsRow base e size (.slice (some ⟨g, 0, none⟩) n cap) n xs) (j : Nat) (hj : j < xs.length) (u : Value) : (w.setCell ⟨g, j, none⟩ u).ownsRow base e size (.slice (some ⟨g, 0, none⟩) n cap) n (xs.set j u) := by
  obtain ⟨h1, h2⟩ := h
  refine ⟨by rw [List.length_set]; exact h1, ?_⟩
  rcases h2 with ⟨hv, _⟩ | ⟨g', cap', cur, hv, hb, hh, hnc', hcm, hcs, ht⟩
  · cases hv
  injection hv with ha _ hc
  injection ha with ha
  injection ha with hg
  subst hg; subst hc
  refine .inr ⟨g, cap, cur.setIfInBounds j u, rfl, hb, blk_set hh j u, hnc', hcm, by simpa using hcs, ?_⟩
  rw [Array.toList_setIfInBounds, ← ht, List.take_set]
/-- The innermost map's keys are written. -/
theorem Zp.put {w : World} {base rt : Nat} {N : Nat → Prop} {p : List Lv} {bs : List Nat} {a : Addr} {ads : List Addr} {v : Value} (h : Zp w base rt N p bs (a :: ads) v) (hnd : bs.Nodup) (hN : ∀ g ∈ bs, ¬ N g) (hrt : ¬ N rt) (v1 : Value) : Zp (w.setCell ⟨a.block, a.off + 3, none⟩ v1) base rt N p bs (a :: ads) v1 := by
  match p, bs, ads, h with
  | [], [], [], h =>
    obtain ⟨rfl, h2, hb⟩ := h
    exact ⟨rfl, h2, blk_set hb 3 v1⟩
  | x :: p, g :: bs, ads, ⟨ha, cap, inner, v3, ho, h3, hr, hz⟩ =>
    subst ha
    have hgt := own_typed ho g rfl
    have hNg : ¬ N g := hN g List.mem_cons_self
    have hfar : ∀ k, k ≠ g → (w.setCell ⟨g, x.sibs.length * 5 + 1 + 3, none⟩ v1).heap[k]? = w.heap[k]? := fun k hk => Below.heap_setCell w _ _ k hk
    refine ⟨rfl, cap, inner, v3, ?_, Kd.R_move h3 (fun k hk => hfar k (fun e => hNg (e ▸ hk))), hr.imp_ (fun _ _ hp => kK.M_move (fun k hk => hfar k (fun e => hNg (e ▸ hk))) hp), Zp.move (fun k hk => hfar k (fun e => hNg (e ▸ hk))) (hfar rt (fun e => by
      subst e
      obtain ⟨c1, h1⟩ := hgt
      obtain ⟨_, u, h2⟩ := hz.root
      rw [h1] at h2
      injection h2 with h2
      injection h2 with _ h2
      exact absurd h2 (by decide))) (fun g' hg' => hfar g' (fun e => by
        subst e
        exact (List.nodup_cons.1 hnd).1 hg')) hz⟩
    have hl : inner.length = x.sibs.length * 5 := hr.1
    have := own_put1 ho (x.sibs.length * 5 + 4) (by simp [hl]) v1
    rw [List.set_append_right _ _ (by omega), hl] at this
    have e : x.sibs.length * 5 + 4 - x.sibs.length * 5 = 4 := by omega
    rw [e] at this
    exact this
/-- The innermost map's last key is open: it has nothing yet. -/
def OpenRow (w : World) (base : Nat) (N : Nat → Prop) (v : Value) (xs : List Kn) (key : ByteArray) : Prop :=
  ∃ g cap inner v3, v = .slice (some ⟨g, 0, none⟩) (xs.length + 1) cap ∧ w.ownsRow base 44 5 v (xs.length + 1) (inner ++ [.string key, .int .u8 0, .string ⟨#[]⟩, v3, .slice none 0 0]) ∧ Kd.string.R 9 w base N v3 [] ∧ Reps (kK.M w base N) 5 xs inner
theorem own_len {w : World} {base n : Nat} {e : TypeId} {size : Nat} {v : Value} {xs : List Value} (h : w.ownsRow base e size v n xs) {m : Nat} (hm : m = n) : w.ownsRow base e size v m xs := hm ▸ h
theorem OpenRow.row {w : World} {base : Nat} {N : Nat → Prop} {v : Value} {xs : List Kn} {key : ByteArray} (h : OpenRow w base N v xs key) : RowN w base N v (xs ++ [shutK key []]) := by
  obtain ⟨g, cap, inner, v3, rfl, ho, h3, hr⟩ := h
  refine ⟨_, own_len ho (by simp), Reps.snoc hr ?_ rfl⟩
  exact kK_mkM w base N (shutK key []) h3 (Kd.R_nil _ _ _ _ _)
theorem OpenRow.mono {w : World} {base : Nat} {N N' : Nat → Prop} {v : Value} {xs : List Kn} {key : ByteArray} (h : OpenRow w base N v xs key) (hn : ∀ k, N k → N' k) : OpenRow w base N' v xs key := by
  obtain ⟨g, cap, inner, v3, rfl, ho, h3, hr⟩ := h
  exact ⟨g, cap, inner, v3, rfl, ho, Kd.R_mono h3 hn, hr.imp_ (fun _ _ hp => kK.M_mono hn hp)⟩
theorem OpenRow.bound {w : World} {base : Nat} {N : Nat → Prop} {v : Value} {xs : List Kn} {key : ByteArray} (h : OpenRow w base N v xs key) : OpenRow w base (fun k => N k ∧ Typed w k) v xs key := by
  obtain ⟨g, cap, inner, v3, rfl, ho, h3, hr⟩ := h
  exact ⟨g, cap, inner, v3, rfl, ho, Kd.R_mono (Kd.R_bound h3) (fun k hk => typed_S hk), hr.imp_ (fun _ _ hp => kK.M_mono (fun k hk => typed_E hk) (kK.M_bound hp))⟩
theorem OpenRow.move {w w' : World} {base : Nat} {N : Nat → Prop} {v : Value} {xs : List Kn} {key : ByteArray} (h : OpenRow w base N v xs key) (ho : ∀ k, v.ownBlock = some k → w'.heap[k]? = w.heap[k]?) (hn : ∀ k, N k → w'.heap[k]? = w.heap[k]?) : OpenRow w' base N v xs key := by
  obtain ⟨g, cap, inner, v3, rfl, h1, h3, hr⟩ := h
  exact ⟨g, cap, inner, v3, rfl, own_move h1 ho, Kd.R_move h3 hn, hr.imp_ (fun _ _ hp => kK.M_move hn hp)⟩
/-- A map is opened. -/
theorem Zp.push {w : World} {base rt : Nat} {N : Nat → Prop} {p : List Lv} {bs : List Nat} {ads : List Addr} {v : Value} {xs : List Kn} {key : ByteArray} (h : Zp w base rt N p bs ads v) (hr : OpenRow w base N v xs key) (i : Int) : ∃ g cap, v = .slice (some ⟨g, 0, none⟩) (xs.length + 1) cap ∧ Zp w base rt N (⟨xs, key, i⟩ :: p) (g :: bs) (⟨g, xs.length * 5 + 1, none⟩ :: ads) (.slice none 0 0) := by
  obtain ⟨g, cap, inner, v3, rfl, ho, h3, hr⟩ := hr
  exact ⟨g, cap, rfl, rfl, cap, inner, v3, ho, h3, hr, h⟩
/-- A map is shut. -/
theorem Zp.pop {w : World} {base rt g : Nat} {N : Nat → Prop} {x : Lv} {p : List Lv} {bs : List Nat} {a : Addr} {ads : List Addr} {v : Value} {cur : List Kn} (h : Zp w base rt N (x :: p) (g :: bs) (a :: ads) v) (hr : RowN w base N v cur) (hv : ∀ k, v.ownBlock = some k → ¬ N k) :
    ∃ cap, Zp w base rt (fun k => N k ∨ v.ownBlock = some k) p bs ads (.slice (some ⟨g, 0, none⟩) (x.sibs.length + 1) cap) ∧ RowN w base (fun k => N k ∨ v.ownBlock = some k) (.slice (some ⟨g, 0, none⟩) (x.sibs.length + 1) cap) (x.sibs ++ [shutK x.key cur]) := by
  obtain ⟨ha, cap, inner, v3, ho, h3, hrp, hz⟩ := h
  refine ⟨cap, hz.mono (fun _ => .inl), _, own_len ho (by simp), Reps.snoc (hrp.imp_ (fun _ _ hp => kK.M_mono (fun _ => .inl) hp)) ?_ rfl⟩
  refine kK_mkM w base _ (shutK x.key cur) (Kd.R_mono h3 (fun _ => .inl)) ?_
  obtain ⟨inner2, ho2, hr2⟩ := hr
  exact ⟨fun k hk => .inr hk, inner2, ho2, hr2.imp_ (fun _ _ hp => kK.M_mono (fun k hk => ⟨.inl hk, fun e => hv k e.symm hk⟩) hp)⟩
end Go.Proofs.YtpdnopfjnmjnnaaGreatDoor.Cn
