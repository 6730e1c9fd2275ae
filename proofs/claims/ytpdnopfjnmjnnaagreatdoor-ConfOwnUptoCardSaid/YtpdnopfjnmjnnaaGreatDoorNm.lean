/- Package conf: behind an append to the innermost map. -/
import Derived.Test.YtpdnopfjnmjnnaaGreatDoorNi
import Derived.Laws.IdiomCopy
set_option linter.unusedVariables false
set_option linter.unusedSimpArgs false
namespace Go.Proofs.YtpdnopfjnmjnnaaGreatDoor.Cn
open Go.Sort Go.RowKit Go.Proofs Go.Proofs.YtpdnopfjnmjnnaaGreatDoorW.PrintWords Go.Proofs.YtpdnopfjnmjnnaaGreatDoor.Bs Go.Proofs.YtpdnopfjnmjnnaaGreatDoor.Ir Go.Proofs.YtpdnopfjnmjnnaaGreatDoor.Cz

theorem setCell_comm (w : World) (p q : Addr) (u v : Value) (h : p.block ≠ q.block) : (w.setCell p u).setCell q v = (w.setCell q v).setCell p u := by
  simp only [World.setCell]
  congr 1
  apply Array.ext_getElem?
  intro i
  simp only [Array.getElem?_modify]
  by_cases h1 : p.block = i <;> by_cases h2 : q.block = i
  · exact absurd (h1.trans h2.symm) h
  · simp [h1, h2]
  · simp [h1, h2]
  · simp [h1, h2]
/-- What put keeps. -/
def BK (base : Nat) (w w' : World) : Prop := Below base w w' ∧ Keeps [67, 70, 44, 32] w w'
theorem BK.of {base : Nat} {w w' : World} (h : Below w.heap.size w w') (hb : base ≤ w.heap.size) : BK base w w' := ⟨h.mono hb, Keeps.below h⟩
theorem BK.trans {base : Nat} {a b c : World} (h : BK base a b) (k : BK base b c) : BK base a c := ⟨h.1.trans k.1, h.2.trans k.2⟩
theorem BK.size {base : Nat} {a b : World} (h : BK base a b) : a.heap.size ≤ b.heap.size := h.1.size
theorem BK.step {base : Nat} {a b c : World} (h : BK base a b) (k : Below b.heap.size b c) (hb : base ≤ a.heap.size) : BK base a c := h.trans (BK.of k (Nat.le_trans hb h.1.size))
theorem BK.put {base : Nat} {a b c : World} (h : BK base a b) (k : Below base b c) (hk : KeepT b c) : BK base a c := h.trans ⟨k, Keeps.mono hk (by decide)⟩
theorem inK : (Tryz.prog.info? 44).map (fun i => (i.zero, i.size, i.bytes)) = some (some (.agg #[.string ⟨#[]⟩, .int .u8 0, .string ⟨#[]⟩, .slice none 0 0, .slice none 0 0]), 5, 88) := by kernel_rfl
theorem Tu_keys : Tryz.prog.underlying 30 = some (.slice 44) := by kernel_rfl
section
variable {w w1 : World} {base fl rt rb : Nat} {N : Nat → Prop} {bs : List Nat} {ab ao : Nat} {ads : List Addr} {v v1 vL : Value} {path : List Lv} {cur : List Kn} {f : Bool}
theorem Zs.toAppend (h : Zs w base fl rt rb N bs ads v vL path cur f) :
    kK.R 44 w.drew base (fun k => N k ∨ some k = v.ownBlock ∨ w.heap.size ≤ k) v cur := by
  obtain ⟨inner, ho, hr⟩ := h.cu
  exact ⟨fun k hk => .inr (.inl hk.symm), inner, ho, hr.imp_ (fun _ _ hp => kK.M_mono (fun k hk => ⟨.inl hk, fun e => h.ev k e.symm hk⟩) (Kd.M_below hp (below_drew (Below.refl _ _))))⟩
/-- The row of the innermost map is none of the outer ones' blocks, nor the root's. -/
theorem Zs.apart (h : Zs w base fl rt rb N bs (⟨ab, ao, none⟩ :: ads) v vL path cur f) : (∀ k, v.ownBlock = some k → k ≠ ab) ∧ ab < w.heap.size ∧ base ≤ ab := by
  have hz := h.zp
  match path, bs, ads, hz with
  | [], [], [], hz =>
    obtain ⟨e, hb, hr⟩ := hz
    injection e with e _ _
    subst e
    refine ⟨fun k hk e => ?_, blk_lt hr, hb⟩
    subst e
    obtain ⟨inner, ho, _⟩ := h.cu
    obtain ⟨cells, hc⟩ := own_typed ho k hk
    rw [hr] at hc
    injection hc with hc
    injection hc with _ hc
    exact absurd hc (by decide)
  | y :: p, g :: bs', ads, hz =>
    obtain ⟨e, cap, inner, v3, ho, _⟩ := hz
    injection e with e _ _
    subst e
    exact ⟨fun k hk e => (h.ex ab List.mem_cons_self).2 (e ▸ hk), own_lt ho ab rfl, own_base ho ab rfl⟩
theorem row_move (hg : w.drew.grownBy w1 v.ownBlock) (h : Zs w base fl rt rb N bs (⟨ab, ao, none⟩ :: ads) v vL path cur f) : (∀ k, N k → w1.heap[k]? = w.heap[k]?) ∧ (∀ k ∈ bs, w1.heap[k]? = w.heap[k]?) ∧ w1.heap[rt]? = w.heap[rt]? ∧ w1.heap[rb]? = w.heap[rb]? ∧ w1.heap[ab]? = w.heap[ab]? := by
  refine ⟨fun k hk => hg.block k (h.lo k hk).1 (fun e => h.ev k e.symm hk), fun k hk => hg.block k ?_ (fun e => (h.ex k hk).2 e.symm), hg.block rt ?_ ?_, hg.block rb (blk_lt h.rd) ?_, hg.block ab h.apart.2.1 (fun e => h.apart.1 ab e.symm rfl)⟩
  · obtain ⟨_, c, hc⟩ := h.zp.typed k hk
    exact blk_lt hc
  · obtain ⟨_, u, hu⟩ := h.zp.root
    exact blk_lt hu
  · obtain ⟨_, u, hu⟩ := h.zp.root
    obtain ⟨inner, ho, _⟩ := h.cu
    exact own_ne ho hu (by decide)
  · obtain ⟨inner, ho, _⟩ := h.cu
    exact own_ne ho h.rd (by decide)
/-- Behind the append: the new element's cells, and the map's own. -/
theorem Zs.after (h : Zs w base fl rt rb N bs (⟨ab, ao, none⟩ :: ads) v vL path cur f)
    (hR : kK.R 44 w1 base (fun k => N k ∨ some k = v.ownBlock ∨ w.heap.size ≤ k) v1 (cur ++ [zKn])) (hg : w.drew.grownBy w1 v.ownBlock) (hat : v1.ownBlock = v.ownBlock ∨ ∃ b, v1.ownBlock = some b ∧ w.drew.heap.size ≤ b) :
    ∃ g1 c1, v1 = .slice (some ⟨g1, 0, none⟩) (cur.length + 1) c1 ∧ (∃ u, w1.cell? ⟨g1, cur.length * 5, none⟩ = some u) ∧ (∃ u, w1.cell? ⟨g1, cur.length * 5 + 1, none⟩ = some u) ∧ (∃ u, w1.cell? ⟨g1, cur.length * 5 + 2, none⟩ = some u) ∧ (∃ u, w1.cell? ⟨g1, cur.length * 5 + 3, none⟩ = some u) ∧ (∃ u, w1.cell? ⟨g1, cur.length * 5 + 4, none⟩ = some u) ∧ (∀ j, w1.frozen? ⟨g1, j, none⟩ = false) ∧ (∃ u, w1.cell? ⟨ab, ao + 3, none⟩ = some u) ∧ w1.frozen? ⟨ab, ao + 3, none⟩ = false ∧ ab ≠ g1 ∧ g1 ≠ ab := by
  have hlen : (cur ++ [zKn]).length = cur.length + 1 := by simp
  obtain ⟨g1, c1, hv1, _, _, cells, hc⟩ := Kd.R_form hR (by omega)
  rw [hlen] at hv1
  rw [hv1] at hR
  obtain ⟨c, hcl, _, hcc, _⟩ := Kd.R_elem hR zKn (cur.length : Int) (by omega) (by omega)
  rw [Int.toNat_natCast] at hcc
  have at' : ∀ j, j < 5 → ∃ u, w1.cell? ⟨g1, cur.length * 5 + j, none⟩ = some u := fun j hj => by
    have hj' : j < c.length := by rw [hcl]; exact hj
    exact ⟨c[j], hcc j _ (List.getElem?_eq_getElem hj')⟩
  obtain ⟨m1, m2, m3, m4, m5⟩ := row_move hg h
  obtain ⟨-, k0, k1⟩ := h.zp.keys
  have hne : ab ≠ g1 := by
    intro e
    subst e
    rcases hat with hat | ⟨b, hb, hle⟩
    · exact h.apart.1 ab (by rw [← hat, hv1]; rfl) rfl
    · rw [hv1] at hb
      have : ab = b := by simpa [Value.ownBlock] using hb
      have h2 := h.apart.2.1
      have h3 : w.heap.size ≤ b := hle
      omega
  exact ⟨g1, c1, hv1, at' 0 (by omega), at' 1 (by omega), at' 2 (by omega), at' 3 (by omega), at' 4 (by omega), fun j => blk_frozen hc j, ⟨v, (World.cell?_of_block m5).trans k0⟩, by rw [← k1]; simp only [World.frozen?, m5], hne, hne.symm⟩

/-- The element's five cells are written, and the map's keys. -/
theorem Zs.appended (h : Zs w base fl rt rb N bs (⟨ab, ao, none⟩ :: ads) v vL path cur f) {g1 c1 : Nat} (hv1 : v1 = .slice (some ⟨g1, 0, none⟩) (cur.length + 1) c1)
    (hR : kK.R 44 w1 base (fun k => N k ∨ some k = v.ownBlock ∨ w.heap.size ≤ k) v1 (cur ++ [zKn])) (hg : w.drew.grownBy w1 v.ownBlock) (hat : v1.ownBlock = v.ownBlock ∨ ∃ b, v1.ownBlock = some b ∧ w.drew.heap.size ≤ b)
    (x : Kn) (hx4 : x.f4 = []) (ls : Value) {base0 : Nat} (hls : Kd.string.R 9 w base0 (fun k => base0 ≤ k) ls x.f3) (hb0 : base ≤ base0) (hmany : cur.length < 256) (hbase : base ≤ w.heap.size) (hfl : fl ≤ base0) (hlw : base0 ≤ w.heap.size) (WF : World)
    (hWF : WF = (w1.setCells g1 (cur.length * 5) [.string x.f0, .int .u8 x.f1, .string x.f2, ls, .slice none 0 0]).setCell ⟨ab, ao + 3, none⟩ v1) :
    BK base w WF ∧ ∃ N', Zs WF base fl rt rb N' bs (⟨ab, ao, none⟩ :: ads) v1 vL path (cur ++ [x]) f ∧ ∀ key, x = shutK key [] → ls = .slice none 0 0 → OpenRow WF base N' v1 cur key := by
  have hap := h.apart
  obtain ⟨m1, m2, m3, m4, m5⟩ := row_move hg h
  have own1 : v1.ownBlock = some g1 := by rw [hv1]; rfl
  have hsz : w.heap.size ≤ w1.heap.size := hg.size
  have g1_or : some g1 = v.ownBlock ∨ w.heap.size ≤ g1 := by
    rcases hat with hat | ⟨b, hb, hle⟩
    · exact .inl (own1.symm.trans hat)
    · right
      rw [own1] at hb
      have := Option.some.inj hb
      subst this
      exact hle
  have g1_ty : ∀ k t cells, w.heap[k]? = some (.cells cells t (0, 0)) → t ≠ 44 → k ≠ g1 := by
    intro k t cells hk ht e
    subst e
    rcases g1_or with e | e
    · obtain ⟨inner, ho, _⟩ := h.cu
      obtain ⟨c, hc⟩ := own_typed ho k e.symm
      rw [hk] at hc
      injection hc with hc
      injection hc with _ hc
      exact ht hc
    · have := blk_lt hk
      omega
  have hNg : ∀ k, N k → k ≠ g1 := by
    intro k hk e
    subst e
    rcases g1_or with e | e
    · exact h.ev k e.symm hk
    · have := (h.lo k hk).1; omega
  have hbsg : ∀ k ∈ bs, k ≠ g1 := by
    intro k hk e
    subst e
    rcases g1_or with e | e
    · exact (h.ex k hk).2 e.symm
    · obtain ⟨_, c, hc⟩ := h.zp.typed k hk
      have := blk_lt hc
      omega
  obtain ⟨hrtb, ur, hur⟩ := h.zp.root
  have hrtg : rt ≠ g1 := g1_ty rt _ _ hur (by decide)
  have hrbg : rb ≠ g1 := g1_ty rb _ _ h.rd (by decide)
  have habg : ab ≠ g1 := by
    intro e
    subst e
    rcases g1_or with e | e
    · exact hap.1 ab e.symm rfl
    · omega
  have hab : ab = rt ∨ ab ∈ bs := by
    have hz := h.zp
    match path, bs, ads, hz with
    | [], [], [], hz => obtain ⟨e, _⟩ := hz; injection e with e _ _; exact .inl e
    | y :: p, g :: bs', ads, hz => obtain ⟨e, _⟩ := hz; injection e with e _ _; exact .inr (by rw [e]; exact List.mem_cons_self)
  have strB : ∀ k : Nat, (∃ cells : Array Value, w.heap[k]? = some (.cells cells 9 (0, 0))) → w1.heap[k]? = w.heap[k]? := by
    rintro k ⟨cells, hk⟩
    refine hg.block k (blk_lt hk) ?_
    obtain ⟨inner, ho, _⟩ := h.cu
    exact own_ne ho hk (by decide)
  -- the written row
  have hlen : (cur ++ [zKn]).length = cur.length + 1 := by simp
  have hR1 := Kd.R_mono (ok' := fun k : Nat => (N k ∨ some k = v.ownBlock ∨ w.heap.size ≤ k) ∨ base0 ≤ k ∧ ∃ cells : Array Value, w.heap[k]? = some (.cells cells 9 (0, 0))) hR (fun k hk => .inl hk)
  rw [hv1] at hR1
  obtain ⟨c, hcl, _, hcc, _⟩ := Kd.R_elem hR1 zKn (cur.length : Int) (by omega) (by omega)
  have hlsb : Kd.string.R 9 w1 base (fun k : Nat => base0 ≤ k ∧ ∃ cells : Array Value, w.heap[k]? = some (.cells cells 9 (0, 0))) ls x.f3 := by
    have h1 := Kd.R_mono (ok' := fun k : Nat => base0 ≤ k ∧ ∃ cells : Array Value, w.heap[k]? = some (.cells cells 9 (0, 0))) (Kd.R_bound (Kd.R_lower hls hb0)) (fun k hk => by
      obtain ⟨h0k, _, _, q, hq, hc⟩ := hk
      rcases List.mem_cons.1 hq with rfl | hq
      · exact ⟨h0k, hc⟩
      · cases hq)
    exact Kd.R_move h1 (fun k hk => strB k hk.2)
  have hM : kK.M w1 base (fun k : Nat => base0 ≤ k ∧ ∃ cells : Array Value, w.heap[k]? = some (.cells cells 9 (0, 0))) x (c.take 0 ++ ([.string x.f0, .int .u8 x.f1, .string x.f2, ls, .slice none 0 0] : List Value) ++ c.drop (0 + ([.string x.f0, .int .u8 x.f1, .string x.f2, ls, .slice none 0 0] : List Value).length)) := by
    have : c.drop 5 = [] := List.drop_eq_nil_of_le (by rw [hcl]; exact Nat.le_refl _)
    simp only [List.take_zero, List.nil_append, List.length_cons, List.length_nil, Nat.zero_add, Nat.reduceAdd, this, List.append_nil]
    exact kK_mkM w1 base _ x hlsb (by rw [hx4]; exact Kd.R_nil _ _ _ _ _)
  obtain ⟨hR2, hg2⟩ := Kd.R_seg hR1 (cur.length : Int) (by omega) (by omega) hcl hcc (by show 0 + 5 ≤ 5; omega) hM (fun k hk => ⟨.inr hk, by
    obtain ⟨_, cells, hk⟩ := hk
    exact g1_ty k _ _ hk (by decide)⟩)
  rw [Int.toNat_natCast] at hR2 hg2
  have hset : (cur ++ [zKn]).set cur.length x = cur ++ [x] := by
    rw [List.set_append_right _ _ (Nat.le_refl _), Nat.sub_self]
    rfl
  rw [hset] at hR2
  have e50 : cur.length * kK.sz + 0 = cur.length * 5 := rfl
  rw [e50] at hR2 hg2
  have hcells : ∀ j (hj : j < 5), (w1.setCells g1 (cur.length * 5) [.string x.f0, .int .u8 x.f1, .string x.f2, ls, .slice none 0 0]).cell? ⟨g1, cur.length * 5 + j, none⟩ = some (([.string x.f0, .int .u8 x.f1, .string x.f2, ls, .slice none 0 0] : List Value)[j]) := fun j hj =>
    World.cell?_setCells_in g1 [.string x.f0, .int .u8 x.f1, .string x.f2, ls, .slice none 0 0] (cur.length * 5) w1 (fun j hj => by
      have hj' : j < c.length := by rw [hcl]; exact hj
      have := hcc j _ (List.getElem?_eq_getElem hj')
      rw [Int.toNat_natCast] at this
      have e : w1.cell? ⟨g1, cur.length * 5 + j, none⟩ = some c[j] := this
      rw [e]; rfl) j hj
  obtain ⟨W1, hW1⟩ : ∃ W1, W1 = w1.setCells g1 (cur.length * 5) [.string x.f0, .int .u8 x.f1, .string x.f2, ls, .slice none 0 0] := ⟨_, rfl⟩
  rw [← hW1] at hR2 hg2 hWF hcells
  have far1 : ∀ k, k < w.heap.size → k ≠ g1 → w1.heap[k]? = w.heap[k]? → W1.heap[k]? = w.heap[k]? := fun k hk hne he => (hg2.block k (Nat.lt_of_lt_of_le hk hsz) (fun e => hne (Option.some.inj e))).trans he
  have hsz1 : w1.heap.size ≤ W1.heap.size := hg2.size
  let N1 : Nat → Prop := fun k => ((N k ∨ some k = v.ownBlock ∨ w.heap.size ≤ k) ∨ base0 ≤ k ∧ ∃ cells : Array Value, w.heap[k]? = some (.cells cells 9 (0, 0))) ∧ some k ≠ v1.ownBlock
  have hrow1 : RowN W1 base N1 v1 (cur ++ [x]) := by
    rw [hv1]
    obtain ⟨_, inner, ho, hr⟩ := hR2
    exact ⟨inner, ho, hr.imp_ (fun _ _ hp => kK.M_mono (fun k hk => ⟨hk.1, by rw [hv1]; exact hk.2⟩) hp)⟩
  have hbsN : ∀ g ∈ bs, ¬ N1 g := by
    rintro g hgm ⟨h1, _⟩
    obtain ⟨_, cg, hcg⟩ := h.zp.typed g hgm
    rcases h1 with (h1 | h1 | h1) | ⟨_, cells, h1⟩
    · exact (h.ex g hgm).1 h1
    · exact (h.ex g hgm).2 h1.symm
    · have := blk_lt hcg; omega
    · rw [hcg] at h1
      injection h1 with h1
      injection h1 with _ h1
      exact absurd h1 (by decide)
  have hrtN : ¬ N1 rt := by
    rintro ⟨h1, _⟩
    rcases h1 with (h1 | h1 | h1) | ⟨_, cells, h1⟩
    · exact (h.lo rt h1).not hur (by decide) (by decide)
    · obtain ⟨inner, ho, _⟩ := h.cu
      exact own_ne ho hur (by decide) h1
    · have := blk_lt hur; omega
    · rw [hur] at h1
      injection h1 with h1
      injection h1 with _ h1
      exact absurd h1 (by decide)
  have habN : ¬ N1 ab := by
    rcases hab with e | e
    · rw [e]; exact hrtN
    · exact hbsN ab e
  have hltb : ∀ k ∈ bs, k < w.heap.size := fun k hk => by
    obtain ⟨_, c, hc⟩ := h.zp.typed k hk
    exact blk_lt hc
  have hzp1 : Zp W1 base rt N1 path bs (⟨ab, ao, none⟩ :: ads) v := by
    refine (h.zp.move (fun k hk => far1 k (h.lo k hk).1 (hNg k hk) (m1 k hk)) (far1 rt (blk_lt hur) hrtg m3) (fun k hk => far1 k (hltb k hk) (hbsg k hk) (m2 k hk))).mono (fun k hk => ⟨.inl (.inl hk), ?_⟩)
    rw [own1]
    intro e
    exact hNg k hk (Option.some.inj e)
  have hzpF := hzp1.put h.nd hbsN hrtN v1
  have farF : ∀ k, k ≠ ab → WF.heap[k]? = W1.heap[k]? := fun k hk => by rw [hWF]; exact Below.heap_setCell W1 _ _ k hk
  rw [← hWF] at hzpF
  have hrowF : RowN WF base N1 v1 (cur ++ [x]) := hrow1.move (fun k hk => farF k (fun e => by
    subst e
    rw [own1] at hk
    exact habg (Option.some.inj hk).symm)) (fun k hk => farF k (fun e => habN (e ▸ hk)))
  have hrba : rb ≠ ab := by
    intro e
    rcases hab with e2 | e2
    · rw [← e2, ← e] at hur
      rw [h.rd] at hur
      injection hur with hur
      injection hur with _ hur
      exact absurd hur (by decide)
    · obtain ⟨_, cg, hcg⟩ := h.zp.typed ab e2
      rw [← e, h.rd] at hcg
      injection hcg with hcg
      injection hcg with _ hcg
      exact absurd hcg (by decide)
  have hrdF : WF.heap[rb]? = w.heap[rb]? := (farF rb hrba).trans (far1 rb (blk_lt h.rd) hrbg m4)
  have hB : Below base w WF := by
    have hb1 : Below base w W1 := by
      refine ⟨hg2.os.trans hg.os, hg2.tape.trans hg.tape, hg2.output.trans hg.output, Nat.le_trans hsz hsz1, fun k hk => ?_⟩
      have hkg : k ≠ g1 := by
        rintro rfl
        have := own_base hR2.2.choose_spec.1 k rfl
        omega
      refine far1 k (by omega) hkg (hg.block k (by show k < w.heap.size; omega) (fun e => ?_))
      obtain ⟨inner, ho, _⟩ := h.cu
      have := own_base ho k e.symm
      omega
    rw [hWF]
    exact hb1.setCell (p := ⟨ab, ao + 3, none⟩) hap.2.2 _
  have hKP : Keeps [67, 70, 44, 32] w WF := fun b o h1 h3 => by
    have hb := (Array.getElem?_eq_some_iff.1 h3).1
    have own : ∀ e : v.ownBlock = some b, False := fun e => by
      obtain ⟨inner, ho, _⟩ := h.cu
      obtain ⟨c, hc⟩ := own_typed ho b e
      rw [h3] at hc
      injection hc with hc
      exact h1 _ _ hc (by decide)
    have e1 : b ≠ g1 := by
      rintro rfl
      rcases g1_or with e | e
      · exact own e.symm
      · omega
    have e2 : b ≠ ab := by
      rintro rfl
      rcases hab with e | e
      · rw [← e, h3] at hur
        injection hur with hur
        exact h1 _ _ hur (by decide)
      · obtain ⟨_, c, hc⟩ := h.zp.typed b e
        rw [h3] at hc
        injection hc with hc
        exact h1 _ _ hc (by decide)
    exact ((farF b e2).trans (far1 b hb e1 (hg.block b hb (fun e => own e.symm)))).trans h3
  refine ⟨⟨hB, hKP⟩, fun k => N1 k ∧ Typed WF k, ?_, fun key hx hls0 => ?_⟩
  · refine ⟨hrdF.trans h.rd, ?_, hzpF.bound, hrowF.bound, h.nd, fun k hk => ⟨fun hn => hbsN k hk hn.1, ?_⟩, fun k hk hn => hn.1.2 hk.symm, fun k hk => hk.2, h.rbb, h.deep, h.sibs, ?_, h.ind, fun k hk => ?_⟩
    · refine Kd.R_mono (Kd.R_move (Kd.R_bound h.lv) (fun k hk => ?_)) (fun k hk => hk.1)
      obtain ⟨_, _, hlt, q, hq, cells, hc⟩ := hk
      have hq' : q = 67 := by
        rcases List.mem_cons.1 hq with rfl | hq
        · rfl
        · cases hq
      subst hq'
      have k1 : k ≠ ab := by
        rintro rfl
        rcases hab with e2 | e2
        · rw [e2, hur] at hc
          injection hc with hc
          injection hc with _ hc
          exact absurd hc (by decide)
        · obtain ⟨_, cg, hcg⟩ := h.zp.typed k e2
          rw [hcg] at hc
          injection hc with hc
          injection hc with _ hc
          exact absurd hc (by decide)
      obtain ⟨inner, ho, _⟩ := h.cu
      exact (farF k k1).trans (far1 k hlt (g1_ty k _ _ hc (by decide)) (hg.block k hlt (own_ne ho hc (by decide))))
    · intro e
      rw [own1] at e
      exact hbsg k hk (Option.some.inj e).symm
    · simp; omega
    · rcases hk with hk | hk | hk
      · rcases hk.1.1 with (hk | hk | hk) | hk
        · exact h.fr k (.inl hk)
        · exact h.fr k (.inr (.inl hk.symm))
        · omega
        · have := hk.1; omega
      · rw [own1] at hk
        have := Option.some.inj hk
        subst this
        rcases g1_or with e | e
        · exact h.fr _ (.inr (.inl e.symm))
        · omega
      · exact h.fr k (.inr (.inr hk))
  · obtain ⟨_, inner, ho, hrp⟩ := hR2
    rw [← hv1] at ho
    have hl2 : inner.length = (cur.length + 1) * 5 := by
      have := hrp.1
      rw [this]
      simp
      rfl
    have hdrop : inner.drop (cur.length * 5) = [.string x.f0, .int .u8 x.f1, .string x.f2, ls, .slice none 0 0] := by
      apply List.ext_getElem
      · rw [List.length_drop, hl2]
        show _ = 5
        omega
      · intro j h1 h2
        have hj : j < 5 := h2
        have e1 := ho.cells own1 (cur.length * 5 + j) (inner[cur.length * 5 + j]'(by omega)) (List.getElem?_eq_getElem _)
        rw [add_plain] at e1
        have e2 := hcells j hj
        try simp only [Nat.zero_add] at e1
        rw [e1] at e2
        injection e2 with e2
        rw [List.getElem_drop]
        exact e2
    have htk := Kd.reps_take (m := cur.length) hrp (by simp)
    rw [List.take_left' rfl] at htk
    have hsplit : inner = inner.take (cur.length * 5) ++ [.string key, .int .u8 0, .string ⟨#[]⟩, .slice none 0 0, .slice none 0 0] := by
      have := (List.take_append_drop (cur.length * 5) inner).symm
      rw [hdrop, hx, hls0] at this
      exact this
    refine OpenRow.bound (OpenRow.move (w := W1) (N := N1) ⟨g1, c1, inner.take (cur.length * 5), .slice none 0 0, hv1, ?_, Kd.R_nil _ _ _ _ _, ?_⟩ (fun k hk => farF k (fun e => ?_)) (fun k hk => farF k (fun e => habN (e ▸ hk))))
    · rw [← hsplit]
      exact own_len ho (by simp)
    · exact htk.imp_ (fun _ _ hp => kK.M_mono (fun k hk => ⟨hk.1, by rw [hv1]; exact hk.2⟩) hp)
    · subst e
      rw [own1] at hk
      exact habg (Option.some.inj hk).symm
/-- The reader's mark is written. -/
theorem Zs.flag (h : Zs w base fl rt rb N bs ads v vL path cur f) (f' : Bool) {WF : World} (hWF : WF = w.setCell ⟨rb, 1, none⟩ (.bool f')) : Zs WF base fl rt rb N bs ads v vL path cur f' ∧ BK base w WF ∧ ∀ xs key, OpenRow w base N v xs key → OpenRow WF base N v xs key := by
  obtain ⟨gl, cap, a, ads', rfl, _, rfl, _, _, ⟨lc, hlc⟩, _, _⟩ := h.top
  have hk : ∀ k, k < w.heap.size → k ≠ gl → k ≠ rb → WF.heap[k]? = w.heap[k]? := fun k _ _ hne => by rw [hWF]; exact Below.heap_setCell w _ _ k hne
  obtain ⟨f1, f2, f3, f4, f5⟩ := h.far hlc hk (by rw [hWF]; simp [World.setCell])
  have hgl : gl ≠ rb := by
    rintro rfl
    have hr := h.rd
    rw [hlc] at hr
    injection hr with hr
    injection hr with _ hr
    exact absurd hr (by decide)
  refine ⟨⟨?_, ?_, h.zp.move f1 f4 f3, h.cu.move f2 f1, h.nd, h.ex, h.ev, f5, h.rbb, h.deep, h.sibs, h.many, h.ind, h.fr⟩, ?_, fun xs key ho => ho.move f2 f1⟩
  · rw [hWF]; exact blk_set h.rd 1 _
  · refine Kd.R_mono (Kd.R_step (Kd.R_types h.lv h.rd (fun q hq => by
      rcases List.mem_cons.1 hq with rfl | hq
      · decide
      · cases hq)) (fun k ho hlt => by rw [hWF]; exact Below.heap_setCell w _ _ k ho.2)) (fun k hk => hk.1)
  · rw [hWF]; exact ⟨(Below.refl base w).setCell (p := ⟨rb, 1, none⟩) h.rbb _, Keeps.set h.rd (by decide) _⟩
end
theorem gen_exit {K : Act → World → Prop} {Q : Exit → Act → World → Prop} {e : Exit} {A : Act} {X : World} (h : ∀ w9, w9 = X → Exit.then K Q e A w9) : Exit.then K Q e A X := h X rfl
theorem elem_comm (w : World) (g o ab q : Nat) (v c0 c1 c2 c3 c4 : Value) (hne : ab ≠ g) : (w.setCell ⟨ab, q, none⟩ v).setCells g o [c0, c1, c2, c3, c4] = (w.setCells g o [c0, c1, c2, c3, c4]).setCell ⟨ab, q, none⟩ v := by
  simp only [World.setCells]
  rw [setCell_comm w ⟨ab, q, none⟩ _ v c0 hne, setCell_comm _ ⟨ab, q, none⟩ _ v c1 hne, setCell_comm _ ⟨ab, q, none⟩ _ v c2 hne, setCell_comm _ ⟨ab, q, none⟩ _ v c3 hne, setCell_comm _ ⟨ab, q, none⟩ _ v c4 hne]
theorem elem_set (w : World) (g o : Nat) (c0 c1 c2 c3 c4 : Value) : w.setCells g o [c0, c1, c2, c3, c4] = ((((w.setCell ⟨g, o, none⟩ c0).setCell ⟨g, o + 1, none⟩ c1).setCell ⟨g, o + 2, none⟩ c2).setCell ⟨g, o + 3, none⟩ c3).setCell ⟨g, o + 4, none⟩ c4 := rfl
theorem elem_comm' (w : World) (g o ab q : Nat) (v c0 c1 c2 c3 c4 : Value) (hne : ab ≠ g) : (((((w.setCell ⟨ab, q, none⟩ v).setCell ⟨g, o, none⟩ c0).setCell ⟨g, o + 1, none⟩ c1).setCell ⟨g, o + 2, none⟩ c2).setCell ⟨g, o + 3, none⟩ c3).setCell ⟨g, o + 4, none⟩ c4 = (((((w.setCell ⟨g, o, none⟩ c0).setCell ⟨g, o + 1, none⟩ c1).setCell ⟨g, o + 2, none⟩ c2).setCell ⟨g, o + 3, none⟩ c3).setCell ⟨g, o + 4, none⟩ c4).setCell ⟨ab, q, none⟩ v := elem_comm w g o ab q v c0 c1 c2 c3 c4 hne
end Go.Proofs.YtpdnopfjnmjnnaaGreatDoor.Cn
