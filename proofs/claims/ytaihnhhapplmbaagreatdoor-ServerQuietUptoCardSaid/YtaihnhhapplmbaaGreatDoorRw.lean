/- Package http: read: the words of a first line; what read answers. -/
import Derived.Test.YtaihnhhapplmbaaGreatDoorRf
set_option linter.unusedVariables false
set_option linter.unusedSimpArgs false
namespace Go.Proofs.YtaihnhhapplmbaaGreatDoor.Ht
open Go.Sort Go.RowKit Go.Proofs Go.Proofs.YtaihnhhapplmbaaGreatDoorW.PrintWords Go.Proofs.YtaihnhhapplmbaaGreatDoor.Bs Go.Proofs.YtaihnhhapplmbaaGreatDoor.Ir Go.Proofs.YtaihnhhapplmbaaGreatDoor.Gn

def wordsB (x : ByteArray) : List ByteArray := Lib.splitB ⟨#[32]⟩ 0 (min 3 (x.size + 1) - 1) x
theorem splitB_le (sep : ByteArray) : ∀ (k : Nat) (x : ByteArray), (Lib.splitB sep 0 k x).length ≤ k + 1 ∧ ∀ y ∈ Lib.splitB sep 0 k x, y.size ≤ x.size
  | 0, x => by simp [Lib.splitB]
  | k + 1, x => by
    unfold Lib.splitB
    split
    · simp
    · have h := splitB_le sep k (x.extract ((Lib.indexB x sep).toNat + sep.size) x.size)
      refine ⟨by simpa using h.1, ?_⟩
      intro y hy
      rcases List.mem_cons.1 hy with rfl | hy
      · simp; omega
      · have := h.2 y hy
        simp at this
        omega
theorem wordsB_size (x : ByteArray) : ∀ y ∈ wordsB x, y.size ≤ x.size := (splitB_le _ _ x).2
theorem words_any (x : ByteArray) (w : World) (G : Gnd w) (hx : x.size ≤ 1073741824) :
    Calls Tryz.prog 62 #[.string x, .string ⟨#[32]⟩, .int .i64 3] w fun e w' => ∃ c, e = .returned (.slice (some ⟨w.heap.size, 0, none⟩) (wordsB x).length c) ∧ (∀ j y, (wordsB x)[j]? = some y → w'.cell? ⟨w.heap.size, j, none⟩ = some (.string y)) ∧ Below w.heap.size w w' := by
  obtain ⟨m, hm⟩ := G.mx
  refine (Tryz.strings_SplitN x ⟨#[32]⟩ 3 m w (by omega) hm (by decide) (by decide) (by decide)).mono ?_
  rintro e w' ⟨rfl, rfl⟩
  refine ⟨_, rfl, fun j y hj => cell_new _ _ _ j _ ?_, below_alloc (Below.refl _ _) _⟩
  have hlt : j < (wordsB x).length := (List.getElem?_eq_some_iff.1 hj).1
  show (Lib.cellsOf (wordsB x) _)[j]? = _
  simp only [Lib.cellsOf, List.getElem?_toArray]
  rw [List.getElem?_append_left (by simpa using hlt), List.getElem?_map, hj]
  rfl

/-- What the function on the first line's words does. I: the worlds that it may meet; Fin: what it has written. -/
def FirstOk {γ : Type} (g : Nat) (lb : Array Value) (rb : Nat) (I : World → Prop) (Fin : γ → World → Prop) (f : ByteArray → ByteArray → ByteArray → Except Int γ) : Prop :=
  ∀ (W : World) (a c : Nat) (x0 x1 x2 : ByteArray), W.cell? ⟨a, 0, none⟩ = some (.string x0) → W.cell? ⟨a, 1, none⟩ = some (.string x1) → W.cell? ⟨a, 2, none⟩ = some (.string x2) → x0.size ≤ 1073741824 → x1.size ≤ 1073741824 → x2.size ≤ 1073741824 → I W → Gnd W →
    Calls Tryz.prog g (#[.slice (some ⟨a, 0, none⟩) 3 c] ++ lb) W fun e w' => W.grownBy w' (some rb) ∧ match f x0 x1 x2 with
      | .ok z => e = .returned (.tuple #[]) ∧ Fin z w'
      | .error y => e = pv y
structure ReadOk (γ : Type) where
  heads : List Head
  body : ByteArray
  n : Nat
  got : γ
def readFin {γ : Type} (s : ByteArray) (most : Int) (always : Bool) (l : List Head) (q2 : Nat) (z : γ) : Except Int (ReadOk γ) :=
  match bodyP s q2 l most always with
  | .error y => .error y
  | .ok (b, q3) => .ok ⟨l.filter (fun h => !framingB h.name), b, q3, z⟩
def readEnd {γ : Type} (s : ByteArray) (most : Int) (always : Bool) (q : Nat) (z : γ) : Except Int (ReadOk γ) :=
  match headsP s q with
  | .error y => .error y
  | .ok (l, q2) => readFin s most always l q2 z
def readGo {γ : Type} (s : ByteArray) (most : Int) (always : Bool) (f : ByteArray → ByteArray → ByteArray → Except Int γ) (ws : List ByteArray) (q : Nat) : Except Int (ReadOk γ) :=
  match ws with
  | [x0, x1, x2] =>
    match f x0 x1 x2 with
    | .error y => .error y
    | .ok z => readEnd s most always q z
  | _ => .error 13
def readP {γ : Type} (s : ByteArray) (most : Int) (always : Bool) (f : ByteArray → ByteArray → ByteArray → Except Int γ) : Except Int (ReadOk γ) :=
  if 0 ≤ most ∧ most ≤ 65536 then
    match lineP s 0 with
    | .error y => .error y
    | .ok (x, q) => readGo s most always f (wordsB x) q
  else .error 2
theorem addr_block (ad : Addr) (k : Nat) : (ad.add k).block = ad.block := by unfold Addr.add; split <;> rfl
/-- A row of heads lies in no block of one cell. -/
theorem kC_far {w : World} {A : Option Addr} {n : Nat} {l : List Head} (h : Kd.C kH w A n l) {b : Nat} {v : Value} {t : TypeId} (hb : w.heap[b]? = some (.cells #[v] t (0, 0))) (u : Value) : Kd.C kH (w.setCell ⟨b, 0, none⟩ u) A n l := by
  obtain ⟨e1, h2, h3⟩ := h
  refine ⟨e1, h2, fun hp => ?_⟩
  obtain ⟨ad, ha, hc⟩ := h3 hp
  refine ⟨ad, ha, fun j p hj => ?_⟩
  obtain ⟨cc, hl, hk, hcell⟩ := hc j p hj
  have hne : (ad.add (j * kH.sz)).block ≠ b := by
    intro hbb
    have hlt : j < n := by rw [← e1]; exact (List.getElem?_eq_some_iff.1 hj).1
    obtain ⟨ad', e, g0, g1⟩ := at_H (show Kd.C kH w A n l from ⟨e1, h2, h3⟩) j hlt
    rw [ha] at e
    obtain rfl := Option.some.inj e
    have hbb' : (ad.add (j * 2)).block = b := hbb
    rw [hbb'] at g1
    rw [blk_cell hb] at g1
    have := (Array.getElem?_eq_some_iff.1 g1).1
    simp at this
  refine ⟨cc, hl, by rw [kH_open hk]; exact kH_mk _ p, fun q u' hu => ?_⟩
  rw [World.cell?_setCell_other]
  · exact hcell q u' hu
  · intro e
    refine hne ?_
    rw [addr_block]
    have := congrArg Addr.block e
    rw [addr_block] at this
    exact this.symm
theorem ResAt.set4 {g : Nat} {W : World} {v0 v1 v2 v3 : Value} (h : ResAt g W v0 v1 v2 v3) (u0 u1 u2 u3 : Value) :
    ResAt g ((((W.setCell ⟨g, 0, none⟩ u0).setCell ⟨g + 1, 0, none⟩ u1).setCell ⟨g + 1 + 1, 0, none⟩ u2).setCell ⟨g + 1 + 1 + 1, 0, none⟩ u3) u0 u1 u2 u3 :=
  ⟨blk_far (blk_far (blk_far (blk_set h.r0 0 _) (by simp <;> omega) _) (by simp <;> omega) _) (by simp <;> omega) _, blk_far (blk_far (blk_set (blk_far h.r1 (by simp <;> omega) _) 0 _) (by simp <;> omega) _) (by simp <;> omega) _, blk_far (blk_set (blk_far (blk_far h.r2 (by simp <;> omega) _) (by simp <;> omega) _) 0 _) (by simp <;> omega) _, blk_set (blk_far (blk_far (blk_far h.r3 (by simp <;> omega) _) (by simp <;> omega) _) (by simp <;> omega) _) 0 _⟩
theorem kC_set4 {g : Nat} {W : World} {v0 v1 v2 v3 : Value} (h : ResAt g W v0 v1 v2 v3) {A : Option Addr} {n : Nat} {l : List Head} (hC : Kd.C kH W A n l) (u0 u1 u2 u3 : Value) :
    Kd.C kH ((((W.setCell ⟨g, 0, none⟩ u0).setCell ⟨g + 1, 0, none⟩ u1).setCell ⟨g + 1 + 1, 0, none⟩ u2).setCell ⟨g + 1 + 1 + 1, 0, none⟩ u3) A n l :=
  kC_far (kC_far (kC_far (kC_far hC h.r0 _) (blk_far h.r1 (by simp <;> omega) _) _) (blk_far (blk_far h.r2 (by simp <;> omega) _) (by simp <;> omega) _) _) (blk_far (blk_far (blk_far h.r3 (by simp <;> omega) _) (by simp <;> omega) _) (by simp <;> omega) _) _
theorem grown_set4 {g b : Nat} {w W : World} (h : w.grownBy W (some b)) (hg : w.heap.size ≤ g) (u0 u1 u2 u3 : Value) :
    w.grownBy ((((W.setCell ⟨g, 0, none⟩ u0).setCell ⟨g + 1, 0, none⟩ u1).setCell ⟨g + 1 + 1, 0, none⟩ u2).setCell ⟨g + 1 + 1 + 1, 0, none⟩ u3) (some b) := by
  refine grown_far (grown_far (grown_far (grown_far h (grown_set (b := g) (grown_refl _ _)) ?_) (grown_set (b := g + 1) (grown_refl _ _)) ?_) (grown_set (b := g + 1 + 1) (grown_refl _ _)) ?_) (grown_set (b := g + 1 + 1 + 1) (grown_refl _ _)) ?_
  all_goals (intro k hk; have := Option.some.inj hk; omega)
/-- THE END OF A RETURN: through the door. -/
theorem read_ends (g : Nat) (W : World) (v0 v1 v2 v3 : Value) (tmps : Array Value) (hr : ResAt g W v0 v1 v2 v3) (Q : Ending → World → Prop)
    (ht : tmps[8]? = some (.pointer (some ⟨g, 0, none⟩)) ∧ tmps[9]? = some (.pointer (some ⟨g + 1, 0, none⟩)) ∧ tmps[10]? = some (.pointer (some ⟨g + 1 + 1, 0, none⟩)) ∧ tmps[11]? = some (.pointer (some ⟨g + 1 + 1 + 1, 0, none⟩)))
    (hQ : Q (.returned (.tuple #[v0, v1, v2, v3])) W) :
    bodyPostD Tryz.prog Tryz.f30 Q .ret { tmps := tmps, defers := [{ target := Target.fn (.func 61) #[.pointer (some ⟨g, 0, none⟩), .pointer (some ⟨g + 1, 0, none⟩), .pointer (some ⟨g + 1 + 1, 0, none⟩), .pointer (some ⟨g + 1 + 1 + 1, 0, none⟩)], args := #[] }] } W := by
  refine leaves_cons (f := 61) (args := #[.pointer (some ⟨g, 0, none⟩), .pointer (some ⟨g + 1, 0, none⟩), .pointer (some ⟨g + 1 + 1, 0, none⟩), .pointer (some ⟨g + 1 + 1 + 1, 0, none⟩)]) (by simp) (by simp [go_sem]) ?_
  refine (catch_idle _ _ _ _ W).mono ?_
  rintro e u' w'' ⟨rfl, rfl, rfl⟩
  obtain ⟨t8, t9, t10, t11⟩ := ht
  have c0 := blk_cell hr.r0 0
  have c1 := blk_cell hr.r1 0
  have c2 := blk_cell hr.r2 0
  have c3 := blk_cell hr.r3 0
  simp at c0 c1 c2 c3
  simp [Leaves, settle, results, Tryz.results30, go_sem, t8, t9, t10, t11, c0, c1, c2, c3]
  exact hQ
theorem headsGo_ok (s : ByteArray) (hs : s.size ≤ 1073741824) : ∀ (F q cnt : Nat) (out : List Head) (x : ByteArray) (l : List Head) (q' : Nat), headsGo s F q cnt out x = .ok (l, q') → q ≤ s.size → x.size ≤ s.size → out.length ≤ q → (∀ h ∈ out, HOk h) →
    (∀ h ∈ l, HOk h) ∧ l.length ≤ s.size ∧ q ≤ q' ∧ q' ≤ s.size := by
  intro F
  induction F with
  | zero => intro q cnt out x l q' h; simp [headsGo] at h
  | succ F ih =>
    intro q cnt out x l q' h hq hx ho hok
    rw [headsGo] at h
    by_cases h0 : x.size = 0
    · rw [if_pos h0] at h
      have h1 := Prod.mk.inj (Except.ok.inj h)
      obtain ⟨rfl, rfl⟩ := h1
      exact ⟨hok, by omega, by omega, hq⟩
    rw [if_neg h0] at h
    by_cases h1 : headOk x = true
    · rw [if_pos h1] at h
      by_cases h2 : more cnt x ≤ 64
      · rw [if_pos h2] at h
        cases hl : lineP s q with
        | error y => rw [hl] at h; cases h
        | ok z =>
          obtain ⟨x', q1⟩ := z
          rw [hl] at h
          obtain ⟨g1, g2, g3⟩ := lineP_ok hq hl
          have := ih q1 (more cnt x) (out ++ [headOf x]) x' l q' h g2 g3 (by simp; omega) (by
            intro y hy
            rcases List.mem_append.1 hy with hy | hy
            · exact hok y hy
            · rw [List.mem_singleton.1 hy]
              exact head_ok x (by omega))
          exact ⟨this.1, this.2.1, by omega, this.2.2.2⟩
      · rw [if_neg h2] at h; cases h
    · rw [if_neg h1] at h; cases h
theorem headsP_ok {s : ByteArray} (hs : s.size ≤ 1073741824) {p : Nat} (hp : p ≤ s.size) {l : List Head} {q' : Nat} (h : headsP s p = .ok (l, q')) : (∀ h ∈ l, HOk h) ∧ l.length ≤ s.size ∧ p < q' ∧ q' ≤ s.size := by
  unfold headsP at h
  cases hl : lineP s p with
  | error y => rw [hl] at h; cases h
  | ok z =>
    obtain ⟨x', q1⟩ := z
    rw [hl] at h
    obtain ⟨g1, g2, g3⟩ := lineP_ok hp hl
    have := headsGo_ok s hs _ q1 0 [] x' l q' h g2 g3 (by simp) (by simp)
    exact ⟨this.1, this.2.1, by omega, this.2.2.2⟩
end Go.Proofs.YtaihnhhapplmbaaGreatDoor.Ht
