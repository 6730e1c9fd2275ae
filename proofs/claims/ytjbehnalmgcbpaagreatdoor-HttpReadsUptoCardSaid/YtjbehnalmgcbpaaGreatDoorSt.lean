/- Plain laws: what is read of a text is read of a longer one. -/
import Derived.Test.YtjbehnalmgcbpaaGreatDoorUp
set_option linter.unusedVariables false
set_option linter.unusedSimpArgs false
namespace Go.Proofs.YtjbehnalmgcbpaaGreatDoor.Ht
open Go.Proofs

def Ext {α : Type} (r r' : Except Int α) : Prop := (∀ z, r = .ok z → r' = .ok z) ∧ (∀ y, r = .error y → y ≠ 14 → r' = .error y)
theorem Ext.refl {α : Type} (r : Except Int α) : Ext r r := ⟨fun _ h => h, fun _ h _ => h⟩
theorem Ext.bind {α β : Type} {r r' : Except Int (α × Nat)} {f f' : α → Nat → Except Int (β × Nat)} (h : Ext r r') (hf : ∀ x q, r = .ok (x, q) → Ext (f x q) (f' x q)) : Ext (bindE r f) (bindE r' f') := by
  cases hr : r with
  | error y =>
    refine ⟨fun z hz => (by cases hz), fun y' hy hne => ?_⟩
    cases hy
    rw [h.2 y hr hne]
    rfl
  | ok z =>
    obtain ⟨x, q⟩ := z
    rw [h.1 _ hr]
    exact hf x q hr
theorem rest_l (s : ByteArray) (p : Nat) : (rest s p).data.toList = s.data.toList.drop p := Lib.extract_to_end s p
theorem rest_ext (s b : ByteArray) (p : Nat) (hp : p ≤ s.size) : (rest (s ++ b) p).data.toList = (rest s p).data.toList ++ b.data.toList := by
  rw [rest_l, rest_l, ByteArray.data_append, Array.toList_append, List.drop_append_of_le_length]
  exact hp
theorem plus_ext {α : Type} {r r' : Except Int (α × Nat)} (h : Ext r r') (p : Nat) : Ext (plus p r) (plus p r') := by
  cases hr : r with
  | error y =>
    refine ⟨fun z hz => (by cases hz), fun y' hy hne => ?_⟩
    cases hy
    rw [h.2 y hr hne]
    rfl
  | ok z =>
    rw [h.1 _ hr]
    exact Ext.refl _
theorem line_ext (s b : ByteArray) (p : Nat) (hp : p ≤ s.size) : Ext (lineP s p) (lineP (s ++ b) p) := by
  unfold lineP
  refine plus_ext ?_ p
  rw [lineB_eq, lineB_eq, rest_ext s b p hp]
  exact lineX_ext
theorem take_ext (s b : ByteArray) (p : Nat) (n : Int) (hp : p ≤ s.size) : Ext (takeP s p n) (takeP (s ++ b) p n) := by
  unfold takeP
  refine plus_ext ?_ p
  unfold takeB
  have hz : (rest s p).size ≤ (rest (s ++ b) p).size := by rw [rest_size, rest_size, ByteArray.size_append]; omega
  by_cases hn : n ≤ (rest s p).size
  · rw [if_pos hn, if_pos (by omega)]
    have : (rest s p).extract 0 n.toNat = (rest (s ++ b) p).extract 0 n.toNat := by
      apply ByteArray.ext
      apply Array.ext'
      rw [extract_l, extract_l, rest_ext s b p hp, List.take_append_of_le_length]
      show n.toNat ≤ (rest s p).size
      omega
    rw [this]
    exact Ext.refl _
  · rw [if_neg hn]
    exact ⟨(fun z hz => by cases hz), (fun y hy hne => by cases hy; exact absurd rfl hne)⟩
theorem headsGo_ext (s b : ByteArray) : ∀ (F F' q cnt : Nat) (out : List Head) (x : ByteArray), F ≤ F' → q ≤ s.size → s.size < F + q → Ext (headsGo s F q cnt out x) (headsGo (s ++ b) F' q cnt out x) := by
  intro F
  induction F with
  | zero => intro F' q cnt out x h1 h2 h3; omega
  | succ F ih =>
    intro F' q cnt out x h1 h2 h3
    obtain ⟨F', rfl⟩ : ∃ m, F' = m + 1 := ⟨F' - 1, by omega⟩
    rw [headsGo, headsGo]
    split
    · exact Ext.refl _
    split
    · split
      · refine (line_ext s b q h2).bind fun x' q' h => ?_
        have := lineP_ok h2 h
        exact ih _ _ _ _ _ (by omega) this.2.1 (by omega)
      · exact Ext.refl _
    · exact Ext.refl _
theorem heads_ext (s b : ByteArray) (p : Nat) (hp : p ≤ s.size) : Ext (headsP s p) (headsP (s ++ b) p) := by
  unfold headsP
  refine (line_ext s b p hp).bind fun x q h => ?_
  have := lineP_ok hp h
  exact headsGo_ext s b _ _ _ _ _ _ (by rw [ByteArray.size_append]; omega) this.2.1 (by omega)
theorem crlf_ext (s b : ByteArray) (q : Nat) (hq : q ≤ s.size) : Ext (crlfP s q) (crlfP (s ++ b) q) := by
  unfold crlfP
  refine (take_ext s b q 1 hq).bind fun a q1 h => ?_
  have := takeP_ok hq h (by omega)
  split
  · exact (take_ext s b q1 1 this.2.1).bind fun b q2 _ => Ext.refl _
  · exact Ext.refl _
theorem chunksGo_ext (s b : ByteArray) (most : Int) (hs : s.size ≤ 1073741824) : ∀ (F F' p : Nat) (acc : List UInt8), F ≤ F' → p ≤ s.size → s.size < F + p → Ext (chunksGo s most F p acc) (chunksGo (s ++ b) most F' p acc) := by
  intro F
  induction F with
  | zero => intro F' p acc h0 h1 h2; omega
  | succ F ih =>
    intro F' p acc h0 h1 h2
    obtain ⟨F', rfl⟩ : ∃ m, F' = m + 1 := ⟨F' - 1, by omega⟩
    rw [chunksGo, chunksGo]
    refine (line_ext s b p h1).bind fun x q h => ?_
    have g := lineP_ok h1 h
    split
    · rename_i hc
      have hr := hexN_range _ hc
      split
      · split
        · exact (heads_ext s b q g.2.1).bind fun _ _ _ => Ext.refl _
        · refine (take_ext s b q _ g.2.1).bind fun t q1 ht => ?_
          have g1 := takeP_ok g.2.1 ht hr.2.2.2.2.1
          refine (crlf_ext s b q1 g1.2.1).bind fun c q2 hc2 => ?_
          have g2 := crlfP_ok g1.2.1 hc2
          exact ih _ _ _ (by omega) g2.2 (by omega)
      · exact Ext.refl _
    · exact Ext.refl _
theorem body_ext (s b : ByteArray) (p : Nat) (l : List Head) (most : Int) (always : Bool) (hs : s.size ≤ 1073741824) (hp : p ≤ s.size) : Ext (bodyP s p l most always) (bodyP (s ++ b) p l most always) := by
  unfold bodyP
  split
  · split
    · exact chunksGo_ext s b most hs _ _ p [] (by rw [ByteArray.size_append]; omega) hp (by omega)
    · exact Ext.refl _
  · split
    · exact Ext.refl _
    · split
      · split
        · split
          · exact take_ext s b _ _ hp
          · exact Ext.refl _
        · exact Ext.refl _
      · exact Ext.refl _
theorem fin_ext {γ : Type} (s b : ByteArray) (most : Int) (always : Bool) (l : List Head) (q2 : Nat) (z : γ) (hs : s.size ≤ 1073741824) (hq : q2 ≤ s.size) : Ext (readFin s most always l q2 z) (readFin (s ++ b) most always l q2 z) := by
  unfold readFin
  have h := body_ext s b q2 l most always hs hq
  cases hb : bodyP s q2 l most always with
  | error y =>
    refine ⟨fun z hz => (by cases hz), fun y' hy hne => ?_⟩
    cases hy
    rw [h.2 y hb hne]
  | ok z => rw [h.1 _ hb]; exact Ext.refl _
theorem end_ext {γ : Type} (s b : ByteArray) (most : Int) (always : Bool) (q : Nat) (z : γ) (hs : s.size ≤ 1073741824) (hq : q ≤ s.size) : Ext (readEnd s most always q z) (readEnd (s ++ b) most always q z) := by
  unfold readEnd
  have h := heads_ext s b q hq
  cases hb : headsP s q with
  | error y =>
    refine ⟨fun z hz => (by cases hz), fun y' hy hne => ?_⟩
    cases hy
    rw [h.2 y hb hne]
  | ok z =>
    obtain ⟨l, q2⟩ := z
    rw [h.1 _ hb]
    exact fin_ext s b most always l q2 _ hs (headsP_ok hs hq hb).2.2.2
theorem read_ext {γ : Type} (s b : ByteArray) (most : Int) (always : Bool) (f : ByteArray → ByteArray → ByteArray → Except Int γ) (hs : s.size ≤ 1073741824) : Ext (readP s most always f) (readP (s ++ b) most always f) := by
  unfold readP
  split
  · have h := line_ext s b 0 (Nat.zero_le _)
    cases hl : lineP s 0 with
    | error y =>
      refine ⟨fun z hz => (by cases hz), fun y' hy hne => ?_⟩
      cases hy
      rw [h.2 y hl hne]
    | ok z =>
      obtain ⟨x, q⟩ := z
      rw [h.1 _ hl]
      have g := lineP_ok (Nat.zero_le _) hl
      dsimp only
      unfold readGo
      split
      · split
        · exact Ext.refl _
        · exact end_ext s b most always q _ hs g.2.1
      · exact Ext.refl _
  · exact Ext.refl _
/-! What is read lies in the text. -/
theorem bindE_ok {α β : Type} {r : Except Int (α × Nat)} {f : α → Nat → Except Int (β × Nat)} {z : β × Nat} (h : bindE r f = .ok z) : ∃ x q, r = .ok (x, q) ∧ f x q = .ok z := by
  cases r with
  | error y => cases h
  | ok z' => obtain ⟨x, q⟩ := z'; exact ⟨x, q, rfl, h⟩
theorem chunksGo_ok (s : ByteArray) (most : Int) (hs : s.size ≤ 1073741824) : ∀ (F p : Nat) (acc : List UInt8) (x : ByteArray) (q' : Nat), p ≤ s.size → chunksGo s most F p acc = .ok (x, q') → p ≤ q' ∧ q' ≤ s.size := by
  intro F
  induction F with
  | zero => intro p acc x q' h1 h2; simp [chunksGo] at h2
  | succ F ih =>
    intro p acc x q' h1 h2
    rw [chunksGo] at h2
    obtain ⟨y, q, h3, h4⟩ := bindE_ok h2
    have g := lineP_ok h1 h3
    split at h4
    · rename_i hc
      have hr := hexN_range _ hc
      split at h4
      · split at h4
        · obtain ⟨l, q2, h5, h6⟩ := bindE_ok h4
          have := headsP_ok hs g.2.1 h5
          have h7 := Prod.mk.inj (Except.ok.inj h6)
          omega
        · obtain ⟨t, q1, h5, h6⟩ := bindE_ok h4
          have g1 := takeP_ok g.2.1 h5 hr.2.2.2.2.1
          obtain ⟨c, q2, h7, h8⟩ := bindE_ok h6
          have g2 := crlfP_ok g1.2.1 h7
          have := ih q2 _ x q' g2.2 h8
          omega
      · cases h4
    · cases h4
theorem bodyP_ok {s : ByteArray} {p : Nat} {l : List Head} {most : Int} {always : Bool} (hs : s.size ≤ 1073741824) (hp : p ≤ s.size) {x : ByteArray} {q : Nat} (h : bodyP s p l most always = .ok (x, q)) : p ≤ q ∧ q ≤ s.size := by
  unfold bodyP at h
  split at h
  · split at h
    · exact chunksGo_ok s most hs _ p [] x q hp h
    · cases h
  · split at h
    · have := Prod.mk.inj (Except.ok.inj h)
      omega
    · split at h
      · split at h
        · split at h
          · have := takeP_ok hp h (Int.natCast_nonneg _)
            omega
          · cases h
        · cases h
      · cases h
theorem readP_ok {γ : Type} {s : ByteArray} {most : Int} {always : Bool} {f : ByteArray → ByteArray → ByteArray → Except Int γ} (hs : s.size ≤ 1073741824) {r : ReadOk γ} (h : readP s most always f = .ok r) :
    r.n ≤ s.size ∧ (∀ h ∈ r.heads, HOk h) ∧ r.heads.length ≤ s.size := by
  unfold readP at h
  split at h
  · cases hl : lineP s 0 with
    | error y => rw [hl] at h; cases h
    | ok z =>
      obtain ⟨x, q⟩ := z
      rw [hl] at h
      have g := lineP_ok (Nat.zero_le _) hl
      dsimp only at h
      unfold readGo at h
      split at h
      · split at h
        · cases h
        · unfold readEnd at h
          cases hh : headsP s q with
          | error y => rw [hh] at h; cases h
          | ok z =>
            obtain ⟨l, q2⟩ := z
            rw [hh] at h
            have g2 := headsP_ok hs g.2.1 hh
            dsimp only at h
            unfold readFin at h
            cases hb : bodyP s q2 l most always with
            | error y => rw [hb] at h; cases h
            | ok z =>
              obtain ⟨b, q3⟩ := z
              rw [hb] at h
              have g3 := bodyP_ok hs g2.2.2.2 hb
              have h2 := Except.ok.inj h
              subst h2
              refine ⟨g3.2, fun y hy => g2.1 y (List.mem_filter.1 hy).1, ?_⟩
              have := List.length_filter_le (fun h => !framingB h.name) l
              dsimp only
              omega
      · cases h
  · cases h
/-- Each shorter beginning of what is read whole: wait. -/
theorem read_wait {γ : Type} {s : ByteArray} {most : Int} {always : Bool} {f : ByteArray → ByteArray → ByteArray → Except Int γ} (hs : s.size ≤ 1073741824) {r : ReadOk γ} (h : readP s most always f = .ok r) (at_ : Nat) (ha : at_ < r.n) :
    readP (s.extract 0 at_) most always f = .error 14 := by
  have hn := (readP_ok hs h).1
  have e : s.extract 0 at_ ++ s.extract at_ s.size = s := by
    apply ByteArray.ext
    apply Array.ext'
    rw [ByteArray.data_append, Array.toList_append, extract_l, Lib.extract_to_end, List.take_append_drop]
  have hz : (s.extract 0 at_).size = at_ := by rw [ByteArray.size_extract]; omega
  have hx := read_ext (s.extract 0 at_) (s.extract at_ s.size) most always f (by omega)
  rw [e] at hx
  cases hr : readP (s.extract 0 at_) most always f with
  | ok r' =>
    have h2 := hx.1 r' hr
    rw [h] at h2
    cases h2
    have := (readP_ok (by omega) hr).1
    omega
  | error y =>
    by_cases hy : y = 14
    · rw [hy]
    · have := hx.2 y hr hy
      rw [h] at this
      cases this
end Go.Proofs.YtjbehnalmgcbpaaGreatDoor.Ht
