/- Package conf: numbers with units; Package conf: a number of one of some units. -/
import Derived.Test.YtpdnopfjnmjnnaaGreatDoorNm
import Derived.Maps.Own
set_option linter.unusedVariables false
set_option linter.unusedSimpArgs false
namespace Go.Proofs.YtpdnopfjnmjnnaaGreatDoor.Cn
section
open Go.Sort Go.RowKit Go.Proofs Go.Proofs.YtpdnopfjnmjnnaaGreatDoorW.PrintWords Go.Proofs.YtpdnopfjnmjnnaaGreatDoor.Bs Go.Proofs.YtpdnopfjnmjnnaaGreatDoor.Ir Go.Proofs.YtpdnopfjnmjnnaaGreatDoor.Cz

def noDig (r : Nat) : Bool := decide (r < 48) || decide (57 < r)
theorem unit1_any (r : Nat) (w : World) (hr : r ≤ 1114111) : Calls Tryz.prog 34 #[.int .i32 (r : Int)] w fun e w' => e = .returned (.bool (noDig r)) ∧ Below w.heap.size w w' := by
  unfold noDig
  by_cases h1 : r < 48
  all_goals by_cases h2 : 57 < r
  all_goals first
    | (exfalso; omega; done)
    | (go_enter Tryz.func34, Tryz.ntmps34
       go_wp2_with fail
       go_ret
       exact ⟨by simp [h1, h2] <;> omega, Below.refl _ _⟩)
end
section
open Go.Sort Go.RowKit Go.Proofs Go.Proofs.YtpdnopfjnmjnnaaGreatDoorW.PrintWords Go.Proofs.YtpdnopfjnmjnnaaGreatDoor.Bs Go.Proofs.YtpdnopfjnmjnnaaGreatDoor.Ir Go.Proofs.YtpdnopfjnmjnnaaGreatDoor.Cz

def isDig (b : UInt8) : Bool := decide (48 ≤ b.toNat) && decide (b.toNat ≤ 57)
def digS (l : List UInt8) : List UInt8 := l.takeWhile isDig
def restS (l : List UInt8) : List UInt8 := l.dropWhile isDig
def numOf (a : Nat) : List UInt8 → Nat
  | [] => a
  | c :: r => numOf (a * 10 + (c.toNat - 48)) r
theorem noDig_wide (r : Nat) (h : 128 ≤ r) : noDig r = true := by unfold noDig; simp; omega
theorem noDig_eq (b : UInt8) : noDig b.toNat = !isDig b := by
  unfold noDig isDig
  by_cases h1 : b.toNat < 48 <;> by_cases h2 : 57 < b.toNat <;> simp [h1, h2] <;> omega
theorem dig_low (b : UInt8) (h : isDig b = true) : b.toNat < 128 := by
  unfold isDig at h
  simp at h
  omega
theorem idx_dig (s : ByteArray) (k : Nat) (hk : ∀ i (h : i < s.data.toList.length), i < k → isDig s.data.toList[i] = true) (hlt : k < s.data.toList.length) (hn : isDig s.data.toList[k] = false) :
    ∀ f pos, pos ≤ k → s.size - pos ≤ f → Lib.idxFuncFrom noDig true s f pos = (k : Int)
  | 0, pos, h, hf => by
    have : s.data.toList.length = s.size := rfl
    omega
  | f + 1, pos, h, hf => by
    have hsz : s.data.toList.length = s.size := rfl
    have hps : pos < s.size := by omega
    unfold Lib.idxFuncFrom
    rw [if_pos hps]
    by_cases e : pos = k
    · subst e
      rw [if_pos]
      by_cases ha : (s.data.toList[pos]'(by omega)).toNat < 128
      · rw [Pl.decode_ascii' s pos hps ha]
        show noDig _ = true
        rw [noDig_eq, hn]
        rfl
      · exact noDig_wide _ (Pl.decode_wide s pos hps (by omega)).1
    · have hd := hk pos (by omega) (by omega)
      have ha : (s.data.toList[pos]'(by omega)).toNat < 128 := dig_low _ hd
      rw [Pl.decode_ascii' s pos hps ha]
      have hnd : noDig (s.data.toList[pos]'(by omega)).toNat = false := by rw [noDig_eq, hd]; rfl
      rw [if_neg (by rw [hnd]; decide)]
      exact idx_dig s k hk hlt hn f (pos + 1) (by omega) (by omega)
theorem takeWhile_get (p : UInt8 → Bool) : ∀ (l : List UInt8) (t : List UInt8) (i : Nat) (h : i < (l ++ t).length), i < (l.takeWhile p).length → p (l ++ t)[i] = true
  | [], t, i, h, hi => by simp at hi
  | c :: r, t, i, h, hi => by
    rw [List.takeWhile_cons] at hi
    by_cases hc : p c = true
    · rw [if_pos hc] at hi
      match i with
      | 0 => exact hc
      | i + 1 => exact takeWhile_get p r t i (by simpa using h) (by simpa using hi)
    · rw [if_neg hc] at hi
      simp at hi
theorem takeWhile_end (p : UInt8 → Bool) (x : UInt8) (hx : p x = false) : ∀ (l : List UInt8) (h : (l.takeWhile p).length < (l ++ [x]).length), p (l ++ [x])[(l.takeWhile p).length] = false
  | [], h => hx
  | c :: r, h => by
    by_cases hc : p c = true
    · have e : (c :: r).takeWhile p = c :: r.takeWhile p := by rw [List.takeWhile_cons, if_pos hc]
      simp only [e, List.length_cons, List.cons_append, List.getElem_cons_succ]
      exact takeWhile_end p x hx r (by
        rw [e] at h
        simpa using h)
    · have e : (c :: r).takeWhile p = [] := by rw [List.takeWhile_cons, if_neg hc]
      simp only [e, List.length_nil, List.cons_append, List.getElem_cons_zero]
      simpa using hc
theorem idx_x (s t : ByteArray) (ht : t.data.toList = s.data.toList ++ [120]) : Lib.idxFunc noDig true t = ((digS s.data.toList).length : Int) := by
  have hle : (digS s.data.toList).length ≤ s.data.toList.length := (List.takeWhile_prefix isDig).length_le
  unfold Lib.idxFunc
  refine idx_dig t _ (fun i h hi => ?_) (by rw [ht]; simp; unfold digS at hle; simpa [digS] using Nat.lt_succ_of_le hle) ?_ t.size 0 (by omega) (by omega)
  · simp only [ht] at h ⊢
    exact takeWhile_get isDig _ _ i h hi
  · simp only [ht]
    exact takeWhile_end isDig 120 (by decide) _ _
theorem dig_split (l : List UInt8) : l.take (digS l).length = digS l ∧ l.drop (digS l).length = restS l := by
  have h := List.takeWhile_append_dropWhile (p := isDig) (l := l)
  have e1 := List.take_left' (l₁ := digS l) (l₂ := restS l) rfl
  have e2 := List.drop_left' (l₁ := digS l) (l₂ := restS l) rfl
  have h' : digS l ++ restS l = l := h
  rw [h'] at e1 e2
  exact ⟨e1, e2⟩
theorem parse_digits (M : Nat) : ∀ (l : List UInt8) (a : Nat), (∀ b ∈ l, isDig b = true) → Lib.parseUintM M a l = .ok (numOf a l) ∨ Lib.parseUintM M a l = .range
  | [], a, _ => .inl rfl
  | c :: r, a, h => by
    have hc := h c List.mem_cons_self
    have hc' : 48 ≤ c.toNat ∧ c.toNat ≤ 57 := by
      unfold isDig at hc
      simpa using hc
    unfold Lib.parseUintM numOf
    rw [if_pos hc']
    split
    · exact .inr rfl
    · split
      · exact .inr rfl
      · exact parse_digits M r _ (fun b hb => h b (List.mem_cons_of_mem _ hb))
theorem numOf_lt : ∀ (l : List UInt8) (a n : Nat), (∀ b ∈ l, isDig b = true) → a < 10 ^ n → numOf a l < 10 ^ (n + l.length)
  | [], a, n, _, h => h
  | c :: r, a, n, hl, h => by
    have hc := hl c List.mem_cons_self
    have hc' : 48 ≤ c.toNat ∧ c.toNat ≤ 57 := by
      unfold isDig at hc
      simpa using hc
    have := numOf_lt r (a * 10 + (c.toNat - 48)) (n + 1) (fun b hb => hl b (List.mem_cons_of_mem _ hb)) (by
      rw [Nat.pow_succ]
      omega)
    unfold numOf
    rw [List.length_cons]
    rw [show n + (r.length + 1) = n + 1 + r.length by omega]
    exact this
theorem parse_small (l : List UInt8) : ∀ (a n : Nat), (∀ b ∈ l, isDig b = true) → a < 10 ^ n → n + l.length ≤ 9 → Lib.parseUintM 18446744073709551615 a l = .ok (numOf a l) := by
  induction l with
  | nil => intro a n _ _ _; rfl
  | cons c r ih =>
    intro a n hl ha hn
    have hc := hl c List.mem_cons_self
    have hc' : 48 ≤ c.toNat ∧ c.toNat ≤ 57 := by
      unfold isDig at hc
      simpa using hc
    rw [List.length_cons] at hn
    have hb : (10 : Nat) ^ n ≤ 10 ^ 8 := Nat.pow_le_pow_right (by decide) (by omega)
    unfold Lib.parseUintM numOf
    rw [if_pos hc', if_neg (by omega), if_neg (by omega)]
    exact ih _ (n + 1) (fun b hb => hl b (List.mem_cons_of_mem _ hb)) (by rw [Nat.pow_succ]; omega) (by omega)
theorem digS_all (l : List UInt8) : ∀ b ∈ digS l, isDig b = true := fun b hb => List.all_eq_true.1 List.all_takeWhile b hb
/-- What a text is, where a unit is worth c. -/
def unitL (c : Nat) (l : List UInt8) : Option Nat := if (digS l).isEmpty || decide (9 < (digS l).length) || decide (c = 0) then none else some (numOf 0 (digS l) * c)
def unitV : Option Nat → Value
  | some n => .tuple #[.int .u64 (n : Int), .int .i64 0]
  | none => .tuple #[.int .u64 0, .int .i64 15]
/-- The variables of strconv's errors. -/
def Ev (w : World) : Prop := (∃ ev, w.cell? ⟨0, 0, none⟩ = some ev ∧ (ev = .nilIface ∨ ∃ te pe, ev = .iface te pe)) ∧ ∃ ev, w.cell? ⟨1, 0, none⟩ = some ev ∧ (ev = .nilIface ∨ ∃ te pe, ev = .iface te pe)
theorem Ev.below {w W : World} (h : Ev w) (hb : Below w.heap.size w W) (hlow : 1 < w.heap.size) : Ev W := by
  obtain ⟨⟨e0, h0, h0'⟩, e1, h1, h1'⟩ := h
  exact ⟨⟨e0, (hb.cell (p := ⟨0, 0, none⟩) (by show 0 < _; omega)).trans h0, h0'⟩, e1, (hb.cell (p := ⟨1, 0, none⟩) hlow).trans h1, h1'⟩
theorem uint_any (d : List UInt8) (w : World) (hd : ∀ b ∈ d, isDig b = true) (hl : d.length ≤ 1073741824) (hv : Ev w) :
    Calls Tryz.prog 35 #[.string (bsOf d), .int .i64 10, .int .i64 64] w fun e w' => Below w.heap.size w w' ∧ ∃ (u : Int) (ev : Value), e = .returned (.tuple #[.int .u64 u, ev]) ∧ ((d = [] ∨ 9 < d.length) ∧ (ev = .nilIface ∨ ∃ te pe, ev = .iface te pe) ∧ (d = [] → ev ≠ .nilIface) ∨ d ≠ [] ∧ d.length ≤ 9 ∧ u = (numOf 0 d : Nat) ∧ ev = .nilIface) := by
  have hbd : (bsOf d).data.toList = d := rfl
  obtain ⟨⟨e0, he0, hx0⟩, e1, he1, hx1⟩ := hv
  have hsz : (bsOf d).size = d.length := rfl
  by_cases hn : d = []
  · refine (Tryz.strconv_ParseUint_10_at64_syntax (bsOf d) (by omega) (by rw [hbd, hn]; rfl) e0 w he0 hx0).mono ?_
    rintro e w' ⟨N, rfl, _, _, hb⟩
    exact ⟨hb, _, _, rfl, .inl ⟨.inl hn, .inr ⟨_, _, rfl⟩, fun _ h => by cases h⟩⟩
  · have hB : Lib.parseUintB 64 (bsOf d).data.toList = Lib.parseUintM 18446744073709551615 0 d := by
      unfold Lib.parseUintB
      rw [hbd, if_neg hn]
    have hbw : ∀ w', (w' = w ∨ w' = Lib.bytesWorld w 5 (bsOf d)) → Below w.heap.size w w' := by
      rintro w' (rfl | rfl)
      · exact Below.refl _ _
      · exact below_bytes w _ _
    by_cases h9 : d.length ≤ 9
    · have hp := parse_small d 0 0 hd (by decide) (by omega)
      refine (Tryz.strconv_ParseUint_10_at64_ok (bsOf d) (by omega) _ (hB.trans hp) w).mono ?_
      rintro e w' ⟨rfl, hw⟩
      exact ⟨hbw _ hw, _, _, rfl, .inr ⟨hn, h9, rfl, rfl⟩⟩
    · rcases parse_digits 18446744073709551615 d 0 hd with hp | hp
      · refine (Tryz.strconv_ParseUint_10_at64_ok (bsOf d) (by omega) _ (hB.trans hp) w).mono ?_
        rintro e w' ⟨rfl, hw⟩
        exact ⟨hbw _ hw, _, _, rfl, .inl ⟨.inr (by omega), .inl rfl, fun h => absurd h hn⟩⟩
      · refine (Tryz.strconv_ParseUint_10_at64_range (bsOf d) (by omega) (hB.trans hp) e1 w he1 hx1).mono ?_
        rintro e w' ⟨N, rfl, _, _, hb⟩
        exact ⟨hb, _, _, rfl, .inl ⟨.inr (by omega), .inr ⟨_, _, rfl⟩, fun h => absurd h hn⟩⟩
theorem own_below {H : Type} {P : Program} {k : TypeId} {R : Value → Option (DataW H × List MemPlace)} {w W : World} {b n : Nat} {D : DataW H} (h : w.ownsMap P k R b n D) (hb : Below w.heap.size w W) : W.ownsMap P k R b n D := by
  have hlt := h.lt
  obtain ⟨es, clock, hh, F, hs, hD⟩ := h
  exact ⟨es, clock, (hb.block b hlt).trans hh, F, hs, hD⟩
set_option maxRecDepth 100000 in
theorem unit_any {H : Type} (w : World) (b n : Nat) (D : DataW H) (l : List UInt8) (c : Nat) (hown : w.ownsMap Tryz.prog 9 (plainElem Tryz.prog 22) b n D) (hl : l.length ≤ 1073741824) (hc : D.atKey (.string (restS l)) (.lit (.int .u64 0)) = .lit (.int .u64 (c : Int))) (hcb : c ≤ 1073741824) (hv : Ev w) (hlow : 1 < w.heap.size) :
    Calls Tryz.prog 21 #[.string (bsOf l), .map (some b)] w fun e w' => e = .returned (unitV (unitL c l)) ∧ Below w.heap.size w w' := by
  have hix := fun (W : World) => Tryz.strings_IndexFunc_grows 34 #[] (fun args w => by kernel_rfl) noDig (bsOf l ++ ⟨#[120]⟩) W (fun W x hx hb => by
    have := unit1_any x W hx
    simpa using this)
  rw [idx_x (bsOf l) (bsOf l ++ ⟨#[120]⟩) (by simp [ByteArray.data_append])] at hix
  rw [show (bsOf l).data.toList = l from rfl] at hix
  have hdl : (digS l).length ≤ l.length := (List.takeWhile_prefix isDig).length_le
  obtain ⟨hs1, hs2⟩ := dig_split l
  have hda := digS_all l
  have hsz : (bsOf l).size = l.length := rfl
  obtain ⟨k, hk⟩ : ∃ k, k = (digS l).length := ⟨_, rfl⟩
  rw [← hk] at hix hs1 hs2 hdl
  have hx0 : (bsOf l).extract 0 k = bsOf (digS l) := by
    rw [← hs1]
    apply ByteArray.ext
    apply Array.ext'
    simp [bsOf]
  have hx1 : (bsOf l).extract k (bsOf l).size = bsOf (restS l) := by
    rw [← hs2]
    apply ByteArray.ext
    apply Array.ext'
    simp [bsOf]
    refine List.take_of_length_le ?_
    rw [List.length_drop]
    exact Nat.le_refl _
  have hrl : (restS l).length ≤ l.length := by rw [← hs2]; simp
  have hlk : ∀ W, Below w.heap.size w W → (Instr.lookup 50 (.map (some b)) (.string ((bsOf l).extract k (bsOf l).size)) false).run Tryz.prog W = .ok (.int .u64 (c : Int)) W := fun W hb => by
    obtain ⟨c', h1, h2, _⟩ := (own_below hown hb).lookup_int (Maps.string_keyed Tryz.underlying9) Tryz.underlying50 Tryz.underlying22 (t := 50) (by kernel_rfl) (key := .string ((bsOf l).extract k (bsOf l).size)) (kl := .string (restS l)) (by rw [hx1]; exact WideMaps.keyOf_string_mk Tryz.underlying9 (by show (restS l).length ≤ _; unfold maxLen; omega))
    rw [hc] at h2
    injection h2 with h2
    injection h2 with _ h2
    rw [h1, h2]
  have hks : k ≤ (bsOf l).size := hdl
  have hu : unitL c l = if (digS l).isEmpty || decide (9 < k) || decide (c = 0) then none else some (numOf 0 (digS l) * c) := by rw [hk]; rfl
  have hpar := fun W (hb : Below w.heap.size w W) => uint_any (digS l) W hda (by omega) (hv.below hb hlow)
  rw [← hx0, ← hk] at hpar
  rw [hu]
  obtain ⟨U, hU⟩ : ∃ U, U = if (digS l).isEmpty || decide (9 < k) || decide (c = 0) then none else some (numOf 0 (digS l) * c) := ⟨_, rfl⟩
  rw [← hU]
  have HU := Lib.hid hU
  clear hU
  have HK := Lib.hid hk
  have HX0 := Lib.hid hx0
  have HDA := Lib.hid hda
  clear hk hdl hs1 hs2 hx0 hx1 hrl hown hc hda hu
  go_enter Tryz.func21, Tryz.ntmps21
  go_wp2_with fail
  refine (hix _).mono ?_
  rintro e w1 ⟨rfl, hb1⟩
  have hlk1 := hlk w1 hb1
  clear hsz
  go_wp2_with fail
  refine (hpar w1 hb1).mono ?_
  rintro e w2 ⟨hb2, u, ev, rfl, hcase⟩
  have hb := hb1.trans (hb2.mono hb1.size)
  clear hpar hix hlk hlk1 hb1 hb2
  rcases hcase with ⟨h1, (rfl | ⟨te, pe, rfl⟩), h3⟩ | ⟨h1, h2, rfl, rfl⟩
  · have h9 : 9 < k := by
      rcases h1 with h1 | h1
      · exact absurd rfl (h3 h1)
      · exact h1
    have h9' : decide ((9 : Int) < (k : Int)) = true := by simp; omega
    have HR := Lib.hid (show ((digS l).isEmpty || decide (9 < k) || decide (c = 0)) = true by simp [h9])
    clear h1 h3 h9
    go_wp2_with fail
    refine bodyPost_ret (v := .tuple #[.int .u64 0, .int .i64 15]) (by simp [results, Tryz.results21, go_sem]) rfl ⟨?_, hb⟩
    rw [HU.out, if_pos HR.out]; rfl
  · have HR := Lib.hid (show ((digS l).isEmpty || decide (9 < k) || decide (c = 0)) = true by
      rcases h1 with h1 | h1
      · rw [h1]; rfl
      · simp [h1])
    clear h1 h3
    go_wp2_with fail
    refine bodyPost_ret (v := .tuple #[.int .u64 0, .int .i64 15]) (by simp [results, Tryz.results21, go_sem]) rfl ⟨?_, hb⟩
    rw [HU.out, if_pos HR.out]; rfl
  · by_cases hc0 : c = 0
    · have HR := Lib.hid (show ((digS l).isEmpty || decide (9 < k) || decide (c = 0)) = true by simp [hc0])
      have h9' : decide ((9 : Int) < (k : Int)) = false := by simp; omega
      subst hc0
      clear h1 h2
      go_wp2_with fail
      refine bodyPost_ret (v := .tuple #[.int .u64 0, .int .i64 15]) (by simp [results, Tryz.results21, go_sem]) rfl ⟨?_, hb⟩
      rw [HU.out, if_pos HR.out]; rfl
    · have HR := Lib.hid (show ((digS l).isEmpty || decide (9 < k) || decide (c = 0)) = false by
        have : (digS l).isEmpty = false := by
          cases h : digS l with
          | nil => exact absurd h h1
          | cons _ _ => rfl
        rw [this]
        simp
        omega)
      have h9' : decide ((9 : Int) < (k : Int)) = false := by simp; omega
      have hc' : decide ((c : Int) = 0) = false := by simp; omega
      have hn := numOf_lt (digS l) 0 0 HDA.out (by decide)
      rw [← HK.out] at hn
      generalize numOf 0 (digS l) = m at *
      have hm : m < 1000000000 := Nat.lt_of_lt_of_le hn (Nat.pow_le_pow_right (by decide) (by omega : 0 + k ≤ 9))
      have hmc : m * c ≤ 1000000000 * 1073741824 := Nat.mul_le_mul (by omega) hcb
      have hwr : IntKind.u64.wrap ((m : Int) * (c : Int)) = ((m * c : Nat) : Int) := by
        rw [← Int.natCast_mul]
        exact IntWalk.u64_in _ (by omega)
      clear h1 h2 hn hm hmc
      go_wp2_with fail
      refine bodyPost_ret (v := .tuple #[.int .u64 ((m * c : Nat) : Int), .int .i64 0]) (by simp [results, Tryz.results21, go_sem]) rfl ⟨?_, hb⟩
      rw [HU.out, if_neg (by rw [HR.out]; decide)]; rfl
end
end Go.Proofs.YtpdnopfjnmjnnaaGreatDoor.Cn
