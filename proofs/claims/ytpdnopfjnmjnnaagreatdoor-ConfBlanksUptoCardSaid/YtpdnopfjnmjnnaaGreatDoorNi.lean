/- slices.IndexFunc, ContainsFunc of keys and of texts; the reader's own functions over them. -/
import Derived.Test.YtpdnopfjnmjnnaaGreatDoorNh
set_option linter.unusedVariables false
set_option linter.unusedSimpArgs false
namespace Go.Proofs.YtpdnopfjnmjnnaaGreatDoor.Cn
open Go.Sort Go.RowKit Go.Proofs Go.Proofs.YtpdnopfjnmjnnaaGreatDoorW.PrintWords Go.Proofs.YtpdnopfjnmjnnaaGreatDoor.Bs Go.Proofs.YtpdnopfjnmjnnaaGreatDoor.Ir Go.Proofs.YtpdnopfjnmjnnaaGreatDoor.Cz

theorem add_pl (b o k : Nat) : (⟨b, o, none⟩ : Addr).add k = ⟨b, o + k, none⟩ := by
  unfold Addr.add
  split
  · rename_i h; subst h; rfl
  · rfl
/-- A function value that tells of a head, in every later world. -/
def PredK (g : Nat) (lb : Array Value) (p : Kn → Bool) (w : World) : Prop :=
  ∀ W (x : Kn) (A3 A4 : Option Addr) (c3 c4 : Nat), Below w.heap.size w W → Calls Tryz.prog g (#[.agg #[.string x.f0, .int .u8 x.f1, .string x.f2, .slice A3 x.f3.length c3, .slice A4 x.f4.length c4]] ++ lb) W fun e w' => e = .returned (.bool (p x)) ∧ Below W.heap.size W w'
theorem PredK.later {g : Nat} {lb : Array Value} {p : Kn → Bool} {w W : World} (h : PredK g lb p w) (hb : Below w.heap.size w W) : PredK g lb p W :=
  fun W' x A3 A4 c3 c4 hb' => h W' x A3 A4 c3 c4 (below_via hb' hb)
/-- where the first one is; -1: nowhere -/
def idxK (p : Kn → Bool) (l : List Kn) : Int := match l.findIdx? p with | some i => i | none => -1

set_option maxRecDepth 100000 in
set_option maxHeartbeats 1000000 in
theorem indexFunc_K (g : Nat) (lb : Array Value) (eg : ∀ args w, (callFunc g args).run Tryz.prog w = .ok (.enter g args) w) (p : Kn → Bool) (A : Option Addr) (c : Nat) (l : List Kn) (w : World)
    (hl : l.length ≤ 1073741824) (hC : Kd.C kK w A l.length l) (hp : PredK g lb p w) :
    Calls Tryz.prog 30 #[.slice A l.length c, .func (.func g) #[] lb] w fun e w' => e = .returned (.int .i64 (idxK p l)) ∧ Below w.heap.size w w' := by
  have HC := Lib.hid hC
  have HP := Lib.hid hp
  clear hC hp
  go_enter Tryz.func30, Tryz.ntmps30
  go_wp2_with fail
  go_loopw [8] (fun i wr => ∃ k : Nat, k ≤ l.length ∧ i = .int .i64 k ∧ Hid (∀ j (hj : j < l.length), j < k → p l[j] = false) ∧ Below w.heap.size w wr) (fun i _ => l.length - (intOf i).toNat)
  case atStart => exact ⟨0, Nat.zero_le _, rfl, Lib.hid (fun _ _ h => absurd h (by omega)), Below.refl _ _⟩
  case round =>
    obtain ⟨k, hk, rfl, hn, hb⟩ := hrel
    by_cases hlt : k < l.length
    · obtain ⟨ad, A3, c3, A4, c4, rfl, h0, h1, h2, h3, h4, -, -, -, -⟩ := at_K (Kd.C_below HC.out hb) (k : Int) (by omega) (by omega)
      have hx : rd_K l (k : Int) = l[k] := by simp [rd_K, List.getElem?_eq_getElem hlt]
      rw [hx] at h0 h1 h2 h3 h4
      simp only [Int.toNat_natCast] at h0 h1 h2 h3 h4
      have hcall := HP.out wr l[k] A3 A4 c3 c4 hb
      obtain ⟨x, hxx⟩ : ∃ x, x = l[k] := ⟨_, rfl⟩
      rw [← hxx] at h0 h1 h2 h3 h4 hcall
      have HX := Lib.hid hxx
      clear hxx hx
      cases hpx : p x
      · rw [hpx] at hcall
        go_wp2_with (go_at_fn g; refine hcall.mono ?_; rintro e w1 ⟨rfl, hb1⟩)
        go_roundw
        case rel => exact ⟨k + 1, by omega, by go_num, Lib.hid (fun j hj h => by
          by_cases e : j = k
          · subst e
            rw [← HX.out]
            exact hpx
          · exact hn.out j hj (by omega)), (by repeat (first | assumption | exact Below.refl _ _ | apply below_drew | apply pw_below_drewN | apply below_alloc | (refine below_via (by assumption) ?_)))⟩
        case measure => simp [intOf]; omega
      · rw [hpx] at hcall
        go_wp2_with (go_at_fn g; refine hcall.mono ?_; rintro e w1 ⟨rfl, hb1⟩)
        go_ret
        refine ⟨?_, (by repeat (first | assumption | exact Below.refl _ _ | apply below_drew | apply pw_below_drewN | apply below_alloc | (refine below_via (by assumption) ?_)))⟩
        have : l.findIdx? p = some k := by
          rw [List.findIdx?_eq_some_iff_getElem]
          exact ⟨hlt, by rw [← HX.out]; exact hpx, fun j hj => by rw [hn.out j (by omega) hj]; simp⟩
        simp [idxK, this]
    · have : l.findIdx? p = none := by
        rw [List.findIdx?_eq_none_iff]
        intro x hx
        obtain ⟨j, hj, rfl⟩ := List.getElem_of_mem hx
        exact hn.out j hj (by omega)
      have HI : Hid (idxK p l = -1) := Lib.hid (by simp [idxK, this])
      clear this
      go_wp2_with fail
      go_ret
      exact ⟨by rw [HI.out]; rfl, hb⟩

theorem idxK_any (p : Kn → Bool) (l : List Kn) : decide (0 ≤ idxK p l) = l.any p := by
  unfold idxK
  cases h : l.findIdx? p with
  | none =>
    rw [List.findIdx?_eq_none_iff] at h
    have : l.any p = false := by
      rw [List.any_eq_false]
      intro x hx
      rw [h x hx]
      simp
    rw [this]
    rfl
  | some i =>
    rw [List.findIdx?_eq_some_iff_getElem] at h
    obtain ⟨hl, hp, _⟩ := h
    have : l.any p = true := List.any_eq_true.2 ⟨_, List.getElem_mem hl, hp⟩
    rw [this]
    simp
theorem containsFunc_K (g : Nat) (lb : Array Value) (eg : ∀ args w, (callFunc g args).run Tryz.prog w = .ok (.enter g args) w) (p : Kn → Bool) (A : Option Addr) (c : Nat) (l : List Kn) (w : World)
    (hl : l.length ≤ 1073741824) (hC : Kd.C kK w A l.length l) (hp : PredK g lb p w) :
    Calls Tryz.prog 51 #[.slice A l.length c, .func (.func g) #[] lb] w fun e w' => e = .returned (.bool (l.any p)) ∧ Below w.heap.size w w' := by
  have hi := indexFunc_K g lb eg p A c l w hl hC hp
  rw [← idxK_any]
  generalize idxK p l = r at *
  clear hC hp
  go_enter Tryz.func51, Tryz.ntmps51
  go_wp2_with (go_at_call 30; refine hi.mono ?_; rintro e w1 ⟨rfl, hb⟩)
  go_ret
  exact ⟨rfl, by assumption⟩
/-- A function value that tells of a head, in every later world. -/
def PredS (g : Nat) (lb : Array Value) (p : ByteArray → Bool) (w : World) : Prop :=
  ∀ W (h : ByteArray), Below w.heap.size w W → Calls Tryz.prog g (#[.string h] ++ lb) W fun e w' => e = .returned (.bool (p h)) ∧ Below W.heap.size W w'
theorem PredS.later {g : Nat} {lb : Array Value} {p : ByteArray → Bool} {w W : World} (h : PredS g lb p w) (hb : Below w.heap.size w W) : PredS g lb p W :=
  fun W' x hb' => h W' x (below_via hb' hb)
/-- where the first one is; -1: nowhere -/
def idxS (p : ByteArray → Bool) (l : List ByteArray) : Int := match l.findIdx? p with | some i => i | none => -1

set_option maxRecDepth 100000 in
set_option maxHeartbeats 1000000 in
theorem indexFunc_S (g : Nat) (lb : Array Value) (eg : ∀ args w, (callFunc g args).run Tryz.prog w = .ok (.enter g args) w) (p : ByteArray → Bool) (A : Option Addr) (c : Nat) (l : List ByteArray) (w : World)
    (hl : l.length ≤ 1073741824) (hC : Kd.C Kd.string w A l.length l) (hp : PredS g lb p w) :
    Calls Tryz.prog 82 #[.slice A l.length c, .func (.func g) #[] lb] w fun e w' => e = .returned (.int .i64 (idxS p l)) ∧ Below w.heap.size w w' := by
  have HC := Lib.hid hC
  have HP := Lib.hid hp
  clear hC hp
  go_enter Tryz.func82, Tryz.ntmps82
  go_wp2_with fail
  go_loopw [8] (fun i wr => ∃ k : Nat, k ≤ l.length ∧ i = .int .i64 k ∧ Hid (∀ j (hj : j < l.length), j < k → p l[j] = false) ∧ Below w.heap.size w wr) (fun i _ => l.length - (intOf i).toNat)
  case atStart => exact ⟨0, Nat.zero_le _, rfl, Lib.hid (fun _ _ h => absurd h (by omega)), Below.refl _ _⟩
  case round =>
    obtain ⟨k, hk, rfl, hn, hb⟩ := hrel
    by_cases hlt : k < l.length
    · obtain ⟨ad, c0, rfl, -, hK, h0⟩ := Kd.C_get (Kd.C_below HC.out hb) (⟨#[]⟩ : ByteArray) (k : Int) (by omega) (by omega)
      have hx : l.getD k (⟨#[]⟩ : ByteArray) = l[k] := by simp [List.getElem?_eq_getElem hlt]
      rw [Int.toNat_natCast, hx] at hK
      have hc1 : c0 = [.string l[k]] := hK
      subst hc1
      have h0 := h0 0 _ rfl
      have e1 : ((k : Nat) : Int).toNat * Kd.string.sz + 0 = k := by rw [Int.toNat_natCast]; exact (Nat.mul_one k)
      rw [e1] at h0
      clear e1 hK
      have hcall := HP.out wr l[k] hb
      obtain ⟨x, hxx⟩ : ∃ x, x = l[k] := ⟨_, rfl⟩
      rw [← hxx] at h0 hcall
      have HX := Lib.hid hxx
      clear hxx hx
      cases hpx : p x
      · rw [hpx] at hcall
        go_wp2_with (go_at_fn g; refine hcall.mono ?_; rintro e w1 ⟨rfl, hb1⟩)
        go_roundw
        case rel => exact ⟨k + 1, by omega, by go_num, Lib.hid (fun j hj h => by
          by_cases e : j = k
          · subst e
            rw [← HX.out]
            exact hpx
          · exact hn.out j hj (by omega)), (by repeat (first | assumption | exact Below.refl _ _ | apply below_drew | apply pw_below_drewN | apply below_alloc | (refine below_via (by assumption) ?_)))⟩
        case measure => simp [intOf]; omega
      · rw [hpx] at hcall
        go_wp2_with (go_at_fn g; refine hcall.mono ?_; rintro e w1 ⟨rfl, hb1⟩)
        go_ret
        refine ⟨?_, (by repeat (first | assumption | exact Below.refl _ _ | apply below_drew | apply pw_below_drewN | apply below_alloc | (refine below_via (by assumption) ?_)))⟩
        have : l.findIdx? p = some k := by
          rw [List.findIdx?_eq_some_iff_getElem]
          exact ⟨hlt, by rw [← HX.out]; exact hpx, fun j hj => by rw [hn.out j (by omega) hj]; simp⟩
        simp [idxS, this]
    · have : l.findIdx? p = none := by
        rw [List.findIdx?_eq_none_iff]
        intro x hx
        obtain ⟨j, hj, rfl⟩ := List.getElem_of_mem hx
        exact hn.out j hj (by omega)
      have HI : Hid (idxS p l = -1) := Lib.hid (by simp [idxS, this])
      clear this
      go_wp2_with fail
      go_ret
      exact ⟨by rw [HI.out]; rfl, hb⟩

theorem idxS_any (p : ByteArray → Bool) (l : List ByteArray) : decide (0 ≤ idxS p l) = l.any p := by
  unfold idxS
  cases h : l.findIdx? p with
  | none =>
    rw [List.findIdx?_eq_none_iff] at h
    have : l.any p = false := by
      rw [List.any_eq_false]
      intro x hx
      rw [h x hx]
      simp
    rw [this]
    rfl
  | some i =>
    rw [List.findIdx?_eq_some_iff_getElem] at h
    obtain ⟨hl, hp, _⟩ := h
    have : l.any p = true := List.any_eq_true.2 ⟨_, List.getElem_mem hl, hp⟩
    rw [this]
    simp
theorem containsFunc_S (g : Nat) (lb : Array Value) (eg : ∀ args w, (callFunc g args).run Tryz.prog w = .ok (.enter g args) w) (p : ByteArray → Bool) (A : Option Addr) (c : Nat) (l : List ByteArray) (w : World)
    (hl : l.length ≤ 1073741824) (hC : Kd.C Kd.string w A l.length l) (hp : PredS g lb p w) :
    Calls Tryz.prog 49 #[.slice A l.length c, .func (.func g) #[] lb] w fun e w' => e = .returned (.bool (l.any p)) ∧ Below w.heap.size w w' := by
  have hi := indexFunc_S g lb eg p A c l w hl hC hp
  rw [← idxS_any]
  generalize idxS p l = r at *
  clear hC hp
  go_enter Tryz.func49, Tryz.ntmps49
  go_wp2_with (go_at_call 82; refine hi.mono ?_; rintro e w1 ⟨rfl, hb⟩)
  go_ret
  exact ⟨rfl, by assumption⟩

theorem put1_any (s : ByteArray) (w : World) : Calls Tryz.prog 50 #[.string s] w fun e w' => e = .returned (.bool (decide (4096 < s.size))) ∧ Below w.heap.size w w' := by
  by_cases h : 4096 < s.size
  all_goals
    go_enter Tryz.func50, Tryz.ntmps50
    go_wp2_with fail
    go_ret
    exact ⟨by first | (simp [h]; done) | (simp [h]; omega), Below.refl _ _⟩
theorem put2_any (x : Kn) (A3 A4 : Option Addr) (c3 c4 : Nat) (k : ByteArray) (b : Nat) (w : World) (hk : w.cell? ⟨b, 0, none⟩ = some (.string k)) : Calls Tryz.prog 52 #[.agg #[.string x.f0, .int .u8 x.f1, .string x.f2, .slice A3 x.f3.length c3, .slice A4 x.f4.length c4], .pointer (some ⟨b, 0, none⟩)] w fun e w' => e = .returned (.bool (x.f0.data.toList == k.data.toList)) ∧ Below w.heap.size w w' := by
  have hk' := cell_past w (.cells #[.string x.f0, .int .u8 x.f1, .string x.f2, .slice A3 x.f3.length c3, .slice A4 x.f4.length c4] 44) _ _ hk
  go_enter Tryz.func52, Tryz.ntmps52
  go_wp2_with fail
  go_ret
  exact ⟨by rw [← Lib.toList_data, ← Lib.toList_data]; rfl, below_alloc (Below.refl _ _) _⟩
end Go.Proofs.YtpdnopfjnmjnnaaGreatDoor.Cn
