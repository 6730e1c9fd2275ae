/- Package http: token, target, value, and what they ask of a rune. -/
import Derived.Test.YtaihnhhapplmbaaGreatDoorSm
import Derived.Test.YtaihnhhapplmbaaGreatDoorIr
import Derived.Test.YtaihnhhapplmbaaGreatDoorPl
import Derived.Shelf.Strings.SlTrimAscii
import Derived.Shelf.Strings.FuncGrows
import Derived.Outline
set_option linter.unusedVariables false
set_option linter.unusedSimpArgs false
namespace Go.Proofs.YtaihnhhapplmbaaGreatDoor.Ht
open Go.Sort Go.RowKit Go.Proofs Go.Proofs.YtaihnhhapplmbaaGreatDoorW.PrintWords Go.Proofs.YtaihnhhapplmbaaGreatDoor.Bs Go.Proofs.YtaihnhhapplmbaaGreatDoor.Ir

def tokS : ByteArray := ⟨#[33, 35, 36, 37, 38, 39, 42, 43, 45, 46, 94, 95, 96, 124, 126]⟩
theorem tokS_ascii : asciiB tokS := by unfold asciiB; decide
def tokR (x : Nat) : Bool := (decide (97 ≤ x) && decide (x ≤ 122)) || (decide (65 ≤ x) && decide (x ≤ 90)) || (decide (48 ≤ x) && decide (x ≤ 57)) || hasRune tokS x
def hexS : ByteArray := ⟨#[48, 49, 50, 51, 52, 53, 54, 55, 56, 57, 97, 98, 99, 100, 101, 102, 65, 66, 67, 68, 69, 70]⟩
theorem hexS_ascii : asciiB hexS := by unfold asciiB; decide

theorem token1 (x : Nat) (W : World) (h1 : x ≤ 1114111) : Calls Tryz.prog 48 #[.int .i32 (x : Int)] W fun e w' => e = .returned (.bool (!tokR x)) ∧ Below W.heap.size W w' := by
  have hc := ContainsRune_any tokS x W (by decide) tokS_ascii h1
  unfold tokR
  generalize hasRune tokS x = b at *
  unfold tokS at hc
  by_cases c1 : 97 ≤ x ∧ x ≤ 122
  · obtain ⟨a1, a2⟩ := c1
    go_enter Tryz.func48, Tryz.ntmps48
    go_wp2_with (go_at_call 49; refine hc.mono ?_; rintro e w1 ⟨rfl, hb⟩)
    go_ret
    exact ⟨by simp [a1, a2], Below.refl _ _⟩
  · by_cases c2 : 65 ≤ x ∧ x ≤ 90
    · obtain ⟨a1, a2⟩ := c2
      go_enter Tryz.func48, Tryz.ntmps48
      go_wp2_with (go_at_call 49; refine hc.mono ?_; rintro e w1 ⟨rfl, hb⟩)
      all_goals go_ret
      all_goals exact ⟨by simp [a1, a2], Below.refl _ _⟩
    · by_cases c3 : 48 ≤ x ∧ x ≤ 57
      · obtain ⟨a1, a2⟩ := c3
        go_enter Tryz.func48, Tryz.ntmps48
        go_wp2_with (go_at_call 49; refine hc.mono ?_; rintro e w1 ⟨rfl, hb⟩)
        all_goals go_ret
        all_goals exact ⟨by simp [a1, a2], Below.refl _ _⟩
      · have e1 : (decide (97 ≤ x) && decide (x ≤ 122)) = false := by simp; omega
        have e2 : (decide (65 ≤ x) && decide (x ≤ 90)) = false := by simp; omega
        have e3 : (decide (48 ≤ x) && decide (x ≤ 57)) = false := by simp; omega
        rw [e1, e2, e3]
        clear e1 e2 e3
        go_enter Tryz.func48, Tryz.ntmps48
        go_wp2_with (go_at_call 49; refine hc.mono ?_; rintro e w1 ⟨rfl, hb⟩)
        all_goals go_ret
        all_goals exact ⟨by first | (simp; done) | (simp; omega), by assumption⟩

def tgtR (x : Nat) : Bool := decide (x ≤ 32) || decide (126 < x)
theorem target1 (x : Nat) (W : World) (h1 : x ≤ 1114111) : Calls Tryz.prog 51 #[.int .i32 (x : Int)] W fun e w' => e = .returned (.bool (tgtR x)) ∧ Below W.heap.size W w' := by
  unfold tgtR
  by_cases c1 : x ≤ 32
  · go_enter Tryz.func51, Tryz.ntmps51
    go_wp2_with fail
    all_goals go_ret
    all_goals exact ⟨by first | (simp; done) | (simp; omega), Below.refl _ _⟩
  · by_cases c2 : 126 < x
    · have e1 : (decide (x ≤ 32) || decide (126 < x)) = true := by simp; omega
      rw [e1]
      clear e1
      go_enter Tryz.func51, Tryz.ntmps51
      go_wp2_with fail
      all_goals go_ret
      all_goals exact ⟨by first | (simp; done) | (simp; omega), Below.refl _ _⟩
    · have e1 : decide (x ≤ 32) = false := by simp; omega
      have e2 : decide (126 < x) = false := by simp; omega
      rw [e1, e2]
      clear e1 e2
      go_enter Tryz.func51, Tryz.ntmps51
      go_wp2_with fail
      all_goals go_ret
      all_goals exact ⟨by first | (simp; done) | (simp; omega), Below.refl _ _⟩
def valR (x : Nat) : Bool := (decide (x < 32) && decide (x ≠ 9)) || decide (x = 127)
theorem value1 (x : Nat) (W : World) (h1 : x ≤ 1114111) : Calls Tryz.prog 87 #[.int .i32 (x : Int)] W fun e w' => e = .returned (.bool (valR x)) ∧ Below W.heap.size W w' := by
  unfold valR
  by_cases c1 : x < 32
  · by_cases c2 : x = 9
    · subst c2
      go_enter Tryz.func87, Tryz.ntmps87
      go_wp2_with fail
      all_goals go_ret
      all_goals exact ⟨by first | (simp; done) | (simp; omega), Below.refl _ _⟩
    · go_enter Tryz.func87, Tryz.ntmps87
      go_wp2_with fail
      all_goals go_ret
      all_goals exact ⟨by first | (simp; done) | (simp; omega), Below.refl _ _⟩
  · by_cases c2 : x = 127
    · subst c2
      go_enter Tryz.func87, Tryz.ntmps87
      go_wp2_with fail
      all_goals go_ret
      all_goals exact ⟨by first | (simp; done) | (simp; omega), Below.refl _ _⟩
    · go_enter Tryz.func87, Tryz.ntmps87
      go_wp2_with fail
      all_goals go_ret
      all_goals exact ⟨by first | (simp; done) | (simp; omega), Below.refl _ _⟩
theorem chunks1 (x : Nat) (W : World) (h1 : x ≤ 1114111) : Calls Tryz.prog 144 #[.int .i32 (x : Int)] W fun e w' => e = .returned (.bool (!hasRune hexS x)) ∧ Below W.heap.size W w' := by
  have hc := ContainsRune_any hexS x W (by decide) hexS_ascii h1
  generalize hasRune hexS x = b at *
  unfold hexS at hc
  go_enter Tryz.func144, Tryz.ntmps144
  go_wp2_with (go_at_call 49; refine hc.mono ?_; rintro e w1 ⟨rfl, hb⟩)
  go_ret
  exact ⟨rfl, by assumption⟩

/-- strings.IndexFunc at a function without captured variables. -/
theorem indexFunc_any (g : Nat) (eg : ∀ args w, (callFunc g args).run Tryz.prog w = .ok (.enter g args) w) (p : Nat → Bool) (wide : Bool) (hw : ∀ r, 128 ≤ r → r ≤ 1114111 → p r = wide)
    (hp : ∀ (x : Nat) (W : World), x ≤ 1114111 → Calls Tryz.prog g #[.int .i32 (x : Int)] W fun e w' => e = .returned (.bool (p x)) ∧ Below W.heap.size W w') (s : ByteArray) (w : World) :
    ∃ n : Int, (decide (n < 0) = s.data.toList.all fun b => if b.toNat < 128 then !p b.toNat else !wide) ∧ Calls Tryz.prog 50 #[.string s, .func (.func g) #[] #[]] w fun e w' => e = .returned (.int .i64 n) ∧ Below w.heap.size w w' :=
  ⟨_, Pl.idx_none p wide hw s, Tryz.strings_IndexFunc_grows g #[] eg p s w (fun W x hx hb => by
    have := hp x W hx
    simpa using this)⟩

theorem hasRune_wide (s : ByteArray) (r : Nat) (h : 128 ≤ r) : hasRune s r = false := by
  unfold hasRune
  simp; omega
def allB (s : ByteArray) (p : Nat → Bool) : Bool := s.data.toList.all fun b => p b.toNat
def tokenB (s : ByteArray) : Bool := !s.toList.isEmpty && allB s (fun x => decide (x < 128) && tokR x)
def targetB (s : ByteArray) : Bool := !s.toList.isEmpty && allB s (fun x => decide (x < 128) && !tgtR x)
theorem all_if (l : List UInt8) (f g : UInt8 → Bool) (h : ∀ b, f b = g b) : l.all f = l.all g := by
  rw [show f = g from funext h]
set_option maxRecDepth 100000 in
theorem token_any (s : ByteArray) (w : World) : Calls Tryz.prog 24 #[.string s] w fun e w' => e = .returned (.bool (tokenB s)) ∧ Below w.heap.size w w' := by
  obtain ⟨n, hn, hc⟩ := indexFunc_any 48 (fun args w => by kernel_rfl) (fun x => !tokR x) true (fun r h h1 => by
    unfold tokR
    rw [hasRune_wide _ _ h]
    simp; omega) token1 s w
  have hb : tokenB s = (!s.toList.isEmpty && decide (n < 0)) := by
    rw [hn, tokenB, allB]
    congr 1
    apply all_if
    intro b
    by_cases h : b.toNat < 128 <;> simp [h]
  rw [hb]
  clear hn hb
  cases he : s.toList.isEmpty
  · go_enter Tryz.func24, Tryz.ntmps24
    go_wp2_with (go_at_call 50; refine hc.mono ?_; rintro e w1 ⟨rfl, hb⟩)
    go_ret
    exact ⟨by simp, by assumption⟩
  · go_enter Tryz.func24, Tryz.ntmps24
    go_wp2_with (go_at_call 50; refine hc.mono ?_; rintro e w1 ⟨rfl, hb⟩)
    go_ret
    exact ⟨by simp, Below.refl _ _⟩
set_option maxRecDepth 100000 in
theorem target_any (s : ByteArray) (w : World) : Calls Tryz.prog 25 #[.string s] w fun e w' => e = .returned (.bool (targetB s)) ∧ Below w.heap.size w w' := by
  obtain ⟨n, hn, hc⟩ := indexFunc_any 51 (fun args w => by kernel_rfl) tgtR true (fun r h h1 => by
    unfold tgtR
    simp; omega) target1 s w
  have hb : targetB s = (!s.toList.isEmpty && decide (n < 0)) := by
    rw [hn, targetB, allB]
    congr 1
    apply all_if
    intro b
    by_cases h : b.toNat < 128 <;> simp [h]
  rw [hb]
  clear hn hb
  cases he : s.toList.isEmpty
  · go_enter Tryz.func25, Tryz.ntmps25
    go_wp2_with (go_at_call 50; refine hc.mono ?_; rintro e w1 ⟨rfl, hb⟩)
    go_ret
    exact ⟨by simp, by assumption⟩
  · go_enter Tryz.func25, Tryz.ntmps25
    go_wp2_with (go_at_call 50; refine hc.mono ?_; rintro e w1 ⟨rfl, hb⟩)
    go_ret
    exact ⟨by simp, Below.refl _ _⟩

def trimB (s : ByteArray) : ByteArray := ⟨(Lib.trimS s.data.toList [32, 9]).toArray⟩
theorem trim_any (s : ByteArray) (w : World) (hs : s.size ≤ 1073741824) : Calls Tryz.prog 88 #[.string s, .string ⟨#[32, 9]⟩] w fun e w' => e = .returned (.string (trimB s)) ∧ Below w.heap.size w w' :=
  Any.strings_Trim_laid Tryz.lays160 (by kernel_rfl) s ⟨#[32, 9]⟩ w (by omega) (by decide) (ascii_of_all (by decide))
def valueB (s : ByteArray) : Bool := allB s (fun x => !valR x) && (trimB s).toList == s.toList
set_option maxRecDepth 100000 in
theorem value_any (s : ByteArray) (w : World) (hs : s.size ≤ 1073741824) : Calls Tryz.prog 54 #[.string s] w fun e w' => e = .returned (.bool (valueB s)) ∧ Below w.heap.size w w' := by
  obtain ⟨n, hn, hc⟩ := indexFunc_any 87 (fun args w => by kernel_rfl) valR false (fun r h h1 => by
    unfold valR
    simp; omega) value1 s w
  have ht := fun W => trim_any s W hs
  have hb : valueB s = (decide (n < 0) && (trimB s).toList == s.toList) := by
    rw [hn, valueB, allB]
    congr 1
    apply all_if
    intro b
    by_cases h : b.toNat < 128
    · simp [h]
    · simp [h, valR]
      omega
  rw [hb]
  clear hn hb
  generalize trimB s = t at *
  by_cases h : n < 0
  · go_enter Tryz.func54, Tryz.ntmps54
    go_wp2_with (first | (go_at_call 50; refine hc.mono ?_; rintro e w1 ⟨rfl, hb⟩) | (go_at_call 88; refine (ht _).mono ?_; rintro e w2 ⟨rfl, hb2⟩))
    go_ret
    exact ⟨by simp [h], (by repeat (first | assumption | exact Below.refl _ _ | apply below_drew | apply pw_below_drewN | apply below_alloc | (refine below_via (by assumption) ?_)))⟩
  · go_enter Tryz.func54, Tryz.ntmps54
    go_wp2_with (first | (go_at_call 50; refine hc.mono ?_; rintro e w1 ⟨rfl, hb⟩) | (go_at_call 88; refine (ht _).mono ?_; rintro e w2 ⟨rfl, hb2⟩))
    go_ret
    exact ⟨by simp; omega, (by repeat (first | assumption | exact Below.refl _ _ | apply below_drew | apply pw_below_drewN | apply below_alloc | (refine below_via (by assumption) ?_)))⟩
end Go.Proofs.YtaihnhhapplmbaaGreatDoor.Ht
