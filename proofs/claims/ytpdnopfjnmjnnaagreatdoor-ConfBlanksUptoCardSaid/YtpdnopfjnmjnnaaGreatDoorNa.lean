/- Package conf: must, keyed, key, control, plain, word, text. -/
import Derived.Test.YtpdnopfjnmjnnaaGreatDoorNz
import Derived.Test.YtpdnopfjnmjnnaaGreatDoorIr
import Derived.Test.YtpdnopfjnmjnnaaGreatDoorPl
import Derived.Shelf.Strings.FuncGrows
import Derived.Shelf.Strings.IndexAnyAll
import Derived.Deep.RegionWith
import Derived.BigQuiet
import Derived.Outline
set_option linter.unusedVariables false
set_option linter.unusedSimpArgs false
namespace Go.Proofs.YtpdnopfjnmjnnaaGreatDoor.Cn
open Go.Sort Go.RowKit Go.Proofs Go.Proofs.YtpdnopfjnmjnnaaGreatDoorW.PrintWords Go.Proofs.YtpdnopfjnmjnnaaGreatDoor.Bs Go.Proofs.YtpdnopfjnmjnnaaGreatDoor.Ir Go.Proofs.YtpdnopfjnmjnnaaGreatDoor.Cz

/-- A panic with a fault. -/
def pf (y : Int) : Ending := .panicked [{ v := .iface 63 (.agg #[.int .i64 y]), recovered := false }]
theorem must_ok (why : Int) (w : World) : Calls Tryz.prog 48 #[.bool true, .int .i64 why] w fun e w' => e = .returned (.tuple #[]) ∧ w = w' := by
  go_enter Tryz.func48, Tryz.ntmps48
  go_wp2
  go_end0
  exact ⟨rfl, rfl⟩
theorem must_no (why : Int) (w : World) : Calls Tryz.prog 48 #[.bool false, .int .i64 why] w fun e w' => e = pf why ∧ w = w' := by
  go_enter Tryz.func48, Tryz.ntmps48
  go_wp2
  exact ⟨rfl, rfl, rfl⟩

def kyS : ByteArray := ⟨#[95, 45, 47, 46]⟩
theorem kyS_ascii : asciiB kyS := by unfold asciiB; decide
def keyedR (x : Nat) : Bool := (decide (97 ≤ x) && decide (x ≤ 122)) || (decide (65 ≤ x) && decide (x ≤ 90)) || (decide (48 ≤ x) && decide (x ≤ 57)) || hasRune kyS x
theorem keyed_any (x : Nat) (W : World) (h1 : x ≤ 1114111) : Calls Tryz.prog 84 #[.int .i32 (x : Int)] W fun e w' => e = .returned (.bool (keyedR x)) ∧ Below W.heap.size W w' := by
  have hc := ContainsRune_any kyS x W (by decide) kyS_ascii h1
  unfold keyedR
  generalize hasRune kyS x = b at *
  unfold kyS at hc
  by_cases c1 : 97 ≤ x ∧ x ≤ 122
  · obtain ⟨a1, a2⟩ := c1
    go_enter Tryz.func84, Tryz.ntmps84
    go_wp2_with (go_at_call 104; refine hc.mono ?_; rintro e w1 ⟨rfl, hb⟩)
    all_goals go_ret
    all_goals exact ⟨by simp [a1, a2], Below.refl _ _⟩
  · by_cases c2 : 65 ≤ x ∧ x ≤ 90
    · obtain ⟨a1, a2⟩ := c2
      go_enter Tryz.func84, Tryz.ntmps84
      go_wp2_with (go_at_call 104; refine hc.mono ?_; rintro e w1 ⟨rfl, hb⟩)
      all_goals go_ret
      all_goals exact ⟨by simp [a1, a2], Below.refl _ _⟩
    · by_cases c3 : 48 ≤ x ∧ x ≤ 57
      · obtain ⟨a1, a2⟩ := c3
        go_enter Tryz.func84, Tryz.ntmps84
        go_wp2_with (go_at_call 104; refine hc.mono ?_; rintro e w1 ⟨rfl, hb⟩)
        all_goals go_ret
        all_goals exact ⟨by simp [a1, a2], Below.refl _ _⟩
      · have e1 : (decide (97 ≤ x) && decide (x ≤ 122)) = false := by simp; omega
        have e2 : (decide (65 ≤ x) && decide (x ≤ 90)) = false := by simp; omega
        have e3 : (decide (48 ≤ x) && decide (x ≤ 57)) = false := by simp; omega
        rw [e1, e2, e3]
        clear e1 e2 e3
        go_enter Tryz.func84, Tryz.ntmps84
        go_wp2_with (go_at_call 104; refine hc.mono ?_; rintro e w1 ⟨rfl, hb⟩)
        all_goals go_ret
        all_goals exact ⟨by first | rfl | (simp; done) | (simp; omega), by assumption⟩
theorem key1_any (x : Nat) (W : World) (h1 : x ≤ 1114111) : Calls Tryz.prog 83 #[.int .i32 (x : Int)] W fun e w' => e = .returned (.bool (!keyedR x)) ∧ Below W.heap.size W w' := by
  have hc := keyed_any x W h1
  generalize keyedR x = b at *
  go_enter Tryz.func83, Tryz.ntmps83
  go_wp2_with (go_at_call 84; refine hc.mono ?_; rintro e w1 ⟨rfl, hb⟩)
  go_ret
  exact ⟨rfl, by assumption⟩
/-- strings.IndexFunc at a function without captured variables. -/
theorem indexFunc_any (g : Nat) (eg : ∀ args w, (callFunc g args).run Tryz.prog w = .ok (.enter g args) w) (p : Nat → Bool) (wide : Bool) (hw : ∀ r, 128 ≤ r → r ≤ 1114111 → p r = wide)
    (hp : ∀ (x : Nat) (W : World), x ≤ 1114111 → Calls Tryz.prog g #[.int .i32 (x : Int)] W fun e w' => e = .returned (.bool (p x)) ∧ Below W.heap.size W w') (s : ByteArray) (w : World) :
    ∃ n : Int, (decide (n < 0) = s.data.toList.all fun b => if b.toNat < 128 then !p b.toNat else !wide) ∧ Calls Tryz.prog 33 #[.string s, .func (.func g) #[] #[]] w fun e w' => e = .returned (.int .i64 n) ∧ Below w.heap.size w w' :=
  ⟨_, Pl.idx_none p wide hw s, Tryz.strings_IndexFunc_grows g #[] eg p s w (fun W x hx hb => by
    have := hp x W hx
    simpa using this)⟩
theorem all_if (l : List UInt8) (f g : UInt8 → Bool) (h : ∀ b, f b = g b) : l.all f = l.all g := by
  rw [show f = g from funext h]
theorem keyedR_wide (r : Nat) (h : 128 ≤ r) : keyedR r = false := by
  unfold keyedR hasRune
  simp; omega
theorem keyedR_eq (b : UInt8) : keyedR b.toNat = keyedN b.toNat := by
  have h : ∀ n : Fin 256, keyedR n.val = keyedN n.val := by decide +kernel
  exact h ⟨b.toNat, b.toNat_lt⟩
theorem isEmpty_eq (s : ByteArray) : s.toList.isEmpty = s.data.toList.isEmpty := by rw [Lib.toList_data]
set_option maxRecDepth 100000 in
theorem key_any (s : ByteArray) (w : World) : Calls Tryz.prog 53 #[.string s] w fun e w' => e = .returned (.bool (keyL s.data.toList)) ∧ Below w.heap.size w w' := by
  obtain ⟨n, hn, hc⟩ := indexFunc_any 83 (fun args w => by kernel_rfl) (fun x => !keyedR x) true (fun r h h1 => by
    rw [keyedR_wide r h]
    rfl) key1_any s w
  have hb : keyL s.data.toList = (!s.toList.isEmpty && decide ((s.size : Int) ≤ 64) && decide (n < 0)) := by
    rw [hn, keyL, isEmpty_eq]
    congr 1
    · congr 1
      rw [decide_eq_decide]
      have : s.data.toList.length = s.size := rfl
      omega
    · apply all_if
      intro b
      rw [← keyedR_eq]
      by_cases h : b.toNat < 128
      · simp [h]
      · rw [keyedR_wide _ (by omega)]
        simp [h]
  rw [hb]
  clear hn hb
  cases he : s.toList.isEmpty
  · by_cases hl : (s.size : Int) ≤ 64
    · go_enter Tryz.func53, Tryz.ntmps53
      go_wp2_with (go_at_call 33; refine hc.mono ?_; rintro e w1 ⟨rfl, hb⟩)
      go_ret
      exact ⟨by simp [he, hl], by assumption⟩
    · go_enter Tryz.func53, Tryz.ntmps53
      go_wp2_with (go_at_call 33; refine hc.mono ?_; rintro e w1 ⟨rfl, hb⟩)
      go_ret
      exact ⟨by simp [he]; intro h; omega, Below.refl _ _⟩
  · go_enter Tryz.func53, Tryz.ntmps53
    go_wp2_with (go_at_call 33; refine hc.mono ?_; rintro e w1 ⟨rfl, hb⟩)
    go_ret
    exact ⟨by simp [he], Below.refl _ _⟩

theorem data_at (s : ByteArray) (k : Nat) (h : k < s.size) : s.data.toList[k]? = some s[k] := Lib.data_getElem? s k h
theorem control_step (l : List UInt8) (but : List UInt8) (k : Nat) (x : UInt8) (hx : l[k]? = some x) : controlL (l.take (k + 1)) but = (controlL (l.take k) but || ctlB but x) := by
  obtain ⟨h, e⟩ := List.getElem?_eq_some_iff.1 hx
  unfold controlL
  rw [List.take_succ_eq_append_getElem h, List.any_append, e]
  simp
theorem control_hit (l : List UInt8) (but : List UInt8) (k : Nat) (x : UInt8) (hx : l[k]? = some x) (hc : ctlB but x = true) : controlL l but = true := by
  unfold controlL
  rw [List.any_eq_true]
  exact ⟨x, List.mem_of_getElem? hx, hc⟩
set_option maxRecDepth 100000 in
set_option maxHeartbeats 1000000 in
theorem control_any (s but : ByteArray) (w : World) (hs : s.size ≤ 4294967296) :
    Calls Tryz.prog 69 #[.string s, .string but] w fun e w' => e = .returned (.bool (controlL s.data.toList but.data.toList)) ∧ w = w' := by
  go_enter Tryz.func69, Tryz.ntmps69
  go_wp2
  go_loop [5, 8] (fun _ i => ∃ k : Nat, k ≤ s.size ∧ i = .int .i64 k ∧ Hid (controlL (s.data.toList.take k) but.data.toList = false)) (fun _ i => s.size - (intOf i).toNat)
  case atStart => exact ⟨0, Nat.zero_le _, rfl, Lib.hid rfl⟩
  case round =>
    obtain ⟨k, hk, rfl, HN⟩ := hrel
    by_cases hlt : k < s.size
    · obtain ⟨x, hx⟩ : ∃ x : UInt8, s[k]'hlt = x := ⟨_, rfl⟩
      have hxl : s.data.toList[k]? = some x := by rw [← hx]; exact data_at s k hlt
      have HX := Lib.hid hxl
      have HS := Lib.hid (control_step s.data.toList but.data.toList k x hxl)
      have hci := Tryz.strings_IndexByte but (x.toNat : Int) w
      have hback : ((x.toNat : Int)).toNat.toUInt8 = x := by simp
      rw [hback] at hci
      have hcon := Lib.contains_iff_indexByte but.data.toList x
      have hxr := x.toNat_lt
      clear hxl hback
      have go_on : ctlB but.data.toList x = false → controlL (s.data.toList.take (k + 1)) but.data.toList = false := fun h => by rw [HS.out, HN.out, h]; rfl
      have hit : ctlB but.data.toList x = true → controlL s.data.toList but.data.toList = true := fun h => control_hit _ _ _ _ HX.out h
      have HG := Lib.hid go_on
      have HH := Lib.hid hit
      clear go_on hit
      have walk : ∀ (c1 : Bool) , (decide (x.toNat < 32) || decide (x.toNat = 127)) = c1 → True := fun _ _ => trivial
      clear walk
      by_cases h1 : x.toNat < 32
      · cases hin : but.data.toList.contains x
        · rw [hin] at hcon
          have hneg : Lib.indexByte but.data.toList x < 0 := by simpa using hcon.symm
          have HR := Lib.hid (HH.out (by simp only [ctlB, hin]; simp [h1]))
          clear hcon hin
          go_wp2_with (go_at_call 67; refine hci.mono ?_; rintro e w1 ⟨rfl, rfl⟩)
          go_ret
          exact ⟨by rw [HR.out]; first | rfl | (simp; done), rfl⟩
        · rw [hin] at hcon
          have hneg : 0 ≤ Lib.indexByte but.data.toList x := by simpa using hcon.symm
          have HR := Lib.hid (HG.out (by simp only [ctlB, hin]; simp))
          clear hcon hin
          go_wp2_with (go_at_call 67; refine hci.mono ?_; rintro e w1 ⟨rfl, rfl⟩)
          go_round
          case rel => exact ⟨k + 1, by omega, by go_num, HR⟩
          case measure => simp [intOf]; omega
      · by_cases h2 : x.toNat = 127
        · have h2' : ((x.toNat : Int) == 127) = true := by rw [beq_iff_eq]; omega
          have H2 := Lib.hid h2
          cases hin : but.data.toList.contains x
          · rw [hin] at hcon
            have hneg : Lib.indexByte but.data.toList x < 0 := by simpa using hcon.symm
            have HR := Lib.hid (HH.out (by simp only [ctlB, hin]; simp [H2.out]))
            clear hcon hin h2
            go_wp2_with (go_at_call 67; refine hci.mono ?_; rintro e w1 ⟨rfl, rfl⟩)
            go_ret
            exact ⟨by rw [HR.out]; first | rfl | (simp; done), rfl⟩
          · rw [hin] at hcon
            have hneg : 0 ≤ Lib.indexByte but.data.toList x := by simpa using hcon.symm
            have HR := Lib.hid (HG.out (by simp only [ctlB, hin]; simp))
            clear hcon hin h2
            go_wp2_with (go_at_call 67; refine hci.mono ?_; rintro e w1 ⟨rfl, rfl⟩)
            go_round
            case rel => exact ⟨k + 1, by omega, by go_num, HR⟩
            case measure => simp [intOf]; omega
        · have HR := Lib.hid (HG.out (by simp [ctlB, h1, h2]))
          have h3 : ((x.toNat : Int) == 127) = false := by rw [beq_eq_false_iff_ne]; omega
          clear hcon
          go_wp2_with (go_at_call 67; refine hci.mono ?_; rintro e w1 ⟨rfl, rfl⟩)
          go_round
          case rel => exact ⟨k + 1, by omega, by go_num, HR⟩
          case measure => simp [intOf]; omega
    · have HR := Lib.hid (show controlL s.data.toList but.data.toList = false from by
        have := HN.out
        rwa [List.take_of_length_le (by show s.size ≤ k; omega)] at this)
      go_wp2
      go_ret
      exact ⟨by rw [HR.out]; first | rfl | (simp; done), rfl⟩
end Go.Proofs.YtpdnopfjnmjnnaaGreatDoor.Cn
