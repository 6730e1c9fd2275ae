/- Package penstockref07: letters, digits, tokens, targets; Package penstockref07: value, low, framing, number. -/
import Derived.Test.YtjbehnalmgcbpaaGreatDoorLv
import Derived.Test.YtjbehnalmgcbpaaGreatDoorMg
set_option linter.unusedVariables false
set_option linter.unusedSimpArgs false
namespace Go.Proofs.YtjbehnalmgcbpaaGreatDoor.Ht
section
open Go.Sort Go.RowKit Go.Proofs Go.Proofs.YtjbehnalmgcbpaaGreatDoorW.PrintWords Go.Proofs.YtjbehnalmgcbpaaGreatDoor.Bs Go.Proofs.YtjbehnalmgcbpaaGreatDoor.Ir Go.Proofs.YtjbehnalmgcbpaaGreatDoor.Gn

def ltrI (x : Int) : Bool := decide (97 ≤ x ∧ x ≤ 122) || decide (65 ≤ x ∧ x ≤ 90)
def digI (x : Int) : Bool := decide (48 ≤ x ∧ x ≤ 57)
def blankI (x : Int) : Bool := decide (x = 32) || decide (x = 9)
theorem letter_any (x : Int) (w : World) : Calls Tryz.prog 66 #[.int .u8 x] w fun e w' => e = .returned (.bool (ltrI x)) ∧ w = w' := by
  by_cases a : 97 ≤ x <;> by_cases b : x ≤ 122 <;> by_cases c : 65 ≤ x <;> by_cases d : x ≤ 90
  all_goals first | (exfalso; omega) | skip
  all_goals
    go_enter Tryz.func66, Tryz.ntmps66
    go_wp2_with fail
    go_ret
    exact ⟨by simp [ltrI, a, b, c, d], rfl⟩
theorem digit_any (x : Int) (w : World) : Calls Tryz.prog 47 #[.int .u8 x] w fun e w' => e = .returned (.bool (digI x)) ∧ w = w' := by
  by_cases a : 48 ≤ x <;> by_cases b : x ≤ 57
  all_goals first | (exfalso; omega) | skip
  all_goals
    go_enter Tryz.func47, Tryz.ntmps47
    go_wp2_with fail
    go_ret
    exact ⟨by simp [digI, a, b], rfl⟩
theorem blank_any (x : Int) (w : World) : Calls Tryz.prog 90 #[.int .u8 x] w fun e w' => e = .returned (.bool (blankI x)) ∧ w = w' := by
  by_cases a : x = 32
  · have a1 : (x == 32) = true := by rw [beq_iff_eq]; exact a
    have HA := Lib.hid a
    clear a
    go_enter Tryz.func90, Tryz.ntmps90
    go_wp2_with fail
    go_ret
    exact ⟨by simp [blankI, HA.out], rfl⟩
  · have a1 : (x == 32) = false := by rw [beq_eq_false_iff_ne]; exact a
    by_cases b : x = 9
    · have b1 : (x == 9) = true := by rw [beq_iff_eq]; exact b
      have HA := Lib.hid b
      clear a b
      go_enter Tryz.func90, Tryz.ntmps90
      go_wp2_with fail
      go_ret
      exact ⟨by simp [blankI, HA.out], rfl⟩
    · have b1 : (x == 9) = false := by rw [beq_eq_false_iff_ne]; exact b
      have HA := Lib.hid a
      have HB := Lib.hid b
      clear a b
      go_enter Tryz.func90, Tryz.ntmps90
      go_wp2_with fail
      go_ret
      exact ⟨by simp [blankI, HA.out, HB.out], rfl⟩
/-- A text's byte, as a number. -/
def byI (s : ByteArray) (k : Nat) : Int := (bl s).getD k 0
theorem byI_at (s : ByteArray) (k : Nat) (h : k < s.size) : ((s[k]'h).toNat : Int) = byI s k := by
  unfold byI
  have h2 : k < s.data.toList.length := h
  rw [List.getD_eq_getElem?_getD, bl, List.getElem?_map, List.getElem?_eq_getElem h2]
  simp
  rfl
theorem byI_range (s : ByteArray) (k : Nat) : 0 ≤ byI s k ∧ byI s k ≤ 255 := bl_range s k
theorem all_by (s : ByteArray) (p : Int → Bool) : (∀ k, k < s.size → p (byI s k) = true) ↔ s.data.toList.all (fun b => p (b.toNat : Int)) = true := by
  rw [List.all_eq_true]
  constructor
  · intro h b hb
    obtain ⟨k, hk, rfl⟩ := List.getElem_of_mem hb
    have hk' : k < s.size := hk
    have := h k hk'
    rw [← byI_at s k hk'] at this
    exact this
  · intro h k hk
    rw [← byI_at s k hk]
    exact h _ (List.getElem_mem (l := s.data.toList) hk)
theorem not_all_by (s : ByteArray) (p : Int → Bool) (k : Nat) (hk : k < s.size) (h : p (byI s k) = false) : s.data.toList.all (fun b => p (b.toNat : Int)) = false := by
  rw [Bool.eq_false_iff]
  intro e
  rw [(all_by s p).2 e k hk] at h
  cases h
def hasB (s : ByteArray) (b : Int) : Bool := s.data.toList.any fun c => decide ((c.toNat : Int) = b)
theorem hasB_not (s : ByteArray) (b : Int) : hasB s b = !(s.data.toList.all fun c => decide ((c.toNat : Int) ≠ b)) := by
  unfold hasB
  generalize s.data.toList = l
  induction l with
  | nil => rfl
  | cons a l ih =>
    rw [List.any_cons, List.all_cons, ih]
    by_cases h : (a.toNat : Int) = b <;> simp [h]
set_option maxRecDepth 100000 in
set_option maxHeartbeats 1000000 in
theorem one_any (s : ByteArray) (b : Int) (w : World) (hs : s.size ≤ 1073741824) : Calls Tryz.prog 67 #[.string s, .int .u8 b] w fun e w' => e = .returned (.bool (hasB s b)) ∧ w = w' := by
  rw [hasB_not]
  have hall := all_by s (fun x => decide (x ≠ b))
  have hnall := not_all_by s (fun x => decide (x ≠ b))
  have HA := Lib.hid hall
  have HN := Lib.hid hnall
  clear hall hnall
  generalize (s.data.toList.all fun c => decide ((c.toNat : Int) ≠ b)) = R at *
  go_enter Tryz.func67, Tryz.ntmps67
  go_wp2_with fail
  go_loop [5] (fun v => ∃ k : Nat, v = .int .i64 k ∧ k ≤ s.size ∧ Hid (∀ j, j < k → decide (byI s j ≠ b) = true)) (fun v => s.size - (intOf v).toNat)
  case atStart => exact ⟨0, rfl, by omega, Lib.hid (fun j hj => by omega)⟩
  case round =>
    obtain ⟨k, rfl, hk, hI⟩ := hrel
    by_cases hlt : k < s.size
    · have hx := byI_at s k hlt
      by_cases he : byI s k = b
      · have HE := Lib.hid (HN.out k hlt (by simpa using he))
        have hb1 : (byI s k == b) = true := by rw [beq_iff_eq]; exact he
        clear he
        generalize byI s k = x at *
        go_wp2_with fail
        go_ret
        rw [HE.out]
        exact ⟨rfl, rfl⟩
      · have HE := Lib.hid (show ∀ j, j < k + 1 → decide (byI s j ≠ b) = true from fun j hj => by
          by_cases e : j = k
          · rw [e]; simpa using he
          · exact hI.out j (by omega))
        have hb1 : (byI s k == b) = false := by rw [beq_eq_false_iff_ne]; exact he
        clear he
        generalize byI s k = x at *
        go_wp2_with fail
        go_round
        case rel => exact ⟨k + 1, by go_num, by omega, HE⟩
        case measure => simp [intOf]; omega
    · have HR := Lib.hid (HA.out.1 (fun j hj => hI.out j (by omega)))
      go_wp2_with fail
      go_ret
      rw [HR.out]
      exact ⟨rfl, rfl⟩
/-! Tokens, targets. -/
def tokI (x : Int) : Bool := ltrI x || digI x || hasB tokS x
theorem tokI_tok (b : UInt8) : (decide (b.toNat < 128) && tokR b.toNat) = tokI (b.toNat : Int) := by
  have key : ∀ i : Fin 256, (decide (i.val < 128) && tokR i.val) = tokI (i.val : Int) := by decide +kernel
  exact key ⟨b.toNat, b.toNat_lt⟩
theorem token_all (s : ByteArray) : tokenB s = (!s.toList.isEmpty && s.data.toList.all fun b => tokI (b.toNat : Int)) := by
  unfold tokenB allB
  congr 1
  exact all_if _ _ _ tokI_tok
def tgtI (x : Int) : Bool := !(decide (x < 33) || decide (126 < x))
theorem tgtI_tgt (b : UInt8) : (decide (b.toNat < 128) && !tgtR b.toNat) = tgtI (b.toNat : Int) := by
  have key : ∀ i : Fin 256, (decide (i.val < 128) && !tgtR i.val) = tgtI (i.val : Int) := by decide +kernel
  exact key ⟨b.toNat, b.toNat_lt⟩
theorem target_all (s : ByteArray) : targetB s = (!s.toList.isEmpty && s.data.toList.all fun b => tgtI (b.toNat : Int)) := by
  unfold targetB allB
  congr 1
  exact all_if _ _ _ tgtI_tgt
set_option maxRecDepth 100000 in
set_option maxHeartbeats 2000000 in
theorem rtoken_any (s : ByteArray) (w : World) (hs : s.size ≤ 1073741824) : Calls Tryz.prog 32 #[.string s] w fun e w' => e = .returned (.bool (tokenB s)) ∧ w = w' := by
  rw [token_all]
  have hall := all_by s tokI
  have hnall := not_all_by s tokI
  have HA := Lib.hid hall
  have HN := Lib.hid hnall
  have hone := fun x W => one_any tokS x W (by decide)
  unfold tokS at hone
  clear hall hnall
  generalize (s.data.toList.all fun b => tokI (b.toNat : Int)) = R at *
  go_enter Tryz.func32, Tryz.ntmps32
  go_wp2_with fail
  go_loop [3] (fun v => ∃ k : Nat, v = .int .i64 k ∧ k ≤ s.size ∧ Hid (∀ j, j < k → tokI (byI s j) = true)) (fun v => s.size - (intOf v).toNat)
  case atStart => exact ⟨0, rfl, by omega, Lib.hid (fun j hj => by omega)⟩
  case round =>
    obtain ⟨k, rfl, hk, hI⟩ := hrel
    by_cases hlt : k < s.size
    · have hx := byI_at s k hlt
      have HE := Lib.hid (fun h => HN.out k hlt h)
      have HE2 := Lib.hid (show tokI (byI s k) = true → ∀ j, j < k + 1 → tokI (byI s j) = true from fun he j hj => by
          by_cases e : j = k
          · rw [e]; exact he
          · exact hI.out j (by omega))
      have HT := Lib.hid (show tokI (byI s k) = (ltrI (byI s k) || digI (byI s k) || hasB ⟨#[33, 35, 36, 37, 38, 39, 42, 43, 45, 46, 94, 95, 96, 124, 126]⟩ (byI s k)) from rfl)
      have hl1 := fun W => letter_any (byI s k) W
      have hd1 := fun W => digit_any (byI s k) W
      have ho1 := fun W => hone (byI s k) W
      clear hone
      generalize tokI (byI s k) = tk at *
      generalize byI s k = x at *
      generalize ltrI x = b1 at *
      generalize digI x = b2 at *
      generalize hasB ⟨#[33, 35, 36, 37, 38, 39, 42, 43, 45, 46, 94, 95, 96, 124, 126]⟩ x = b3 at *
      cases b1
      · cases b2
        · cases b3
          · go_wp2_with (first | (go_at_call 66; refine (hl1 _).mono ?_; rintro e w1 ⟨rfl, rfl⟩) | (go_at_call 47; refine (hd1 _).mono ?_; rintro e w2 ⟨rfl, rfl⟩) | (go_at_call 67; refine (ho1 _).mono ?_; rintro e w3 ⟨rfl, rfl⟩))
            go_ret
            rw [HE.out HT.out]
            exact ⟨by simp, rfl⟩
          · go_wp2_with (first | (go_at_call 66; refine (hl1 _).mono ?_; rintro e w1 ⟨rfl, rfl⟩) | (go_at_call 47; refine (hd1 _).mono ?_; rintro e w2 ⟨rfl, rfl⟩) | (go_at_call 67; refine (ho1 _).mono ?_; rintro e w3 ⟨rfl, rfl⟩))
            go_round
            case rel => exact ⟨k + 1, by go_num, by omega, Lib.hid (HE2.out HT.out)⟩
            case measure => simp [intOf]; omega
        · go_wp2_with (first | (go_at_call 66; refine (hl1 _).mono ?_; rintro e w1 ⟨rfl, rfl⟩) | (go_at_call 47; refine (hd1 _).mono ?_; rintro e w2 ⟨rfl, rfl⟩))
          go_round
          case rel => exact ⟨k + 1, by go_num, by omega, Lib.hid (HE2.out (by rw [HT.out]; simp))⟩
          case measure => simp [intOf]; omega
      · go_wp2_with (first | (go_at_call 66; refine (hl1 _).mono ?_; rintro e w1 ⟨rfl, rfl⟩))
        go_round
        case rel => exact ⟨k + 1, by go_num, by omega, Lib.hid (HE2.out (by rw [HT.out]; simp))⟩
        case measure => simp [intOf]; omega
    · have HR := Lib.hid (HA.out.1 (fun j hj => hI.out j (by omega)))
      go_wp2_with fail
      go_ret
      rw [HR.out]
      exact ⟨by simp, rfl⟩
set_option maxRecDepth 100000 in
set_option maxHeartbeats 2000000 in
theorem rtarget_any (s : ByteArray) (w : World) (hs : s.size ≤ 1073741824) : Calls Tryz.prog 33 #[.string s] w fun e w' => e = .returned (.bool (targetB s)) ∧ w = w' := by
  rw [target_all]
  have hall := all_by s tgtI
  have hnall := not_all_by s tgtI
  have HA := Lib.hid hall
  have HN := Lib.hid hnall
  clear hall hnall
  generalize (s.data.toList.all fun b => tgtI (b.toNat : Int)) = R at *
  go_enter Tryz.func33, Tryz.ntmps33
  go_wp2_with fail
  go_loop [3] (fun v => ∃ k : Nat, v = .int .i64 k ∧ k ≤ s.size ∧ Hid (∀ j, j < k → tgtI (byI s j) = true)) (fun v => s.size - (intOf v).toNat)
  case atStart => exact ⟨0, rfl, by omega, Lib.hid (fun j hj => by omega)⟩
  case round =>
    obtain ⟨k, rfl, hk, hI⟩ := hrel
    by_cases hlt : k < s.size
    · have hx := byI_at s k hlt
      have HE := Lib.hid (fun h => HN.out k hlt h)
      have HE2 := Lib.hid (show tgtI (byI s k) = true → ∀ j, j < k + 1 → tgtI (byI s j) = true from fun he j hj => by
          by_cases e : j = k
          · rw [e]; exact he
          · exact hI.out j (by omega))
      have HT := Lib.hid (show tgtI (byI s k) = !(decide (byI s k < 33) || decide (126 < byI s k)) from rfl)
      generalize tgtI (byI s k) = tk at *
      generalize byI s k = x at *
      by_cases h1 : x < 33
      · go_wp2_with fail
        go_ret
        rw [HE.out (by rw [HT.out]; simp [h1])]
        exact ⟨by simp, rfl⟩
      · by_cases h2 : 126 < x
        · go_wp2_with fail
          go_ret
          rw [HE.out (by rw [HT.out]; simp [h2])]
          exact ⟨by simp, rfl⟩
        · go_wp2_with fail
          go_round
          case rel => exact ⟨k + 1, by go_num, by omega, Lib.hid (HE2.out (by rw [HT.out]; simp; omega))⟩
          case measure => simp [intOf]; omega
    · have HR := Lib.hid (HA.out.1 (fun j hj => hI.out j (by omega)))
      go_wp2_with fail
      go_ret
      rw [HR.out]
      exact ⟨by simp, rfl⟩
end
section
open Go.Sort Go.RowKit Go.Proofs Go.Proofs.YtjbehnalmgcbpaaGreatDoorW.PrintWords Go.Proofs.YtjbehnalmgcbpaaGreatDoor.Bs Go.Proofs.YtjbehnalmgcbpaaGreatDoor.Ir Go.Proofs.YtjbehnalmgcbpaaGreatDoor.Gn

theorem dw_id {p : UInt8 → Bool} {l : List UInt8} : l.dropWhile p = l ↔ ∀ a, l.head? = some a → p a = false := by
  cases l with
  | nil => simp
  | cons b l =>
    constructor
    · intro h a ha
      have hb : b = a := by simpa using ha
      rw [← hb]
      cases hp : p b with
      | false => rfl
      | true =>
        rw [List.dropWhile_cons_of_pos hp] at h
        have := (List.dropWhile_sublist (p := p) (l := l)).length_le
        rw [h] at this
        simp at this
        omega
    · intro h
      rw [List.dropWhile_cons_of_neg (by rw [h b rfl]; simp)]
theorem trim_id {l cs : List UInt8} : Lib.trimS l cs = l ↔ (∀ a, l.head? = some a → cs.contains a = false) ∧ (∀ a, l.getLast? = some a → cs.contains a = false) := by
  unfold Lib.trimS Lib.trimLeftS Lib.trimRightS
  constructor
  · intro h
    obtain ⟨h1, h2⟩ := trim_fix h
    refine ⟨dw_id.1 h2, ?_⟩
    have := dw_id.1 h1
    rw [List.head?_reverse] at this
    exact this
  · rintro ⟨h1, h2⟩
    have e : l.reverse.dropWhile (fun x => cs.contains x) = l.reverse := dw_id.2 (by rw [List.head?_reverse]; exact h2)
    rw [e, List.reverse_reverse]
    exact dw_id.2 h1
def valI (x : Int) : Bool := !((decide (x < 32) && decide (x ≠ 9)) || decide (x = 127))
theorem valI_val (b : UInt8) : (!valR b.toNat) = valI (b.toNat : Int) := by
  have key : ∀ i : Fin 256, (!valR i.val) = valI (i.val : Int) := by decide +kernel
  exact key ⟨b.toNat, b.toNat_lt⟩
theorem blank_b (b : UInt8) : ([32, 9] : List UInt8).contains b = blankI (b.toNat : Int) := by
  have key : ∀ i : Fin 256, ([32, 9] : List UInt8).contains (UInt8.ofNat i.val) = blankI (i.val : Int) := by decide +kernel
  have := key ⟨b.toNat, b.toNat_lt⟩
  simpa using this
theorem value_all (s : ByteArray) : valueB s = ((s.data.toList.all fun b => valI (b.toNat : Int)) && (s.toList.isEmpty || (!blankI (byI s 0) && !blankI (byI s (s.size - 1))))) := by
  unfold valueB allB
  congr 1
  · exact all_if _ _ _ valI_val
  · rw [Bool.eq_iff_iff, beq_iff_eq, ByteArray.toList_eq, ByteArray.toList_eq]
    show Lib.trimS s.data.toList [32, 9] = s.data.toList ↔ _
    rw [trim_id]
    have hsz : s.data.toList.length = s.size := rfl
    by_cases h0 : s.size = 0
    · have : s.data.toList = [] := List.eq_nil_of_length_eq_zero h0
      rw [this]
      simp
    · have hh : s.data.toList.head? = some s[0] := by
        rw [List.head?_eq_getElem?, List.getElem?_eq_getElem (by rw [hsz]; omega)]
        rfl
      have hl : s.data.toList.getLast? = some (s[s.size - 1]'(by omega)) := by
        rw [List.getLast?_eq_getElem?, List.getElem?_eq_getElem (by rw [hsz]; omega)]
        rfl
      have he : s.data.toList.isEmpty = false := by rw [List.isEmpty_eq_false_iff]; exact fun e => h0 (by rw [← hsz, e]; rfl)
      rw [hh, hl, he, Bool.false_or, Bool.and_eq_true, ← byI_at s 0 (by omega), ← byI_at s (s.size - 1) (by omega)]
      simp only [Option.some.injEq, Bool.not_eq_true']
      constructor
      · rintro ⟨h1, h2⟩
        rw [← blank_b, ← blank_b]
        exact ⟨h1 _ rfl, h2 _ rfl⟩
      · rintro ⟨h1, h2⟩
        rw [← blank_b] at h1 h2
        exact ⟨fun a ha => by rw [← ha]; exact h1, fun a ha => by rw [← ha]; exact h2⟩
set_option maxRecDepth 100000 in
set_option maxHeartbeats 2000000 in
theorem rvalue_any (s : ByteArray) (w : World) (hs : s.size ≤ 1073741824) : Calls Tryz.prog 69 #[.string s] w fun e w' => e = .returned (.bool (valueB s)) ∧ w = w' := by
  rw [value_all]
  have hall := all_by s valI
  have hnall := not_all_by s valI
  have HA := Lib.hid hall
  have HN := Lib.hid hnall
  have hb0 := fun W => blank_any (byI s 0) W
  have hb1 := fun W => blank_any (byI s (s.size - 1)) W
  clear hall hnall
  generalize (s.data.toList.all fun b => valI (b.toNat : Int)) = R at *
  obtain ⟨V, hV⟩ : ∃ V, V = (R && (s.toList.isEmpty || (!blankI (byI s 0) && !blankI (byI s (s.size - 1))))) := ⟨_, rfl⟩
  rw [← hV]
  have HV := Lib.hid hV
  clear hV
  go_enter Tryz.func69, Tryz.ntmps69
  go_wp2_with fail
  go_loop [3] (fun v => ∃ k : Nat, v = .int .i64 k ∧ k ≤ s.size ∧ Hid (∀ j, j < k → valI (byI s j) = true)) (fun v => s.size - (intOf v).toNat)
  case atStart => exact ⟨0, rfl, by omega, Lib.hid (fun j hj => by omega)⟩
  case round =>
    obtain ⟨k, rfl, hk, hI⟩ := hrel
    by_cases hlt : k < s.size
    · have hx := byI_at s k hlt
      have HE := Lib.hid (fun h => HN.out k hlt h)
      have HE2 := Lib.hid (show valI (byI s k) = true → ∀ j, j < k + 1 → valI (byI s j) = true from fun he j hj => by
          by_cases e : j = k
          · rw [e]; exact he
          · exact hI.out j (by omega))
      have HT := Lib.hid (show valI (byI s k) = !((decide (byI s k < 32) && decide (byI s k ≠ 9)) || decide (byI s k = 127)) from rfl)
      clear hb0 hb1
      generalize valI (byI s k) = tk at *
      generalize byI s k = x at *
      by_cases h1 : x < 32
      · by_cases h2 : x = 9
        · have b2 : (x != 9) = false := by rw [bne_eq_false_iff_eq]; exact h2
          have b3 : (x == 127) = false := by rw [beq_eq_false_iff_ne]; omega
          have HE3 := Lib.hid (HE2.out (by rw [HT.out]; simp [h2]))
          clear h2
          go_wp2_with fail
          go_round
          case rel => exact ⟨k + 1, by go_num, by omega, HE3⟩
          case measure => simp [intOf]; omega
        · have b2 : (x != 9) = true := by rw [bne_iff_ne]; exact h2
          have HE3 := Lib.hid (HE.out (by rw [HT.out]; simp [h1, h2]))
          clear h2
          go_wp2_with fail
          go_ret
          rw [HV.out, HE3.out]
          exact ⟨by simp, rfl⟩
      · by_cases h2 : x = 127
        · have b3 : (x == 127) = true := by rw [beq_iff_eq]; exact h2
          have HE3 := Lib.hid (HE.out (by rw [HT.out]; simp [h2]))
          clear h2
          go_wp2_with fail
          go_ret
          rw [HV.out, HE3.out]
          exact ⟨by simp, rfl⟩
        · have b3 : (x == 127) = false := by rw [beq_eq_false_iff_ne]; exact h2
          have HE3 := Lib.hid (HE2.out (by rw [HT.out]; simp [h1, h2]))
          clear h2
          go_wp2_with fail
          go_round
          case rel => exact ⟨k + 1, by go_num, by omega, HE3⟩
          case measure => simp [intOf]; omega
    · have HR := Lib.hid (HA.out.1 (fun j hj => hI.out j (by omega)))
      clear hI
      by_cases h0 : s.size = 0
      · have hse : s = ⟨#[]⟩ := ByteArray.size_eq_zero_iff.1 h0
        clear hb0 hb1
        subst hse
        go_wp2_with fail
        go_ret
        rw [HV.out, HR.out]
        exact ⟨by simp, rfl⟩
      · have hemp : s.toList.isEmpty = false := by
          rw [ByteArray.toList_eq, List.isEmpty_eq_false_iff]
          intro e
          refine h0 ?_
          show s.data.toList.length = 0
          rw [e]
          rfl
        have hx0 := byI_at s 0 (by omega)
        have hxl := byI_at s (s.size - 1) (by omega)
        have hp0 : 0 < s.size := by omega
        have hp1 : s.size - 1 < s.size := by omega
        have hp2 : (1 : Int) ≤ (s.size : Int) := by omega
        have hc : (s.size : Int) - 1 = ((s.size - 1 : Nat) : Int) := by omega
        have hc2 : ((s.size : Int) - 1).toNat = s.size - 1 := by omega
        have hc3 : (s.size : Int) - 1 < (s.size : Int) := by omega
        generalize byI s 0 = x at *
        generalize byI s (s.size - 1) = y at *
        generalize blankI x = c0 at *
        generalize blankI y = c1 at *
        cases c0
        · go_wp2_with (first | (go_at_call 90; (with_reducible refine (hb0 _).mono ?_); rintro e w1 ⟨rfl, rfl⟩) | (go_at_call 90; (with_reducible refine (hb1 _).mono ?_); rintro e w1 ⟨rfl, rfl⟩))
          go_ret
          rw [HV.out, HR.out]
          exact ⟨by simp [hemp], rfl⟩
        · go_wp2_with (first | (go_at_call 90; (with_reducible refine (hb0 _).mono ?_); rintro e w1 ⟨rfl, rfl⟩) | (go_at_call 90; (with_reducible refine (hb1 _).mono ?_); rintro e w1 ⟨rfl, rfl⟩))
          go_ret
          rw [HV.out, HR.out]
          exact ⟨by simp [hemp], rfl⟩
/-! low -/
def lowJ (x : Int) : Int := if 65 ≤ x ∧ x ≤ 90 then x + 32 else x
theorem lowJ_up {x : Int} (h : 65 ≤ x) (h' : x ≤ 90) : lowJ x = x + 32 := if_pos ⟨h, h'⟩
theorem lowJ_no {x : Int} (h : ¬ (65 ≤ x ∧ x ≤ 90)) : lowJ x = x := if_neg h
theorem lowJ_small (s : ByteArray) : strOfNums ((bl s).map lowJ) = smallB s := by
  unfold smallB
  congr 1
  apply List.map_congr_left
  intro x hx
  unfold bl at hx
  obtain ⟨b, _, rfl⟩ := List.mem_map.1 hx
  have key : ∀ i : Fin 256, lowJ (i.val : Int) = lowI (i.val : Int) := by decide +kernel
  exact key ⟨b.toNat, b.toNat_lt⟩
set_option maxRecDepth 100000 in
set_option maxHeartbeats 2000000 in
theorem low_any (s : ByteArray) (w : World) (hs : s.size ≤ 1073741824) :
    Calls Tryz.prog 48 #[.string s] w fun e w' => e = .returned (.string (smallB s)) ∧ Below w.heap.size w w' := by
  rw [← lowJ_small]
  have hcv := Lib.run_convert_string_bytes (P := Tryz.prog) w 9 42 5 s Tu_string Tu_bytes Tu_byte
  have hrow := Row.bytes w 5 s
  have hbel := below_bytes w 5 s
  go_enter Tryz.func48, Tryz.ntmps48
  go_wp2
  generalize Lib.bytesWorld w 5 s = W1 at *
  clear hcv
  have hbr := bl_range s
  have hbl := bl_length s
  go_loopw [9] (fun i wr => ∃ k : Nat, k ≤ s.size ∧ i = .int .i64 k ∧ Row wr w.heap.size 5 ((mid lowJ (bl s) k).map (Value.int .u8)) ∧ Below w.heap.size w wr) (fun i _ => s.size - (intOf i).toNat)
  case atStart => exact ⟨0, Nat.zero_le _, rfl, by rw [mid_zero, bl, List.map_map]; exact hrow, hbel⟩
  case round =>
    obtain ⟨k, hk, rfl, hr, hb⟩ := hrel
    by_cases hlt : k < s.size
    · have hlt' : k < (bl s).length := by omega
      have hcell : wr.cell? ⟨w.heap.size, k, none⟩ = some (.int .u8 ((bl s).getD k 0)) := by
        rw [hr.cell (by rw [List.length_map, mid_length]; omega), List.getElem?_map, mid_get _ _ _ hlt']; rfl
      have hfr : wr.frozen? ⟨w.heap.size, k, none⟩ = false := hr.frozen (by rw [List.length_map, mid_length]; omega)
      have hset := hr.set k (.int .u8 ((bl s).getD k 0 + 32))
      obtain ⟨h0, h255⟩ := hbr k
      have HS := Lib.hid (mid_step lowJ (bl s) k hlt')
      have HM := Lib.hid (mid_same lowJ (bl s) k hlt')
      generalize (bl s).getD k 0 = x at *
      clear hbr hrow hbel
      by_cases h65 : 65 ≤ x
      · by_cases h90 : x ≤ 90
        · go_wp2
          go_roundw
          case rel => exact ⟨k + 1, by omega, by go_num, by rw [← HS.out, List.map_set, lowJ_up h65 h90]; exact hset, hb.setCell (Nat.le_refl _) _⟩
          case measure => simp [intOf]; omega
        · go_wp2
          go_roundw
          case rel => exact ⟨k + 1, by omega, by go_num, by rw [HM.out (lowJ_no (by omega))]; exact hr, hb⟩
          case measure => simp [intOf]; omega
      · go_wp2
        go_roundw
        case rel => exact ⟨k + 1, by omega, by go_num, by rw [HM.out (lowJ_no (by omega))]; exact hr, hb⟩
        case measure => simp [intOf]; omega
    · have e : k = (bl s).length := by omega
      have hcells : ∀ i, i < s.size → wr.cell? ⟨w.heap.size, 0 + i, none⟩ = some (.int .u8 (((bl s).map lowJ).getD i 0)) := by
        intro i hi
        rw [e, mid_all] at hr
        rw [Nat.zero_add, hr.cell (by simp; omega), List.getElem?_map, List.getD_eq_getElem?_getD, List.getElem?_eq_getElem (by simp; omega)]
        rfl
      have hcv := run_convert_bytes_arg (P := Tryz.prog) wr 42 5 Tu_bytes Tu_byte w.heap.size 0 s.size (grownCap w s.size 0 5) ((bl s).map lowJ) (by simp [hbl]) hcells 9 Tu_string
      clear hcells hbr hrow hbel hr e
      go_wp2
      go_ret
      exact ⟨rfl, hb⟩
theorem names_low : (smallB lenS).toList = [99, 111, 110, 116, 101, 110, 116, 45, 108, 101, 110, 103, 116, 104] ∧ (smallB codS).toList = [116, 114, 97, 110, 115, 102, 101, 114, 45, 101, 110, 99, 111, 100, 105, 110, 103] := by
  rw [ByteArray.toList_eq, ByteArray.toList_eq]
  exact ⟨by kernel_rfl, by kernel_rfl⟩
set_option maxRecDepth 100000 in
set_option maxHeartbeats 1000000 in
theorem rframing_any (s : ByteArray) (w : World) (hs : s.size ≤ 1073741824) :
    Calls Tryz.prog 68 #[.string s] w fun e w' => e = .returned (.bool (framingB s)) ∧ Below w.heap.size w w' := by
  have hl := fun W => low_any s W hs
  unfold framingB calledB
  rw [names_low.1, names_low.2]
  generalize smallB s = x at *
  cases h1 : x.toList == [99, 111, 110, 116, 101, 110, 116, 45, 108, 101, 110, 103, 116, 104]
  · have hs2 : ∀ b : Bool, (false || b) = b := Bool.false_or
    go_enter Tryz.func68, Tryz.ntmps68
    go_wp2_with (go_at_call 48; refine (hl _).mono ?_; rintro e w1 ⟨rfl, hb1⟩)
    go_ret
    exact ⟨by simp, (by repeat (first | assumption | exact Below.refl _ _ | apply below_drew | apply pw_below_drewN | apply below_alloc | (refine below_via (by assumption) ?_)))⟩
  · go_enter Tryz.func68, Tryz.ntmps68
    go_wp2_with (go_at_call 48; refine (hl _).mono ?_; rintro e w1 ⟨rfl, hb1⟩)
    go_ret
    exact ⟨by simp, (by repeat (first | assumption | exact Below.refl _ _ | apply below_drew | apply pw_below_drewN | apply below_alloc | (refine below_via (by assumption) ?_)))⟩
end
end Go.Proofs.YtjbehnalmgcbpaaGreatDoor.Ht
