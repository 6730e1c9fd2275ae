/- strconv.ParseInt of hexadecimal digits, eight at most. -/
import Derived.Test.YtaihnhhapplmbaaGreatDoorSm
import Derived.Test.YtaihnhhapplmbaaGreatDoorGn
set_option linter.unusedVariables false
set_option linter.unusedSimpArgs false
namespace Go.Proofs.YtaihnhhapplmbaaGreatDoor.Ht
open Go.Sort Go.RowKit Go.Proofs Go.Proofs.YtaihnhhapplmbaaGreatDoorW.PrintWords Go.Proofs.YtaihnhhapplmbaaGreatDoor.Bs Go.Proofs.YtaihnhhapplmbaaGreatDoor.Gn

def hexI (x : Int) : Bool := decide (48 ≤ x ∧ x ≤ 57) || decide (97 ≤ x ∧ x ≤ 102) || decide (65 ≤ x ∧ x ≤ 70)
def hexD (x : Int) : Int := if 48 ≤ x ∧ x ≤ 57 then x - 48 else bits .or .u8 x 32 - 87
def hexN (l : List Int) : Int := l.foldl (fun n x => n * 16 + hexD x) 0
theorem hex_cases (x : Int) (h : hexI x = true) : (48 ≤ x ∧ x ≤ 57) ∨ (¬ (48 ≤ x ∧ x ≤ 57) ∧ 97 ≤ bits .or .u8 x 32 ∧ bits .or .u8 x 32 ≤ 102) := by
  have key : ∀ i : Fin 256, hexI (i.val : Int) = true → (48 ≤ (i.val : Int) ∧ (i.val : Int) ≤ 57) ∨ (¬ (48 ≤ (i.val : Int) ∧ (i.val : Int) ≤ 57) ∧ 97 ≤ bits .or .u8 (i.val : Int) 32 ∧ bits .or .u8 (i.val : Int) 32 ≤ 102) := by decide +kernel
  have hx : 0 ≤ x ∧ x ≤ 255 := by
    simp only [hexI, Bool.or_eq_true, decide_eq_true_eq] at h
    omega
  have := key ⟨x.toNat, by omega⟩
  simp only [Int.toNat_of_nonneg hx.1] at this
  exact this h
theorem hexN_snoc (l : List Int) (k : Nat) (hk : k < l.length) : hexN (l.take (k + 1)) = hexN (l.take k) * 16 + hexD (l.getD k 0) := by
  rw [List.take_succ_eq_append_getElem hk, hexN, List.foldl_append]
  simp [hexN, List.getElem?_eq_getElem hk]
theorem hexD_range (x : Int) (h : hexI x = true) : 0 ≤ hexD x ∧ hexD x ≤ 15 := by
  unfold hexD
  rcases hex_cases x h with h2 | ⟨h2, h3⟩
  · rw [if_pos h2]; omega
  · rw [if_neg h2]; omega
theorem fold_bound (l : List Int) (h : ∀ x ∈ l, hexI x = true) : ∀ n : Int, 0 ≤ n → 0 ≤ l.foldl (fun n x => n * 16 + hexD x) n ∧ l.foldl (fun n x => n * 16 + hexD x) n + 1 ≤ (n + 1) * 16 ^ l.length := by
  induction l with
  | nil => intro n hn; simp; omega
  | cons x l ih =>
    intro n hn
    have hd := hexD_range x (h x (by simp))
    have h1 := ih (fun y hy => h y (by simp [hy])) (n * 16 + hexD x) (by omega)
    refine ⟨h1.1, Int.le_trans h1.2 ?_⟩
    have h3 : (n * 16 + hexD x + 1) * 16 ^ l.length ≤ ((n + 1) * 16) * 16 ^ l.length := Int.mul_le_mul_of_nonneg_right (by omega) (Int.pow_nonneg (by decide))
    rw [List.length_cons, Int.pow_succ]
    have e : (n + 1) * (16 ^ l.length * 16) = (n + 1) * 16 * 16 ^ l.length := by rw [Int.mul_comm (16 ^ l.length) 16, Int.mul_assoc]
    rw [e]
    exact h3
theorem hexN_bound (l : List Int) (h : ∀ x ∈ l, hexI x = true) : 0 ≤ hexN l ∧ hexN l < 16 ^ l.length := by
  have := fold_bound l h 0 (by decide)
  unfold hexN
  omega
theorem hexN_take (l : List Int) (h : ∀ x ∈ l, hexI x = true) (k : Nat) (hk : k ≤ 7) : 0 ≤ hexN (l.take k) ∧ hexN (l.take k) ≤ 268435455 := by
  have h1 := hexN_bound (l.take k) (fun x hx => h x (List.mem_of_mem_take hx))
  have h2 : (16 : Int) ^ (l.take k).length ≤ 16 ^ 7 := (by decide : ∀ m : Fin 8, (16 : Int) ^ m.val ≤ 16 ^ 7) ⟨(l.take k).length, by rw [List.length_take]; omega⟩
  have h3 : (16 : Int) ^ 7 = 268435456 := by decide
  omega
theorem lower_any (x : Int) (w : World) : Calls Tryz.prog 197 #[.int .u8 x] w fun e w' => e = .returned (.int .u8 (bits .or .u8 x 32)) ∧ w = w' := by
  go_enter Tryz.func197, Tryz.ntmps197
  go_wp2
  go_ret
  exact ⟨rfl, rfl⟩

set_option maxRecDepth 100000 in
set_option maxHeartbeats 1000000 in
theorem parseUint_hex (s : ByteArray) (w : World) (h0 : s.size ≠ 0) (h8 : s.size ≤ 8) (hh : ∀ x ∈ bl s, hexI x = true) :
    Calls Tryz.prog 147 #[.string s, .int .i64 16, .int .i64 64] w fun e w' => e = .returned (.tuple #[.int .u64 (hexN (bl s)), .nilIface]) ∧ Below w.heap.size w w' := by
  have hcv := Lib.run_convert_string_bytes (P := Tryz.prog) w 9 113 5 s Tu_string Tu_bytes Tu_byte
  have hrow : Row (Lib.bytesWorld w 5 s) w.heap.size 5 ((bl s).map (Value.int .u8)) := by rw [bl, List.map_map]; exact Row.bytes w 5 s
  have hbel := below_bytes w 5 s
  have hemp : s.toList.isEmpty = false := by
    rw [ByteArray.toList_eq, List.isEmpty_eq_false_iff]
    intro e
    refine h0 ?_
    show s.data.toList.length = 0
    rw [e]
    rfl
  have hmx : IntKind.wrap .u64 (IntKind.wrap .u64 18446744073709551616 - 1) = 18446744073709551615 := by decide
  have HH := Lib.hid hh
  have HL := Lib.hid (bl_length s)
  clear hh
  go_enter Tryz.func147, Tryz.ntmps147
  go_wp2
  generalize Lib.bytesWorld w 5 s = W1 at *
  clear hcv
  go_loopw [12, 13, 101] (fun vu vn vi wr => ∃ k : Nat, k ≤ s.size ∧ vu = .bool false ∧ vi = .int .i64 k ∧ vn = .int .u64 (hexN ((bl s).take k)) ∧ wr = W1) (fun _ _ vi _ => s.size - (intOf vi).toNat)
  case atStart => exact ⟨0, Nat.zero_le _, rfl, rfl, rfl, rfl⟩
  case round =>
    obtain ⟨k, hk, rfl, rfl, rfl, rfl⟩ := hrel
    by_cases hlt : k < s.size
    · have hlt' : k < (bl s).length := by rw [HL.out]; exact hlt
      have hcell : wr.cell? ⟨w.heap.size, k, none⟩ = some (.int .u8 ((bl s).getD k 0)) := by
        rw [hrow.cell (by rw [List.length_map, HL.out]; exact hlt), List.getElem?_map, List.getD_eq_getElem?_getD, List.getElem?_eq_getElem hlt']; rfl
      have hxm : (bl s).getD k 0 ∈ bl s := by
        rw [List.getD_eq_getElem?_getD, List.getElem?_eq_getElem hlt']
        exact List.getElem_mem hlt'
      have hhx := HH.out _ hxm
      have HN := Lib.hid (hexN_snoc (bl s) k hlt')
      obtain ⟨hn0, hn1⟩ := hexN_take (bl s) HH.out k (by omega)
      have HD : Hid (∀ y, y = hexD ((bl s).getD k 0) → hexN ((bl s).take (k + 1)) = hexN ((bl s).take k) * 16 + y) := Lib.hid (fun y hy => by rw [hy]; exact HN.out)
      have hxr := bl_range s k
      unfold hexD at HD
      have hc := hex_cases _ hhx
      have h95 : ¬ (bl s).getD k 0 = 95 := fun e => by rw [e] at hhx; exact absurd hhx (by decide)
      generalize (bl s).getD k 0 = x at *
      have he95 : (x == 95) = false := by rw [beq_eq_false_iff_ne]; exact h95
      clear h95
      generalize hexN ((bl s).take k) = N at *
      clear hhx hxm hlt' HN
      rcases hc with ⟨hx1, hx2⟩ | ⟨hx1, hx2, hx3⟩
      · have HE := Lib.hid (HD.out (x - 48) (by rw [if_pos ⟨hx1, hx2⟩]))
        go_wp2
        go_roundw
        case rel => exact ⟨k + 1, by omega, by first | trivial | rfl, by go_num, by rw [HE.out], by first | trivial | rfl⟩
        case measure => simp [intOf]; omega
      · have HE := Lib.hid (HD.out (bits .or .u8 x 32 - 87) (by rw [if_neg hx1]))
        have hlow := fun W => lower_any x W
        generalize bits .or .u8 x 32 = y at *
        have hn : ¬ (48 ≤ x ∧ x ≤ 57) := hx1
        by_cases h48 : 48 ≤ x
        · have h57 : ¬ x ≤ 57 := by omega
          clear hx1 hn
          go_wp2_with (go_at_call 197; refine (hlow _).mono ?_; rintro e w1 ⟨rfl, rfl⟩)
          go_roundw
          case rel => exact ⟨k + 1, by omega, by first | trivial | rfl, by go_num, by rw [HE.out]; congr 1; omega, by first | trivial | rfl⟩
          case measure => simp [intOf]; omega
        · clear hx1 hn
          go_wp2_with (go_at_call 197; refine (hlow _).mono ?_; rintro e w1 ⟨rfl, rfl⟩)
          go_roundw
          case rel => exact ⟨k + 1, by omega, by first | trivial | rfl, by go_num, by rw [HE.out]; congr 1; omega, by first | trivial | rfl⟩
          case measure => simp [intOf]; omega
    · obtain rfl : k = s.size := by omega
      have HT := Lib.hid (show (bl s).take s.size = bl s from List.take_of_length_le (by rw [HL.out]; exact Nat.le_refl _))
      obtain ⟨N, hN⟩ : ∃ N, N = hexN ((bl s).take s.size) := ⟨_, rfl⟩
      rw [← hN]
      have HN := Lib.hid (hN.trans (by rw [HT.out]))
      clear hN HT hlt hk hrow
      go_wp2
      go_ret2
      exact ⟨by rw [← HN.out]; rfl, hbel⟩

set_option maxRecDepth 100000 in
set_option maxHeartbeats 1000000 in
theorem parseIntI_hex (s : ByteArray) (w : World) (h0 : s.size ≠ 0) (h8 : s.size ≤ 8) (hh : ∀ x ∈ bl s, hexI x = true) :
    Calls Tryz.prog 98 #[.string s, .int .i64 16, .int .i64 64] w fun e w' => e = .returned (.tuple #[.int .i64 (hexN (bl s)), .nilIface]) ∧ Below w.heap.size w w' := by
  have hc := parseUint_hex s w h0 h8 hh
  have hr := hexN_bound (bl s) hh
  have hmx : IntKind.wrap .u64 9223372036854775808 = 9223372036854775808 := by decide
  have hn : 0 ≤ hexN (bl s) ∧ hexN (bl s) ≤ 4294967295 := by
    have h2 := (by decide : ∀ m : Fin 9, (16 : Int) ^ m.val ≤ 16 ^ 8) ⟨(bl s).length, by rw [bl_length]; omega⟩
    have h3 : (16 : Int) ^ 8 = 4294967296 := by decide
    have h4 := hr.2
    simp only at h2
    omega
  obtain ⟨hn0, hn1⟩ := hn
  have h00 : 0 < s.size := by omega
  have hx := hh ((bl s).getD 0 0) (by
    rw [List.getD_eq_getElem?_getD, List.getElem?_eq_getElem (by rw [bl_length]; exact h00)]
    exact List.getElem_mem _)
  have hx0 : ((s[0]'h00).toNat : Int) = (bl s).getD 0 0 := by
    rw [List.getD_eq_getElem?_getD, bl, List.getElem?_map, List.getElem?_eq_getElem (show 0 < s.data.toList.length from h00)]
    simp
    rfl
  have hne : ((s[0]'h00).toNat : Int) ≠ 43 ∧ ((s[0]'h00).toNat : Int) ≠ 45 := by
    rw [hx0]
    simp only [hexI, Bool.or_eq_true, decide_eq_true_eq] at hx
    omega
  have hemp : s.toList.isEmpty = false := by
    rw [ByteArray.toList_eq, List.isEmpty_eq_false_iff]
    intro e
    refine h0 ?_
    show s.data.toList.length = 0
    rw [e]
    rfl
  obtain ⟨hne1, hne2⟩ := hne
  have he1 : (((s[0]'h00).toNat : Int) == 43) = false := by rw [beq_eq_false_iff_ne]; exact hne1
  have he2 : (((s[0]'h00).toNat : Int) == 45) = false := by rw [beq_eq_false_iff_ne]; exact hne2
  clear hr hx hx0 hh hne1 hne2
  generalize hexN (bl s) = N at *
  go_enter Tryz.func98, Tryz.ntmps98
  go_wp2_with (go_at_call 147; refine hc.mono ?_; rintro e w1 ⟨rfl, hb⟩)
  go_ret2
  exact ⟨rfl, (by repeat (first | assumption | exact Below.refl _ _ | apply below_drew | apply pw_below_drewN | apply below_alloc | (refine below_via (by assumption) ?_)))⟩

set_option maxRecDepth 100000 in
theorem parseInt_hex (s : ByteArray) (w : World) (h0 : s.size ≠ 0) (h8 : s.size ≤ 8) (hh : ∀ x ∈ bl s, hexI x = true) :
    Calls Tryz.prog 145 #[.string s, .int .i64 16, .int .i64 64] w fun e w' => e = .returned (.tuple #[.int .i64 (hexN (bl s)), .nilIface]) ∧ Below w.heap.size w w' := by
  have hc := parseIntI_hex s w h0 h8 hh
  generalize hexN (bl s) = N at *
  clear hh
  go_enter Tryz.func145, Tryz.ntmps145
  go_wp2_with (go_at_call 98; refine hc.mono ?_; rintro e w1 ⟨rfl, hb⟩)
  go_ret2
  exact ⟨rfl, (by repeat (first | assumption | exact Below.refl _ _ | apply below_drew | apply pw_below_drewN | apply below_alloc | (refine below_via (by assumption) ?_)))⟩
end Go.Proofs.YtaihnhhapplmbaaGreatDoor.Ht
