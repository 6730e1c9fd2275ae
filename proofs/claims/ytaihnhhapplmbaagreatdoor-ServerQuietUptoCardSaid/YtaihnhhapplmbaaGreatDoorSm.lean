/- Package http: must, small. -/
import Derived.Test.YtaihnhhapplmbaaGreatDoorProg
import Derived.Test.YtaihnhhapplmbaaGreatDoorBs
set_option linter.unusedVariables false
set_option linter.unusedSimpArgs false
namespace Go.Proofs.YtaihnhhapplmbaaGreatDoor.Ht
open Go.RowKit Go.Proofs Go.Proofs.YtaihnhhapplmbaaGreatDoorW.PrintWords Go.Proofs.YtaihnhhapplmbaaGreatDoor.Bs

theorem must_ok (why : Int) (w : World) : Calls Tryz.prog 33 #[.bool true, .int .i64 why] w fun e w' => e = .returned (.tuple #[]) ∧ w = w' := by
  go_enter Tryz.func33, Tryz.ntmps33
  go_wp2
  go_end0
  exact ⟨rfl, rfl⟩
theorem must_no (why : Int) (w : World) : Calls Tryz.prog 33 #[.bool false, .int .i64 why] w fun e w' => e = .panicked [{ v := .iface 28 (.int .i64 why), recovered := false }] ∧ w = w' := by
  go_enter Tryz.func33, Tryz.ntmps33
  go_wp2
  exact ⟨rfl, rfl, rfl⟩

def lowI (x : Int) : Int := if 65 ≤ x ∧ x ≤ 90 then bits .or .u8 x 32 else x
def smallB (s : ByteArray) : ByteArray := strOfNums ((bl s).map lowI)
theorem lowI_up {x : Int} (h : 65 ≤ x) (h' : x ≤ 90) : lowI x = bits .or .u8 x 32 := if_pos ⟨h, h'⟩
theorem lowI_no {x : Int} (h : ¬ (65 ≤ x ∧ x ≤ 90)) : lowI x = x := if_neg h

theorem Tu_string : Tryz.prog.underlying 9 = some .string := by kernel_rfl
theorem Tu_bytes : Tryz.prog.underlying 113 = some (.slice 5) := by kernel_rfl
theorem Tu_byte : Tryz.prog.underlying 5 = some (.int .u8) := by kernel_rfl

set_option maxRecDepth 100000 in
set_option maxHeartbeats 800000 in
theorem small_any (s : ByteArray) (w : World) (hs : s.size ≤ 140737488351232) :
    Calls Tryz.prog 60 #[.string s] w fun e w' => e = .returned (.string (smallB s)) ∧ Below w.heap.size w w' := by
  have hcv := Lib.run_convert_string_bytes (P := Tryz.prog) w 9 113 5 s Tu_string Tu_bytes Tu_byte
  have hrow := Row.bytes w 5 s
  have hbel := below_bytes w 5 s
  go_enter Tryz.func60, Tryz.ntmps60
  go_wp2
  generalize Lib.bytesWorld w 5 s = W1 at *
  clear hcv
  have hbr := bl_range s
  have hbl := bl_length s
  go_loopw [10] (fun i wr => ∃ k : Nat, k ≤ s.size ∧ i = .int .i64 k ∧ Row wr w.heap.size 5 ((mid lowI (bl s) k).map (Value.int .u8)) ∧ Below w.heap.size w wr) (fun i _ => s.size - (intOf i).toNat)
  case atStart => exact ⟨0, Nat.zero_le _, rfl, by rw [mid_zero, bl, List.map_map]; exact hrow, hbel⟩
  case round =>
    obtain ⟨k, hk, rfl, hr, hb⟩ := hrel
    by_cases hlt : k < s.size
    · have hlt' : k < (bl s).length := by omega
      have hcell : wr.cell? ⟨w.heap.size, k, none⟩ = some (.int .u8 ((bl s).getD k 0)) := by
        rw [hr.cell (by rw [List.length_map, mid_length]; omega), List.getElem?_map, mid_get _ _ _ hlt']; rfl
      have hfr : wr.frozen? ⟨w.heap.size, k, none⟩ = false := hr.frozen (by rw [List.length_map, mid_length]; omega)
      have hset := hr.set k (.int .u8 (bits .or .u8 ((bl s).getD k 0) 32))
      obtain ⟨h0, h255⟩ := hbr k
      have HS := Lib.hid (mid_step lowI (bl s) k hlt')
      have HM := Lib.hid (mid_same lowI (bl s) k hlt')
      generalize (bl s).getD k 0 = x at *
      clear hbr hrow hbel
      by_cases h65 : 65 ≤ x
      · by_cases h90 : x ≤ 90
        · go_wp2
          go_roundw
          case rel => exact ⟨k + 1, by omega, by go_num, by rw [← HS.out, List.map_set, lowI_up h65 h90]; exact hset, hb.setCell (Nat.le_refl _) _⟩
          case measure => simp [intOf]; omega
        · go_wp2
          go_roundw
          case rel => exact ⟨k + 1, by omega, by go_num, by rw [HM.out (lowI_no (by omega))]; exact hr, hb⟩
          case measure => simp [intOf]; omega
      · go_wp2
        go_roundw
        case rel => exact ⟨k + 1, by omega, by go_num, by rw [HM.out (lowI_no (by omega))]; exact hr, hb⟩
        case measure => simp [intOf]; omega
    · have e : k = (bl s).length := by omega
      have hcells : ∀ i, i < s.size → wr.cell? ⟨w.heap.size, 0 + i, none⟩ = some (.int .u8 (((bl s).map lowI).getD i 0)) := by
        intro i hi
        rw [e, mid_all] at hr
        rw [Nat.zero_add, hr.cell (by simp; omega), List.getElem?_map, List.getD_eq_getElem?_getD, List.getElem?_eq_getElem (by simp; omega)]
        rfl
      have hcv := run_convert_bytes_arg (P := Tryz.prog) wr 113 5 Tu_bytes Tu_byte w.heap.size 0 s.size (grownCap w s.size 0 5) ((bl s).map lowI) (by simp [hbl]) hcells 9 Tu_string
      clear hcells hbr hrow hbel hr e
      go_wp2
      go_ret
      exact ⟨rfl, hb⟩
end Go.Proofs.YtaihnhhapplmbaaGreatDoor.Ht
