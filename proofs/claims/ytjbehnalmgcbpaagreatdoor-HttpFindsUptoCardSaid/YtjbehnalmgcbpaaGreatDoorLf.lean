/- HttpFinds: the walk. -/
import Derived.Test.YtjbehnalmgcbpaaGreatDoorLk
import Derived.Test.YtjbehnalmgcbpaaGreatDoorFi
set_option linter.unusedVariables false
set_option linter.unusedSimpArgs false
namespace Go.Proofs.YtjbehnalmgcbpaaGreatDoor.Ht
open Go.Sort Go.RowKit Go.Proofs Go.Proofs.YtjbehnalmgcbpaaGreatDoorW.PrintWords Go.Proofs.YtjbehnalmgcbpaaGreatDoor.Bs Go.Proofs.YtjbehnalmgcbpaaGreatDoor.Ir Go.Proofs.YtjbehnalmgcbpaaGreatDoor.Gn

def upI (x : Int) : Int := if 97 ≤ x ∧ x ≤ 122 then x - 32 else x
def upB (s : ByteArray) : ByteArray := strOfNums ((bl s).map upI)
theorem upI_up {x : Int} (h : 97 ≤ x) (h' : x ≤ 122) : upI x = x - 32 := if_pos ⟨h, h'⟩
theorem upI_no {x : Int} (h : ¬ (97 ≤ x ∧ x ≤ 122)) : upI x = x := if_neg h
theorem small_l (s : ByteArray) : (smallB s).data.toList = s.data.toList.map fun b => UInt8.ofNat (lowI (b.toNat : Int)).toNat := by
  show ((bl s).map lowI).map _ = _
  unfold bl
  rw [List.map_map, List.map_map]
  rfl
theorem up_l (s : ByteArray) : (upB s).data.toList = s.data.toList.map fun b => UInt8.ofNat (upI (b.toNat : Int)).toNat := by
  show ((bl s).map upI).map _ = _
  unfold bl
  rw [List.map_map, List.map_map]
  rfl
theorem small_up (s : ByteArray) : smallB (upB s) = smallB s := by
  apply ByteArray.ext
  apply Array.ext'
  rw [small_l, small_l, up_l, List.map_map]
  apply List.map_congr_left
  intro b _
  have key : ∀ i : Fin 256, UInt8.ofNat (lowI ((UInt8.ofNat (upI (i.val : Int)).toNat).toNat : Int)).toNat = UInt8.ofNat (lowI (i.val : Int)).toNat := by decide +kernel
  exact key ⟨b.toNat, b.toNat_lt⟩
theorem find_up (l : List Head) (s : ByteArray) : findH l (upB s) = findH l s := by
  have : calledH (upB s) = calledH s := by
    funext h
    unfold calledH calledB
    rw [small_up]
  unfold findH
  rw [this]
theorem find_shape (l : List Head) (name : ByteArray) : ∃ v b, findH l name = .tuple #[.string v, .bool b] ∧ (b = false → v = ⟨#[]⟩) := by
  unfold findH
  cases l.find? (calledH name) with
  | none => exact ⟨_, _, rfl, fun _ => rfl⟩
  | some h => exact ⟨_, _, rfl, fun e => by cases e⟩
set_option maxRecDepth 100000 in
set_option maxHeartbeats 8000000 in
theorem httpFinds_any (m t b : ByteArray) (A : Option Addr) (c : Nat) (l : List Head) (name : ByteArray) (w : World) (G : Gnd w)
    (zm : m.size ≤ 1048576) (zt : t.size ≤ 1048576) (zl : l.length ≤ 1048576) (zn : name.size ≤ 1048576) (hC : Kd.C kH w A l.length l) (hok : ∀ y ∈ l, y.name.size ≤ 1048576 ∧ y.value.size ≤ 1048576) :
    Calls Tryz.prog 7 #[.agg #[.string m, .string t, .slice A l.length c, .string b], .string name] w fun e w' => e = .returned (.bool true) ∧ Below w.heap.size w w' := by
  have hlv := fun W (hb : Below w.heap.size w W) => lives_any W (G.below hb)
  have hokH : ∀ h ∈ l, HOk h := fun y hy => ⟨by have := (hok y hy).1; omega, by have := (hok y hy).2; omega⟩
  have hwr := fun W (hb : Below w.heap.size w W) => writeRequest_any m t A c l b W (G.below hb) (by omega) (by omega) (by omega) (Kd.C_below hC hb) hokH
  have hf1 := fun W (hb : Below w.heap.size w W) => find_any A c l name W (by omega) (Kd.C_below hC hb) hokH (by omega)
  have hupz : (upB name).size = name.size := by
    have : (upB name).data.toList.length = name.data.toList.length := by rw [up_l, List.length_map]
    exact this
  have hf2 := fun W (hb : Below w.heap.size w W) => find_any A c l (upB name) W (by omega) (Kd.C_below hC hb) hokH (by omega)
  have hf3 := fun Aq cq W (hCq : Kd.C kH W Aq l.length l) => find_any Aq cq l name W (by omega) hCq hokH (by omega)
  rw [find_up] at hf2
  obtain ⟨fv, fb, hfe, hfx⟩ := find_shape l name
  rw [hfe] at hf1 hf2 hf3
  have HG := Lib.hid G
  unfold writeReq at hwr
  have hse := str_eq fv fv
  rw [decide_eq_true rfl] at hse
  have hse2 : (fv.toList != fv.toList) = false := by rw [bne, hse]; rfl
  have hbr := bl_range name
  have hbl := bl_length name
  have HFX := Lib.hid hfx
  have HBR := Lib.hid hbr
  clear G hC hok hokH hfe hupz hfx hbr
  obtain ⟨w0, hw0⟩ : ∃ w0, w0 = w.alloc (.cells #[.string m, .string t, .slice A l.length c, .string b] 25) := ⟨_, rfl⟩
  have hb0 : Below w.heap.size w w0 := by rw [hw0]; exact below_alloc (Below.refl _ _) _
  have hlv0 := hlv w0 hb0
  have hr0 : ReqAt w.heap.size m t (.slice A l.length c) b w0 := by rw [hw0]; exact heap_alloc_new w _
  have HR0 := Lib.hid hr0
  have HB0 := Lib.hid hb0
  clear hlv hb0 hr0
  go_enter Tryz.func7, Tryz.ntmps7
  go_wp2_with fail
  rw [← hw0]
  clear hw0
  refine hlv0.mono ?_
  rintro e w1 ⟨rfl, hb1⟩
  have hcv := Lib.run_convert_string_bytes (P := Tryz.prog) w1 9 42 5 name Tu_string Tu_bytes Tu_byte
  have hrow := Row.bytes w1 5 name
  have hbel := below_bytes w1 5 name
  go_wp2_with fail
  generalize Lib.bytesWorld w1 5 name = W1 at *
  have HB1 := Lib.hid (below_via hb1 HB0.out)
  have HR1 := Lib.hid (show ReqAt w.heap.size m t (.slice A l.length c) b w1 from (hb1.block _ (blk_lt HR0.out)).trans HR0.out)
  clear hcv hlv0 hb1
  go_loopw [25] (fun i wr => ∃ k : Nat, k ≤ name.size ∧ i = .int .i64 k ∧ Row wr w1.heap.size 5 ((mid upI (bl name) k).map (Value.int .u8)) ∧ Below w1.heap.size w1 wr) (fun i _ => name.size - (intOf i).toNat)
  case atStart => exact ⟨0, Nat.zero_le _, rfl, by rw [mid_zero, bl, List.map_map]; exact hrow, hbel⟩
  case round =>
    obtain ⟨k, hk, rfl, hr, hb⟩ := hrel
    by_cases hlt : k < name.size
    · have hlt' : k < (bl name).length := by omega
      have hcell : wr.cell? ⟨w1.heap.size, k, none⟩ = some (.int .u8 ((bl name).getD k 0)) := by
        rw [hr.cell (by rw [List.length_map, mid_length]; omega), List.getElem?_map, mid_get _ _ _ hlt']; rfl
      have hfr : wr.frozen? ⟨w1.heap.size, k, none⟩ = false := hr.frozen (by rw [List.length_map, mid_length]; omega)
      have hset := hr.set k (.int .u8 ((bl name).getD k 0 - 32))
      obtain ⟨h0, h255⟩ := HBR.out k
      have HS := Lib.hid (mid_step upI (bl name) k hlt')
      have HM := Lib.hid (mid_same upI (bl name) k hlt')
      generalize (bl name).getD k 0 = x at *
      clear hrow hbel
      by_cases h97 : 97 ≤ x
      · by_cases h122 : x ≤ 122
        · go_wp2_with fail
          go_roundw
          case rel => exact ⟨k + 1, by omega, by go_num, by rw [← HS.out, List.map_set, upI_up h97 h122]; exact hset, hb.setCell (Nat.le_refl _) _⟩
          case measure => simp [intOf]; omega
        · go_wp2_with fail
          go_roundw
          case rel => exact ⟨k + 1, by omega, by go_num, by rw [HM.out (upI_no (by omega))]; exact hr, hb⟩
          case measure => simp [intOf]; omega
      · go_wp2_with fail
        go_roundw
        case rel => exact ⟨k + 1, by omega, by go_num, by rw [HM.out (upI_no (by omega))]; exact hr, hb⟩
        case measure => simp [intOf]; omega
    · have e : k = (bl name).length := by omega
      rw [e, mid_all] at hr
      have hcvA : ∀ W2, Below wr.heap.size wr W2 → (convert 42 9 (.slice (some ⟨w1.heap.size, 0, none⟩) name.size (grownCap w1 name.size 0 5))).run Tryz.prog W2 = .ok (.string (upB name)) W2 := by
        intro W2 hW2
        have hr2 := hr.below hW2
        have hcells : ∀ i, i < name.size → W2.cell? ⟨w1.heap.size, 0 + i, none⟩ = some (.int .u8 (((bl name).map upI).getD i 0)) := by
          intro i hi
          rw [Nat.zero_add, hr2.cell (by simp; omega), List.getElem?_map, List.getD_eq_getElem?_getD, List.getElem?_eq_getElem (by simp; omega)]
          rfl
        exact run_convert_bytes_arg (P := Tryz.prog) W2 42 5 Tu_bytes Tu_byte w1.heap.size 0 name.size (grownCap w1 name.size 0 5) ((bl name).map upI) (by simp [hbl]) hcells 9 Tu_string
      have HBr := Lib.hid (HB1.out.trans (hb.mono HB1.out.size))
      have hrq : ReqAt w.heap.size m t (.slice A l.length c) b wr := (hb.block _ (blk_lt HR1.out)).trans HR1.out
      have hzr : w.heap.size < wr.heap.size := blk_lt hrq
      obtain ⟨q0, q1, q2, q3⟩ := blk_cells4 hrq
      have hbw : Below w.heap.size w wr := HBr.out
      clear hr hrow hbel e hb hrq
      cases hq : reqOk m t l b with
      | true =>
        obtain ⟨hri, hfi⟩ := reqOk_right hq
        have hmz := message_size hri hfi
        have hbk := req_back hq ⟨#[]⟩ 65536 (by decide) (by decide)
        rw [if_pos (by have := (rightB_spec hri).2.1; omega), append_empty] at hbk
        rw [if_pos hq] at hwr
        generalize messageB (firstB m t) l b = msg at *
        have c1 := fun W (hb : Below w.heap.size w W) => rr_ok hbk W (HG.out.below hb) (by omega)
        dsimp only at c1
        clear hq hri hfi hbk
        cases fb with
        | false =>
          obtain rfl := HFX.out rfl
          go_wp2_with (first
            | (go_at_call 19; (with_reducible refine (hf1 _ (by repeat (first | assumption | exact Below.refl _ _ | apply below_drew | apply pw_below_drewN | apply below_alloc | (refine below_via (by assumption) ?_)))).mono ?_); rintro e w2 ⟨rfl, hb2⟩; obtain ⟨hbc2, hbf2⟩ := bcell hb2; have hz2 : w.heap.size < w2.heap.size := (by have := hb2.size; omega))
            | (go_at_call 19; (with_reducible refine (hf2 _ (by repeat (first | assumption | exact Below.refl _ _ | apply below_drew | apply pw_below_drewN | apply below_alloc | (refine below_via (by assumption) ?_)))).mono ?_); rintro e w3 ⟨rfl, hb3⟩; obtain ⟨hbc3, hbf3⟩ := bcell hb3; have hz3 : w.heap.size < w3.heap.size := (by have := hb3.size; omega))
            | (go_at_call 14; (with_reducible refine (hwr _ (by repeat (first | assumption | exact Below.refl _ _ | apply below_drew | apply pw_below_drewN | apply below_alloc | (refine below_via (by assumption) ?_)))).mono ?_); rintro e w4 ⟨rfl, hb4⟩)
            | (go_at_call 11; (with_reducible refine (c1 _ (by repeat (first | assumption | exact Below.refl _ _ | apply below_drew | apply pw_below_drewN | apply below_alloc | (refine below_via (by assumption) ?_)))).mono ?_); rintro e w5 ⟨A5, c5, rfl, hC5, hb5⟩)
            | (go_at_call 19; refine (hf3 _ _ _ (Kd.C_below hC5.out (by repeat (first | assumption | exact Below.refl _ _ | apply below_drew | apply pw_below_drewN | apply below_alloc | (refine below_via (by assumption) ?_))))).mono ?_; rintro e w6 ⟨rfl, hb6⟩))
          all_goals (go_ret; exact ⟨rfl, (by repeat (first | assumption | exact Below.refl _ _ | apply below_drew | apply pw_below_drewN | apply below_alloc | (refine below_via (by assumption) ?_)))⟩)
        | true =>
          go_wp2_with (first
            | (go_at_call 19; (with_reducible refine (hf1 _ (by repeat (first | assumption | exact Below.refl _ _ | apply below_drew | apply pw_below_drewN | apply below_alloc | (refine below_via (by assumption) ?_)))).mono ?_); rintro e w2 ⟨rfl, hb2⟩; obtain ⟨hbc2, hbf2⟩ := bcell hb2; have hz2 : w.heap.size < w2.heap.size := (by have := hb2.size; omega))
            | (go_at_call 19; (with_reducible refine (hf2 _ (by repeat (first | assumption | exact Below.refl _ _ | apply below_drew | apply pw_below_drewN | apply below_alloc | (refine below_via (by assumption) ?_)))).mono ?_); rintro e w3 ⟨rfl, hb3⟩; obtain ⟨hbc3, hbf3⟩ := bcell hb3; have hz3 : w.heap.size < w3.heap.size := (by have := hb3.size; omega))
            | (go_at_call 14; (with_reducible refine (hwr _ (by repeat (first | assumption | exact Below.refl _ _ | apply below_drew | apply pw_below_drewN | apply below_alloc | (refine below_via (by assumption) ?_)))).mono ?_); rintro e w4 ⟨rfl, hb4⟩)
            | (go_at_call 11; (with_reducible refine (c1 _ (by repeat (first | assumption | exact Below.refl _ _ | apply below_drew | apply pw_below_drewN | apply below_alloc | (refine below_via (by assumption) ?_)))).mono ?_); rintro e w5 ⟨A5, c5, rfl, hC5, hb5⟩)
            | (go_at_call 19; refine (hf3 _ _ _ (Kd.C_below hC5.out (by repeat (first | assumption | exact Below.refl _ _ | apply below_drew | apply pw_below_drewN | apply below_alloc | (refine below_via (by assumption) ?_))))).mono ?_; rintro e w6 ⟨rfl, hb6⟩))
          all_goals (go_ret; exact ⟨rfl, (by repeat (first | assumption | exact Below.refl _ _ | apply below_drew | apply pw_below_drewN | apply below_alloc | (refine below_via (by assumption) ?_)))⟩)
      | false =>
        rw [if_neg (by rw [hq]; simp)] at hwr
        clear hq hf3
        cases fb with
        | false =>
          obtain rfl := HFX.out rfl
          go_wp2_with (first
            | (go_at_call 19; (with_reducible refine (hf1 _ (by repeat (first | assumption | exact Below.refl _ _ | apply below_drew | apply pw_below_drewN | apply below_alloc | (refine below_via (by assumption) ?_)))).mono ?_); rintro e w2 ⟨rfl, hb2⟩; obtain ⟨hbc2, hbf2⟩ := bcell hb2; have hz2 : w.heap.size < w2.heap.size := (by have := hb2.size; omega))
            | (go_at_call 19; (with_reducible refine (hf2 _ (by repeat (first | assumption | exact Below.refl _ _ | apply below_drew | apply pw_below_drewN | apply below_alloc | (refine below_via (by assumption) ?_)))).mono ?_); rintro e w3 ⟨rfl, hb3⟩; obtain ⟨hbc3, hbf3⟩ := bcell hb3; have hz3 : w.heap.size < w3.heap.size := (by have := hb3.size; omega))
            | (go_at_call 14; (with_reducible refine (hwr _ (by repeat (first | assumption | exact Below.refl _ _ | apply below_drew | apply pw_below_drewN | apply below_alloc | (refine below_via (by assumption) ?_)))).mono ?_); rintro e w4 ⟨rfl, hb4⟩))
          all_goals (go_ret; exact ⟨rfl, (by repeat (first | assumption | exact Below.refl _ _ | apply below_drew | apply pw_below_drewN | apply below_alloc | (refine below_via (by assumption) ?_)))⟩)
        | true =>
          go_wp2_with (first
            | (go_at_call 19; (with_reducible refine (hf1 _ (by repeat (first | assumption | exact Below.refl _ _ | apply below_drew | apply pw_below_drewN | apply below_alloc | (refine below_via (by assumption) ?_)))).mono ?_); rintro e w2 ⟨rfl, hb2⟩; obtain ⟨hbc2, hbf2⟩ := bcell hb2; have hz2 : w.heap.size < w2.heap.size := (by have := hb2.size; omega))
            | (go_at_call 19; (with_reducible refine (hf2 _ (by repeat (first | assumption | exact Below.refl _ _ | apply below_drew | apply pw_below_drewN | apply below_alloc | (refine below_via (by assumption) ?_)))).mono ?_); rintro e w3 ⟨rfl, hb3⟩; obtain ⟨hbc3, hbf3⟩ := bcell hb3; have hz3 : w.heap.size < w3.heap.size := (by have := hb3.size; omega))
            | (go_at_call 14; (with_reducible refine (hwr _ (by repeat (first | assumption | exact Below.refl _ _ | apply below_drew | apply pw_below_drewN | apply below_alloc | (refine below_via (by assumption) ?_)))).mono ?_); rintro e w4 ⟨rfl, hb4⟩))
          all_goals (go_ret; exact ⟨rfl, (by repeat (first | assumption | exact Below.refl _ _ | apply below_drew | apply pw_below_drewN | apply below_alloc | (refine below_via (by assumption) ?_)))⟩)
end Go.Proofs.YtjbehnalmgcbpaaGreatDoor.Ht
