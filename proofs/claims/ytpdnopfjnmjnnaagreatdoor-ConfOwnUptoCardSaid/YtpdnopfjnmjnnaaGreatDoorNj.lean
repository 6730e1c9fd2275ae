/- Package conf: plain, word, text; strings.IndexAny and ContainsAny at any text and ASCII signs. -/
import Derived.Test.YtpdnopfjnmjnnaaGreatDoorNa
set_option linter.unusedVariables false
set_option linter.unusedSimpArgs false
namespace Go.Proofs.YtpdnopfjnmjnnaaGreatDoor.Cn
open Go.Sort Go.RowKit Go.Proofs Go.Proofs.YtpdnopfjnmjnnaaGreatDoorW.PrintWords Go.Proofs.YtpdnopfjnmjnnaaGreatDoor.Bs Go.Proofs.YtpdnopfjnmjnnaaGreatDoor.Ir Go.Proofs.YtpdnopfjnmjnnaaGreatDoor.Cz

/-- What the library's variable holds is a number. -/
def Mx (w : World) : Prop := ∃ m : Int, w.cell? ⟨2, 0, none⟩ = some (.int .i64 m)
theorem Mx.below {w w' : World} (h : Mx w) (hb : Below w.heap.size w w') : Mx w' := by
  obtain ⟨m, h⟩ := h
  exact ⟨m, (hb.cell (World.block_lt_of_cell? w _ h)).trans h⟩
theorem Mx.grown {w w' : World} {b : Nat} (h : Mx w) (hg : w.grownBy w' (some b)) (hne : 2 < b) : Mx w' := by
  obtain ⟨m, h⟩ := h
  exact ⟨m, (World.cell?_of_block (hg.block _ (World.block_lt_of_cell? w _ h) (fun e => by have := Option.some.inj e; dsimp only at this; omega))).trans h⟩

def plS : ByteArray := ⟨#[34, 91, 93, 123, 125, 44, 38, 42, 33, 124, 62, 39, 37, 64, 96, 35, 32]⟩
def wdS : ByteArray := ⟨#[34, 91, 93, 123, 125, 44, 38, 42, 33, 124, 62, 39, 37, 64, 96, 32, 58]⟩
theorem wdS_ascii : asciiB wdS := by unfold asciiB; decide
set_option maxRecDepth 100000 in
set_option maxHeartbeats 1000000 in
theorem plain_any (s : ByteArray) (w : World) (hm : Mx w) (hs : s.size ≤ 1073741824) :
    Calls Tryz.prog 40 #[.string s] w fun e w' => e = .returned (.bool (plainL s.data.toList)) ∧ w = w' := by
  obtain ⟨m, hm⟩ := hm
  unfold plainL
  rw [← isEmpty_eq]
  cases he : s.toList.isEmpty
  · have hpos : 0 < s.size := by
      rw [Lib.toList_data, List.isEmpty_eq_false_iff] at he
      exact List.length_pos_iff.2 he
    obtain ⟨n, hn⟩ : ∃ n, s.size = n + 1 := ⟨s.size - 1, by omega⟩
    have hnI : (s.size : Int) - 1 = n := by omega
    have hn1 : n < s.size := by omega
    obtain ⟨x, hx⟩ : ∃ x : UInt8, s[0]'hpos = x := ⟨_, rfl⟩
    obtain ⟨y, hy⟩ : ∃ y : UInt8, s[n]'hn1 = y := ⟨_, rfl⟩
    have hx0 : s.data.toList.headD 0 = x := by
      have := data_at s 0 hpos
      rw [hx] at this
      rw [List.headD_eq_head?_getD, List.head?_eq_getElem?, this]
      rfl
    have hy0 : s.data.toList.getLastD 0 = y := by
      have := data_at s n hn1
      rw [hy] at this
      have hl : s.data.toList.length = n + 1 := hn
      rw [List.getLastD_eq_getLast?, List.getLast?_eq_getElem?, hl, Nat.add_sub_cancel, this]
      rfl
    rw [hx0, hy0]
    have hci := Tryz.strings_IndexByte plS (x.toNat : Int) w
    have hback : ((x.toNat : Int)).toNat.toUInt8 = x := by simp
    rw [hback] at hci
    have hcon := Lib.contains_iff_indexByte plS.data.toList x
    have hcs : Calls Tryz.prog 68 #[.string s, .string ⟨#[32, 35]⟩] w fun e w' => e = .returned (.bool (Lib.contains s.data.toList [32, 35])) ∧ w' = w := Tryz.strings_Contains s ⟨#[32, 35]⟩ m w (by omega) hm
    have hct : Calls Tryz.prog 69 #[.string s, .string ⟨#[]⟩] w fun e w' => e = .returned (.bool (controlL s.data.toList [])) ∧ w = w' := control_any s ⟨#[]⟩ w (by omega)
    have e1 : (spc ++ [35, 32]) = plS.data.toList := rfl
    rw [e1]
    clear hx0 hy0 e1 hback hm
    generalize Lib.contains s.data.toList [32, 35] = b3 at *
    generalize controlL s.data.toList [] = b4 at *
    generalize hi : Lib.indexByte plS.data.toList x = i1 at *
    generalize plS.data.toList.contains x = b1 at *
    unfold plS at hci
    have hxr := x.toNat_lt
    have hyr := y.toNat_lt
    have hlt0 : (0 : Int) ≤ n := by omega
    have hlt1 : (n : Int) < (s.size : Int) := by omega
    have HN := Lib.hid hn
    clear hn hi
    cases b1
    · have hneg : i1 < 0 := by simpa using hcon.symm
      clear hcon
      by_cases h2 : y.toNat = 32
      · have hy32 : (y == 32) = true := by rw [beq_iff_eq]; exact UInt8.toNat_inj.1 h2
        rw [hy32]
        have HY := Lib.hid hy32
        clear hy32
        go_enter Tryz.func40, Tryz.ntmps40
        go_wp2_with (first | (go_at_call 67; refine hci.mono ?_; rintro e w1 ⟨rfl, rfl⟩) | (go_at_call 68; refine hcs.mono ?_; rintro e w1 ⟨rfl, rfl⟩) | (go_at_call 69; refine hct.mono ?_; rintro e w1 ⟨rfl, rfl⟩))
        go_ret
        exact ⟨by simp, rfl⟩
      · have hy32 : (y == 32) = false := by rw [beq_eq_false_iff_ne]; rintro rfl; exact h2 rfl
        have h3 : ((y.toNat : Int) != 32) = true := by rw [bne_iff_ne]; omega
        have h4 : ((y.toNat : Int) == 32) = false := by rw [beq_eq_false_iff_ne]; omega
        rw [hy32]
        have HY := Lib.hid hy32
        clear hy32
        cases b3 <;> cases b4
        all_goals
          go_enter Tryz.func40, Tryz.ntmps40
          go_wp2_with (first | (go_at_call 67; refine hci.mono ?_; rintro e w1 ⟨rfl, rfl⟩) | (go_at_call 68; refine hcs.mono ?_; rintro e w1 ⟨rfl, rfl⟩) | (go_at_call 69; refine hct.mono ?_; rintro e w1 ⟨rfl, rfl⟩))
          go_ret
          exact ⟨by simp, rfl⟩
    · have hneg : 0 ≤ i1 := by simpa using hcon.symm
      clear hcon
      go_enter Tryz.func40, Tryz.ntmps40
      go_wp2_with (first | (go_at_call 67; refine hci.mono ?_; rintro e w1 ⟨rfl, rfl⟩) | (go_at_call 68; refine hcs.mono ?_; rintro e w1 ⟨rfl, rfl⟩) | (go_at_call 69; refine hct.mono ?_; rintro e w1 ⟨rfl, rfl⟩))
      go_ret
      exact ⟨by simp, rfl⟩
  · go_enter Tryz.func40, Tryz.ntmps40
    go_wp2
    go_ret
    exact ⟨by simp, rfl⟩

theorem text_any (s : ByteArray) (w : World) (hs : s.size ≤ 1073741824) :
    Calls Tryz.prog 54 #[.string s] w fun e w' => e = .returned (.bool (textL s.data.toList)) ∧ w = w' := by
  have hct : Calls Tryz.prog 69 #[.string s, .string ⟨#[10, 9]⟩] w fun e w' => e = .returned (.bool (controlL s.data.toList [10, 9])) ∧ w = w' := control_any s ⟨#[10, 9]⟩ w (by omega)
  unfold textL
  generalize controlL s.data.toList [10, 9] = b4 at *
  have el : s.data.toList.length = s.size := rfl
  rw [el]
  clear el
  by_cases hl : s.size ≤ 4096
  · cases b4
    all_goals
      go_enter Tryz.func54, Tryz.ntmps54
      go_wp2_with (go_at_call 69; refine hct.mono ?_; rintro e w1 ⟨rfl, rfl⟩)
      go_ret
      exact ⟨by simp [hl], rfl⟩
  · go_enter Tryz.func54, Tryz.ntmps54
    go_wp2_with (go_at_call 69; refine hct.mono ?_; rintro e w1 ⟨rfl, rfl⟩)
    go_ret
    exact ⟨by simp [hl], rfl⟩

theorem has256 : (Tryz.prog.info? 119).map (fun i => (i.zero, i.size)) = some (some (.agg (Array.replicate 256 (.bool false))), 256) := by kernel_rfl
theorem lays_any : Go.Proofs.Lays.n153 Tryz.prog Tryz.lays153_ren := Tryz.lays153
set_option maxRecDepth 100000 in
set_option maxHeartbeats 2000000 in
/-- 'for i, c := range s { if IndexRune(chars, c) >= 0 { return i } }', whatever s's bytes are. -/
theorem indexAny_short (s chars : ByteArray) (w : World) (h2 : 2 ≤ chars.size) (h8 : s.size ≤ 8) (hc : chars.size ≤ 1073741824) (ha : asciiB chars) :
    Calls Tryz.prog 100 #[.string s, .string chars] w fun e w' => e = .returned (.int .i64 (Lib.indexAny s.data.toList chars.data.toList)) ∧ Below w.heap.size w w' := by
  have hemp : chars.toList.isEmpty = false := by
    rw [Lib.toList_data]
    cases h : chars.data.toList with
    | nil => have := Lib.size_eq chars; rw [h, List.length_nil] at this; omega
    | cons _ _ => rfl
  have hn1 : ((chars.size : Int) == 1) = false := beq_eq_false_iff_ne.2 (by omega)
  have h8z : decide ((8 : Int) < (s.size : Int)) = false := decide_eq_false (by omega)
  have HA := Lib.hid ha
  go_enter Tryz.func100, Tryz.ntmps100
  go_wp2_with (go_at_call 119; refine (Tryz.strings_shouldUseASCIISet _ _).mono ?_; rintro e w' ⟨rfl, hw⟩; rw [hw, h8z])
  go_loopg [9, 10] s.size (fun g _ _ wx => ∃ pos : Nat, wx.heap[w.heap.size]? = some (.stringIter s pos) ∧ Below w.heap.size w wx ∧ Hid (pos ≤ s.size ∧ s.size ≤ pos + g ∧ Lib.NoAny s.data.toList chars.data.toList pos))
  case atStart => exact ⟨0, World.iter_heap w s 0, (Below.refl _ w).alloc (Nat.le_refl _) _, Lib.hid ⟨by omega, by omega, Lib.NoAny.zero _ _⟩⟩
  case round =>
    obtain ⟨pos, hit, hbw, HN⟩ := hrel
    by_cases hps : pos < s.size
    · obtain ⟨g', rfl⟩ : ∃ g', gk = g' + 1 := ⟨gk - 1, by have := HN.out; omega⟩
      have hnx : ∀ ty, (Instr.next (.pointer (some ⟨w.heap.size, 0, none⟩)) true ty).run Tryz.prog wr = _ := fun ty => Lib.run_next_any_at wr w.heap.size s pos ty hit hps
      have hwd := Lib.width_pos s pos
      have hxl := data_at s pos hps
      have hrle := Lib.rune_le s pos
      have key : (Lib.NoAny s.data.toList chars.data.toList (pos + (Utf8.decode s pos).2) ∧ pos + (Utf8.decode s pos).2 ≤ s.size ∧ (if (Utf8.decode s pos).1 < 128 then Lib.indexByte chars.data.toList (Utf8.decode s pos).1.toUInt8 else -1) < 0) ∨ ((Lib.indexAny s.data.toList chars.data.toList = pos) ∧ 0 ≤ (if (Utf8.decode s pos).1 < 128 then Lib.indexByte chars.data.toList (Utf8.decode s pos).1.toUInt8 else -1)) := by
        have hl : pos < s.data.toList.length := hps
        by_cases ha : (s.data.toList[pos]'hl).toNat < 128
        · rw [Pl.decode_ascii' s pos hps ha]
          dsimp only
          rw [if_pos ha]
          have hcon := Lib.contains_iff_indexByte chars.data.toList (s.data.toList[pos]'hl)
          have hb : ((s.data.toList[pos]'hl).toNat).toUInt8 = s.data.toList[pos]'hl := by simp
          rw [hb]
          cases hin : chars.data.toList.contains (s.data.toList[pos]'hl)
          · rw [hin] at hcon
            left
            exact ⟨HN.out.2.2.succ (List.getElem?_eq_getElem hl) hin, hps, by simpa using hcon.symm⟩
          · rw [hin] at hcon
            right
            exact ⟨Lib.indexAny_hit HN.out.2.2 (List.getElem?_eq_getElem hl) hin, by simpa using hcon.symm⟩
        · obtain ⟨k1, k2, k3, k4, k5⟩ := Pl.decode_wide s pos hps (by omega)
          left
          rw [if_neg (by omega)]
          refine ⟨?_, k4, by decide⟩
          intro j b hj hb
          by_cases hjp : j < pos
          · exact HN.out.2.2 j b hjp hb
          · have hjl := (List.getElem?_eq_some_iff.1 hb).1
            have := k5 (j - pos) (by omega) (by have : s.data.toList.length = s.size := rfl; omega)
            have e : pos + (j - pos) = j := by omega
            simp only [e] at this
            rw [(List.getElem?_eq_some_iff.1 hb).2] at this
            cases hcb : chars.data.toList.contains b
            · rfl
            · have hmem : b ∈ chars.data.toList := by simpa using hcb
              have := HA.out b hmem
              omega
      obtain ⟨R, hR⟩ : ∃ R, (Utf8.decode s pos).1 = R := ⟨_, rfl⟩
      obtain ⟨K, hK⟩ : ∃ K, (Utf8.decode s pos).2 = K := ⟨_, rfl⟩
      rw [hR, hK] at key hnx
      rw [hK] at hwd
      rw [hR] at hrle
      have hit2 := Lib.iterAt_heap wr w.heap.size s pos (pos + K) hit
      have hbw2 := Lib.below_iterAt hbw (k := w.heap.size) (Nat.le_refl _) s (pos + K)
      obtain ⟨W, hWd⟩ : ∃ W, wr.iterAt w.heap.size s (pos + K) = W := ⟨_, rfl⟩
      rw [hWd] at hnx hit2 hbw2
      have hltW : w.heap.size < W.heap.size := (Array.getElem?_eq_some_iff.1 hit2).1
      have cS := IndexRune_any chars R W hc HA.out hrle
      generalize (if R < 128 then Lib.indexByte chars.data.toList R.toUInt8 else -1) = i1 at *
      have HK := HN
      clear hxl hK hR hWd hit HN hrle
      rcases key with ⟨k1, k2, k3⟩ | ⟨k1, k2⟩
      · have H2 := Lib.hid (show pos + K ≤ s.size ∧ s.size ≤ (pos + K) + g' ∧ Lib.NoAny s.data.toList chars.data.toList (pos + K) from ⟨k2, by have := HK.out; omega, k1⟩)
        clear k1 k2
        go_wp2_with (go_at_call 118; refine cS.mono ?_; rintro e W' ⟨rfl, hbc⟩)
        go_roundg g'
        case measure => omega
        case rel => exact ⟨pos + K, (hbc.block _ hltW).trans hit2, (hbw2.trans (hbc.mono hbw2.size)), H2⟩
      · have H2 := Lib.hid k1
        clear k1
        go_wp2_with (go_at_call 118; refine cS.mono ?_; rintro e W' ⟨rfl, hbc⟩)
        go_ret
        exact ⟨by rw [H2.out]; first | rfl | (simp; done), (hbw2.trans (hbc.mono hbw2.size))⟩
    · have hnx : ∀ ty, (Instr.next (.pointer (some ⟨w.heap.size, 0, none⟩)) true ty).run Tryz.prog wr = _ := fun ty => Lib.run_next_end_at wr w.heap.size s pos ty hit hps
      have HR := Lib.hid (show Lib.indexAny s.data.toList chars.data.toList = -1 from by
        have h := HN.out
        have e : pos = s.data.toList.length := by show pos = s.size; omega
        exact Lib.indexAny_none (e ▸ h.2.2))
      go_wp2
      go_ret
      exact ⟨by rw [HR.out]; first | rfl | (simp; done), hbw⟩
theorem indexAny_any (s : ByteArray) (w : World) (hs : s.size ≤ 1073741824) :
    Calls Tryz.prog 100 #[.string s, .string wdS] w fun e w' => e = .returned (.int .i64 (Lib.indexAny s.data.toList (spc ++ [32, 58]))) ∧ Below w.heap.size w w' := by
  by_cases h8 : s.size ≤ 8
  · exact indexAny_short s wdS w (by decide) h8 (by decide) wdS_ascii
  · refine (Any.strings_IndexAny_long lays_any (zero_of_info has256).1 (zero_of_info has256).2 s wdS w (by decide) (by omega) (by omega) (by decide) (fun j b hj => wdS_ascii b (List.mem_of_getElem? hj))).mono fun e w' ⟨h1, h2⟩ => ⟨h1, ?_⟩
    rw [h2]
    exact ((Below.refl _ _).alloc (Nat.le_refl _) _).alloc (by simp) _
theorem containsAny_any (s : ByteArray) (w : World) (hs : s.size ≤ 1073741824) :
    Calls Tryz.prog 70 #[.string s, .string wdS] w fun e w' => e = .returned (.bool (Lib.containsAny s.data.toList (spc ++ [32, 58]))) ∧ Below w.heap.size w w' := by
  have c := indexAny_any s w hs
  unfold Lib.containsAny
  go_enter Tryz.func70, Tryz.ntmps70
  go_wp2_with (go_at_call 100; refine c.mono ?_; rintro e w' ⟨rfl, hw⟩)
  go_ret
  exact ⟨rfl, hw⟩
set_option maxRecDepth 100000 in
theorem word_any (s : ByteArray) (w : World) (hm : Mx w) (hs : s.size ≤ 1073741824) :
    Calls Tryz.prog 41 #[.string s] w fun e w' => e = .returned (.bool (wordL s.data.toList)) ∧ Below w.heap.size w w' := by
  have hp := plain_any s w hm hs
  have hc := containsAny_any s w hs
  unfold wdS at hc
  unfold wordL
  generalize plainL s.data.toList = b1 at *
  generalize Lib.containsAny s.data.toList (spc ++ [32, 58]) = b2 at *
  cases b1
  · go_enter Tryz.func41, Tryz.ntmps41
    go_wp2_with (first | (go_at_call 40; refine hp.mono ?_; rintro e w1 ⟨rfl, rfl⟩) | (go_at_call 70; refine hc.mono ?_; rintro e w1 ⟨rfl, hb⟩))
    go_ret
    exact ⟨rfl, Below.refl _ _⟩
  · go_enter Tryz.func41, Tryz.ntmps41
    go_wp2_with (first | (go_at_call 40; refine hp.mono ?_; rintro e w1 ⟨rfl, rfl⟩) | (go_at_call 70; refine hc.mono ?_; rintro e w1 ⟨rfl, hb⟩))
    go_ret
    exact ⟨by simp, hb⟩
end Go.Proofs.YtpdnopfjnmjnnaaGreatDoor.Cn
