/- The library's strings.IndexRune and ContainsRune at an ASCII text and any rune. -/
import Derived.Test.YtpdnopfjnmjnnaaGreatDoorShelf
import Derived.Test.YtpdnopfjnmjnnaaGreatDoorBs
import Derived.Lib.RangeT
import Derived.Outline
import Derived.IntWalk
set_option linter.unusedVariables false
set_option linter.unusedSimpArgs false
namespace Go.Proofs.YtpdnopfjnmjnnaaGreatDoor.Ir
open Go.RowKit Go.Proofs Go.Proofs.YtpdnopfjnmjnnaaGreatDoorW.PrintWords Go.Proofs.YtpdnopfjnmjnnaaGreatDoor.Bs

def asciiB (s : ByteArray) : Prop := ∀ b ∈ s.data.toList, b.toNat < 128
theorem asciiB_at {s : ByteArray} (h : asciiB s) (i : Nat) (hi : i < s.size) : (s[i]'hi).toNat < 128 := h _ (by
  have : s[i]'hi = s.data.toList[i]'(by simpa using hi) := rfl
  rw [this]
  exact List.getElem_mem _)

theorem indexByte_absent (l : List UInt8) (c : UInt8) (h : ∀ b ∈ l, b ≠ c) : Lib.indexByte l c = -1 := by
  have hge := Lib.indexByte_ge l c
  by_cases e : Lib.indexByte l c = -1
  · exact e
  · obtain ⟨o, ho⟩ : ∃ o : Nat, Lib.indexByte l c = o := ⟨(Lib.indexByte l c).toNat, by omega⟩
    have := (Lib.indexByte_some ho).1
    obtain ⟨hlt, he⟩ := List.getElem?_eq_some_iff.1 this
    exact absurd he (h _ (List.getElem_mem _))

set_option maxRecDepth 100000 in
set_option maxHeartbeats 1000000 in
theorem IndexRune_wide (s : ByteArray) (x : Nat) (w : World) (hs : s.size ≤ 1073741824) (ha : asciiB s) (h : 128 ≤ x) (h1 : x ≤ 1114111) (hne : x ≠ 65533) (hv : Utf8.valid (x : Int) = true) :
    Calls Tryz.prog 118 #[.string s, .int .i32 x] w fun e w' => e = .returned (.int .i64 (-1)) ∧ Below w.heap.size w w' := by
  obtain ⟨hr2, hr4, hlast⟩ := encode_facts (x : Int) hv (by omega)
  have hcv : ∀ W, (convert 21 9 (.int .i32 (x : Int))).run Tryz.prog W = .ok (.string (Utf8.encode (x : Int))) W := fun W => run_convert_int_string W 21 9 .i32 (x : Int) (by kernel_rfl) (by kernel_rfl)
  generalize Utf8.encode (x : Int) = rs at *
  have n128 : decide ((x : Int) < 128) = false := by simp; omega
  have n65 : ((x : Int) == 65533) = false := by simp; omega
  have hvr : Lib.validRune (x : Int) = true := by
    simp only [Utf8.valid, Bool.or_eq_true, Bool.and_eq_true, decide_eq_true_eq] at hv
    simp only [Lib.validRune, decide_eq_true_eq]
    omega
  clear hv hne
  obtain ⟨n, hn⟩ : ∃ n, rs.size = n + 1 := ⟨rs.size - 1, by omega⟩
  have hnI : (rs.size : Int) - 1 = n := by omega
  have hn1 : n < rs.size := by omega
  have hL : 128 ≤ (rs[n]'hn1).toNat := by
    have := hlast (by omega)
    simpa [hn] using this
  clear hlast hr2 hn
  by_cases hl : n < s.size
  · have hS := asciiB_at ha _ hl
    have hne : ((((s[n]'hl).toNat : Nat) : Int) != (((rs[n]'hn1).toNat : Nat) : Int)) = true := by simp; omega
    have hcut : Lib.indexByte (s.extract (n + 1) s.size).data.toList (((rs[n]'hn1).toNat : Nat) : Int).toNat.toUInt8 = -1 := indexByte_absent _ _ (fun b hb e => by
      have : b ∈ s.data.toList := by
        rw [Lib.extract_data] at hb
        exact List.mem_of_mem_drop (List.mem_of_mem_take hb)
      have hlt := ha b this
      rw [e] at hlt
      simp at hlt
      omega)
    have HN := Lib.hid hne
    have HC := Lib.hid hcut
    clear ha hne hL hS hcut
    go_enter Tryz.func118, Tryz.ntmps118
    go_wp2_with (go_at_call 133; refine (Tryz.utf8_ValidRune _ _).mono ?_; rintro e w1 ⟨rfl, rfl⟩; rw [hvr])
    go_step3
    go_wp2_with fail
    go_loopw [9] (fun v wr => v = .int .i64 n ∧ wr = w1) (fun _ _ => 0)
    case atStart => exact ⟨rfl, rfl⟩
    case round =>
      obtain ⟨rfl, rfl⟩ := hrel
      go_wp2_with fail
      go_step3
      go_wp2_with fail
      go_quiet ((fail))
      have hb1 := pw_below_drewN (Below.refl (wr).heap.size (wr)) nq
      generalize (wr).drewN nq = W1 at *
      clear hcv n128 n65 hvr
      go_wp2_with fail
      rotate_left
      · have hf : ((((s[n]'hl).toNat : Nat) : Int) != (((rs[n]'hn1).toNat : Nat) : Int)) = false := by assumption
        exact absurd HN.out (by rw [hf]; simp)
      clear HN
      have hcl := fun w => Tryz.strings_IndexByte (s.extract (n + 1) s.size) (((rs[n]'hn1).toNat : Nat) : Int) w
      rw [HC.out] at hcl
      clear HC
      have e1 : IntKind.i64.wrap ((n : Int) + 1) = (n : Int) + 1 := IntWalk.i64_in _ (by omega)
      have e2 : (0 : Int) ≤ (n : Int) + 1 := by omega
      have e3 : (n : Int) + 1 ≤ (s.size : Int) := by omega
      have e4 : ((n : Int) + 1).toNat = n + 1 := by omega
      go_quiet ((go_at_call 67; exact Calls.quiet_of_same (hcl _)))
      have hb2 := pw_below_drewN (Below.refl (W1).heap.size (W1)) nq
      generalize (W1).drewN nq = W2 at *
      clear e1 e2 e3 e4 hcl
      go_wp2_with fail
      rw [Exit.noGoto_ret]
      go_wp2_with fail
      rw [Exit.noGoto_ret]
      go_ret
      exact ⟨rfl, (by repeat (first | assumption | exact Below.refl _ _ | apply below_drew | apply pw_below_drewN | apply below_alloc | (refine below_via (by assumption) ?_)))⟩
  · clear ha
    go_enter Tryz.func118, Tryz.ntmps118
    go_wp2_with (go_at_call 133; refine (Tryz.utf8_ValidRune _ _).mono ?_; rintro e w1 ⟨rfl, rfl⟩; rw [hvr])
    go_step3
    go_wp2_with fail
    go_loopw [9] (fun v wr => v = .int .i64 n ∧ wr = w1) (fun _ _ => 0)
    case atStart => exact ⟨rfl, rfl⟩
    case round =>
      obtain ⟨rfl, rfl⟩ := hrel
      clear hcv n128 n65 hvr
      go_wp2_with fail
      rw [Exit.noGoto_ret]
      go_ret
      exact ⟨rfl, (by repeat (first | assumption | exact Below.refl _ _ | apply below_drew | apply pw_below_drewN | apply below_alloc | (refine below_via (by assumption) ?_)))⟩

set_option maxRecDepth 100000 in
set_option maxHeartbeats 1000000 in
theorem IndexRune_none (s : ByteArray) (x : Nat) (w : World) (h : 128 ≤ x) (h1 : x ≤ 1114111) (hne : x ≠ 65533) (hv : Utf8.valid (x : Int) = false) :
    Calls Tryz.prog 118 #[.string s, .int .i32 x] w fun e w' => e = .returned (.int .i64 (-1)) ∧ Below w.heap.size w w' := by
  have n128 : decide ((x : Int) < 128) = false := by simp; omega
  have n65 : ((x : Int) == 65533) = false := by simp; omega
  have hvr : Lib.validRune (x : Int) = false := by
    simp only [Utf8.valid, Bool.or_eq_false_iff, Bool.and_eq_false_iff, decide_eq_false_iff_not] at hv
    simp only [Lib.validRune, decide_eq_false_iff_not]
    omega
  clear hv hne
  go_enter Tryz.func118, Tryz.ntmps118
  go_wp2_with (go_at_call 133; refine (Tryz.utf8_ValidRune _ _).mono ?_; rintro e w1 ⟨rfl, rfl⟩; rw [hvr])
  go_ret
  exact ⟨rfl, Below.refl _ _⟩

set_option maxRecDepth 100000 in
set_option maxHeartbeats 1000000 in
theorem IndexRune_error (s : ByteArray) (w : World) (ha : asciiB s) :
    Calls Tryz.prog 118 #[.string s, .int .i32 65533] w fun e w' => e = .returned (.int .i64 (-1)) ∧ Below w.heap.size w w' := by
  go_enter Tryz.func118, Tryz.ntmps118
  go_wp2_with fail
  go_loopg [] s.size (fun gf wx => ∃ pos : Nat, wx.heap[w.heap.size]? = some (.stringIter s pos) ∧ Below w.heap.size w wx ∧ s.size ≤ pos + gf)
  case atStart => exact ⟨0, World.iter_heap w s 0, (Below.refl _ w).alloc (Nat.le_refl _) _, by omega⟩
  case round =>
    obtain ⟨pos, hit, hbw, hfu⟩ := hrel
    by_cases hps : pos < s.size
    · obtain ⟨g', rfl⟩ : ∃ g', gk = g' + 1 := ⟨gk - 1, by omega⟩
      have hnx : ∀ ty, (Instr.next (.pointer (some ⟨w.heap.size, 0, none⟩)) true ty).run Tryz.prog wr = _ := fun ty => Lib.run_next_any_at wr w.heap.size s pos ty hit hps
      have hd := decode_ascii s pos hps (asciiB_at ha pos hps)
      have hlt := asciiB_at ha pos hps
      rw [hd] at hnx
      have hit2 := Lib.iterAt_heap wr w.heap.size s pos (pos + 1) hit
      have hbw2 := Lib.below_iterAt hbw (k := w.heap.size) (Nat.le_refl _) s (pos + 1)
      dsimp only at hnx
      generalize wr.iterAt w.heap.size s (pos + 1) = W at *
      have hR : (((s[pos]'hps).toNat : Int) == 65533) = false := by simp; omega
      clear hd hlt ha
      generalize ((s[pos]'hps).toNat : Int) = R at *
      go_wp2_with fail
      go_roundg g'
      case measure => omega
      case rel => exact ⟨pos + 1, hit2, hbw2, by omega⟩
    · have hnx : ∀ ty, (Instr.next (.pointer (some ⟨w.heap.size, 0, none⟩)) true ty).run Tryz.prog wr = _ := fun ty => Lib.run_next_end_at wr w.heap.size s pos ty hit hps
      clear ha
      go_wp2_with fail
      go_ret
      exact ⟨rfl, hbw⟩

/-- whether an ASCII text has a rune -/
def hasRune (s : ByteArray) (x : Nat) : Bool := decide (x < 128) && decide (0 ≤ Lib.indexByte s.data.toList x.toUInt8)
theorem IndexRune_any (s : ByteArray) (x : Nat) (w : World) (hs : s.size ≤ 1073741824) (ha : asciiB s) (h1 : x ≤ 1114111) :
    Calls Tryz.prog 118 #[.string s, .int .i32 x] w fun e w' => e = .returned (.int .i64 (if x < 128 then Lib.indexByte s.data.toList x.toUInt8 else -1)) ∧ Below w.heap.size w w' := by
  by_cases h : x < 128
  · refine (Tryz.strings_IndexRune_ascii s (x : Int) w (by omega) (by omega)).mono ?_
    rintro e w' ⟨rfl, rfl⟩
    exact ⟨by simp [h], Below.refl _ _⟩
  · rw [if_neg h]
    by_cases he : x = 65533
    · subst he
      exact IndexRune_error s w ha
    · by_cases hv : Utf8.valid (x : Int) = true
      · exact IndexRune_wide s x w hs ha (by omega) h1 he hv
      · exact IndexRune_none s x w (by omega) h1 he (by simpa using hv)
set_option maxRecDepth 100000 in
theorem ContainsRune_any (s : ByteArray) (x : Nat) (w : World) (hs : s.size ≤ 1073741824) (ha : asciiB s) (h1 : x ≤ 1114111) :
    Calls Tryz.prog 104 #[.string s, .int .i32 x] w fun e w' => e = .returned (.bool (hasRune s x)) ∧ Below w.heap.size w w' := by
  have hi := IndexRune_any s x w hs ha h1
  have hr : decide ((if x < 128 then Lib.indexByte s.data.toList x.toUInt8 else -1) ≥ 0) = hasRune s x := by
    unfold hasRune
    by_cases h : x < 128 <;> simp [h]
  generalize (if x < 128 then Lib.indexByte s.data.toList x.toUInt8 else -1) = r at *
  clear ha
  go_enter Tryz.func104, Tryz.ntmps104
  go_wp2_with (go_at_call 118; refine hi.mono ?_; rintro e w1 ⟨rfl, hb⟩)
  go_ret
  exact ⟨by rw [← hr]; rfl, by assumption⟩
end Go.Proofs.YtpdnopfjnmjnnaaGreatDoor.Ir
