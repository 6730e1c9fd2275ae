/- ConfBlanks' walk. -/
import Derived.Test.YtpdnopfjnmjnnaaGreatDoorWd
import Derived.Test.YtpdnopfjnmjnnaaGreatDoorWb
import Derived.Test.YtpdnopfjnmjnnaaGreatDoorVo
import Derived.Test.YtpdnopfjnmjnnaaGreatDoorKg
set_option linter.unusedVariables false
set_option linter.unusedSimpArgs false
namespace Go.Proofs.YtpdnopfjnmjnnaaGreatDoor.Cn
open Go.Sort Go.RowKit Go.Proofs Go.Proofs.YtpdnopfjnmjnnaaGreatDoorW.PrintWords Go.Proofs.YtpdnopfjnmjnnaaGreatDoor.Bs Go.Proofs.YtpdnopfjnmjnnaaGreatDoor.Ir Go.Proofs.YtpdnopfjnmjnnaaGreatDoor.Cz

theorem go_numbers : ∀ (f : Nat) (n : Int) (s : List UInt8), ∀ x ∈ linesGo f n s, n ≤ x.number ∧ x.number ≤ n + s.length
  | 0, _, _, x, hx => absurd hx List.not_mem_nil
  | f + 1, n, s, x, hx => by
    rw [go_succ] at hx
    by_cases he : s = []
    · subst he; exact absurd hx List.not_mem_nil
    · rw [if_neg (by simpa using he)] at hx
      rcases List.mem_append.1 hx with hx | hx
      · unfold lineOf at hx
        split at hx
        · exact absurd hx List.not_mem_nil
        · rw [List.mem_singleton.1 hx]
          exact ⟨Int.le_refl _, by show n ≤ n + _; omega⟩
      · have h1 := go_numbers f (n + 1) _ x hx
        have h2 := cut_short s he
        omega
theorem fold_number : ∀ (l : List Ln) (st : St) (y : Int × Int), foldL l st = .error y → ∃ x ∈ l, x.number = y.2
  | [], st, y, h => by cases h
  | x :: l, st, y, h => by
    rw [foldL] at h
    split at h
    · cases h; exact ⟨x, List.mem_cons_self, rfl⟩
    · obtain ⟨z, hz, e⟩ := fold_number l _ y h
      exact ⟨z, List.mem_cons_of_mem _ hz, e⟩
def keysR (r : Except (Int × Int) (List Kn)) : List Kn := match r with | .error _ => [] | .ok l => l
def whyR (r : Except (Int × Int) (List Kn)) : Int := match r with | .error y => y.1 | .ok _ => 0
def atR (r : Except (Int × Int) (List Kn)) : Int := match r with | .error y => y.2 | .ok _ => 0
def nodeR (l : List Kn) : Kn := ⟨⟨#[]⟩, 0, ⟨#[]⟩, [], l⟩
theorem at_bound (s : List UInt8) : 0 ≤ atR (parseL s) ∧ atR (parseL s) ≤ s.length + 1 := by
  unfold parseL
  split
  · exact ⟨Int.le_refl _, by show (0 : Int) ≤ _; omega⟩
  · split
    · rename_i y hy
      obtain ⟨x, hx, e⟩ := fold_number _ _ _ hy
      have := go_numbers _ _ _ x hx
      show 0 ≤ y.2 ∧ y.2 ≤ _
      omega
    · exact ⟨Int.le_refl _, by show (0 : Int) ≤ _; omega⟩
theorem fit_R (s : List UInt8) : Fit (nodeR (keysR (parseL s))) := by
  cases h : parseL s with
  | error y => exact Fit.mk _ (by simp [nodeR]) (by simp [nodeR, keysR]) (fun y hy => absurd hy List.not_mem_nil)
  | ok l =>
    have hf := parse_fit h
    exact Fit.mk _ (by simp [nodeR]) (by have := hf.2; show l.length ≤ _; omega) hf.1
theorem keys_shift (d : Int) (r : Except (Int × Int) (List Kn)) : keysR (errShift d r) = keysR r := by cases r <;> rfl
theorem why_shift (d : Int) (r : Except (Int × Int) (List Kn)) : whyR (errShift d r) = whyR r := by cases r <;> rfl
theorem at_shift (d : Int) (r : Except (Int × Int) (List Kn)) (h : whyR r ≠ 0) : atR (errShift d r) = atR r + d := by
  cases r with
  | error y => rfl
  | ok l => exact absurd rfl h
/-- What Parse answers: a node, why, where. -/
theorem parse_r (s : ByteArray) (w : World) (hm : Mx w) (hs : s.size ≤ 1073741824) (l : List Kn) (y n : Int) (hl : keysR (parseL s.data.toList) = l) (hy : whyR (parseL s.data.toList) = y) (hn : atR (parseL s.data.toList) = n) :
    Calls Tryz.prog 16 #[.string s] w fun e w' => ∃ A c, e = .returned (.tuple #[.agg #[.int .u8 0, .string ⟨#[]⟩, .slice none 0 0, .slice A l.length c], .int .i64 y, .int .i64 n]) ∧ Below w.heap.size w w' ∧ kK.C w' A l.length l := by
  refine (parse_any s w hm hs).mono ?_
  subst hl hy hn
  cases parseL s.data.toList with
  | error y =>
    rintro e w' ⟨hb, rfl⟩
    exact ⟨none, 0, rfl, hb, Kd.C_nil _ _⟩
  | ok l =>
    rintro e w' ⟨hb, v, rfl, hR⟩
    obtain ⟨A, c, rfl⟩ := Kd.R_slice hR
    obtain ⟨-, -, hC⟩ := Kd.R_reads' hR
    exact ⟨A, c, rfl, hb, hC⟩
/-- A node's cells, of its keys alone. -/
abbrev nkC (n : Nat) (A : Option Addr) (c : Nat) : Obj := .cells #[.int .u8 0, .string ⟨#[]⟩, .slice none 0 0, .slice A n c] 32 (0, 0)
theorem same_keys (l : List Kn) (hf : Fit (nodeR l)) (A B : Option Addr) (c d : Nat) (w : World) (hA : kK.C w A l.length l) (hB : kK.C w B l.length l) :
    Calls Tryz.prog 17 #[.agg #[.int .u8 0, .string ⟨#[]⟩, .slice none 0 0, .slice A l.length c], .agg #[.int .u8 0, .string ⟨#[]⟩, .slice none 0 0, .slice B l.length d]] w fun e w' => e = .returned (.bool true) ∧ Below w.heap.size w w' :=
  same_any (nodeR l) hf none 0 A c none 0 B d w (Kd.C_nil _ _) hA (Kd.C_nil _ _) hB
theorem bs_l (l : List UInt8) : (bsOf l).data.toList = l := rfl
theorem pad_next (j : Nat) : bsOf (padL j) ++ (⟨⟨[32]⟩⟩ : ByteArray) = bsOf (padL (j + 1)) := by
  apply ByteArray.ext
  apply Array.ext'
  simp [bsOf, padL, List.replicate_succ']
theorem ahead_bytes (j : Nat) (s : ByteArray) : (bsOf (padL j) ++ (⟨⟨[10, 35, 120, 58, 32, 121, 10]⟩⟩ : ByteArray) ++ bsOf (padL j) ++ (⟨⟨[35, 32, 122, 10]⟩⟩ : ByteArray) ++ s).data.toList = aheadL j s.data.toList := by
  simp [bsOf, aheadL]
theorem behind_bytes (j : Nat) (s : ByteArray) : (s ++ bsOf (padL j) ++ (⟨⟨[10, 10, 35]⟩⟩ : ByteArray)).data.toList = s.data.toList ++ (padL j ++ [10, 10, 35]) := by
  simp [bsOf]

set_option maxRecDepth 100000 in
set_option maxHeartbeats 8000000 in
theorem confBlanks_any (s : ByteArray) (sp : Int) (hs : s.size ≤ 1048576) (w : World) (hm : Mx w) (hv : Ev w) (hlow : 1 < w.heap.size) :
    Calls Tryz.prog 5 #[.string s, .int .i64 sp] w fun e w' => e = .returned (.bool true) ∧ Below w.heap.size w w' := by
  have hlv := lives_any w hm hv hlow
  have HM := Lib.hid hm
  clear hm hv hlow
  go_enter Tryz.func5, Tryz.ntmps5
  go_wp2_with fail
  refine hlv.mono ?_
  rintro e w1 ⟨rfl, hb1⟩
  clear hlv
  by_cases hz : 8000 < s.size
  · have hzi : (8000 : Int) < (s.size : Int) := by omega
    go_wp2_with fail
    go_ret
    exact ⟨rfl, hb1⟩
  have hzi : ¬ (8000 : Int) < (s.size : Int) := by omega
  have hsl : s.data.toList.length = s.size := rfl
  obtain ⟨l, hl⟩ : ∃ l, keysR (parseL s.data.toList) = l := ⟨_, rfl⟩
  obtain ⟨y, hy⟩ : ∃ y, whyR (parseL s.data.toList) = y := ⟨_, rfl⟩
  obtain ⟨n, hn⟩ : ∃ n, atR (parseL s.data.toList) = n := ⟨_, rfl⟩
  have hnb := at_bound s.data.toList
  have hf := fit_R s.data.toList
  rw [hn] at hnb
  rw [hl] at hf
  have hp1 := parse_r s w1 (HM.out.below hb1) (by omega) l y n hl hy hn
  have HF := Lib.hid hf
  have HB1 := Lib.hid hb1
  have HN := Lib.hid (And.intro hnb (And.intro hl (And.intro hy hn)))
  clear hf hb1 hnb hl hy hn
  go_wp2_with fail
  refine hp1.mono ?_
  rintro e w2 ⟨A, c, rfl, hb2, hC⟩
  clear hp1
  obtain ⟨w3, hw3⟩ : ∃ w3, w3 = w2.alloc (.cells #[.int .u8 0, .string ⟨#[]⟩, .slice none 0 0, .slice A l.length c] 32) := ⟨_, rfl⟩
  have hb3 : Below w2.heap.size w2 w3 := by rw [hw3]; exact below_alloc (Below.refl _ _) _
  have hn3 : w3.heap[w2.heap.size]? = some (.cells #[.int .u8 0, .string ⟨#[]⟩, .slice none 0 0, .slice A l.length c] 32 (0, 0)) := by rw [hw3]; exact heap_alloc_new w2 _
  have hC3 := Kd.C_below hC hb3
  have hb13 := hb2.trans (hb3.mono hb2.size)
  have hbw3 := HB1.out.trans (hb13.mono HB1.out.size)
  have H3 := Lib.hid (And.intro hn3 (And.intro hC3 hbw3))
  have HW3 := Lib.hid hw3
  generalize hbn : w2.heap.size = b1 at *
  clear hb2 hC hw3 hb3 hn3 hC3 hb13 hbw3 HB1
  go_wp2_with fail
  rw [← HW3.out]
  go_loopw [8, 9] (fun pv iv wr => ∃ j : Nat, pv = .string (bsOf (padL j)) ∧ iv = .int .i64 (j : Int) ∧ j ≤ 9 ∧ w3 = wr) (fun _ iv _ => 9 - (intOf iv).toNat)
  case atStart => exact ⟨0, rfl, rfl, by omega, rfl⟩
  case round =>
    obtain ⟨j, rfl, rfl, hj, rfl⟩ := hrel
    have hpl : (bsOf (padL j)).size = j := by show (padL j).length = j; simp [padL]
    by_cases hgo : (j : Int) < sp ∧ (j : Int) < 9
    · obtain ⟨h1, h2⟩ := hgo
      have hwr : IntKind.i64.wrap ((j : Int) + 1) = (j : Int) + 1 := IntWalk.i64_in _ (by omega)
      have happ := pad_next j
      go_wp2_with fail
      go_roundw
      all_goals first
        | (simp [intOf]; omega; done)
        | exact ⟨j + 1, rfl, by simp, by omega, trivial⟩
    · have hll : (padL j).length = j := by simp [padL]
      have hsz2 : (bsOf (padL j) ++ (⟨⟨[10, 35, 120, 58, 32, 121, 10]⟩⟩ : ByteArray) ++ bsOf (padL j) ++ (⟨⟨[35, 32, 122, 10]⟩⟩ : ByteArray) ++ s).size ≤ 1073741824 := by
        show (bsOf (padL j) ++ (⟨⟨[10, 35, 120, 58, 32, 121, 10]⟩⟩ : ByteArray) ++ bsOf (padL j) ++ (⟨⟨[35, 32, 122, 10]⟩⟩ : ByteArray) ++ s).data.toList.length ≤ _
        rw [ahead_bytes]
        simp [aheadL, hll]
        omega
      have hsz3 : (s ++ bsOf (padL j) ++ (⟨⟨[10, 10, 35]⟩⟩ : ByteArray)).size ≤ 1073741824 := by
        show (s ++ bsOf (padL j) ++ (⟨⟨[10, 10, 35]⟩⟩ : ByteArray)).data.toList.length ≤ _
        rw [behind_bytes]
        simp [hll]
        omega
      have hpa := parse_ahead j s.data.toList (by omega) hj
      obtain ⟨n2, hn2⟩ : ∃ n2, atR (parseL (bsOf (padL j) ++ (⟨⟨[10, 35, 120, 58, 32, 121, 10]⟩⟩ : ByteArray) ++ bsOf (padL j) ++ (⟨⟨[35, 32, 122, 10]⟩⟩ : ByteArray) ++ s).data.toList) = n2 := ⟨_, rfl⟩
      have hn3 : y ≠ 0 → n2 = n + 3 := fun h => by rw [← hn2, ahead_bytes, hpa, at_shift 3 _ (by rw [HN.out.2.2.1]; exact h), HN.out.2.2.2]
      have hp2 := parse_r _ w3 (HM.out.below H3.out.2.2) hsz2 l y n2 (by rw [ahead_bytes, hpa, keys_shift]; exact HN.out.2.1) (by rw [ahead_bytes, hpa, why_shift]; exact HN.out.2.2.1) hn2
      have HP3 := Lib.hid (fun (hz : s.data.toList = [] ∨ s.data.toList.getLast? = some 10) W hm => parse_r (s ++ bsOf (padL j) ++ (⟨⟨[10, 10, 35]⟩⟩ : ByteArray)) W hm hsz3 l y n (by rw [behind_bytes, parse_behind j _ (by omega) hj hz]; exact HN.out.2.1) (by rw [behind_bytes, parse_behind j _ (by omega) hj hz]; exact HN.out.2.2.1) (by rw [behind_bytes, parse_behind j _ (by omega) hj hz]; exact HN.out.2.2.2))
      have hcase : ((j : Int) < sp ∧ ¬ (j : Int) < 9) ∨ ¬ (j : Int) < sp := by omega
      have hw3n : IntKind.i64.wrap (n + 3) = n + 3 := IntWalk.i64_in _ (by have := HN.out.1; omega)
      have hn3' : y ≠ 0 → (n2 != n + 3) = false := fun h => by rw [hn3 h]; simp
      have HH := Lib.hid hn3'
      clear hgo hpa hn2 hn3 hsz2 hsz3 hn3'
      rcases hcase with ⟨h1, h2⟩ | h1
      all_goals
        go_wp2_with fail
        refine hp2.mono ?_
        rintro e w4 ⟨B, d, rfl, hb4, hB⟩
        clear hp2
        obtain ⟨w5, hw5⟩ : ∃ w5, w5 = w4.alloc (.cells #[.int .u8 0, .string ⟨#[]⟩, .slice none 0 0, .slice B l.length d] 32) := ⟨_, rfl⟩
        have hb5 : Below w4.heap.size w4 w5 := by rw [hw5]; exact below_alloc (Below.refl _ _) _
        have hn5 : w5.heap[w4.heap.size]? = some (.cells #[.int .u8 0, .string ⟨#[]⟩, .slice none 0 0, .slice B l.length d] 32 (0, 0)) := by rw [hw5]; exact heap_alloc_new w4 _
        have hb35 := hb4.trans (hb5.mono hb4.size)
        have hbw5 := H3.out.2.2.trans (hb35.mono H3.out.2.2.size)
        have hn5a := (hb35.block _ (blk_lt H3.out.1)).trans H3.out.1
        have hsame := same_keys l HF.out A B c d w5 (Kd.C_below H3.out.2.1 hb35) (Kd.C_below hB hb5)
        have a0 := blk_cell hn5a 0
        have a1 := blk_cell hn5a 1
        have a2 := blk_cell hn5a 2
        have a3 := blk_cell hn5a 3
        have b0 := blk_cell hn5 0
        have b1' := blk_cell hn5 1
        have b2 := blk_cell hn5 2
        have b3 := blk_cell hn5 3
        rw [hw5] at a0 a1 a2 a3 b0 b1' b2 b3 hsame
        have H5 := Lib.hid (And.intro hn5a (And.intro (Kd.C_below H3.out.2.1 hb35) hbw5))
        have HW5 := Lib.hid hw5
        generalize hbn5 : w4.heap.size = b5 at *
        clear hb4 hB hw5 hb5 hn5 hb35 hbw5 hn5a
        by_cases hy0 : y = 0
        case neg =>
          have hd := HH.out hy0
          have hy1 : (y != 0) = true := by simpa using hy0
          go_wp2_with fail
          refine hsame.mono ?_
          rw [← HW5.out]
          rintro e w6 ⟨rfl, hb6⟩
          have hbw6 := H5.out.2.2.trans (hb6.mono H5.out.2.2.size)
          have HB6 := Lib.hid hbw6
          clear hsame a0 a1 a2 a3 b0 b1' b2 b3 hb6 hbw6
          go_wp2_with fail
          go_ret
          exact ⟨rfl, HB6.out⟩
        case pos =>
          subst hy0
          go_wp2_with fail
          refine hsame.mono ?_
          rw [← HW5.out]
          rintro e w6 ⟨rfl, hb6⟩
          have hbw6 := H5.out.2.2.trans (hb6.mono H5.out.2.2.size)
          have H6 := Lib.hid (And.intro ((hb6.block _ (blk_lt H5.out.1)).trans H5.out.1) (And.intro (Kd.C_below H5.out.2.1 hb6) hbw6))
          clear hsame a0 a1 a2 a3 b0 b1' b2 b3 hb6 hbw6
          have hcs : s.size = 0 ∨ ∃ m, s.size = m + 1 := by
            cases hq : s.size with
            | zero => exact .inl rfl
            | succ m => exact .inr ⟨m, rfl⟩
          rcases hcs with h0 | ⟨m, hm1⟩
          · have hi0 : (s.size : Int) = 0 := by omega
            have hze : s.data.toList = [] := List.length_eq_zero_iff.1 h0
            have hp3 := HP3.out (.inl hze) w6 (HM.out.below H6.out.2.2)
            go_wp2_with fail
            refine hp3.mono ?_
            rintro e w7 ⟨D, f, rfl, hb7, hD⟩
            clear hp3
            obtain ⟨w8, hw8⟩ : ∃ w8, w8 = w7.alloc (.cells #[.int .u8 0, .string ⟨#[]⟩, .slice none 0 0, .slice D l.length f] 32) := ⟨_, rfl⟩
            have hb8 : Below w7.heap.size w7 w8 := by rw [hw8]; exact below_alloc (Below.refl _ _) _
            have hn8 : w8.heap[w7.heap.size]? = some (.cells #[.int .u8 0, .string ⟨#[]⟩, .slice none 0 0, .slice D l.length f] 32 (0, 0)) := by rw [hw8]; exact heap_alloc_new w7 _
            have hb68 := hb7.trans (hb8.mono hb7.size)
            have hbw8 := H6.out.2.2.trans (hb68.mono H6.out.2.2.size)
            have hn8a := (hb68.block _ (blk_lt H6.out.1)).trans H6.out.1
            have hsame := same_keys l HF.out A D c f w8 (Kd.C_below H6.out.2.1 hb68) (Kd.C_below hD hb8)
            have a0 := blk_cell hn8a 0
            have a1 := blk_cell hn8a 1
            have a2 := blk_cell hn8a 2
            have a3 := blk_cell hn8a 3
            have b0 := blk_cell hn8 0
            have b1' := blk_cell hn8 1
            have b2 := blk_cell hn8 2
            have b3 := blk_cell hn8 3
            rw [hw8] at a0 a1 a2 a3 b0 b1' b2 b3 hsame
            have HB8 := Lib.hid hbw8
            have HW8 := Lib.hid hw8
            clear hb7 hD hw8 hb8 hn8 hb68 hn8a hbw8
            go_wp2_with fail
            refine hsame.mono ?_
            rw [← HW8.out]
            rintro e w9 ⟨rfl, hb9⟩
            have HB9 := Lib.hid (HB8.out.trans (hb9.mono HB8.out.size))
            clear hsame a0 a1 a2 a3 b0 b1' b2 b3 hb9
            go_wp2_with fail
            go_ret
            exact ⟨rfl, HB9.out⟩
          · have hi1 : (s.size : Int) - 1 = (m : Int) := by omega
            have hml : m < s.size := by omega
            have hpos : (0 : Int) < (s.size : Int) := by omega
            have hposN : 0 < s.size := by omega
            obtain ⟨b, hb⟩ : ∃ b : UInt8, s[m]'hml = b := ⟨_, rfl⟩
            have hla : s.data.toList.getLast? = some b := by
              have := data_at s m hml
              rw [hb] at this
              have hl' : s.data.toList.length = m + 1 := hm1
              rw [List.getLast?_eq_getElem?, hl', Nat.add_sub_cancel, this]
            have hlt0 : (0 : Int) ≤ m := by omega
            have hlt1 : (m : Int) < (s.size : Int) := by omega
            have hbr := b.toNat_lt
            have HLA := Lib.hid (And.intro hla hm1)
            clear hla hm1
            by_cases hb10 : b.toNat = 10
            · have hb' : b = 10 := UInt8.toNat_inj.1 hb10
              have h4 : ((b.toNat : Int) != 10) = false := by rw [hb10]; rfl
              have hp3 := HP3.out (.inr (by rw [HLA.out.1, hb'])) w6 (HM.out.below H6.out.2.2)
              go_wp2_with fail
              refine hp3.mono ?_
              rintro e w7 ⟨D, f, rfl, hb7, hD⟩
              clear hp3
              obtain ⟨w8, hw8⟩ : ∃ w8, w8 = w7.alloc (.cells #[.int .u8 0, .string ⟨#[]⟩, .slice none 0 0, .slice D l.length f] 32) := ⟨_, rfl⟩
              have hb8 : Below w7.heap.size w7 w8 := by rw [hw8]; exact below_alloc (Below.refl _ _) _
              have hn8 : w8.heap[w7.heap.size]? = some (.cells #[.int .u8 0, .string ⟨#[]⟩, .slice none 0 0, .slice D l.length f] 32 (0, 0)) := by rw [hw8]; exact heap_alloc_new w7 _
              have hb68 := hb7.trans (hb8.mono hb7.size)
              have hbw8 := H6.out.2.2.trans (hb68.mono H6.out.2.2.size)
              have hn8a := (hb68.block _ (blk_lt H6.out.1)).trans H6.out.1
              have hsame := same_keys l HF.out A D c f w8 (Kd.C_below H6.out.2.1 hb68) (Kd.C_below hD hb8)
              have a0 := blk_cell hn8a 0
              have a1 := blk_cell hn8a 1
              have a2 := blk_cell hn8a 2
              have a3 := blk_cell hn8a 3
              have b0 := blk_cell hn8 0
              have b1' := blk_cell hn8 1
              have b2 := blk_cell hn8 2
              have b3 := blk_cell hn8 3
              rw [hw8] at a0 a1 a2 a3 b0 b1' b2 b3 hsame
              have HB8 := Lib.hid hbw8
              have HW8 := Lib.hid hw8
              clear hb7 hD hw8 hb8 hn8 hb68 hn8a hbw8
              go_wp2_with fail
              refine hsame.mono ?_
              rw [← HW8.out]
              rintro e w9 ⟨rfl, hb9⟩
              have HB9 := Lib.hid (HB8.out.trans (hb9.mono HB8.out.size))
              clear hsame a0 a1 a2 a3 b0 b1' b2 b3 hb9
              go_wp2_with fail
              go_ret
              exact ⟨rfl, HB9.out⟩
            · have h4 : ((b.toNat : Int) != 10) = true := by rw [bne_iff_ne]; omega
              go_wp2_with fail
              go_ret
              exact ⟨rfl, H6.out.2.2⟩
theorem confBlanks_s (s : ByteArray) (sp : Int) (W : World) (g : Kg.Gk W) (hs : s.size ≤ 1048576) : Calls Tryz.prog 5 #[.string s, .int .i64 sp] W fun e w' => e = .returned (.bool true) ∧ Below W.heap.size W w' :=
  confBlanks_any s sp hs W g.mx g.ev g.low
end Go.Proofs.YtpdnopfjnmjnnaaGreatDoor.Cn
