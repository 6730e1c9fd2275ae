/- Package conf: the scanner's quoted. -/
import Derived.Test.YtpdnopfjnmjnnaaGreatDoorNb
import Derived.Laws.BytesArg
set_option linter.unusedVariables false
set_option linter.unusedSimpArgs false
namespace Go.Proofs.YtpdnopfjnmjnnaaGreatDoor.Cn
open Go.Sort Go.RowKit Go.Proofs Go.Proofs.YtpdnopfjnmjnnaaGreatDoorW.PrintWords Go.Proofs.YtpdnopfjnmjnnaaGreatDoor.Bs Go.Proofs.YtpdnopfjnmjnnaaGreatDoor.Ir Go.Proofs.YtpdnopfjnmjnnaaGreatDoor.Cz

theorem Tu_bytes : Tryz.prog.underlying 54 = some (.slice 5) := by kernel_rfl
theorem Tu_byte : Tryz.prog.underlying 5 = some (.int .u8) := by kernel_rfl
theorem Tu_string : Tryz.prog.underlying 9 = some .string := by kernel_rfl
theorem inB : (Tryz.prog.info? 5).map (fun i => (i.zero, i.size, i.bytes)) = some (some (.int .u8 0), 1, 1) := by kernel_rfl
def encB (b : UInt8) : Value := .int .u8 (b.toNat : Int)
theorem conv_nil (w : World) : (convert 54 9 (.slice none 0 0)).run Tryz.prog w = .ok (.string ⟨#[]⟩) w := by kernel_rfl
theorem conv_row {w : World} {base : Nat} {v : Value} {out : List UInt8} (h : w.ownsRow base 5 1 v out.length (out.map encB)) : (convert 54 9 v).run Tryz.prog w = .ok (.string ⟨out.toArray⟩) w := by
  obtain ⟨-, h⟩ := h
  rcases h with ⟨rfl, h0⟩ | ⟨g, cap, cur, rfl, hg, hh, h1, h2, h3, h4⟩
  · have : out = [] := List.eq_nil_of_length_eq_zero h0
    subst this
    exact conv_nil w
  · have e : strOfNums (out.map fun b => (b.toNat : Int)) = ⟨out.toArray⟩ := by
      simp [strOfNums, Function.comp_def]
    rw [← e]
    refine run_convert_bytes_arg (P := Tryz.prog) w 54 5 Tu_bytes Tu_byte g 0 out.length cap (out.map fun b => (b.toNat : Int)) (by simp) (fun i hi => ?_) 9 Tu_string
    have hc : cur[i]? = some (encB (out[i]'hi)) := by
      have := congrArg (fun l => l[i]?) h4
      simp only [Nat.mul_one] at this
      rw [List.getElem?_take] at this
      simp only [hi, if_true, List.getElem?_map, List.getElem?_eq_getElem hi, Option.map_some] at this
      simpa using this
    simp only [World.cell?, hh, Nat.zero_add]
    simp [hc, encB, List.getD_eq_getElem?_getD, hi]
theorem quotedGo_nil (n : Nat) (out : List UInt8) : quotedGo (n + 1) out [] = .error 15 := rfl
theorem quotedGo_cons (n : Nat) (out : List UInt8) (b : UInt8) (r : List UInt8) : quotedGo (n + 1) out (b :: r) = if b == 34 then .ok (out, r) else if ctlB [] b then .error 15 else if b == 92 then (match r with | [] => .error 15 | c :: r' => if escs.contains c then quotedGo n (out ++ [escB c]) r' else .error 15) else quotedGo n (out ++ [b]) r := rfl
theorem prefix34 (c : UInt8) (r : List UInt8) : Lib.hasPrefix (c :: r) [34] = (34 == c) := by simp [Lib.hasPrefix, List.isPrefixOf]
theorem trim_hit (l p : List UInt8) (h : Lib.hasPrefix l p = true) : Lib.trimPrefix l p = l.drop p.length := by rw [Lib.trimPrefix, if_pos h]
theorem trim_no (l p : List UInt8) (h : Lib.hasPrefix l p = false) : Lib.trimPrefix l p = l := by rw [Lib.trimPrefix, if_neg (by simp [h])]
theorem extract_rest (s : ByteArray) (c : UInt8) (r : List UInt8) (h : s.data.toList = c :: r) : (s.extract 1 s.size).data.toList = r := by
  rw [Lib.extract_to_end]
  rw [h]
  rfl
theorem extract_one (s : ByteArray) (c : UInt8) (r : List UInt8) (h : s.data.toList = c :: r) : (s.extract 0 1).data.toList = [c] := by
  rw [Lib.extract_data, h]
  simp
theorem escs_at (c : UInt8) (h : escs.contains c = true) : ∃ o : Nat, Lib.indexByte escs c = o ∧ o < 4 ∧ ∃ h' : o < (⟨#[10, 9, 34, 92]⟩ : ByteArray).size, (⟨#[10, 9, 34, 92]⟩ : ByteArray)[o]'h' = escB c := by
  simp only [escs, List.contains_cons, List.contains_nil, Bool.or_false, Bool.or_eq_true, beq_iff_eq] at h
  rcases h with rfl | rfl | rfl | rfl
  · exact ⟨0, by decide, by decide, by decide, by decide⟩
  · exact ⟨1, by decide, by decide, by decide, by decide⟩
  · exact ⟨2, by decide, by decide, by decide, by decide⟩
  · exact ⟨3, by decide, by decide, by decide, by decide⟩

/-- A text of one byte, or none. -/
theorem isEmpty_of {s : ByteArray} {l : List UInt8} (h : s.data.toList = l) : s.toList.isEmpty = l.isEmpty := by rw [Lib.toList_data, h]
theorem size_of {s : ByteArray} {l : List UInt8} (h : s.data.toList = l) : s.size = l.length := by rw [← h]; rfl
theorem at_zero {s : ByteArray} {c : UInt8} {r : List UInt8} (h : s.data.toList = c :: r) (h0 : 0 < s.size) : s[0]'h0 = c := by
  have := data_at s 0 h0
  rw [h] at this
  simpa using this.symm
theorem own_grown {W w1 : World} {base b : Nat} {e : TypeId} {size n : Nat} {v : Value} {xs : List Value} (h : W.ownsRow base e size v n xs) (hg : W.grownBy w1 (some b)) (hb : b < base) : w1.ownsRow base e size v n xs :=
  own_move h (fun k hk => hg.block k (own_lt h k hk) (fun e => by have := own_base h k hk; have := Option.some.inj e; omega))
theorem own_set_far {W : World} {base b i : Nat} {u : Value} {e : TypeId} {size n : Nat} {v : Value} {xs : List Value} (h : W.ownsRow base e size v n xs) (hb : b < base) : (W.setCell ⟨b, i, none⟩ u).ownsRow base e size v n xs :=
  own_move h (fun k hk => Below.heap_setCell W _ _ k (fun e => by have := own_base h k hk; simp at e; omega))
theorem own_slice {W : World} {base : Nat} {e : TypeId} {size n : Nat} {v : Value} {xs : List Value} (h : W.ownsRow base e size v n xs) : ∃ A c, v = .slice A n c := by
  rcases h.2 with ⟨rfl, rfl⟩ | ⟨g, cap, cur, rfl, _⟩
  · exact ⟨none, 0, rfl⟩
  · exact ⟨_, cap, rfl⟩
set_option maxRecDepth 100000 in
set_option maxHeartbeats 1000000 in
theorem quoted_any (b : Nat) (l0 : List UInt8) (w : World) (hc : ScAt b l0 w) (hs : l0.length ≤ 1073741824) :
    Calls Tryz.prog 79 #[.pointer (some ⟨b, 0, none⟩)] w fun e w' => Outr strV b w (quotedL l0) e w' := by
  have ht := take_any b l0 ⟨#[34]⟩ w hc
  have hbw := hc.lt
  have e34 : (⟨#[34]⟩ : ByteArray).data.toList = [34] := rfl
  rw [e34] at ht
  clear e34
  by_cases hp : Lib.hasPrefix l0 [34] = true
  case neg =>
    have hp' : Lib.hasPrefix l0 [34] = false := by simpa using hp
    have HR : quotedL l0 = .error 15 := by
      cases l0 with
      | nil => rfl
      | cons c r =>
        rw [prefix34] at hp'
        rw [quotedL, if_neg]
        simp only [beq_iff_eq] at *
        rintro rfl
        simp at hp'
    rw [HR]
    rw [hp'] at ht
    clear HR hp hp'
    go_enter Tryz.func79, Tryz.ntmps79
    go_wp2_with (first | (go_at_call 77; refine ht.mono ?_; rintro e w1 ⟨rfl, hg, -⟩) | (go_at_call 48; refine (must_no _ _).mono ?_; rintro e w9 ⟨rfl, rfl⟩; unfold pf))
    exact ⟨rfl, hg, rfl⟩
  case pos =>
    obtain ⟨r0, rfl⟩ : ∃ r, l0 = 34 :: r := by
      cases l0 with
      | nil => simp [Lib.hasPrefix, List.isPrefixOf] at hp
      | cons c r => rw [prefix34, beq_iff_eq] at hp; exact ⟨r, by rw [← hp]⟩
    rw [trim_hit _ _ hp] at ht
    rw [hp] at ht
    have HQ : quotedL (34 :: r0) = quotedGo (r0.length + 1) [] r0 := rfl
    rw [HQ]
    have e1 : (34 :: r0).drop [(34 : UInt8)].length = r0 := rfl
    rw [e1] at ht
    clear HQ hp e1 hc
    have hs0 : r0.length ≤ 1073741824 := by simp at hs; omega
    clear hs
    obtain ⟨i0, hi, hz0, hz1, hz2⟩ := info_parts inB
    go_enter Tryz.func79, Tryz.ntmps79
    go_wp2_with (first | (go_at_call 77; refine ht.mono ?_; rintro e w1 ⟨rfl, hg, hc⟩) | (go_at_call 48; refine (must_ok _ _).mono ?_; rintro e w9 ⟨rfl, rfl⟩))
    have HG1 := Lib.hid hg
    have HC1 := Lib.hid hc
    clear ht hg hc
    go_loopg [3, 4, 5] r0.length (fun g vo _ _ wx => ∃ (out l : List UInt8) (A : Option Addr) (cp : Nat), vo = .slice A out.length cp ∧ Hid (wx.ownsRow w.heap.size 5 1 vo out.length (out.map encB)) ∧ Hid (ScAt b l wx) ∧ Hid (w.grownBy wx (some b)) ∧ Hid (quotedGo (r0.length + 1) [] r0 = quotedGo (g + 1) out l) ∧ Hid (l.length ≤ g ∧ out.length + l.length ≤ r0.length))
    case atStart => exact ⟨[], r0, none, 0, rfl, Lib.hid (own_nil _ _ _ _), HC1, HG1, Lib.hid rfl, Lib.hid ⟨Nat.le_refl _, by simp⟩⟩
    case round =>
      obtain ⟨out, l, A, cp, rfl, HO, HC, HG, HE, HL⟩ := hrel
      have htk := take_any b l ⟨#[34]⟩ wr HC.out
      have e34 : (⟨#[34]⟩ : ByteArray).data.toList = [34] := rfl
      rw [e34] at htk
      clear e34
      cases l with
      | nil =>
        have HR := Lib.hid (HE.out.trans (quotedGo_nil _ _))
        clear HE
        have htk' : Calls Tryz.prog 77 #[.pointer (some ⟨b, 0, none⟩), .string ⟨#[34]⟩] wr fun e w' => e = .returned (.bool false) ∧ Sc b [] wr w' := htk
        clear htk
        go_wp2_with (first | (go_at_call 77; refine htk'.mono ?_; rintro e w2 ⟨rfl, hg2, hc2⟩; obtain ⟨s2, hs2, hb2⟩ := hc2; have he2 : s2.toList.isEmpty = true := (by rw [isEmpty_of hs2]; rfl); have h20 := blk_cell hb2 0; clear hb2 hs2) | (go_at_call 48; refine (must_no _ _).mono ?_; rintro e w9 ⟨rfl, rfl⟩; unfold pf))
        refine ⟨rfl, ?_⟩
        rw [HR.out]
        exact ⟨grown_trans HG.out hg2, rfl⟩
      | cons c r =>
        rw [prefix34] at htk
        have hcr := c.toNat_lt
        by_cases hq : c.toNat = 34
        · have hc34 : (34 == c) = true := by rw [beq_iff_eq]; exact (UInt8.toNat_inj.1 hq).symm
          have hc34' : (c == 34) = true := by rw [beq_iff_eq]; exact UInt8.toNat_inj.1 hq
          have HR := Lib.hid (show quotedGo (r0.length + 1) [] r0 = .ok (out, r) from by
            rw [HE.out]
            obtain ⟨g', rfl⟩ : ∃ g', gk = g' + 1 := ⟨gk - 1, by have := HL.out.1; simp at this; omega⟩
            rw [quotedGo_cons, if_pos hc34'])
          rw [trim_hit _ _ (by rw [prefix34]; exact hc34), hc34] at htk
          have htk' : Calls Tryz.prog 77 #[.pointer (some ⟨b, 0, none⟩), .string ⟨#[34]⟩] wr fun e w' => e = .returned (.bool true) ∧ Sc b r wr w' := htk
          clear htk hc34 hc34' hq HE
          go_wp2_with (go_at_call 77; refine htk'.mono ?_; rintro e w2 ⟨rfl, hg2, hc2⟩; have hcv := conv_row (own_grown HO.out hg2 hbw); have HC2 := Lib.hid hc2; clear hc2)
          go_ret
          rw [HR.out]
          exact ⟨grown_trans HG.out hg2, ⟨_, rfl, rfl⟩, HC2.out⟩
        · have hc34 : (34 == c) = false := by rw [beq_eq_false_iff_ne]; rintro rfl; exact hq rfl
          have hc34' : (c == 34) = false := by rw [beq_eq_false_iff_ne]; rintro rfl; exact hq rfl
          obtain ⟨g', rfl⟩ : ∃ g', gk = g' + 1 := ⟨gk - 1, by have := HL.out.1; simp at this; omega⟩
          have HE2 := HE.out.trans (quotedGo_cons (g' + 1) out c r)
          rw [hc34'] at HE2
          rw [trim_no _ _ (by rw [prefix34]; exact hc34), hc34] at htk
          have htk' : Calls Tryz.prog 77 #[.pointer (some ⟨b, 0, none⟩), .string ⟨#[34]⟩] wr fun e w' => e = .returned (.bool false) ∧ Sc b (c :: r) wr w' := htk
          clear htk hc34 hc34' hq HE
          have hL := HL.out
          simp only [List.length_cons] at hL
          cases hct : ctlB [] c
          case true =>
            have HR := Lib.hid (show quotedGo (r0.length + 1) [] r0 = .error 15 from by rw [HE2, hct]; rfl)
            clear HE2
            go_wp2_with fail
            refine htk'.mono ?_
            rintro e w2 ⟨rfl, hg2, s2, hs2, hb2⟩
            have he2 : s2.toList.isEmpty = false := by rw [isEmpty_of hs2]; rfl
            have h20 := blk_cell hb2 0
            have hsz : s2.size = r.length + 1 := by rw [size_of hs2]; rfl
            have h1s : 1 ≤ s2.size := by omega
            have hctl : Calls Tryz.prog 69 #[.string (s2.extract 0 1), .string ⟨#[]⟩] w2 fun e w' => e = .returned (.bool true) ∧ w2 = w' := by
              have := control_any (s2.extract 0 1) ⟨#[]⟩ w2 (by simp; omega)
              rw [extract_one s2 c r hs2] at this
              have e : controlL [c] (⟨#[]⟩ : ByteArray).data.toList = true := by simp [controlL]; exact hct
              rw [e] at this
              exact this
            clear hb2 hs2 hsz
            go_wp2_with (first | (go_at_call 69; refine hctl.mono ?_; rintro e w3 ⟨rfl, rfl⟩) | (go_at_call 48; refine (must_no _ _).mono ?_; rintro e w9 ⟨rfl, rfl⟩; unfold pf))
            refine ⟨rfl, ?_⟩
            rw [HR.out]
            exact ⟨grown_trans HG.out hg2, rfl⟩
          case false =>
            rw [hct] at HE2
            have HE3 := Lib.hid HE2
            clear HE2
            go_wp2_with fail
            refine htk'.mono ?_
            rintro e w2 ⟨rfl, hg2, s2, hs2, hb2⟩
            have he2 : s2.toList.isEmpty = false := by rw [isEmpty_of hs2]; rfl
            have h20 := blk_cell hb2 0
            have h2f := blk_frozen hb2 0
            have hsz : s2.size = r.length + 1 := by rw [size_of hs2]; rfl
            have h1s : 1 ≤ s2.size := by omega
            have h0s : 0 < s2.size := by omega
            have hx0 := at_zero hs2 h0s
            have hctl : Calls Tryz.prog 69 #[.string (s2.extract 0 1), .string ⟨#[]⟩] w2 fun e w' => e = .returned (.bool false) ∧ w2 = w' := by
              have := control_any (s2.extract 0 1) ⟨#[]⟩ w2 (by simp; omega)
              rw [extract_one s2 c r hs2] at this
              have e : controlL [c] (⟨#[]⟩ : ByteArray).data.toList = false := by simp [controlL]; exact hct
              rw [e] at this
              exact this
            have HS2 := Lib.hid hs2
            have HB2 := Lib.hid hb2
            have HSZ := Lib.hid hsz
            clear hb2 hs2 hsz htk'
            by_cases h92 : c.toNat = 92
            case neg =>
              have hc92 : (c == 92) = false := by rw [beq_eq_false_iff_ne]; rintro rfl; exact h92 rfl
              have hi92 : ((c.toNat : Int) == 92) = false := by rw [beq_eq_false_iff_ne]; omega
              have HN := Lib.hid (show quotedGo (r0.length + 1) [] r0 = quotedGo (g' + 1) (out ++ [c]) r from by rw [HE3.out, hc92]; rfl)
              have HG2 := Lib.hid (grown_trans HG.out hg2)
              have HO2 := own_grown HO.out hg2 hbw
              have HB3 := Lib.hid (show ScAt b r (w2.setCell ⟨b, 0, none⟩ (.string (s2.extract 1 s2.size))) from ⟨_, extract_rest s2 c r HS2.out, blk_set HB2.out 0 (.string (s2.extract 1 s2.size))⟩)
              clear hc92 h92 HE3 HG HO
              have HL2 := Lib.hid hL
              clear hL
              go_wp2_with (first | (go_at_call 69; refine hctl.mono ?_; rintro e w3 ⟨rfl, rfl⟩) | (go_at_call 48; refine (must_ok _ _).mono ?_; rintro e w9 ⟨rfl, rfl⟩; clear hctl) | (at_builtin; refine wpList_append_own _ rfl (.tmp 67) (.tmp 69) 54 rfl w.heap.size 5 i0 (.int .u8 0) 1 1 Tu_bytes hi hz0 hz1 hz2 rfl (by decide) _ out.length (out.map encB) rfl ((own_set_far HO2 hbw).alloc _) ⟨_, 0, none⟩ 1 1 [encB c] rfl rfl ?c1 ?c2 ?c3 ?c4 ?c5 ?_))
              case c1 =>
                intro j u hj
                rw [add_plain]
                have hz : (w2.setCell ⟨b, 0, none⟩ (.string (s2.extract 1 s2.size))).heap.size = w2.heap.size := by simp [World.setCell]
                rw [← hz]
                exact cell_new _ #[encB c] _ j u (by simpa using hj)
              case c2 =>
                intro u hu
                rw [List.mem_singleton.1 hu]
                rfl
              case c3 => have := HL2.out; unfold maxLen; omega
              case c4 => have := HL2.out; omega
              case c5 => have := HG2.out.size; simp [World.setCell]; omega
              intro v' w7 hown7 hg7 _
              obtain ⟨A', cp', rfl⟩ := own_slice hown7
              have hlo6 : ∀ k, (Value.slice A out.length cp).ownBlock = some k → w.heap.size ≤ k := fun k hk => own_base HO2 k hk
              clear HO2 h20 h2f he2 hx0
              go_wp2_with fail
              go_roundg g'
              case measure => omega
              case rel => exact ⟨out ++ [c], r, A', cp', by simp, Lib.hid (by simpa using hown7), Lib.hid ((HB3.out.below (below_alloc (Below.refl _ _) _)).grown hg7 (fun e => by have := hlo6 b e.symm; omega)), Lib.hid (grown_far (grown_below (grown_set HG2.out) (below_alloc (Below.refl _ _) _)) hg7 hlo6), HN, Lib.hid ⟨by have := HL2.out; omega, by have := HL2.out; simp; omega⟩⟩
            case pos =>
              have hc92 : (c == 92) = true := by rw [beq_iff_eq]; exact UInt8.toNat_inj.1 h92
              have hi92 : ((c.toNat : Int) == 92) = true := by rw [beq_iff_eq]; omega
              have HE4 := HE3.out
              rw [hc92] at HE4
              simp only [Bool.false_eq_true, if_false, if_true] at HE4
              have HG2 := Lib.hid (grown_trans HG.out hg2)
              have hs3 := extract_rest s2 c r HS2.out
              have hb3 : (w2.setCell ⟨b, 0, none⟩ (.string (s2.extract 1 s2.size))).heap[b]? = some (.cells #[.string (s2.extract 1 s2.size)] 126 (0, 0)) := blk_set HB2.out 0 (.string (s2.extract 1 s2.size))
              clear hc92 h92 HE3
              cases r with
              | nil =>
                have he3 : (s2.extract 1 s2.size).toList.isEmpty = true := by rw [isEmpty_of hs3]; rfl
                have HR := Lib.hid (show quotedGo (r0.length + 1) [] r0 = .error 15 from HE4)
                have HB3 := Lib.hid hb3
                clear HE4 hs3 hb3
                go_wp2_with fail
                refine hctl.mono ?_
                rintro e w3 ⟨rfl, rfl⟩
                go_wp2_with fail
                refine (must_ok _ _).mono ?_
                rintro e w3 ⟨rfl, rfl⟩
                go_wp2_with fail
                refine (must_no _ _).mono ?_
                rintro e w9 ⟨rfl, rfl⟩
                unfold pf
                go_wp2_with fail
                refine ⟨rfl, ?_⟩
                rw [HR.out]
                exact ⟨grown_set HG2.out, rfl⟩
              | cons d r1 =>
                obtain ⟨s3, h3⟩ : ∃ s3, s2.extract 1 s2.size = s3 := ⟨_, rfl⟩
                rw [h3] at hs3 hb3
                have he3 : s3.toList.isEmpty = false := by rw [isEmpty_of hs3]; rfl
                have hsz3 : s3.size = r1.length + 1 := by rw [size_of hs3]; rfl
                have h0s3 : 0 < s3.size := by omega
                have hx3 := at_zero hs3 h0s3
                have hci := Tryz.strings_IndexByte ⟨#[110, 116, 34, 92]⟩ (d.toNat : Int) (w2.setCell ⟨b, 0, none⟩ (.string s3))
                have hback : ((d.toNat : Int)).toNat.toUInt8 = d := by simp
                rw [hback] at hci
                have e4 : (⟨#[110, 116, 34, 92]⟩ : ByteArray).data.toList = escs := rfl
                rw [e4] at hci
                have hcon := Lib.contains_iff_indexByte escs d
                have HS3 := Lib.hid hs3
                have HB3 := Lib.hid hb3
                have HSZ3 := Lib.hid hsz3
                clear e4 hback hs3 hb3 hsz3
                cases hesc : escs.contains d
                case false =>
                  dsimp only at HE4
                  rw [hesc] at hcon HE4
                  have hneg : decide (0 ≤ Lib.indexByte escs d) = false := hcon.symm
                  have HR := Lib.hid (show quotedGo (r0.length + 1) [] r0 = .error 15 from HE4)
                  clear HE4 hcon hesc
                  go_wp2_with fail
                  refine hctl.mono ?_
                  rintro e w3 ⟨rfl, rfl⟩
                  go_wp2_with fail
                  refine (must_ok _ _).mono ?_
                  rintro e w3 ⟨rfl, rfl⟩
                  go_wp2_with fail
                  refine (must_ok _ _).mono ?_
                  rintro e w3 ⟨rfl, rfl⟩
                  go_wp2_with fail
                  refine hci.mono ?_
                  rintro e w3 ⟨rfl, rfl⟩
                  go_wp2_with fail
                  refine (must_no _ _).mono ?_
                  rintro e w9 ⟨rfl, rfl⟩
                  unfold pf
                  go_wp2_with fail
                  refine ⟨rfl, ?_⟩
                  rw [HR.out]
                  exact ⟨grown_set HG2.out, rfl⟩
                case true =>
                  dsimp only at HE4
                  rw [hesc] at HE4
                  obtain ⟨o, ho1, ho2, ho3, ho4⟩ := escs_at d hesc
                  rw [ho1] at hci
                  have HN := Lib.hid (show quotedGo (r0.length + 1) [] r0 = quotedGo (g' + 1) (out ++ [escB d]) r1 from HE4)
                  have HO2 := own_set_far (i := 0) (u := .string s3) (own_grown HO.out hg2 hbw) hbw
                  obtain ⟨s4, h4⟩ : ∃ s4, s3.extract 1 s3.size = s4 := ⟨_, rfl⟩
                  have hs4 := extract_rest s3 d r1 HS3.out
                  rw [h4] at hs4
                  have HO3 := own_set_far (i := 0) (u := .string s4) HO2 hbw
                  have HB4 := Lib.hid (show ScAt b r1 ((w2.setCell ⟨b, 0, none⟩ (.string s3)).setCell ⟨b, 0, none⟩ (.string s4)) from ⟨_, hs4, blk_set HB3.out 0 (.string s4)⟩)
                  have HL2 := Lib.hid hL
                  have h1s3 : 1 ≤ s3.size := h0s3
                  have ho5 : (o : Int) < 4 := by omega
                  clear HE4 hcon hesc ho1 hL HO HG HC HL hs4
                  go_wp2_with fail
                  refine hctl.mono ?_
                  rintro e w3 ⟨rfl, rfl⟩
                  go_wp2_with fail
                  refine (must_ok _ _).mono ?_
                  rintro e w3 ⟨rfl, rfl⟩
                  go_wp2_with fail
                  refine (must_ok _ _).mono ?_
                  rintro e w3 ⟨rfl, rfl⟩
                  go_wp2_with fail
                  refine hci.mono ?_
                  rintro e w3 ⟨rfl, rfl⟩
                  go_wp2_with fail
                  refine (must_ok _ _).mono ?_
                  rintro e w9 ⟨rfl, rfl⟩
                  obtain ⟨W4, hW4⟩ : ∃ W4, (w2.setCell ⟨b, 0, none⟩ (.string s3)).setCell ⟨b, 0, none⟩ (.string s4) = W4 := ⟨_, rfl⟩
                  have hgW : w.grownBy W4 (some b) := by rw [← hW4]; exact grown_set (grown_set HG2.out)
                  have hz4 : W4.heap.size = w2.heap.size := by rw [← hW4]; simp [World.setCell]
                  rw [hW4] at HO3 HB4
                  go_wp2_with (at_builtin; refine wpList_append_own _ rfl (.tmp 67) (.tmp 69) 54 rfl w.heap.size 5 i0 (.int .u8 0) 1 1 Tu_bytes hi hz0 hz1 hz2 rfl (by decide) _ out.length (out.map encB) rfl (HO3.alloc _) ⟨_, 0, none⟩ 1 1 [encB (escB d)] rfl rfl ?d1 ?d2 ?d3 ?d4 ?d5 ?_)
                  case d1 =>
                    intro j u hj
                    rw [add_plain]
                    first | exact cell_new W4 #[encB (escB d)] _ j u (by simpa using hj) | (rw [← hz4]; exact cell_new W4 #[encB (escB d)] _ j u (by simpa using hj))
                  case d2 =>
                    intro u hu
                    rw [List.mem_singleton.1 hu]
                    rfl
                  case d3 => have := HL2.out; simp at this; unfold maxLen; omega
                  case d4 => have := HL2.out; simp at this; omega
                  case d5 => have := hgW.size; simp; omega
                  intro v' w7 hown7 hg7 _
                  obtain ⟨A', cp', rfl⟩ := own_slice hown7
                  have hlo6 : ∀ k, (Value.slice A out.length cp).ownBlock = some k → w.heap.size ≤ k := fun k hk => own_base HO3 k hk
                  clear HO3 HO2 h20 h2f he2 hx0 hx3 ho4
                  go_wp2_with fail
                  go_roundg g'
                  case measure => omega
                  case rel => exact ⟨out ++ [escB d], r1, A', cp', by simp, Lib.hid (by simpa using hown7), Lib.hid ((HB4.out.below (below_alloc (Below.refl _ _) _)).grown hg7 (fun e => by have := hlo6 b e.symm; omega)), Lib.hid (grown_far (grown_below hgW (below_alloc (Below.refl _ _) _)) hg7 hlo6), HN, Lib.hid ⟨by have := HL2.out; simp at this; omega, by have := HL2.out; simp at this; simp; omega⟩⟩
end Go.Proofs.YtpdnopfjnmjnnaaGreatDoor.Cn
