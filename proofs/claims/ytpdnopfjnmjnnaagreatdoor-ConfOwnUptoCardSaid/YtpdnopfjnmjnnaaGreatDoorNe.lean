/- Package conf: the scanner's list. -/
import Derived.Test.YtpdnopfjnmjnnaaGreatDoorNd
import Derived.Test.YtpdnopfjnmjnnaaGreatDoorNy
set_option linter.unusedVariables false
set_option linter.unusedSimpArgs false
namespace Go.Proofs.YtpdnopfjnmjnnaaGreatDoor.Cn
open Go.Sort Go.RowKit Go.Proofs Go.Proofs.YtpdnopfjnmjnnaaGreatDoorW.PrintWords Go.Proofs.YtpdnopfjnmjnnaaGreatDoor.Bs Go.Proofs.YtpdnopfjnmjnnaaGreatDoor.Ir Go.Proofs.YtpdnopfjnmjnnaaGreatDoor.Cz

theorem Tu_strings : Tryz.prog.underlying 29 = some (.slice 9) := by kernel_rfl
theorem inS : (Tryz.prog.info? 9).map (fun i => (i.zero, i.size, i.bytes)) = some (some (.string ⟨#[]⟩), 1, 16) := by kernel_rfl
def listV (base : Nat) (x : List (List UInt8)) (w : World) (v : Value) : Prop := Kd.string.R 9 w base (fun k => base ≤ k) v (x.map bsOf)
theorem listGo_succ (n : Nat) (out : List (List UInt8)) (l : List UInt8) : listGo (n + 1) out l = match itemL (spacesL l) with
    | .error y => .error y
    | .ok (x, l1) => if Lib.hasPrefix (spacesL l1) [44] then listGo n (out ++ [x]) ((spacesL l1).drop 1) else if Lib.hasPrefix (spacesL l1) [93] then .ok (out ++ [x], (spacesL l1).drop 1) else .error 15 := by
  rw [listGo]
  rfl
theorem prefix_one (l : List UInt8) (c : UInt8) (h : Lib.hasPrefix l [c] = true) : ∃ r, l = c :: r := by
  cases l with
  | nil => simp [Lib.hasPrefix, List.isPrefixOf] at h
  | cons b r =>
    simp [Lib.hasPrefix, List.isPrefixOf] at h
    exact ⟨r, by rw [h]⟩
theorem trim_one (l : List UInt8) (c : UInt8) : Lib.trimPrefix l [c] = if Lib.hasPrefix l [c] then l.drop 1 else l := rfl
theorem take1 (b : Nat) (c : UInt8) (l : List UInt8) (w : World) (hc : ScAt b l w) :
    Calls Tryz.prog 77 #[.pointer (some ⟨b, 0, none⟩), .string ⟨#[c]⟩] w fun e w' => e = .returned (.bool (Lib.hasPrefix l [c])) ∧ Sc b (if Lib.hasPrefix l [c] then l.drop 1 else l) w w' := take_any b l ⟨#[c]⟩ w hc
set_option maxRecDepth 100000 in
set_option maxHeartbeats 1000000 in
theorem list_any (b : Nat) (l0 : List UInt8) (w : World) (hm : Mx w) (hb : 2 < b) (hc : ScAt b l0 w) (hs : l0.length ≤ 1073741824) :
    Calls Tryz.prog 80 #[.pointer (some ⟨b, 0, none⟩)] w fun e w' => Outr (listV w.heap.size) b w (listL l0) e w' := by
  have hbw := hc.lt
  have ht := take1 b 91 l0 w hc
  unfold listL
  rw [trim_one]
  have hlen1 : (if Lib.hasPrefix l0 [91] then l0.drop 1 else l0).length ≤ 1073741824 := by split <;> (try simp) <;> omega
  generalize (if Lib.hasPrefix l0 [91] then l0.drop 1 else l0) = l1 at *
  generalize Lib.hasPrefix l0 [91] = u0 at *
  dsimp only
  have hsp := spacesL_len l1
  have hsp2 : ∀ W, ScAt b l1 W → _ := fun W h => spaces_any b l1 W h
  have htk : ∀ W, ScAt b (spacesL l1) W → _ := fun W h => take1 b 93 (spacesL l1) W h
  generalize spacesL l1 = l2 at *
  have hs2 : l2.length ≤ 1073741824 := by omega
  have HM := Lib.hid hm
  clear hc hlen1 hsp hs hm
  cases hp : Lib.hasPrefix l2 [93]
  case true =>
    rw [hp] at htk
    rw [if_pos rfl]
    simp only [if_true] at htk
    clear hp
    go_enter Tryz.func80, Tryz.ntmps80
    go_wp2_with fail
    refine ht.mono ?_
    rintro e w1 ⟨rfl, hg1, hc1⟩
    have h2 := hsp2 w1 hc1
    have HG1 := Lib.hid hg1
    clear hg1 hc1
    go_wp2_with fail
    refine h2.mono ?_
    rintro e w2 ⟨rfl, hg2, hc2⟩
    have h3 := htk w2 hc2
    have HG2 := Lib.hid (grown_trans HG1.out hg2)
    clear hg2 hc2 HG1
    go_wp2_with fail
    refine h3.mono ?_
    rintro e w3 ⟨rfl, hg3, hc3⟩
    have HC3 := Lib.hid hc3
    clear hc3
    go_wp2_with fail
    go_ret
    exact ⟨grown_trans HG2.out hg3, ⟨_, rfl, Kd.R_nil _ _ _ _ _⟩, HC3.out⟩
  case false =>
    rw [hp] at htk
    rw [if_neg (by decide)]
    simp only [Bool.false_eq_true, if_false] at htk
    clear hp
    go_enter Tryz.func80, Tryz.ntmps80
    go_wp2_with fail
    refine ht.mono ?_
    rintro e w1 ⟨rfl, hg1, hc1⟩
    have h2 := hsp2 w1 hc1
    have HG1 := Lib.hid hg1
    clear hg1 hc1
    go_wp2_with fail
    refine h2.mono ?_
    rintro e w2 ⟨rfl, hg2, hc2⟩
    have h3 := htk w2 hc2
    have HG2 := Lib.hid (grown_trans HG1.out hg2)
    clear hg2 hc2 HG1
    go_wp2_with fail
    refine h3.mono ?_
    rintro e w3 ⟨rfl, hg3, hc3⟩
    have HG3 := Lib.hid (grown_trans HG2.out hg3)
    have HC3 := Lib.hid hc3
    clear hc3 hg3 HG2 h2 h3 ht hsp2 htk
    go_wp2_with fail
    go_loopg [3, 4] (l2.length + 1) (fun g vo vm wx => ∃ (out : List (List UInt8)) (l : List UInt8) (A : Option Addr) (cp : Nat) (m : Bool), vo = .slice A out.length cp ∧ vm = .bool m ∧ Hid (listV w.heap.size out wx (.slice A out.length cp)) ∧ Hid (ScAt b l wx) ∧ Hid (w.grownBy wx (some b)) ∧ Hid (listGo (l2.length + 1) [] l2 = if m then listGo g out l else .ok (out, l)) ∧ Hid ((m = true → l.length < g) ∧ out.length + l.length ≤ l2.length))
    case atStart => exact ⟨[], l2, none, 0, true, rfl, rfl, Lib.hid (Kd.R_nil _ _ _ _ _), HC3, HG3, Lib.hid rfl, Lib.hid ⟨fun _ => by omega, by simp⟩⟩
    case round =>
      obtain ⟨out, l, A, cp, m, rfl, rfl, HO, HC, HG, HE, HL⟩ := hrel
      cases m
      case false =>
        have HR := Lib.hid (show listGo (l2.length + 1) [] l2 = .ok (out, l) from HE.out)
        go_wp2_with fail
        go_ret
        rw [HR.out]
        exact ⟨HG.out, ⟨_, rfl, HO.out⟩, HC.out⟩
      case true =>
        obtain ⟨g', rfl⟩ : ∃ g', gk = g' + 1 := ⟨gk - 1, by have := HL.out.1 rfl; omega⟩
        have hE : listGo (l2.length + 1) [] l2 = _ := HE.out.trans ((if_pos rfl).trans (listGo_succ g' out l))
        have hL := HL.out
        have hls := spacesL_len l
        have h1 := spaces_any b l wr HC.out
        cases hit : itemL (spacesL l) with
        | error y =>
          rw [hit] at hE
          have HR := Lib.hid (show listGo (l2.length + 1) [] l2 = .error y from hE)
          have HITE := Lib.hid hit
          clear hE hit hL
          go_wp2_with fail
          refine h1.mono ?_
          rintro e w4 ⟨rfl, hg4, hc4⟩
          have h2 := item_any b (spacesL l) w4 (HM.out.sc (grown_trans HG.out hg4) hb) hb hc4 (by have := HL.out.2; omega)
          rw [HITE.out] at h2
          have HG4 := Lib.hid (grown_trans HG.out hg4)
          clear hg4 hc4 h1
          go_wp2_with fail
          refine h2.mono ?_
          rintro e w5 ⟨hg5, rfl⟩
          unfold pf
          go_wp2_with fail
          refine ⟨rfl, ?_⟩
          rw [HR.out]
          exact ⟨grown_trans HG4.out hg5, rfl⟩
        | ok z =>
          obtain ⟨x, l3⟩ := z
          rw [hit] at hE
          dsimp only at hE
          have hil := itemL_len hit
          have hl3 := spacesL_len l3
          have HITE := Lib.hid hit
          have HEE := Lib.hid hE
          have HLL := Lib.hid (show l3.length + x.length ≤ l.length ∧ (spacesL l3).length ≤ l3.length ∧ l.length < g' + 1 ∧ out.length + l.length ≤ l2.length from ⟨by omega, hl3, hL.1 rfl, hL.2⟩)
          clear hE hit hL hil hl3 hls
          go_wp2_with fail
          refine h1.mono ?_
          rintro e w4 ⟨rfl, hg4, hc4⟩
          have h2 := item_any b (spacesL l) w4 (HM.out.sc (grown_trans HG.out hg4) hb) hb hc4 (by have := HLL.out; have := spacesL_len l; omega)
          rw [HITE.out] at h2
          have HG4 := Lib.hid (grown_trans HG.out hg4)
          have HO4 := Lib.hid (Kd.R_grown HO.out hg4 (fun k hk e => by have := Option.some.inj e; omega))
          clear hg4 hc4 h1
          go_wp2_with fail
          refine h2.mono ?_
          rintro e w5 ⟨hg5, ⟨_, rfl, rfl⟩, hc5⟩
          have HG5 := Lib.hid (grown_trans HG4.out hg5)
          have HC5 := Lib.hid hc5
          have HO5 : listV w.heap.size out w5 (.slice A out.length cp) := Kd.R_grown HO4.out hg5 (fun k hk e => by have := Option.some.inj e; omega)
          clear hg5 hc5 h2 HO4
          go_wp2_with (at_builtin; refine Kd.R_append Kd.string (w0 := w5) (W := w5) w.heap.size rfl (.tmp 15) (.tmp 18) 29 9 (.string ⟨#[]⟩) 16 rfl Tu_strings inS rfl (by decide) (by decide) _ _ (bsOf x) [.string (bsOf x)] (fun k => w.heap.size ≤ k) (fun _ => False) rfl rfl rfl (fun _ h => h.elim) (fun k hk => Nat.le_trans HG5.out.size hk) HO5 (Below.refl _ _) HG5.out.size (by have := HLL.out; simp; omega) ?_)
          intro v1 w6 hR6 _ hg6 _
          obtain ⟨A6, cp6, rfl⟩ := Kd.R_slice hR6
          have hlo : ∀ k, (Value.slice A out.length cp).ownBlock = some k → w.heap.size ≤ k := fun k hk => HO5.1 k hk
          have HC6 := Lib.hid (HC5.out.grown hg6 (fun e => by have := hlo b e.symm; omega))
          have HG6 := Lib.hid (grown_far HG5.out hg6 hlo)
          have HO6 := Lib.hid hR6
          have h6 := spaces_any b l3 w6 HC6.out
          clear hR6 hg6 hlo HO5 HC5 HO HC HG HE
          go_wp2_with fail
          refine h6.mono ?_
          rintro e w7 ⟨rfl, hg7, hc7⟩
          have h7 := take1 b 44 (spacesL l3) w7 hc7
          have HG7 := Lib.hid (grown_trans HG6.out hg7)
          have HO7 := Lib.hid (Kd.R_grown HO6.out hg7 (fun k hk e => by have := Option.some.inj e; omega))
          clear hg7 hc7 h6 HO6
          cases hp44 : Lib.hasPrefix (spacesL l3) [44]
          case true =>
            rw [hp44] at h7
            simp only [if_true] at h7
            have hE2 := HEE.out
            rw [hp44, if_pos rfl] at hE2
            obtain ⟨r, hr⟩ := prefix_one _ _ hp44
            have HN := Lib.hid hE2
            have HLr := Lib.hid (show (List.drop 1 (spacesL l3)).length + 1 = (spacesL l3).length from by rw [hr]; simp)
            clear hE2 hp44 hr
            go_wp2_with fail
            refine h7.mono ?_
            rintro e w8 ⟨rfl, hg8, hc8⟩
            have HO8 := Lib.hid (Kd.R_grown HO7.out hg8 (fun k hk e => by have := Option.some.inj e; omega))
            have HG8 := Lib.hid (grown_trans HG7.out hg8)
            have HC8 := Lib.hid hc8
            clear hg8 hc8 h7 HO7
            go_wp2_with fail
            refine (must_ok _ _).mono ?_
            rintro e w9 ⟨rfl, rfl⟩
            go_wp2_with fail
            go_roundg g'
            case measure => omega
            case rel => exact ⟨out ++ [x], List.drop 1 (spacesL l3), A6, cp6, true, by simp, rfl, Lib.hid (by have := HO8.out; unfold listV; simpa using this), HC8, HG8, Lib.hid (by rw [if_pos rfl]; exact HN.out), Lib.hid ⟨fun _ => by have := HLL.out; have := HLr.out; omega, by have := HLL.out; have := HLr.out; simp only [List.length_append, List.length_singleton]; omega⟩⟩
          case false =>
            rw [hp44] at h7
            simp only [Bool.false_eq_true, if_false] at h7
            have hE2 := HEE.out
            rw [hp44, if_neg (by decide)] at hE2
            have HN := Lib.hid hE2
            clear hE2 hp44
            cases hp93 : Lib.hasPrefix (spacesL l3) [93]
            case true =>
              have hE3 := HN.out
              rw [hp93, if_pos rfl] at hE3
              have HN3 := Lib.hid hE3
              have HP := Lib.hid hp93
              obtain ⟨r, hr⟩ := prefix_one _ _ hp93
              have HLr := Lib.hid (show (List.drop 1 (spacesL l3)).length + 1 = (spacesL l3).length from by rw [hr]; simp)
              clear hE3 hp93 hr HN
              go_wp2_with fail
              refine h7.mono ?_
              rintro e w8 ⟨rfl, hg8, hc8⟩
              have h8 := take1 b 93 (spacesL l3) w8 hc8
              rw [HP.out] at h8
              simp only [if_true] at h8
              have HO8 := Lib.hid (Kd.R_grown HO7.out hg8 (fun k hk e => by have := Option.some.inj e; omega))
              have HG8 := Lib.hid (grown_trans HG7.out hg8)
              clear hg8 hc8 h7 HO7
              go_wp2_with fail
              refine h8.mono ?_
              rintro e w9 ⟨rfl, hg9, hc9⟩
              have HO9 := Lib.hid (Kd.R_grown HO8.out hg9 (fun k hk e => by have := Option.some.inj e; omega))
              have HG9 := Lib.hid (grown_trans HG8.out hg9)
              have HC9 := Lib.hid hc9
              clear hg9 hc9 h8 HO8
              go_wp2_with fail
              refine (must_ok _ _).mono ?_
              rintro e w9 ⟨rfl, rfl⟩
              go_wp2_with fail
              go_roundg g'
              case measure => omega
              case rel => exact ⟨out ++ [x], List.drop 1 (spacesL l3), A6, cp6, false, by simp, rfl, Lib.hid (by have := HO9.out; unfold listV; simpa using this), HC9, HG9, Lib.hid (by rw [if_neg (by decide)]; exact HN3.out), Lib.hid ⟨(fun h => by cases h), by have := HLL.out; have := HLr.out; simp only [List.length_append, List.length_singleton]; omega⟩⟩
            case false =>
              have hE3 := HN.out
              rw [hp93, if_neg (by decide)] at hE3
              have HN3 := Lib.hid hE3
              have HP := Lib.hid hp93
              clear hE3 hp93 HN
              go_wp2_with fail
              refine h7.mono ?_
              rintro e w8 ⟨rfl, hg8, hc8⟩
              have h8 := take1 b 93 (spacesL l3) w8 hc8
              rw [HP.out] at h8
              simp only [Bool.false_eq_true, if_false] at h8
              have HG8 := Lib.hid (grown_trans HG7.out hg8)
              clear hg8 hc8 h7
              go_wp2_with fail
              refine h8.mono ?_
              rintro e w9 ⟨rfl, hg9, hc9⟩
              go_wp2_with fail
              refine (must_no _ _).mono ?_
              rintro e w9 ⟨rfl, rfl⟩
              unfold pf
              go_wp2_with fail
              refine ⟨rfl, ?_⟩
              rw [HN3.out]
              exact ⟨grown_trans HG8.out hg9, rfl⟩
end Go.Proofs.YtpdnopfjnmjnnaaGreatDoor.Cn
