/- Package http: ReadResponse's first line. -/
import Derived.Test.YtjbehnalmgcbpaaGreatDoorRr
import Derived.Test.YtjbehnalmgcbpaaGreatDoorQt
set_option linter.unusedVariables false
set_option linter.unusedSimpArgs false
namespace Go.Proofs.YtjbehnalmgcbpaaGreatDoor.Ht
open Go.Sort Go.RowKit Go.Proofs Go.Proofs.YtjbehnalmgcbpaaGreatDoorW.PrintWords Go.Proofs.YtjbehnalmgcbpaaGreatDoor.Bs Go.Proofs.YtjbehnalmgcbpaaGreatDoor.Ir Go.Proofs.YtjbehnalmgcbpaaGreatDoor.Gn

def AtoiRes (s : ByteArray) (k : Int) (ev : Value) : Prop := (Lib.atoiAll s.data.toList = .ok k ∧ ev = .nilIface) ∨ ((∀ v, Lib.atoiAll s.data.toList ≠ .ok v) ∧ ∃ N : Nat, ev = .iface 115 (.pointer (some ⟨N, 0, none⟩)))
theorem atoi_gen (s : ByteArray) (W : World) (G : Gnd W) (hs : s.size ≤ 1073741824) :
    Calls Tryz.prog 46 #[.string s] W fun e w' => ∃ k ev, e = .returned (.tuple #[.int .i64 k, ev]) ∧ AtoiRes s k ev ∧ Below W.heap.size W w' := by
  rcases h : Lib.atoiAll s.data.toList with v | _ | _
  · refine (Go.Proofs.Tryz.strconv_Atoi_ok s (by omega) v h W).mono ?_
    rintro e w' ⟨rfl, rfl | ⟨t, rfl⟩⟩
    · exact ⟨v, _, rfl, .inl ⟨h, rfl⟩, Below.refl _ _⟩
    · exact ⟨v, _, rfl, .inl ⟨h, rfl⟩, below_bytes _ _ _⟩
  · obtain ⟨t, p, hp⟩ := G.es
    refine (Any.strconv_Atoi_syntax Go.Proofs.Tryz.laysC172 s (by omega) h _ W hp (.inr ⟨t, p, rfl⟩)).mono ?_
    rintro e w' ⟨N, rfl, _, _, hb⟩
    exact ⟨_, _, rfl, .inr ⟨(fun v e => by rw [h] at e; cases e), N, rfl⟩, hb⟩
  · obtain ⟨t, p, hp⟩ := G.er
    refine (Go.Proofs.Tryz.strconv_Atoi_range s (by omega) h _ W hp (.inr ⟨t, p, rfl⟩)).mono ?_
    rintro e w' ⟨N, rfl, _, _, hb⟩
    exact ⟨_, _, rfl, .inr ⟨(fun v e => by rw [h] at e; cases e), N, rfl⟩, hb⟩
theorem atoi_range {l : List UInt8} {v : Int} (h : Lib.atoiAll l = .ok v) : -9223372036854775808 ≤ v ∧ v ≤ 9223372036854775807 := by
  unfold Lib.atoiAll at h
  split at h
  · cases h
  · dsimp only at h
    split at h
    · cases h
    · cases h
    · split at h
      · cases h
      · split at h
        · cases h
        · have := (Lib.NumEnd.ok.inj h)
          split at this <;> omega
/-- The function on a response's first line. -/
def firstResp (x0 x1 x2 : ByteArray) : Except Int Int :=
  if x0 = httpS then
    match Lib.atoiAll x1.data.toList with
    | .ok k => if itoaB k = x1 ∧ 100 ≤ k ∧ k ≤ 599 then .ok k else .error 13
    | _ => .error 13
  else .error 13
def RespAt (rb : Nat) (k : Int) (hv : Value) (bd : ByteArray) (W : World) : Prop := W.heap[rb]? = some (.cells #[.int .i64 k, hv, .string bd] 35 (0, 0))
def FinResp (rb : Nat) (z : Int) (W : World) : Prop := RespAt rb z (.slice none 0 0) ⟨#[]⟩ W
theorem str_eq (x y : ByteArray) : (x.toList == y.toList) = decide (x = y) := by
  rw [Bool.eq_iff_iff, beq_iff_eq, decide_eq_true_eq, ByteArray.toList_eq, ByteArray.toList_eq]
  constructor
  · intro h
    apply ByteArray.ext
    apply Array.ext'
    exact h
  · intro h; rw [h]
set_option maxRecDepth 100000 in
set_option maxHeartbeats 4000000 in
theorem firstResp_any (rb : Nat) : FirstOk 45 #[.pointer (some ⟨rb, 0, none⟩)] rb (fun W => FinResp rb 0 W) (FinResp rb) firstResp := by
  intro W a c x0 x1 x2 h0 h1 h2 s0 s1 s2 hI G
  show Calls Tryz.prog 45 #[.slice (some ⟨a, 0, none⟩) 3 c, .pointer (some ⟨rb, 0, none⟩)] W (fun e w' => FirstPost rb (FinResp rb) W (firstResp x0 x1 x2) e w')
  have ha := World.block_lt_of_cell? W _ h0
  dsimp only at ha
  have hat := atoi_gen x1 W G s1
  have hh := http_eq x0
  obtain ⟨R, hR⟩ : ∃ R, R = firstResp x0 x1 x2 := ⟨_, rfl⟩
  rw [← hR]
  unfold firstResp at hR
  have HR := Lib.hid hR
  have HI := Lib.hid hI
  have HG := Lib.hid G
  clear hR hI G h2 s0 s2
  go_enter Tryz.func45, Tryz.ntmps45
  go_wp2_with (go_at_call 46; refine hat.mono ?_; rintro e w1 ⟨k, ev, rfl, hres, hb1⟩)
  have k0 := cell_regrown ((hb1.cell ha).trans h0)
  have k1 := cell_regrown ((hb1.cell (p := ⟨a, 1, none⟩) ha).trans h1)
  have HB := Lib.hid hb1
  have HG1 := Lib.hid (HG.out.below hb1)
  clear hat h0 h1 hb1
  by_cases hx : x0 = httpS
  · rw [decide_eq_true hx] at hh
    rcases hres with ⟨hok, rfl⟩ | ⟨hno, N, rfl⟩
    · have HR2 := Lib.hid (show R = if itoaB k = x1 ∧ 100 ≤ k ∧ k ≤ 599 then .ok k else .error 13 from by rw [HR.out, if_pos hx, hok])
      obtain ⟨kr1, kr2⟩ := atoi_range hok
      have hse := str_eq (itoaB k) x1
      have c5 := fun d os => Calls.regrown_of (itoa_any k kr1 kr2 (grow (redrawn w1 d) os) (HG1.out.below (below_regrown _ _ _)))
      generalize itoaB k = ik at *
      clear HR hx hok
      by_cases hik : ik = x1
      · rw [decide_eq_true hik] at hse
        by_cases h100 : 100 ≤ k
        · have hd1 : decide (100 ≤ k) = true := by simpa using h100
          by_cases h599 : k ≤ 599
          · have hd2 : decide (k ≤ 599) = true := by simpa using h599
            have HRES := Lib.hid (show R = .ok k from by rw [HR2.out, if_pos ⟨hik, h100, h599⟩])
            clear HR2 hik
            refine Qt.region_below_tail 24 (by kernel_rfl) (by kernel_rfl) ?_
            simp only [List.take_succ_cons, List.take_zero, List.drop_succ_cons, List.drop_zero]
            repeat (quiet_step (with_reducible exact c5 _ _))
            refine wpQuiet_nil ?_
            intro _ hw'
            obtain ⟨⟨dq, osq⟩, hw''⟩ := hw'
            subst hw''
            have hb2 := below_regrown (w1) dq osq
            generalize grow (redrawn (w1) dq) osq = W2 at *
            clear k0 k1 c5
            have hb := HB.out.trans (hb2.mono HB.out.size)
            have hI2 : RespAt rb 0 (.slice none 0 0) ⟨#[]⟩ W2 := (hb.block _ (blk_lt HI.out)).trans HI.out
            have r0 : W2.cell? ⟨rb, 0, none⟩ = some (.int .i64 0) := by rw [blk_cell hI2]; rfl
            have f0 : W2.frozen? ⟨rb, 0, none⟩ = false := blk_frozen hI2 _
            have HI2 := Lib.hid hI2
            have HB2 := Lib.hid hb
            clear hI2 hb hb2
            go_wp2_with (go_at_call 27; refine (must_t _ _ _ (by first | (simp; done) | (simp; omega))).mono ?_; rintro e w9 ⟨rfl, rfl⟩)
            go_end0
            rw [HRES.out]
            exact ⟨grown_set (grown_of_below HB2.out (some rb)), rfl, blk_set HI2.out 0 _⟩
          · have hd2 : decide (k ≤ 599) = false := by simpa using h599
            have HRES := Lib.hid (show R = .error 13 from by rw [HR2.out, if_neg (fun h => h599 h.2.2)])
            clear HR2 hik
            refine Qt.region_below_tail 24 (by kernel_rfl) (by kernel_rfl) ?_
            simp only [List.take_succ_cons, List.take_zero, List.drop_succ_cons, List.drop_zero]
            repeat (quiet_step (with_reducible exact c5 _ _))
            refine wpQuiet_nil ?_
            intro _ hw'
            obtain ⟨⟨dq, osq⟩, hw''⟩ := hw'
            subst hw''
            have hb2 := below_regrown (w1) dq osq
            generalize grow (redrawn (w1) dq) osq = W2 at *
            clear k0 k1 c5
            go_wp2_with (go_at_call 27; refine (must_f _ _ _ (by first | (simp; done) | (simp; omega))).mono ?_; rintro e w9 ⟨rfl, rfl⟩)
            refine ⟨rfl, ?_⟩
            rw [HRES.out]
            exact ⟨grown_of_below (HB.out.trans (hb2.mono HB.out.size)) _, rfl⟩
        · have hd1 : decide (100 ≤ k) = false := by simpa using h100
          have HRES := Lib.hid (show R = .error 13 from by rw [HR2.out, if_neg (fun h => h100 h.2.1)])
          clear HR2 hik
          refine Qt.region_below_tail 24 (by kernel_rfl) (by kernel_rfl) ?_
          simp only [List.take_succ_cons, List.take_zero, List.drop_succ_cons, List.drop_zero]
          repeat (quiet_step (with_reducible exact c5 _ _))
          refine wpQuiet_nil ?_
          intro _ hw'
          obtain ⟨⟨dq, osq⟩, hw''⟩ := hw'
          subst hw''
          have hb2 := below_regrown (w1) dq osq
          generalize grow (redrawn (w1) dq) osq = W2 at *
          clear k0 k1 c5
          go_wp2_with (go_at_call 27; refine (must_f _ _ _ (by first | (simp; done) | (simp; omega))).mono ?_; rintro e w9 ⟨rfl, rfl⟩)
          refine ⟨rfl, ?_⟩
          rw [HRES.out]
          exact ⟨grown_of_below (HB.out.trans (hb2.mono HB.out.size)) _, rfl⟩
      · rw [decide_eq_false hik] at hse
        have HRES := Lib.hid (show R = .error 13 from by rw [HR2.out, if_neg (fun h => hik h.1)])
        clear HR2 hik
        refine Qt.region_below_tail 24 (by kernel_rfl) (by kernel_rfl) ?_
        simp only [List.take_succ_cons, List.take_zero, List.drop_succ_cons, List.drop_zero]
        repeat (quiet_step (with_reducible exact c5 _ _))
        refine wpQuiet_nil ?_
        intro _ hw'
        obtain ⟨⟨dq, osq⟩, hw''⟩ := hw'
        subst hw''
        have hb2 := below_regrown (w1) dq osq
        generalize grow (redrawn (w1) dq) osq = W2 at *
        clear k0 k1 c5
        go_wp2_with (go_at_call 27; refine (must_f _ _ _ (by first | (simp; done) | (simp; omega))).mono ?_; rintro e w9 ⟨rfl, rfl⟩)
        refine ⟨rfl, ?_⟩
        rw [HRES.out]
        exact ⟨grown_of_below (HB.out.trans (hb2.mono HB.out.size)) _, rfl⟩
    · have HRES := Lib.hid (show R = .error 13 from by
        rw [HR.out, if_pos hx]
        rcases h : Lib.atoiAll x1.data.toList with v | _ | _
        · exact absurd h (hno v)
        · rfl
        · rfl)
      clear HR hx hno
      refine Qt.region_below_tail 24 (by kernel_rfl) (by kernel_rfl) ?_
      simp only [List.take_succ_cons, List.take_zero, List.drop_succ_cons, List.drop_zero]
      repeat (quiet_step (fail))
      refine wpQuiet_nil ?_
      intro _ hw'
      obtain ⟨⟨dq, osq⟩, hw''⟩ := hw'
      subst hw''
      have hb2 := below_regrown (w1) dq osq
      generalize grow (redrawn (w1) dq) osq = W2 at *
      clear k0 k1
      go_wp2_with (go_at_call 27; refine (must_f _ _ _ (by first | (simp; done) | (simp; omega))).mono ?_; rintro e w9 ⟨rfl, rfl⟩)
      refine ⟨rfl, ?_⟩
      rw [HRES.out]
      exact ⟨grown_of_below (HB.out.trans (hb2.mono HB.out.size)) _, rfl⟩
  · have HRES := Lib.hid (show R = .error 13 from by rw [HR.out, if_neg hx])
    rw [decide_eq_false hx] at hh
    clear HR hx hres
    refine Qt.region_below_tail 24 (by kernel_rfl) (by kernel_rfl) ?_
    simp only [List.take_succ_cons, List.take_zero, List.drop_succ_cons, List.drop_zero]
    repeat (quiet_step (fail))
    refine wpQuiet_nil ?_
    intro _ hw'
    obtain ⟨⟨dq, osq⟩, hw''⟩ := hw'
    subst hw''
    have hb2 := below_regrown (w1) dq osq
    generalize grow (redrawn (w1) dq) osq = W2 at *
    clear k0 k1
    go_wp2_with (go_at_call 27; refine (must_f _ _ _ (by first | (simp; done) | (simp; omega))).mono ?_; rintro e w9 ⟨rfl, rfl⟩)
    refine ⟨rfl, ?_⟩
    rw [HRES.out]
    exact ⟨grown_of_below (HB.out.trans (hb2.mono HB.out.size)) _, rfl⟩
end Go.Proofs.YtjbehnalmgcbpaaGreatDoor.Ht
