/- Package conf: the scanner's item. -/
import Derived.Test.YtpdnopfjnmjnnaaGreatDoorNc
set_option linter.unusedVariables false
set_option linter.unusedSimpArgs false
namespace Go.Proofs.YtpdnopfjnmjnnaaGreatDoor.Cn
open Go.Sort Go.RowKit Go.Proofs Go.Proofs.YtpdnopfjnmjnnaaGreatDoorW.PrintWords Go.Proofs.YtpdnopfjnmjnnaaGreatDoor.Bs Go.Proofs.YtpdnopfjnmjnnaaGreatDoor.Ir Go.Proofs.YtpdnopfjnmjnnaaGreatDoor.Cz

theorem indexAny_cases (l cs : List UInt8) : Lib.indexAny l cs = -1 ∨ ∃ o : Nat, Lib.indexAny l cs = o ∧ o < l.length := by
  induction l with
  | nil => left; rfl
  | cons b l ih =>
    rw [Lib.indexAny]
    by_cases h : cs.contains b
    · right; rw [if_pos h]; exact ⟨0, rfl, by simp⟩
    · rw [if_neg h]
      rcases ih with e | ⟨o, e, ho⟩
      · left; rw [e]; rfl
      · right
        rw [e, if_neg (by simp <;> omega)]
        exact ⟨o + 1, by omega, by simp <;> omega⟩
theorem quotedGo_len : ∀ (n : Nat) (out l x l' : List UInt8), quotedGo n out l = .ok (x, l') → l'.length + x.length ≤ l.length + out.length
  | 0, _, _, _, _, h => by cases h
  | n + 1, out, l, x, l', h => by
    cases l with
    | nil => cases h
    | cons b r =>
      rw [quotedGo_cons] at h
      split at h
      · injection h with h
        injection h with h1 h2
        subst h1; subst h2
        simp <;> omega
      · split at h
        · cases h
        · split at h
          · cases r with
            | nil => cases h
            | cons c r' =>
              dsimp only at h
              split at h
              · have := quotedGo_len n _ _ _ _ h
                simp at this ⊢; omega
              · cases h
          · have := quotedGo_len n _ _ _ _ h
            simp at this ⊢; omega
theorem quotedL_len {l x l' : List UInt8} (h : quotedL l = .ok (x, l')) : l'.length + x.length ≤ l.length := by
  cases l with
  | nil => cases h
  | cons b r =>
    rw [quotedL] at h
    split at h
    · have := quotedGo_len _ _ _ _ _ h
      simp at this ⊢; omega
    · cases h
theorem itemL_len {l x l' : List UInt8} (h : itemL l = .ok (x, l')) : l'.length + x.length ≤ l.length := by
  unfold itemL at h
  split at h
  · exact quotedL_len h
  · split at h
    · injection h with h
      injection h with h1 h2
      subst h1; subst h2
      simp; omega
    · cases h
theorem spacesL_len (l : List UInt8) : (spacesL l).length ≤ l.length := by
  unfold spacesL Lib.trimLeftB
  exact (List.dropWhile_suffix _).length_le
theorem Mx.sc {w w' : World} {b : Nat} (h : Mx w) (hg : w.grownBy w' (some b)) (hb : 2 < b) : Mx w' := h.grown hg hb
set_option maxRecDepth 100000 in
set_option maxHeartbeats 1000000 in
theorem item_any (b : Nat) (l : List UInt8) (w : World) (hm : Mx w) (hb : 2 < b) (hc : ScAt b l w) (hs : l.length ≤ 1073741824) :
    Calls Tryz.prog 106 #[.pointer (some ⟨b, 0, none⟩)] w fun e w' => Outr strV b w (itemL l) e w' := by
  have hq := quoted_any b l w hc hs
  have HC := Lib.hid hc
  obtain ⟨s, hsl, hbk⟩ := hc
  have h0 := blk_cell hbk 0
  have hf := blk_frozen hbk 0
  have hpf : Calls Tryz.prog 63 #[.string s, .string ⟨#[34]⟩] w fun e w' => e = .returned (.bool (Lib.hasPrefix l [34])) ∧ w' = w := by
    have := Tryz.strings_HasPrefix s ⟨#[34]⟩ w
    rw [hsl] at this
    exact this
  have hsz : s.size = l.length := size_of hsl
  have HSZ := Lib.hid hsz
  unfold itemL
  cases hp : Lib.hasPrefix l [34]
  case true =>
    rw [hp] at hpf
    rw [if_pos rfl]
    clear hp
    cases hql : quotedL l with
    | error y =>
      rw [hql] at hq
      clear hql
      go_enter Tryz.func106, Tryz.ntmps106
      go_wp2_with fail
      refine hpf.mono ?_
      rintro e w1 ⟨rfl, rfl⟩
      go_wp2_with fail
      refine hq.mono ?_
      rintro e w2 ⟨hg, rfl⟩
      unfold pf
      go_wp2_with fail
      exact ⟨rfl, hg, rfl⟩
    | ok z =>
      obtain ⟨x, l'⟩ := z
      rw [hql] at hq
      clear hql
      go_enter Tryz.func106, Tryz.ntmps106
      go_wp2_with fail
      refine hpf.mono ?_
      rintro e w1 ⟨rfl, rfl⟩
      go_wp2_with fail
      refine hq.mono ?_
      rintro e w2 ⟨hg, ⟨_, rfl, rfl⟩, hc2⟩
      have HC2 := Lib.hid hc2
      clear hc2
      go_wp2_with fail
      go_ret
      exact ⟨hg, ⟨_, rfl, rfl⟩, HC2.out⟩
  case false =>
    rw [hp] at hpf
    rw [if_neg (by decide)]
    have hia := indexAny_any s w (by omega)
    unfold wdS at hia
    rw [hsl] at hia
    obtain ⟨o, ho, hol, hend⟩ : ∃ o : Nat, itemEnd l = o ∧ o ≤ s.size ∧ (Lib.indexAny l (spc ++ [32, 58]) < 0 ∧ o = s.size ∨ Lib.indexAny l (spc ++ [32, 58]) = o) := by
      unfold itemEnd
      rcases indexAny_cases l (spc ++ [32, 58]) with e | ⟨o, e, h⟩
      · rw [e]; exact ⟨l.length, by rw [if_pos (by decide)], by omega, .inl ⟨by decide, hsz.symm⟩⟩
      · rw [e]; exact ⟨o, by rw [if_neg (by omega)]; simp, by omega, .inr rfl⟩
    rw [ho]
    obtain ⟨s3, h3⟩ : ∃ s3, s.extract 0 o = s3 := ⟨_, rfl⟩
    obtain ⟨s4, h4⟩ : ∃ s4, s.extract o s.size = s4 := ⟨_, rfl⟩
    have hs3 : s3.data.toList = l.take o := by rw [← h3, Lib.extract_data, hsl]; simp
    have hs4 : s4.data.toList = l.drop o := by rw [← h4, Lib.extract_to_end, hsl]
    have hz3 : s3.size ≤ 1073741824 := by rw [← h3]; simp; omega
    have hlo : (0 : Int) ≤ o := by omega
    have hhi : (o : Int) ≤ (s.size : Int) := by omega
    have hH3 := Lib.hid h3
    have hH4 := Lib.hid h4
    have HBK := Lib.hid hbk
    have hfin : ∀ (w2 w3 : World), Below w.heap.size w w2 → w2.heap.size ≤ w3.heap.size → True := fun _ _ _ _ => trivial
    clear hfin
    generalize Lib.indexAny l (spc ++ [32, 58]) = i at *
    have HS3 := Lib.hid hs3
    have HS4 := Lib.hid hs4
    cases hw : wordL (l.take o)
    case false =>
      rw [if_neg (by decide)]
      clear hp hq ho hsz hs4 hbk
      rcases hend with ⟨hi, rfl⟩ | rfl
      · clear hlo hhi hol
        go_enter Tryz.func106, Tryz.ntmps106
        go_wp2_with fail
        refine hpf.mono ?_
        rintro e w1 ⟨rfl, rfl⟩
        go_wp2_with fail
        refine hia.mono ?_
        rintro e w2 ⟨rfl, hb2⟩
        have h02 : w2.cell? ⟨b, 0, none⟩ = some (.string s) := (hb2.cell (p := ⟨b, 0, none⟩) HC.out.lt).trans h0
        have hf2 : w2.frozen? ⟨b, 0, none⟩ = false := (hb2.frozen (p := ⟨b, 0, none⟩) HC.out.lt).trans hf
        have hwd := word_any s3 w2 (hm.below hb2) hz3
        rw [hs3, hw] at hwd
        have HB2 := Lib.hid hb2
        clear hb2 hia hpf h0 hf
        go_wp2_with fail
        refine hwd.mono ?_
        rintro e w3 ⟨rfl, hb3⟩
        have HB3 := Lib.hid hb3
        have h03 : w3.cell? ⟨b, 0, none⟩ = some (.string s) := (hb3.cell (p := ⟨b, 0, none⟩) (Nat.lt_of_lt_of_le HC.out.lt HB2.out.size)).trans h02
        have hf3 : w3.frozen? ⟨b, 0, none⟩ = false := (hb3.frozen (p := ⟨b, 0, none⟩) (Nat.lt_of_lt_of_le HC.out.lt HB2.out.size)).trans hf2
        clear hb3 hwd h02 hf2
        go_wp2_with fail
        refine (must_no _ _).mono ?_
        rintro e w9 ⟨rfl, rfl⟩
        unfold pf
        go_wp2_with fail
        exact ⟨rfl, grown_trans (grown_of_below HB2.out) (grown_of_below HB3.out), rfl⟩
      ·
        go_enter Tryz.func106, Tryz.ntmps106
        go_wp2_with fail
        refine hpf.mono ?_
        rintro e w1 ⟨rfl, rfl⟩
        go_wp2_with fail
        refine hia.mono ?_
        rintro e w2 ⟨rfl, hb2⟩
        have h02 : w2.cell? ⟨b, 0, none⟩ = some (.string s) := (hb2.cell (p := ⟨b, 0, none⟩) HC.out.lt).trans h0
        have hf2 : w2.frozen? ⟨b, 0, none⟩ = false := (hb2.frozen (p := ⟨b, 0, none⟩) HC.out.lt).trans hf
        have hwd := word_any s3 w2 (hm.below hb2) hz3
        rw [hs3, hw] at hwd
        have HB2 := Lib.hid hb2
        clear hb2 hia hpf h0 hf
        go_wp2_with fail
        refine hwd.mono ?_
        rintro e w3 ⟨rfl, hb3⟩
        have HB3 := Lib.hid hb3
        have h03 : w3.cell? ⟨b, 0, none⟩ = some (.string s) := (hb3.cell (p := ⟨b, 0, none⟩) (Nat.lt_of_lt_of_le HC.out.lt HB2.out.size)).trans h02
        have hf3 : w3.frozen? ⟨b, 0, none⟩ = false := (hb3.frozen (p := ⟨b, 0, none⟩) (Nat.lt_of_lt_of_le HC.out.lt HB2.out.size)).trans hf2
        clear hb3 hwd h02 hf2
        go_wp2_with fail
        refine (must_no _ _).mono ?_
        rintro e w9 ⟨rfl, rfl⟩
        unfold pf
        go_wp2_with fail
        exact ⟨rfl, grown_trans (grown_of_below HB2.out) (grown_of_below HB3.out), rfl⟩
    case true =>
      rw [if_pos rfl]
      clear hp hq ho hsz hs4 hbk
      rcases hend with ⟨hi, rfl⟩ | rfl
      · clear hlo hhi hol
        go_enter Tryz.func106, Tryz.ntmps106
        go_wp2_with fail
        refine hpf.mono ?_
        rintro e w1 ⟨rfl, rfl⟩
        go_wp2_with fail
        refine hia.mono ?_
        rintro e w2 ⟨rfl, hb2⟩
        have h02 : w2.cell? ⟨b, 0, none⟩ = some (.string s) := (hb2.cell (p := ⟨b, 0, none⟩) HC.out.lt).trans h0
        have hf2 : w2.frozen? ⟨b, 0, none⟩ = false := (hb2.frozen (p := ⟨b, 0, none⟩) HC.out.lt).trans hf
        have hwd := word_any s3 w2 (hm.below hb2) hz3
        rw [hs3, hw] at hwd
        have HB2 := Lib.hid hb2
        clear hb2 hia hpf h0 hf
        go_wp2_with fail
        refine hwd.mono ?_
        rintro e w3 ⟨rfl, hb3⟩
        have HB3 := Lib.hid hb3
        have h03 : w3.cell? ⟨b, 0, none⟩ = some (.string s) := (hb3.cell (p := ⟨b, 0, none⟩) (Nat.lt_of_lt_of_le HC.out.lt HB2.out.size)).trans h02
        have hf3 : w3.frozen? ⟨b, 0, none⟩ = false := (hb3.frozen (p := ⟨b, 0, none⟩) (Nat.lt_of_lt_of_le HC.out.lt HB2.out.size)).trans hf2
        clear hb3 hwd h02 hf2
        go_wp2_with fail
        refine (must_ok _ _).mono ?_
        rintro e w9 ⟨rfl, rfl⟩
        go_wp2_with fail
        go_ret
        refine ⟨grown_set (grown_trans (grown_of_below HB2.out) (grown_of_below HB3.out)), ⟨_, rfl, ?_⟩, ?_⟩
        · show Value.string _ = Value.string _
          rw [← HS3.out]
        · refine ⟨ByteArray.empty, (show [] = _ from by rw [HSZ.out, List.drop_length]), ?_⟩
          exact blk_set ((HB3.out.block b (Nat.lt_of_lt_of_le HC.out.lt HB2.out.size)).trans ((HB2.out.block b HC.out.lt).trans HBK.out)) 0 _
      ·
        go_enter Tryz.func106, Tryz.ntmps106
        go_wp2_with fail
        refine hpf.mono ?_
        rintro e w1 ⟨rfl, rfl⟩
        go_wp2_with fail
        refine hia.mono ?_
        rintro e w2 ⟨rfl, hb2⟩
        have h02 : w2.cell? ⟨b, 0, none⟩ = some (.string s) := (hb2.cell (p := ⟨b, 0, none⟩) HC.out.lt).trans h0
        have hf2 : w2.frozen? ⟨b, 0, none⟩ = false := (hb2.frozen (p := ⟨b, 0, none⟩) HC.out.lt).trans hf
        have hwd := word_any s3 w2 (hm.below hb2) hz3
        rw [hs3, hw] at hwd
        have HB2 := Lib.hid hb2
        clear hb2 hia hpf h0 hf
        go_wp2_with fail
        refine hwd.mono ?_
        rintro e w3 ⟨rfl, hb3⟩
        have HB3 := Lib.hid hb3
        have h03 : w3.cell? ⟨b, 0, none⟩ = some (.string s) := (hb3.cell (p := ⟨b, 0, none⟩) (Nat.lt_of_lt_of_le HC.out.lt HB2.out.size)).trans h02
        have hf3 : w3.frozen? ⟨b, 0, none⟩ = false := (hb3.frozen (p := ⟨b, 0, none⟩) (Nat.lt_of_lt_of_le HC.out.lt HB2.out.size)).trans hf2
        clear hb3 hwd h02 hf2
        go_wp2_with fail
        refine (must_ok _ _).mono ?_
        rintro e w9 ⟨rfl, rfl⟩
        go_wp2_with fail
        go_ret
        refine ⟨grown_set (grown_trans (grown_of_below HB2.out) (grown_of_below HB3.out)), ⟨_, rfl, ?_⟩, ?_⟩
        · show Value.string _ = Value.string _
          rw [← HS3.out]
        · refine ⟨_, HS4.out, ?_⟩
          exact blk_set ((HB3.out.block b (Nat.lt_of_lt_of_le HC.out.lt HB2.out.size)).trans ((HB2.out.block b HC.out.lt).trans HBK.out)) 0 _
end Go.Proofs.YtpdnopfjnmjnnaaGreatDoor.Cn
