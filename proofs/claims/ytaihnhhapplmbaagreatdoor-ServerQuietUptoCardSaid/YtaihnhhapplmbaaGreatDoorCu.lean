/- Package http: the cursor: line, take. -/
import Derived.Test.YtaihnhhapplmbaaGreatDoorGn
import Derived.Test.YtaihnhhapplmbaaGreatDoorSm
import Derived.WalkLawsBesides
import Derived.WalkSpells
import Derived.Outline
import Derived.StillTailTactics
import Derived.BigQuiet
set_option linter.unusedVariables false
set_option linter.unusedSimpArgs false
namespace Go.Proofs.YtaihnhhapplmbaaGreatDoor.Ht
open Go.Sort Go.RowKit Go.Proofs Go.Proofs.YtaihnhhapplmbaaGreatDoorW.PrintWords Go.Proofs.YtaihnhhapplmbaaGreatDoor.Bs Go.Proofs.YtaihnhhapplmbaaGreatDoor.Gn

/-- The cursor's block. -/
def CurAt (b : Nat) (s : ByteArray) (p : Nat) (w : World) : Prop := w.heap[b]? = some (.cells #[.string s, .int .i64 p] 121 (0, 0))
/-- A panic with an error's number. -/
def pv (y : Int) : Ending := .panicked [{ v := .iface 28 (.int .i64 y), recovered := false }]
/-- What a reader of the cursor does. -/
def Outc {α : Type} (val : α → World → Value → Prop) (b : Nat) (s : ByteArray) (p : Nat) (w : World) (r : Except Int (α × Nat)) (e : Ending) (w' : World) : Prop :=
  w.grownBy w' (some b) ∧ match r with
    | .ok (x, k) => (∃ v, e = .returned v ∧ val x w' v) ∧ CurAt b s (p + k) w' ∧ p + k ≤ s.size
    | .error y => e = pv y
def strV (x : ByteArray) (_ : World) (v : Value) : Prop := v = .string x
def rest (s : ByteArray) (p : Nat) : ByteArray := s.extract p s.size
theorem rest_size {s : ByteArray} {p : Nat} : (rest s p).size = s.size - p := by simp [rest]
theorem CurAt.c0 {b p : Nat} {s : ByteArray} {w : World} (h : CurAt b s p w) : w.cell? ⟨b, 0, none⟩ = some (.string s) := by rw [blk_cell h]; rfl
theorem CurAt.c1 {b p : Nat} {s : ByteArray} {w : World} (h : CurAt b s p w) : w.cell? ⟨b, 1, none⟩ = some (.int .i64 p) := by rw [blk_cell h]; rfl
theorem CurAt.put {b p q : Nat} {s : ByteArray} {w : World} (h : CurAt b s p w) : CurAt b s q (w.setCell ⟨b, 1, none⟩ (.int .i64 q)) := by
  have := blk_set h 1 (.int .i64 q)
  exact this
theorem CurAt.drewN {b p : Nat} {s : ByteArray} {w : World} (h : CurAt b s p w) (n : Nat) : CurAt b s p (w.drewN n) := h
theorem grown_drewN {w w' : World} {row : Option Nat} (h : w.grownBy w' row) (n : Nat) : w.grownBy (w'.drewN n) row := ⟨h.os, h.tape, h.output, h.size, h.block⟩
theorem grown_set {w w' : World} {b i : Nat} {v : Value} (h : w.grownBy w' (some b)) : w.grownBy (w'.setCell ⟨b, i, none⟩ v) (some b) :=
  ⟨h.os, h.tape, h.output, by simpa [World.setCell] using h.size, fun k hk hne => (Below.heap_setCell w' _ _ k (fun e => hne (by rw [e]))).trans (h.block k hk hne)⟩
theorem grown_refl (w : World) (row : Option Nat) : w.grownBy w row := ⟨rfl, rfl, rfl, Nat.le_refl _, fun _ _ _ => rfl⟩

def takeB (r : ByteArray) (n : Int) : Except Int (ByteArray × Nat) := if n ≤ r.size then .ok (r.extract 0 n.toNat, n.toNat) else .error 14

set_option maxRecDepth 100000 in
set_option maxHeartbeats 1000000 in
theorem take_any (b p : Nat) (s : ByteArray) (n : Int) (w : World) (hs : s.size ≤ 1073741824) (h1 : 0 ≤ n) (h2 : n ≤ 4294967296) (hp : p ≤ s.size) (hc : CurAt b s p w) :
    Calls Tryz.prog 97 #[.pointer (some ⟨b, 0, none⟩), .int .i64 n] w fun e w' => Outc strV b s p w (takeB (rest s p) n) e w' := by
  have hb0 := hc.c0
  have hb1 := hc.c1
  have hf := fun i => blk_frozen hc i
  have HC := Lib.hid hc
  clear hc
  by_cases hle : n ≤ (s.size : Int) - p
  · have hT : takeB (rest s p) n = .ok (s.extract p (p + n.toNat), n.toNat) := by
      unfold takeB
      rw [if_pos (by rw [rest_size]; omega)]
      simp only [rest, ByteArray.extract_extract]
      congr 3
      all_goals omega
    rw [hT]
    clear hT
    have hge : decide (n ≤ (s.size : Int) - p) = true := by simp; omega
    obtain ⟨m, rfl⟩ : ∃ m : Nat, n = m := ⟨n.toNat, by omega⟩
    have hlo : (0 : Int) ≤ p := by omega
    have hl2 : (p : Int) ≤ (p : Int) + m := by omega
    have hsz : (p : Int) + m ≤ (s.size : Int) := by omega
    go_enter Tryz.func97, Tryz.ntmps97
    go_wp2_with fail
    go_quiet ((go_at_call 33; exact Calls.quiet_of_same ((must_ok _ _).mono (fun _ _ h => ⟨h.1, h.2.symm⟩))))
    go_wp2_with fail
    go_quiet (fail)
    go_wp2_with fail
    go_ret
    refine ⟨?_, ?_, ?_, by omega⟩
    · exact grown_set (grown_drewN (grown_refl _ _) _)
    · exact ⟨_, rfl, by simp [strV]⟩
    · rw [Int.toNat_natCast]
      exact (HC.out.drewN _).put (q := p + m)
  · have hT : takeB (rest s p) n = .error 14 := by
      unfold takeB
      rw [if_neg (by rw [rest_size]; omega)]
    rw [hT]
    clear hT
    have hge : decide (n ≤ (s.size : Int) - p) = false := by simp; omega
    have hw : IntKind.wrap .i64 ((s.size : Int) - p) = (s.size : Int) - p := IntWalk.i64_in _ (by omega)
    go_enter Tryz.func97, Tryz.ntmps97
    go_wp2_with fail
    go_still_tail 12, (by kernel_rfl)
    change wpList _ _ _ _ _ w.drew
    have hg : w.grownBy w.drew (some b) := grown_drewN (grown_refl _ _) 1
    generalize w.drew = w2 at *
    go_wp2_with (go_at_call 33; refine (must_no _ _).mono ?_; rintro e w1 ⟨rfl, rfl⟩)
    exact ⟨rfl, hg, rfl⟩

/-- A line. -/
def lineB (r : ByteArray) : Except Int (ByteArray × Nat) :=
  let i := Lib.indexByte (r.extract 0 (min (r.size : Int) 4098).toNat).data.toList 10
  if i < 0 then (if r.size < 4098 then .error 14 else .error 4)
  else if Lib.hasSuffix (r.extract 0 i.toNat).data.toList [13] then .ok (⟨(Lib.trimSuffix (r.extract 0 i.toNat).data.toList [13]).toArray⟩, i.toNat + 1) else .error 13

set_option maxRecDepth 100000 in
set_option maxHeartbeats 1000000 in
theorem line_any (b p : Nat) (s : ByteArray) (w : World) (hs : s.size ≤ 1073741824) (hp : p ≤ s.size) (hc : CurAt b s p w) :
    Calls Tryz.prog 63 #[.pointer (some ⟨b, 0, none⟩)] w fun e w' => Outc strV b s p w (lineB (rest s p)) e w' := by
  have hb0 := hc.c0
  have hb1 := hc.c1
  have hf := fun i => blk_frozen hc i
  have HC := Lib.hid hc
  clear hc
  have hr : (s.extract p s.size).size = s.size - p := by simp
  have hlo : (0 : Int) ≤ p := by omega
  have hl2 : (p : Int) ≤ (s.size : Int) := by omega
  have hx : rest s p = s.extract p s.size := rfl
  rw [hx]
  clear hx
  obtain ⟨r, hrr⟩ : ∃ r, r = s.extract p s.size := ⟨_, rfl⟩
  have hcl := fun W => Tryz.strings_IndexByte (r.extract 0 (min (r.size : Int) 4098).toNat) 10 W
  have hcs := fun (c : Nat) W => Tryz.strings_CutSuffix (r.extract 0 c) ⟨#[13]⟩ W (by rw [ByteArray.size_extract]; rw [hrr]; omega)
  have hix := Lib.indexByte_piece r 0 (min (r.size : Int) 4098).toNat 10
  rw [← hrr] at hr ⊢
  have hrs : (r.size : Int) = (s.size : Int) - p := by rw [hr]; exact Int.ofNat_sub hp
  have hml : 0 ≤ min (r.size : Int) 4098 ∧ min (r.size : Int) 4098 ≤ r.size := ⟨Int.le_min.2 ⟨Int.natCast_nonneg _, by decide⟩, Int.min_le_left _ _⟩
  have HR := Lib.hid hr
  have HRS := Lib.hid hrs
  have HRR := Lib.hid hrr
  unfold lineB
  dsimp only
  have e10 : (10 : Int).toNat.toUInt8 = 10 := rfl
  rw [e10] at hcl
  rcases hix with hi | ⟨o, hi, ho⟩
  · rw [hi] at hcl ⊢
    clear hi e10 hcs hr hrs
    by_cases hlen : (r.size : Int) < 4098
    · rw [if_pos (by decide), if_pos (by omega)]
      go_enter Tryz.func63, Tryz.ntmps63
      go_wp2_with fail
      go_quiet (fail)
      rw [← HRR.out]
      clear hrr
      have hg : w.grownBy (w.drewN nq) (some b) := grown_drewN (grown_refl _ _) nq
      generalize w.drewN nq = w2 at *
      go_wp2_with (first | (go_at_call 91; refine (hcl _).mono ?_; rintro e w1 ⟨rfl, rfl⟩) | (go_at_call 33; refine (must_ok _ _).mono ?_; rintro e w1 ⟨rfl, rfl⟩))
      exact ⟨rfl, hg, rfl⟩
    · rw [if_pos (by decide), if_neg (by omega)]
      have hd : decide ((r.size : Int) < 4098) = false := by simpa using hlen
      go_enter Tryz.func63, Tryz.ntmps63
      go_wp2_with fail
      go_quiet (fail)
      rw [← HRR.out]
      clear hrr
      have hg : w.grownBy (w.drewN nq) (some b) := grown_drewN (grown_refl _ _) nq
      generalize w.drewN nq = w2 at *
      go_wp2_with (first | (go_at_call 91; refine (hcl _).mono ?_; rintro e w1 ⟨rfl, rfl⟩) | (go_at_call 33; refine (must_no _ _).mono ?_; rintro e w1 ⟨rfl, rfl⟩))
      exact ⟨rfl, hg, rfl⟩
  · have hcs1 := hcs o
    have hor : o < r.size := by omega
    rw [hi] at hcl ⊢
    rw [if_neg (by omega), Int.toNat_natCast]
    have HO := Lib.hid hor
    have ho1 : (0 : Int) ≤ (o : Int) := by omega
    have ho2 : (o : Int) ≤ (r.size : Int) := by omega
    have hsz : (p : Int) + ((o : Int) + 1) ≤ (s.size : Int) := by rw [hrs] at *; omega
    clear hi e10 hcs hr hrs ho hor
    by_cases hsf : Lib.hasSuffix (r.extract 0 o).data.toList [13] = true
    · rw [if_pos hsf]
      rw [show (⟨#[13]⟩ : ByteArray).data.toList = [13] from rfl, hsf] at hcs1
      clear hsf
      go_enter Tryz.func63, Tryz.ntmps63
      go_wp2_with fail
      go_quiet (fail)
      rw [← HRR.out]
      clear hrr
      have hg : w.grownBy (w.drewN nq) (some b) := grown_drewN (grown_refl _ _) nq
      have HG := Lib.hid hg
      have HC2 := Lib.hid (HC.out.drewN nq)
      clear hg HC
      generalize w.drewN nq = w2 at *
      have hb1' := HC2.out.c1
      have hf' := fun i => blk_frozen HC2.out i
      clear hb0 hb1 hf
      go_wp2_with (first | (go_at_call 91; refine (hcl _).mono ?_; rintro e w1 ⟨rfl, rfl⟩) | (go_at_call 92; refine (hcs1 _).mono ?_; rintro e w1 ⟨rfl, rfl⟩) | (go_at_call 33; refine (must_ok _ _).mono ?_; rintro e w1 ⟨rfl, rfl⟩))
      go_ret
      refine ⟨grown_set HG.out, ⟨_, rfl, by simp [strV]⟩, ?_, by omega⟩
      exact HC2.out.put (q := p + (o + 1))
    · rw [if_neg hsf]
      rw [show (⟨#[13]⟩ : ByteArray).data.toList = [13] from rfl, Bool.eq_false_iff.2 hsf] at hcs1
      clear hsf
      go_enter Tryz.func63, Tryz.ntmps63
      go_wp2_with fail
      go_quiet (fail)
      rw [← HRR.out]
      clear hrr
      have hg : w.grownBy (w.drewN nq) (some b) := grown_drewN (grown_refl _ _) nq
      generalize w.drewN nq = w2 at *
      go_wp2_with (first | (go_at_call 91; refine (hcl _).mono ?_; rintro e w1 ⟨rfl, rfl⟩) | (go_at_call 92; refine (hcs1 _).mono ?_; rintro e w1 ⟨rfl, rfl⟩) | (go_at_call 33; refine (must_no _ _).mono ?_; rintro e w1 ⟨rfl, rfl⟩))
      exact ⟨rfl, hg, rfl⟩
end Go.Proofs.YtaihnhhapplmbaaGreatDoor.Ht
