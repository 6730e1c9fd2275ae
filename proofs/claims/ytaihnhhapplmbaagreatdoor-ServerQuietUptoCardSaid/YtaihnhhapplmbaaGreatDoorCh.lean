/- Package http: the cursor: chunks. -/
import Derived.Test.YtaihnhhapplmbaaGreatDoorHf
import Derived.Test.YtaihnhhapplmbaaGreatDoorPu
import Derived.Test.YtaihnhhapplmbaaGreatDoorBd
import Derived.Test.YtaihnhhapplmbaaGreatDoorMs
set_option linter.unusedVariables false
set_option linter.unusedSimpArgs false
namespace Go.Proofs.YtaihnhhapplmbaaGreatDoor.Ht
open Go.Sort Go.RowKit Go.Proofs Go.Proofs.YtaihnhhapplmbaaGreatDoorW.PrintWords Go.Proofs.YtaihnhhapplmbaaGreatDoor.Bs Go.Proofs.YtaihnhhapplmbaaGreatDoor.Ir Go.Proofs.YtaihnhhapplmbaaGreatDoor.Gn

def digitsOf (x : ByteArray) : ByteArray := ⟨(Lib.cut x.data.toList [59]).1.toArray⟩
def plainH (d : ByteArray) : Bool := (bl d).all hexI
def chunkOk (d : ByteArray) : Bool := !d.toList.isEmpty && decide (d.size ≤ 8) && plainH d
def byte0 (a : ByteArray) : Int := (bl a).getD 0 0
def crlfP (s : ByteArray) (q : Nat) : Except Int (ByteArray × Nat) :=
  bindE (takeP s q 1) fun a q1 => if byte0 a = 13 then bindE (takeP s q1 1) fun b q2 => if byte0 b = 10 then .ok (b, q2) else .error 13 else .error 13
def chunksGo (s : ByteArray) (most : Int) : Nat → Nat → List UInt8 → Except Int (ByteArray × Nat)
  | 0, _, _ => .error 0
  | F + 1, p, acc =>
    bindE (lineP s p) fun x q =>
      if chunkOk (digitsOf x) then
        if hexN (bl (digitsOf x)) ≤ most - acc.length then
          if hexN (bl (digitsOf x)) = 0 then bindE (headsP s q) fun _ q' => .ok (⟨acc.toArray⟩, q')
          else bindE (takeP s q (hexN (bl (digitsOf x)))) fun t q1 => bindE (crlfP s q1) fun _ q2 => chunksGo s most F q2 (acc ++ t.data.toList)
        else .error 4
      else .error 13
def chunksP (s : ByteArray) (most : Int) (p : Nat) : Except Int (ByteArray × Nat) := chunksGo s most (s.size + 1) p []
theorem plain_any (d : ByteArray) (w : World) : ∃ n : Int, decide (n < 0) = plainH d ∧ Calls Tryz.prog 50 #[.string d, .func (.func 144) #[] #[]] w fun e w' => e = .returned (.int .i64 n) ∧ Below w.heap.size w w' := by
  obtain ⟨n, hn, hc⟩ := indexFunc_any 144 (fun args w => by kernel_rfl) (fun x => !hasRune hexS x) true (fun r h h1 => by rw [hasRune_wide _ _ h]; rfl) chunks1 d w
  refine ⟨n, ?_, hc⟩
  rw [hn, plainH, bl, List.all_map]
  apply all_if
  intro b
  have key : ∀ i : Fin 256, (if i.val < 128 then !!hasRune hexS i.val else !true) = hexI (i.val : Int) := by decide +kernel
  have := key ⟨b.toNat, b.toNat_lt⟩
  exact this
theorem takeB_ok {r x : ByteArray} {n : Int} {k : Nat} (h : takeB r n = .ok (x, k)) (h0 : 0 ≤ n) : (k : Int) = n ∧ k ≤ r.size ∧ x.size = k := by
  unfold takeB at h
  by_cases hn : n ≤ r.size
  · rw [if_pos hn] at h
    have h1 := Prod.mk.inj (Except.ok.inj h)
    have h2 : (r.extract 0 n.toNat).size = x.size := by rw [h1.1]
    rw [ByteArray.size_extract] at h2
    omega
  · rw [if_neg hn] at h; exact absurd h (by simp)
theorem takeP_ok {s x : ByteArray} {p q : Nat} {n : Int} (hp : p ≤ s.size) (h : takeP s p n = .ok (x, q)) (h0 : 0 ≤ n) : (q : Int) = p + n ∧ q ≤ s.size ∧ (x.size : Int) = n := by
  unfold takeP plus at h
  cases hl : takeB (rest s p) n with
  | error y => rw [hl] at h; exact absurd h (by simp)
  | ok z =>
    obtain ⟨x', k⟩ := z
    rw [hl] at h
    have h1 := Prod.mk.inj (Except.ok.inj h)
    have := takeB_ok hl h0
    rw [rest_size] at this
    have h2 : x'.size = x.size := by rw [h1.1]
    omega
theorem takeP_any (b p : Nat) (s : ByteArray) (n : Int) (w : World) (hs : s.size ≤ 1073741824) (h1 : 0 ≤ n) (h2 : n ≤ 4294967296) (hp : p ≤ s.size) (hc : CurAt b s p w) :
    Calls Tryz.prog 97 #[.pointer (some ⟨b, 0, none⟩), .int .i64 n] w fun e w' => OutP strV b s w (takeP s p n) e w' :=
  (take_any b p s n w hs h1 h2 hp hc).mono (fun e w' h => OutP.of h)
theorem lineP_any (b p : Nat) (s : ByteArray) (w : World) (hs : s.size ≤ 1073741824) (hp : p ≤ s.size) (hc : CurAt b s p w) :
    Calls Tryz.prog 63 #[.pointer (some ⟨b, 0, none⟩)] w fun e w' => OutP strV b s w (lineP s p) e w' :=
  (line_any b p s w hs hp hc).mono (fun e w' h => OutP.of h)
theorem hexN_range (d : ByteArray) (h : chunkOk d = true) : d.toList.isEmpty = false ∧ d.size ≠ 0 ∧ d.size ≤ 8 ∧ (∀ x ∈ bl d, hexI x = true) ∧ 0 ≤ hexN (bl d) ∧ hexN (bl d) ≤ 4294967295 := by
  simp only [chunkOk, Bool.and_eq_true, Bool.not_eq_true', decide_eq_true_eq, plainH, List.all_eq_true] at h
  obtain ⟨⟨h1, h2⟩, h3⟩ := h
  have hr := hexN_bound (bl d) h3
  have h4 := (by decide : ∀ m : Fin 9, (16 : Int) ^ m.val ≤ 16 ^ 8) ⟨(bl d).length, by rw [bl_length]; omega⟩
  have h5 : (16 : Int) ^ 8 = 4294967296 := by decide
  simp only at h4
  refine ⟨h1, ?_, h2, h3, hr.1, by omega⟩
  intro e
  rw [ByteArray.toList_eq, List.isEmpty_eq_false_iff] at h1
  exact h1 (List.eq_nil_of_length_eq_zero e)
end Go.Proofs.YtaihnhhapplmbaaGreatDoor.Ht
