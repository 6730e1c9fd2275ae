/- Package http: the cursor: body: plain part. -/
import Derived.Test.YtaihnhhapplmbaaGreatDoorCh
import Derived.Test.YtaihnhhapplmbaaGreatDoorBo
set_option linter.unusedVariables false
set_option linter.unusedSimpArgs false
namespace Go.Proofs.YtaihnhhapplmbaaGreatDoor.Ht
open Go.Sort Go.RowKit Go.Proofs Go.Proofs.YtaihnhhapplmbaaGreatDoorW.PrintWords Go.Proofs.YtaihnhhapplmbaaGreatDoor.Bs Go.Proofs.YtaihnhhapplmbaaGreatDoor.Ir Go.Proofs.YtaihnhhapplmbaaGreatDoor.Gn

def digS : ByteArray := ⟨#[48, 49, 50, 51, 52, 53, 54, 55, 56, 57]⟩
def digB (v : ByteArray) : Bool := v.data.toList.all fun b => decide (48 ≤ b.toNat) && decide (b.toNat ≤ 57)
def decN (l : List UInt8) : Nat := l.foldl (fun n b => n * 10 + (b.toNat - 48)) 0
theorem parse_digits (l : List UInt8) (h : ∀ b ∈ l, 48 ≤ b.toNat ∧ b.toNat ≤ 57) : ∀ acc : Nat, (acc + 1) * 10 ^ l.length ≤ 1000000000000 → Lib.parseUint10 acc l = .ok (l.foldl (fun n b => n * 10 + (b.toNat - 48)) acc) ∧ l.foldl (fun n b => n * 10 + (b.toNat - 48)) acc < (acc + 1) * 10 ^ l.length := by
  induction l with
  | nil => intro acc _; exact ⟨rfl, by simp⟩
  | cons b l ih =>
    intro acc hacc
    have hb := h b (by simp)
    have hp : 1 ≤ 10 ^ l.length := Nat.one_le_pow _ _ (by decide)
    rw [List.length_cons, Nat.pow_succ] at hacc
    have e : (acc + 1) * (10 ^ l.length * 10) = ((acc + 1) * 10) * 10 ^ l.length := by rw [Nat.mul_comm (10 ^ l.length) 10, Nat.mul_assoc]
    rw [e] at hacc
    have h1 : (acc * 10 + (b.toNat - 48) + 1) * 10 ^ l.length ≤ ((acc + 1) * 10) * 10 ^ l.length := Nat.mul_le_mul_right _ (by omega)
    have h2 := ih (fun x hx => h x (by simp [hx])) (acc * 10 + (b.toNat - 48)) (Nat.le_trans h1 hacc)
    have h3 : acc + 1 ≤ 100000000000 := by
      have : (acc + 1) * 10 ≤ ((acc + 1) * 10) * 10 ^ l.length := Nat.le_mul_of_pos_right _ hp
      omega
    refine ⟨?_, ?_⟩
    · rw [Lib.parseUint10, if_pos hb, if_neg (by omega), if_neg (by omega)]
      exact h2.1
    · rw [List.length_cons, Nat.pow_succ, e]
      exact Nat.lt_of_lt_of_le h2.2 h1
theorem atoi_digits (v : ByteArray) (h0 : v.size ≠ 0) (h9 : v.size ≤ 9) (h : digB v = true) : Lib.atoiAll v.data.toList = .ok (decN v.data.toList : Int) ∧ decN v.data.toList < 1000000000 := by
  have hd : ∀ b ∈ v.data.toList, 48 ≤ b.toNat ∧ b.toNat ≤ 57 := by
    simp only [digB, List.all_eq_true, Bool.and_eq_true, decide_eq_true_eq] at h
    exact h
  have hl : v.data.toList.length ≤ 9 := h9
  have hb : (0 + 1) * 10 ^ v.data.toList.length ≤ 1000000000 := by
    have := (by decide : ∀ m : Fin 10, (0 + 1) * 10 ^ m.val ≤ 1000000000) ⟨v.data.toList.length, by omega⟩
    exact this
  obtain ⟨h1, h2⟩ := parse_digits v.data.toList hd 0 (by omega)
  have hn0 : v.data.toList ≠ [] := fun e => h0 (by show v.data.toList.length = 0; rw [e]; rfl)
  unfold decN
  refine ⟨?_, by omega⟩
  generalize v.data.toList = l at *
  match l, hn0 with
  | c :: r, _ =>
    have hc := hd c (by simp)
    generalize List.foldl (fun n (b : UInt8) => n * 10 + (b.toNat - 48)) 0 (c :: r) = N at *
    rw [Lib.atoiAll]
    simp only [show ¬ c.toNat = 43 by omega, show ¬ c.toNat = 45 by omega, or_self, if_false, Lib.parseMag]
    rw [if_neg (by simp), h1]
    simp
    omega
theorem dropWhile_nil {α : Type} (p : α → Bool) (l : List α) : l.dropWhile p = [] ↔ ∀ x ∈ l, p x = true := by
  induction l with
  | nil => simp
  | cons a l ih =>
    rw [List.dropWhile_cons]
    by_cases h : p a = true
    · simp [h, ih]
    · simp [h]
theorem dropWhile_head {α : Type} (p : α → Bool) (l : List α) {a : α} {r : List α} (h : l.dropWhile p = a :: r) : p a = false := by
  induction l with
  | nil => simp at h
  | cons b l ih =>
    rw [List.dropWhile_cons] at h
    by_cases hb : p b = true
    · rw [if_pos hb] at h
      exact ih h
    · rw [if_neg hb] at h
      injection h with h1 h2
      rw [← h1]
      simpa using hb
theorem trim_digits (v : ByteArray) : (Lib.trimS v.data.toList digS.data.toList).isEmpty = digB v := by
  have hset : ∀ b : UInt8, digS.data.toList.contains b = (decide (48 ≤ b.toNat) && decide (b.toNat ≤ 57)) := by
    intro b
    have key : ∀ i : Fin 256, digS.data.toList.contains (UInt8.ofNat i.val) = (decide (48 ≤ i.val) && decide (i.val ≤ 57)) := by decide +kernel
    have := key ⟨b.toNat, b.toNat_lt⟩
    simpa using this
  have hiff : Lib.trimS v.data.toList digS.data.toList = [] ↔ ∀ b ∈ v.data.toList, digS.data.toList.contains b = true := by
    unfold Lib.trimS Lib.trimLeftS Lib.trimRightS
    rw [dropWhile_nil]
    constructor
    · intro h
      have hn : v.data.toList.reverse.dropWhile (digS.data.toList.contains ·) = [] := by
        cases hx : v.data.toList.reverse.dropWhile (digS.data.toList.contains ·) with
        | nil => rfl
        | cons a r =>
          have h1 := h a (by rw [hx]; simp)
          rw [dropWhile_head _ _ hx] at h1
          cases h1
      rw [dropWhile_nil] at hn
      intro b hb
      exact hn b (by simpa using hb)
    · intro h b hb
      have hs := (List.dropWhile_sublist (p := (digS.data.toList.contains ·)) (l := v.data.toList.reverse)).subset
      exact h b (by simpa using hs (by simpa using hb))
  unfold digB
  rw [Bool.eq_iff_iff, List.isEmpty_iff, hiff, List.all_eq_true]
  constructor
  · intro h b hb; rw [← hset]; exact h b hb
  · intro h b hb; rw [hset]; exact h b hb

def chkS : ByteArray := ⟨#[99, 104, 117, 110, 107, 101, 100]⟩
/-- the first head's value -/
def val0 (l : List Head) : ByteArray := (l.getD 0 zH).value
def bodyP (s : ByteArray) (p : Nat) (l : List Head) (most : Int) (always : Bool) : Except Int (ByteArray × Nat) :=
  if 0 < (hasName codS l).length then
    if (hasName codS l).length = 1 ∧ (smallB (val0 (hasName codS l))).toList = chkS.toList ∧ (hasName lenS l).length = 0 then chunksP s most p else .error 13
  else if (hasName lenS l).length = 0 ∧ always = false then .ok (⟨#[]⟩, p)
  else if (hasName lenS l).length = 1 then
    if (val0 (hasName lenS l)).size ≠ 0 ∧ (val0 (hasName lenS l)).size ≤ 9 ∧ digB (val0 (hasName lenS l)) = true then
      if (decN (val0 (hasName lenS l)).data.toList : Int) ≤ most then takeP s p (decN (val0 (hasName lenS l)).data.toList) else .error 4
    else .error 13
  else .error 13
theorem trimD_any (v : ByteArray) (w : World) (hs : v.size ≤ 1073741824) : Calls Tryz.prog 88 #[.string v, .string digS] w fun e w' => e = .returned (.string ⟨(Lib.trimS v.data.toList digS.data.toList).toArray⟩) ∧ Below w.heap.size w w' :=
  Any.strings_Trim_laid Tryz.lays160 (by kernel_rfl) v digS w (by omega) (by decide) (ascii_of_all (by decide))
theorem atoi_any (v : ByteArray) (w : World) (h0 : v.size ≠ 0) (h9 : v.size ≤ 9) (h : digB v = true) : Calls Tryz.prog 32 #[.string v] w fun e w' => e = .returned (.tuple #[.int .i64 (decN v.data.toList : Int), .nilIface]) ∧ Below w.heap.size w w' := by
  refine (Go.Proofs.Tryz.strconv_Atoi_ok v (by omega) _ (atoi_digits v h0 h9 h).1 w).mono ?_
  rintro e w' ⟨rfl, rfl | ⟨t, rfl⟩⟩
  · exact ⟨rfl, Below.refl _ _⟩
  · exact ⟨rfl, below_bytes w _ t⟩
theorem hasName_ok (name : ByteArray) (l : List Head) (h : ∀ x ∈ l, HOk x) : ∀ x ∈ hasName name l, HOk x := fun x hx => h x (List.mem_filter.1 hx).1
theorem hasName_len (name : ByteArray) (l : List Head) : (hasName name l).length ≤ l.length := List.length_filter_le _ _
end Go.Proofs.YtaihnhhapplmbaaGreatDoor.Ht
