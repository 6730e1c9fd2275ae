/- Package penstockref07: number, rest, heads, reason; Package penstockref07: reason, WriteRequest, WriteResponse; HttpWrites: the walk. -/
import Derived.Test.YtjbehnalmgcbpaaGreatDoorRb
import Derived.Test.YtjbehnalmgcbpaaGreatDoorLm
import Derived.Lib.QuietBelow
set_option linter.unusedVariables false
set_option linter.unusedSimpArgs false
namespace Go.Proofs.YtjbehnalmgcbpaaGreatDoor.Ht
section
open Go.Sort Go.RowKit Go.Proofs Go.Proofs.YtjbehnalmgcbpaaGreatDoorW.PrintWords Go.Proofs.YtjbehnalmgcbpaaGreatDoor.Bs Go.Proofs.YtjbehnalmgcbpaaGreatDoor.Ir Go.Proofs.YtjbehnalmgcbpaaGreatDoor.Gn

def decC (d : Nat) : UInt8 := UInt8.ofNat (48 + d)
theorem dec_cut (d : Nat) (h : d < 10) : (⟨#[48, 49, 50, 51, 52, 53, 54, 55, 56, 57]⟩ : ByteArray).extract d (d + 1) = ⟨#[decC d]⟩ := by
  have key : ∀ i : Fin 10, (⟨#[48, 49, 50, 51, 52, 53, 54, 55, 56, 57]⟩ : ByteArray).extract i.val (i.val + 1) = ⟨#[decC i.val]⟩ := by decide +kernel
  exact key ⟨d, h⟩
theorem arr_join (a b : List UInt8) : (⟨a.toArray⟩ : ByteArray) ++ ⟨b.toArray⟩ = ⟨(a ++ b).toArray⟩ := by
  apply ByteArray.ext
  apply Array.ext'
  rw [ByteArray.data_append, Array.toList_append]
def emptyN : Value → Nat
  | .string b => if b.size = 0 then 1 else 0
  | _ => 0
theorem meas_lt (x : UInt8) (l : List UInt8) (d k : Int) (h : d.toNat < k.toNat ∨ (l = [] ∧ d.toNat ≤ k.toNat)) : (intOf (.int .i64 d)).toNat + emptyN (.string ⟨(x :: l).toArray⟩) < (intOf (.int .i64 k)).toNat + emptyN (.string ⟨l.toArray⟩) := by
  have e : emptyN (.string ⟨(x :: l).toArray⟩) = 0 := by
    unfold emptyN
    dsimp only
    rw [if_neg]
    show ¬ (x :: l).toArray.size = 0
    rw [List.size_toArray]
    exact Nat.succ_ne_zero _
  rw [e]
  rcases h with h | ⟨rfl, h⟩
  · show d.toNat + 0 < k.toNat + _
    omega
  · show d.toNat + 0 < k.toNat + 1
    omega
theorem dec_step (n : Nat) (h : 10 ≤ n) : Lib.decDigits n = Lib.decDigits (n / 10) ++ [decC (n % 10)] := by rw [Lib.decDigits, dif_neg (by omega)]; rfl
theorem dec_small (n : Nat) (h : n < 10) : Lib.decDigits n = [decC n] := by rw [Lib.decDigits, dif_pos h]; rfl
set_option maxRecDepth 100000 in
set_option maxHeartbeats 2000000 in
theorem number_any (n : Nat) (w : World) (hn : n ≤ 65536) :
    Calls Tryz.prog 38 #[.int .i64 n] w fun e w' => e = .returned (.string (itoaB n)) ∧ w = w' := by
  have hlen : (Lib.decDigits n).length ≤ 5 := (dec_digits n).2.2.2 4 (by omega)
  have HL := Lib.hid hlen
  clear hlen
  go_enter Tryz.func38, Tryz.ntmps38
  go_wp2_with fail
  go_loop [0, 3] (fun vn vs => ∃ (k : Nat) (l : List UInt8), vn = .int .i64 k ∧ vs = .string ⟨l.toArray⟩ ∧ k ≤ 65536 ∧ l.length ≤ 5 ∧ Hid ((l ≠ [] ∨ k = n) ∧ Lib.decDigits n = (if k = 0 ∧ l ≠ [] then [] else Lib.decDigits k) ++ l)) (fun vn vs => (intOf vn).toNat + emptyN vs)
  case atStart => exact ⟨n, [], rfl, rfl, hn, by simp, Lib.hid ⟨.inr rfl, by rw [if_neg (by simp)]; simp⟩⟩
  case round =>
    obtain ⟨k, l, rfl, rfl, hk, hl, hE⟩ := hrel
    by_cases h0 : k = 0 ∧ l ≠ []
    · obtain ⟨rfl, hne⟩ := h0
      have hfin := hE.out.2
      rw [if_pos ⟨rfl, hne⟩, List.nil_append] at hfin
      have HF := Lib.hid hfin
      have hemp : (⟨l.toArray⟩ : ByteArray).toList.isEmpty = false := by
        rw [ByteArray.toList_eq, List.isEmpty_eq_false_iff]
        exact hne
      clear hfin hne hE
      generalize hX : (⟨l.toArray⟩ : ByteArray) = X at *
      have HX := Lib.hid hX
      clear hX
      go_wp2_with fail
      go_ret
      refine ⟨?_, rfl⟩
      rw [← HX.out, ← HF.out]
      congr 2
    · have hk00 : (0 : Int) ≤ (k : Int) := by omega
      have hcut := dec_cut (k % 10) (by omega)
      obtain ⟨r, hr⟩ : ∃ r : Int, (k : Int) % 10 = r := ⟨_, rfl⟩
      have hr0 : 0 ≤ r := by omega
      have hr1 : r + 1 ≤ 10 := by omega
      have hrt : r.toNat = k % 10 := by omega
      have hrt1 : (r + 1).toNat = k % 10 + 1 := by omega
      have hcut2 : (⟨#[48, 49, 50, 51, 52, 53, 54, 55, 56, 57]⟩ : ByteArray).extract r.toNat (r + 1).toNat = ⟨#[decC (k % 10)]⟩ := by rw [hrt, hrt1]; exact hcut
      obtain ⟨d, hd⟩ : ∃ d : Int, (k : Int) / 10 = d := ⟨_, rfl⟩
      have HD := Lib.hid (show d = ((k / 10 : Nat) : Int) from by omega)
      clear hcut hrt hrt1
      have hE2 := Lib.hid (show Lib.decDigits n = (if k / 10 = 0 ∧ (decC (k % 10) :: l) ≠ [] then [] else Lib.decDigits (k / 10)) ++ (decC (k % 10) :: l) from by
        rw [hE.out.2, if_neg h0]
        by_cases h10 : k < 10
        · rw [if_pos ⟨by omega, by simp⟩, dec_small k h10, show k % 10 = k from by omega]; rfl
        · rw [if_neg (by intro h; have := h.1; omega), dec_step k (by omega)]; simp)
      have hll := Lib.hid (show (decC (k % 10) :: l).length ≤ 5 from by
        have e := congrArg List.length hE2.out
        rw [List.length_append] at e
        have := HL.out
        omega)
      have happ := arr_join [decC (k % 10)] l
      clear hE
      by_cases hle : l = []
      · subst hle
        clear h0
        go_wp2_with fail
        go_round
        case rel => exact ⟨k / 10, [decC (k % 10)], by rw [HD.out], by first | rfl | (simp [happ]; done), by omega, hll.out, Lib.hid ⟨.inl (by simp), hE2.out⟩⟩
        case measure => exact meas_lt (decC (k % 10)) [] d k (.inr ⟨rfl, by have := HD.out; omega⟩)
      · have hk0 : (0 : Int) < (k : Int) := by
          have : k ≠ 0 := fun e => h0 ⟨e, hle⟩
          omega
        have hemp : (⟨l.toArray⟩ : ByteArray).toList.isEmpty = false := by
          rw [ByteArray.toList_eq, List.isEmpty_eq_false_iff]
          exact hle
        clear h0
        go_wp2_with fail
        go_round
        case rel => exact ⟨k / 10, decC (k % 10) :: l, by rw [HD.out], by first | rfl | (simp [happ]; done) | exact congrArg Value.string happ, by omega, hll.out, Lib.hid ⟨.inl (by simp), hE2.out⟩⟩
        case measure => exact meas_lt (decC (k % 10)) l d k (.inl (by have := HD.out; omega))
/-! rest -/
def restS (L : List Head) : ByteArray := ⟨(L.flatMap lineL).toArray⟩
def restB (l : List Head) (body : ByteArray) : ByteArray := restS l ++ ⟨#[67, 111, 110, 116, 101, 110, 116, 45, 76, 101, 110, 103, 116, 104, 58, 32]⟩ ++ itoaB body.size ++ ⟨#[13, 10, 13, 10]⟩ ++ body
theorem message_rest (first : ByteArray) (l : List Head) (body : ByteArray) : messageB first l body = first ++ ⟨#[13, 10]⟩ ++ restB l body := by
  apply ByteArray.ext
  apply Array.ext'
  unfold restB restS
  simp only [ByteArray.data_append, Array.toList_append]
  show messageL first l body = _
  simp [messageL, allH, lineL, lenS]
theorem restS_step (L : List Head) (h : Head) : restS (L ++ [h]) = restS L ++ (h.name ++ ⟨#[58, 32]⟩ ++ h.value ++ ⟨#[13, 10]⟩) := by
  apply ByteArray.ext
  apply Array.ext'
  unfold restS
  simp only [ByteArray.data_append, Array.toList_append]
  simp [lineL]
theorem restS_size (L : List Head) (h : ∀ x ∈ L, HGood x) : (restS L).size ≤ L.length * 4098 := by
  show (L.flatMap lineL).toArray.size ≤ _
  rw [List.size_toArray]
  induction L with
  | nil => simp
  | cons x L ih =>
    have h1 := (h x (by simp)).2.2
    have h2 := ih (fun y hy => h y (by simp [hy]))
    have e1 : x.name.data.toList.length = x.name.size := rfl
    have e2 : x.value.data.toList.length = x.value.size := rfl
    rw [List.flatMap_cons, List.length_append, List.length_cons]
    have : (lineL x).length = x.name.size + 2 + x.value.size + 2 := by unfold lineL; simp only [List.length_append, e1, e2, List.length_cons, List.length_nil]
    omega
set_option maxRecDepth 100000 in
set_option maxHeartbeats 2000000 in
theorem rest_any (A : Option Addr) (c : Nat) (l : List Head) (body : ByteArray) (w : World) (hC : Kd.C kH w A l.length l) (hr : rightB l body = true) :
    Calls Tryz.prog 35 #[.slice A l.length c, .string body] w fun e w' => e = .returned (.string (restB l body)) ∧ Below w.heap.size w w' := by
  obtain ⟨hl64, hb6, hgood⟩ := rightB_spec hr
  have hnum := fun W => number_any body.size W hb6
  have hiz : (itoaB (body.size : Int)).size ≤ 9 := (itoaB_dig body.size hb6).2.1
  have HGD := Lib.hid hgood
  have HC := Lib.hid hC
  have HRS := Lib.hid (fun k => restS_size (l.take k) (fun x hx => (hgood x (List.mem_of_mem_take hx)).1))
  unfold restB
  clear hr hgood hC
  go_enter Tryz.func35, Tryz.ntmps35
  go_wp2_with fail
  go_loopw [5, 10] (fun vs vi wr => ∃ (k : Nat) (S : ByteArray), vs = .string S ∧ vi = .int .i64 k ∧ k ≤ l.length ∧ Hid (S = restS (l.take k)) ∧ Below w.heap.size w wr) (fun _ vi _ => l.length - (intOf vi).toNat)
  case atStart => exact ⟨0, _, rfl, rfl, by omega, Lib.hid rfl, Below.refl _ _⟩
  case round =>
    obtain ⟨k, S, rfl, rfl, hk, hS, hb⟩ := hrel
    have hSz : S.size ≤ 300000 := by
      have h1 := HRS.out k
      rw [← hS.out] at h1
      have h2 : (l.take k).length ≤ 64 := by rw [List.length_take]; omega
      have : (l.take k).length * 4098 ≤ 64 * 4098 := Nat.mul_le_mul_right _ h2
      omega
    by_cases hlt : k < l.length
    · obtain ⟨ad, rfl, x0, x1⟩ := at_H (Kd.C_below HC.out hb) k hlt
      have hx : l.getD k zH = l[k] := by simp [List.getElem?_eq_getElem hlt]
      have hg := (HGD.out l[k] (List.getElem_mem hlt)).1.2.2
      have htk : l.take (k + 1) = l.take k ++ [l[k]] := List.take_succ_eq_append_getElem hlt
      have HT := Lib.hid (show restS (l.take (k + 1)) = S ++ (l[k].name ++ ⟨#[58, 32]⟩ ++ l[k].value ++ ⟨#[13, 10]⟩) from by rw [htk, restS_step, hS.out])
      rw [hx] at x0 x1
      generalize l[k].name = nm at *
      generalize l[k].value = vl at *
      have j1 : ¬ 9223372036854775807 < nm.size + 2 := by omega
      have j2 : ¬ 9223372036854775807 < nm.size + 2 + vl.size := by omega
      have j3 : ¬ 9223372036854775807 < nm.size + 2 + vl.size + 2 := by omega
      have j4 : ¬ 9223372036854775807 < S.size + (nm.size + 2 + vl.size + 2) := by omega
      clear hx htk hg
      go_wp2_with fail
      go_roundw
      case rel => exact ⟨k + 1, _, rfl, by go_num, by omega, Lib.hid HT.out.symm, (by repeat (first | assumption | exact Below.refl _ _ | apply below_drew | apply pw_below_drewN | apply below_alloc | (refine below_via (by assumption) ?_)))⟩
      case measure => simp [intOf]; omega
    · have hkl : k = l.length := by omega
      have hS' := hS.out
      rw [hkl, List.take_length] at hS'
      have HS' := Lib.hid hS'
      have j1 : ¬ 9223372036854775807 < S.size + 16 := by omega
      clear hS hS' hkl
      obtain ⟨num, hnumE⟩ : ∃ num, itoaB (body.size : Int) = num := ⟨_, rfl⟩
      rw [hnumE] at hiz
      have hnum2 := hnum
      rw [hnumE] at hnum2
      have HNE := Lib.hid hnumE
      clear hnumE hnum
      have j2 : ¬ 9223372036854775807 < S.size + 16 + num.size := by omega
      have j3 : ¬ 9223372036854775807 < S.size + 16 + num.size + 4 := by omega
      have j4 : ¬ 9223372036854775807 < S.size + 16 + num.size + 4 + body.size := by omega
      go_wp2_with (go_at_call 38; refine (hnum2 _).mono ?_; rintro e w2 ⟨rfl, rfl⟩)
      go_ret
      rw [← HS'.out, HNE.out]
      exact ⟨rfl, (by repeat (first | assumption | exact Below.refl _ _ | apply below_drew | apply pw_below_drewN | apply below_alloc | (refine below_via (by assumption) ?_)))⟩
/-! heads -/
def headsOk (l : List Head) : Bool := decide (l.length ≤ 64) && !l.any badHB
theorem right_heads (l : List Head) (b : ByteArray) : rightB l b = (headsOk l && decide (b.size ≤ 65536)) := rfl
set_option maxRecDepth 100000 in
set_option maxHeartbeats 4000000 in
theorem rheads_any (A : Option Addr) (c : Nat) (l : List Head) (w : World) (hl : l.length ≤ 1048576) (hC : Kd.C kH w A l.length l) (hok : ∀ h ∈ l, HOk h) :
    Calls Tryz.prog 34 #[.slice A l.length c] w fun e w' => e = .returned (.bool (headsOk l)) ∧ Below w.heap.size w w' := by
  have HC := Lib.hid hC
  have HO := Lib.hid hok
  clear hC hok
  go_enter Tryz.func34, Tryz.ntmps34
  go_wp2_with fail
  go_loopw [7] (fun vi wr => ∃ (k : Nat), vi = .int .i64 k ∧ k ≤ l.length ∧ Hid (∀ j (hj : j < l.length), j < k → badHB l[j] = false) ∧ Below w.heap.size w wr) (fun vi _ => l.length - (intOf vi).toNat)
  case atStart => exact ⟨0, rfl, by omega, Lib.hid (fun j hj h => by omega), Below.refl _ _⟩
  case round =>
    obtain ⟨k, rfl, hk, hI, hb⟩ := hrel
    by_cases hlt : k < l.length
    · obtain ⟨ad, rfl, x0, x1⟩ := at_H (Kd.C_below HC.out hb) k hlt
      have hx : l.getD k zH = l[k] := by simp [List.getElem?_eq_getElem hlt]
      rw [hx] at x0 x1
      obtain ⟨hn, hv⟩ := HO.out l[k] (List.getElem_mem hlt)
      have HBAD := Lib.hid (show badHB l[k] = true → headsOk l = false from fun h => by
        unfold headsOk
        rw [List.any_eq_true.2 ⟨l[k], List.getElem_mem hlt, h⟩]
        simp)
      have HGOOD := Lib.hid (show badHB l[k] = false → ∀ j (hj : j < l.length), j < k + 1 → badHB l[j] = false from fun h j hj hjk => by
        by_cases e : j = k
        · subst e; exact h
        · exact hI.out j hj (by omega))
      have HE := Lib.hid (show badHB l[k] = (!tokenB l[k].name || framingB l[k].name || !valueB l[k].value || decide (4096 < l[k].name.size + 2 + l[k].value.size)) from rfl)
      have ct := fun W => rtoken_any l[k].name W hn
      have cf := fun W => rframing_any l[k].name W hn
      have cv := fun W => rvalue_any l[k].value W hv
      generalize badHB l[k] = bad at *
      generalize l[k].name = nm at *
      generalize l[k].value = vl at *
      generalize tokenB nm = b1 at *
      generalize framingB nm = b2 at *
      generalize valueB vl = b3 at *
      clear hx
      cases b1
      · have HR := Lib.hid (HBAD.out (by rw [HE.out]; simp))
        go_wp2_with (first | (go_at_call 32; refine (ct _).mono ?_; rintro e w1 ⟨rfl, rfl⟩))
        go_ret
        rw [HR.out]
        exact ⟨rfl, (by repeat (first | assumption | exact Below.refl _ _ | apply below_drew | apply pw_below_drewN | apply below_alloc | (refine below_via (by assumption) ?_)))⟩
      · cases b2
        · cases b3
          · have HR := Lib.hid (HBAD.out (by rw [HE.out]; simp))
            go_wp2_with (first | (go_at_call 32; refine (ct _).mono ?_; rintro e w1 ⟨rfl, rfl⟩) | (go_at_call 68; refine (cf _).mono ?_; rintro e w2 ⟨rfl, hb2⟩; obtain ⟨hbc2, hbf2⟩ := bcell hb2; have hz2 : wr.heap.size < w2.heap.size := (by have := hb2.size; simp at this; omega)) | (go_at_call 69; refine (cv _).mono ?_; rintro e w3 ⟨rfl, rfl⟩))
            go_ret
            rw [HR.out]
            exact ⟨rfl, (by repeat (first | assumption | exact Below.refl _ _ | apply below_drew | apply pw_below_drewN | apply below_alloc | (refine below_via (by assumption) ?_)))⟩
          · by_cases h4 : nm.size + 2 + vl.size ≤ 4096
            · have HR := Lib.hid (HGOOD.out (by rw [HE.out]; simp; omega))
              have hd : decide ((4096 : Int) < (nm.size : Int) + 2 + (vl.size : Int)) = false := by simp; omega
              go_wp2_with (first | (go_at_call 32; refine (ct _).mono ?_; rintro e w1 ⟨rfl, rfl⟩) | (go_at_call 68; refine (cf _).mono ?_; rintro e w2 ⟨rfl, hb2⟩; obtain ⟨hbc2, hbf2⟩ := bcell hb2; have hz2 : wr.heap.size < w2.heap.size := (by have := hb2.size; simp at this; omega)) | (go_at_call 69; refine (cv _).mono ?_; rintro e w3 ⟨rfl, rfl⟩))
              go_roundw
              case rel => exact ⟨k + 1, by go_num, by omega, HR, (by repeat (first | assumption | exact Below.refl _ _ | apply below_drew | apply pw_below_drewN | apply below_alloc | (refine below_via (by assumption) ?_)))⟩
              case measure => simp [intOf]; omega
            · have HR := Lib.hid (HBAD.out (by rw [HE.out]; simp; omega))
              have hd : decide ((4096 : Int) < (nm.size : Int) + 2 + (vl.size : Int)) = true := by simp; omega
              go_wp2_with (first | (go_at_call 32; refine (ct _).mono ?_; rintro e w1 ⟨rfl, rfl⟩) | (go_at_call 68; refine (cf _).mono ?_; rintro e w2 ⟨rfl, hb2⟩; obtain ⟨hbc2, hbf2⟩ := bcell hb2; have hz2 : wr.heap.size < w2.heap.size := (by have := hb2.size; simp at this; omega)) | (go_at_call 69; refine (cv _).mono ?_; rintro e w3 ⟨rfl, rfl⟩))
              go_ret
              rw [HR.out]
              exact ⟨rfl, (by repeat (first | assumption | exact Below.refl _ _ | apply below_drew | apply pw_below_drewN | apply below_alloc | (refine below_via (by assumption) ?_)))⟩
        · have HR := Lib.hid (HBAD.out (by rw [HE.out]; simp))
          go_wp2_with (first | (go_at_call 32; refine (ct _).mono ?_; rintro e w1 ⟨rfl, rfl⟩) | (go_at_call 68; refine (cf _).mono ?_; rintro e w2 ⟨rfl, hb2⟩; obtain ⟨hbc2, hbf2⟩ := bcell hb2; have hz2 : wr.heap.size < w2.heap.size := (by have := hb2.size; simp at this; omega)))
          go_ret
          rw [HR.out]
          exact ⟨rfl, (by repeat (first | assumption | exact Below.refl _ _ | apply below_drew | apply pw_below_drewN | apply below_alloc | (refine below_via (by assumption) ?_)))⟩
    · have HR := Lib.hid (show headsOk l = decide (l.length ≤ 64) from by
        unfold headsOk
        have : l.any badHB = false := by
          rw [List.any_eq_false]
          intro x hx
          obtain ⟨j, hj, rfl⟩ := List.getElem_of_mem hx
          simp [hI.out j hj (by omega)]
        rw [this]
        simp)
      go_wp2_with fail
      go_ret
      rw [HR.out]
      exact ⟨by simp <;> omega, (by repeat (first | assumption | exact Below.refl _ _ | apply below_drew | apply pw_below_drewN | apply below_alloc | (refine below_via (by assumption) ?_)))⟩
end
section
open Go.Sort Go.RowKit Go.Proofs Go.Proofs.YtjbehnalmgcbpaaGreatDoorW.PrintWords Go.Proofs.YtjbehnalmgcbpaaGreatDoor.Bs Go.Proofs.YtjbehnalmgcbpaaGreatDoor.Ir Go.Proofs.YtjbehnalmgcbpaaGreatDoor.Gn

set_option maxRecDepth 100000 in
set_option maxHeartbeats 4000000 in
theorem rreason_any (s : Int) (w : World) : Calls Tryz.prog 39 #[.int .i64 s] w fun e w' => e = .returned (.string (reasonB s)) ∧ w = w' := by
  by_cases h1 : s = 200
  · subst h1
    go_enter Tryz.func39, Tryz.ntmps39
    go_wp2_with fail
    go_ret
    exact ⟨by rfl, rfl⟩
  by_cases h2 : s = 400
  · subst h2
    go_enter Tryz.func39, Tryz.ntmps39
    go_wp2_with fail
    go_ret
    exact ⟨by rfl, rfl⟩
  by_cases h3 : s = 404
  · subst h3
    go_enter Tryz.func39, Tryz.ntmps39
    go_wp2_with fail
    go_ret
    exact ⟨by rfl, rfl⟩
  by_cases h4 : s = 405
  · subst h4
    go_enter Tryz.func39, Tryz.ntmps39
    go_wp2_with fail
    go_ret
    exact ⟨by rfl, rfl⟩
  by_cases h5 : s = 408
  · subst h5
    go_enter Tryz.func39, Tryz.ntmps39
    go_wp2_with fail
    go_ret
    exact ⟨by rfl, rfl⟩
  by_cases h6 : s = 413
  · subst h6
    go_enter Tryz.func39, Tryz.ntmps39
    go_wp2_with fail
    go_ret
    exact ⟨by rfl, rfl⟩
  by_cases h7 : s = 415
  · subst h7
    go_enter Tryz.func39, Tryz.ntmps39
    go_wp2_with fail
    go_ret
    exact ⟨by rfl, rfl⟩
  by_cases h8 : s = 429
  · subst h8
    go_enter Tryz.func39, Tryz.ntmps39
    go_wp2_with fail
    go_ret
    exact ⟨by rfl, rfl⟩
  by_cases h9 : s = 503
  · subst h9
    go_enter Tryz.func39, Tryz.ntmps39
    go_wp2_with fail
    go_ret
    exact ⟨by rfl, rfl⟩
  have hr : reasonB s = ⟨#[79, 116, 104, 101, 114]⟩ := by
    unfold reasonB reasonIx
    rw [if_neg h1, if_neg h2, if_neg h3, if_neg h4, if_neg h5, if_neg h6, if_neg h7, if_neg h8, if_neg h9]
    rfl
  rw [hr]
  have b1 : (s == 200) = false := by rw [beq_eq_false_iff_ne]; exact h1
  have b2 : (s == 400) = false := by rw [beq_eq_false_iff_ne]; exact h2
  have b3 : (s == 404) = false := by rw [beq_eq_false_iff_ne]; exact h3
  have b4 : (s == 405) = false := by rw [beq_eq_false_iff_ne]; exact h4
  have b5 : (s == 408) = false := by rw [beq_eq_false_iff_ne]; exact h5
  have b6 : (s == 413) = false := by rw [beq_eq_false_iff_ne]; exact h6
  have b7 : (s == 415) = false := by rw [beq_eq_false_iff_ne]; exact h7
  have b8 : (s == 429) = false := by rw [beq_eq_false_iff_ne]; exact h8
  have b9 : (s == 503) = false := by rw [beq_eq_false_iff_ne]; exact h9
  clear h1 h2 h3 h4 h5 h6 h7 h8 h9 hr
  go_enter Tryz.func39, Tryz.ntmps39
  go_wp2_with fail
  go_ret
  exact ⟨rfl, rfl⟩
theorem firstB_crlf (m t : ByteArray) : firstB m t ++ ⟨#[13, 10]⟩ = m ++ ⟨#[32]⟩ ++ t ++ ⟨#[32, 72, 84, 84, 80, 47, 49, 46, 49, 13, 10]⟩ := by
  apply ByteArray.ext
  apply Array.ext'
  unfold firstB
  simp only [ByteArray.data_append, Array.toList_append]
  simp
theorem restB_size {l : List Head} {body : ByteArray} (hr : rightB l body = true) : (restB l body).size ≤ 1000000 := by
  have := message_size (first := ⟨#[]⟩) hr (by decide)
  rw [message_rest, ByteArray.size_append, ByteArray.size_append] at this
  omega
set_option maxRecDepth 100000 in
set_option maxHeartbeats 4000000 in
theorem rwriteRequest_any (m t : ByteArray) (A : Option Addr) (c : Nat) (l : List Head) (b : ByteArray) (w : World) (hm : m.size ≤ 1048576) (ht : t.size ≤ 1048576) (hl : l.length ≤ 1048576) (hC : Kd.C kH w A l.length l) (hok : ∀ h ∈ l, HOk h) :
    Calls Tryz.prog 15 #[.agg #[.string m, .string t, .slice A l.length c, .string b]] w fun e w' => e = .returned (writeReq m t l b) ∧ Below w.heap.size w w' := by
  have c1 := fun W => rtoken_any m W (by omega)
  have c2 := fun W => rtarget_any t W (by omega)
  have c3 := fun W (hb : Below w.heap.size w W) => rheads_any A c l W hl (Kd.C_below hC hb) hok
  have c4 := fun (h : rightB l b = true) W (hb : Below w.heap.size w W) => rest_any A c l b W (Kd.C_below hC hb) h
  have hfz : (firstB m t).size = m.size + 1 + t.size + 9 := by
    have e1 : (⟨#[32]⟩ : ByteArray).size = 1 := rfl
    have e2 : (⟨#[32, 72, 84, 84, 80, 47, 49, 46, 49]⟩ : ByteArray).size = 9 := rfl
    simp only [firstB, ByteArray.size_append, e1, e2]
  have HW := Lib.hid (show writeReq m t l b = if (tokenB m && targetB t && decide (m.size + 1 + t.size + 9 ≤ 4096) && (headsOk l && decide (b.size ≤ 65536))) = true then .tuple #[.string (m ++ ⟨#[32]⟩ ++ t ++ ⟨#[32, 72, 84, 84, 80, 47, 49, 46, 49, 13, 10]⟩ ++ restB l b), .int .i64 0] else .tuple #[.string ⟨#[]⟩, .int .i64 13] from by
    unfold writeReq reqOk
    rw [message_rest, right_heads, hfz, firstB_crlf])
  have HRZ := Lib.hid (@restB_size l b)
  have HRI := Lib.hid (right_heads l b)
  have HC4 := Lib.hid c4
  clear hC hok hfz c4
  generalize writeReq m t l b = R at *
  generalize tokenB m = b1 at *
  generalize targetB t = b2 at *
  generalize headsOk l = b3 at *
  cases b1
  · have HR := Lib.hid (show R = .tuple #[.string ⟨#[]⟩, .int .i64 13] from by rw [HW.out]; simp)
    go_enter Tryz.func15, Tryz.ntmps15
    go_wp2_with (first | (go_at_call 32; refine (c1 _).mono ?_; rintro e w1 ⟨rfl, rfl⟩))
    go_ret2
    rw [HR.out]
    exact ⟨rfl, (by repeat (first | assumption | exact Below.refl _ _ | apply below_drew | apply pw_below_drewN | apply below_alloc | (refine below_via (by assumption) ?_)))⟩
  cases b2
  · have HR := Lib.hid (show R = .tuple #[.string ⟨#[]⟩, .int .i64 13] from by rw [HW.out]; simp)
    go_enter Tryz.func15, Tryz.ntmps15
    go_wp2_with (first | (go_at_call 32; refine (c1 _).mono ?_; rintro e w1 ⟨rfl, rfl⟩) | (go_at_call 33; refine (c2 _).mono ?_; rintro e w2 ⟨rfl, rfl⟩))
    go_ret2
    rw [HR.out]
    exact ⟨rfl, (by repeat (first | assumption | exact Below.refl _ _ | apply below_drew | apply pw_below_drewN | apply below_alloc | (refine below_via (by assumption) ?_)))⟩
  by_cases h4 : m.size + 1 + t.size + 9 ≤ 4096
  · have d4 : decide ((4096 : Int) < (m.size : Int) + (t.size : Int) + 10) = false := by simp; omega
    cases b3
    · have HR := Lib.hid (show R = .tuple #[.string ⟨#[]⟩, .int .i64 13] from by rw [HW.out]; simp)
      clear h4
      go_enter Tryz.func15, Tryz.ntmps15
      go_wp2_with (first | (go_at_call 32; refine (c1 _).mono ?_; rintro e w1 ⟨rfl, rfl⟩) | (go_at_call 33; refine (c2 _).mono ?_; rintro e w2 ⟨rfl, rfl⟩) | (go_at_call 34; refine (c3 _ (by repeat (first | assumption | exact Below.refl _ _ | apply below_drew | apply pw_below_drewN | apply below_alloc | (refine below_via (by assumption) ?_)))).mono ?_; rintro e w3 ⟨rfl, hb3⟩))
      go_ret2
      rw [HR.out]
      exact ⟨rfl, (by repeat (first | assumption | exact Below.refl _ _ | apply below_drew | apply pw_below_drewN | apply below_alloc | (refine below_via (by assumption) ?_)))⟩
    · by_cases h6 : b.size ≤ 65536
      · have d6 : decide ((65536 : Int) < (b.size : Int)) = false := by simp; omega
        have hri : rightB l b = true := by rw [HRI.out]; simp [h6]
        have c4 := HC4.out hri
        have hrz := HRZ.out hri
        have HR := Lib.hid (show R = .tuple #[.string (m ++ ⟨#[32]⟩ ++ t ++ ⟨#[32, 72, 84, 84, 80, 47, 49, 46, 49, 13, 10]⟩ ++ restB l b), .int .i64 0] from by rw [HW.out, if_pos (by simp [h6]; omega)])
        clear h6 h4 hri
        generalize restB l b = rb at *
        have j1 : ¬ 9223372036854775807 < m.size + 1 := by omega
        have j2 : ¬ 9223372036854775807 < m.size + 1 + t.size := by omega
        have j3 : ¬ 9223372036854775807 < m.size + 1 + t.size + 11 := by omega
        have j4 : ¬ 9223372036854775807 < m.size + 1 + t.size + 11 + rb.size := by omega
        go_enter Tryz.func15, Tryz.ntmps15
        go_wp2_with (first | (go_at_call 32; refine (c1 _).mono ?_; rintro e w1 ⟨rfl, rfl⟩) | (go_at_call 33; refine (c2 _).mono ?_; rintro e w2 ⟨rfl, rfl⟩) | (go_at_call 34; refine (c3 _ (by repeat (first | assumption | exact Below.refl _ _ | apply below_drew | apply pw_below_drewN | apply below_alloc | (refine below_via (by assumption) ?_)))).mono ?_; rintro e w3 ⟨rfl, hb3⟩; obtain ⟨hbc3, hbf3⟩ := bcell hb3; have hz3 : w.heap.size < w3.heap.size := (by have := hb3.size; simp at this; omega)))
        have x0 : w3.cell? ⟨w.heap.size, 0, none⟩ = some (.string m) := below_cells hb3 0 _ rfl
        have x1 : w3.cell? ⟨w.heap.size, 1, none⟩ = some (.string t) := below_cells hb3 1 _ rfl
        have x2 : w3.cell? ⟨w.heap.size, 2, none⟩ = some (.slice A l.length c) := below_cells hb3 2 _ rfl
        have x3 : w3.cell? ⟨w.heap.size, 3, none⟩ = some (.string b) := below_cells hb3 3 _ rfl
        have hbw3 : Below w.heap.size w w3 := (by repeat (first | assumption | exact Below.refl _ _ | apply below_drew | apply pw_below_drewN | apply below_alloc | (refine below_via (by assumption) ?_)))
        have k0 := cell_regrown x0
        have k1 := cell_regrown x1
        have k2 := cell_regrown x2
        have k3 := cell_regrown x3
        have c5 := fun d os => Calls.regrown_of (c4 (grow (redrawn w3 d) os) (below_via (below_regrown w3 d os) hbw3))
        clear hbc3 hbf3 x0 x1 x2 x3 c4 c1 c2 c3
        refine wp_region_quiet_below (by kernel_rfl) (by kernel_rfl) ?_
        repeat (quiet_step (with_reducible exact c5 _ _))
        refine wpQuiet_nil ?_
        intro _ hw'
        obtain ⟨⟨dq, osq⟩, hw''⟩ := hw'
        subst hw''
        have hb4 := below_regrown (w3) dq osq
        generalize grow (redrawn (w3) dq) osq = W4 at *
        clear k0 k1 k2 k3 c5
        go_wp2_with fail
        go_ret2
        rw [HR.out]
        exact ⟨rfl, (by repeat (first | assumption | exact Below.refl _ _ | apply below_drew | apply pw_below_drewN | apply below_alloc | (refine below_via (by assumption) ?_)))⟩
      · have d6 : decide ((65536 : Int) < (b.size : Int)) = true := by simp; omega
        have HR := Lib.hid (show R = .tuple #[.string ⟨#[]⟩, .int .i64 13] from by rw [HW.out, if_neg (by simp [h6])])
        clear h6 h4
        go_enter Tryz.func15, Tryz.ntmps15
        go_wp2_with (first | (go_at_call 32; refine (c1 _).mono ?_; rintro e w1 ⟨rfl, rfl⟩) | (go_at_call 33; refine (c2 _).mono ?_; rintro e w2 ⟨rfl, rfl⟩) | (go_at_call 34; refine (c3 _ (by repeat (first | assumption | exact Below.refl _ _ | apply below_drew | apply pw_below_drewN | apply below_alloc | (refine below_via (by assumption) ?_)))).mono ?_; rintro e w3 ⟨rfl, hb3⟩; obtain ⟨hbc3, hbf3⟩ := bcell hb3; have hz3 : w.heap.size < w3.heap.size := (by have := hb3.size; simp at this; omega)))
        go_ret2
        rw [HR.out]
        exact ⟨rfl, (by repeat (first | assumption | exact Below.refl _ _ | apply below_drew | apply pw_below_drewN | apply below_alloc | (refine below_via (by assumption) ?_)))⟩
  · have d4 : decide ((4096 : Int) < (m.size : Int) + (t.size : Int) + 10) = true := by simp; omega
    have HR := Lib.hid (show R = .tuple #[.string ⟨#[]⟩, .int .i64 13] from by rw [HW.out, if_neg (by simp [h4])])
    clear h4
    go_enter Tryz.func15, Tryz.ntmps15
    go_wp2_with (first | (go_at_call 32; refine (c1 _).mono ?_; rintro e w1 ⟨rfl, rfl⟩) | (go_at_call 33; refine (c2 _).mono ?_; rintro e w2 ⟨rfl, rfl⟩))
    go_ret2
    rw [HR.out]
    exact ⟨rfl, (by repeat (first | assumption | exact Below.refl _ _ | apply below_drew | apply pw_below_drewN | apply below_alloc | (refine below_via (by assumption) ?_)))⟩
set_option maxRecDepth 100000 in
set_option maxHeartbeats 4000000 in
theorem rwriteResponse_any (s : Int) (A : Option Addr) (c : Nat) (l : List Head) (b : ByteArray) (w : World) (hl : l.length ≤ 1048576) (hC : Kd.C kH w A l.length l) (hok : ∀ h ∈ l, HOk h) :
    Calls Tryz.prog 17 #[.agg #[.int .i64 s, .slice A l.length c, .string b]] w fun e w' => e = .returned (writeResp s l b) ∧ Below w.heap.size w w' := by
  have c3 := fun W (hb : Below w.heap.size w W) => rheads_any A c l W hl (Kd.C_below hC hb) hok
  have c4 := fun (h : rightB l b = true) W (hb : Below w.heap.size w W) => rest_any A c l b W (Kd.C_below hC hb) h
  have HC4 := Lib.hid c4
  have HRZ := Lib.hid (@restB_size l b)
  have HRI := Lib.hid (right_heads l b)
  have HW := Lib.hid (show writeResp s l b = if (decide (100 ≤ s) && decide (s ≤ 599) && (headsOk l && decide (b.size ≤ 65536))) = true then .tuple #[.string (⟨#[72, 84, 84, 80, 47, 49, 46, 49, 32]⟩ ++ itoaB s ++ ⟨#[32]⟩ ++ reasonB s ++ ⟨#[13, 10]⟩ ++ restB l b), .int .i64 0] else .tuple #[.string ⟨#[]⟩, .int .i64 13] from by
    unfold writeResp respOk
    rw [message_rest, right_heads]
    rfl)
  clear hC hok c4
  generalize writeResp s l b = R at *
  generalize headsOk l = b3 at *
  by_cases h1 : 100 ≤ s
  · by_cases h5 : s ≤ 599
    · cases b3
      · have HR := Lib.hid (show R = .tuple #[.string ⟨#[]⟩, .int .i64 13] from by rw [HW.out]; simp)
        go_enter Tryz.func17, Tryz.ntmps17
        go_wp2_with (first | (go_at_call 34; refine (c3 _ (by repeat (first | assumption | exact Below.refl _ _ | apply below_drew | apply pw_below_drewN | apply below_alloc | (refine below_via (by assumption) ?_)))).mono ?_; rintro e w3 ⟨rfl, hb3⟩))
        go_ret2
        rw [HR.out]
        exact ⟨rfl, (by repeat (first | assumption | exact Below.refl _ _ | apply below_drew | apply pw_below_drewN | apply below_alloc | (refine below_via (by assumption) ?_)))⟩
      · by_cases h6 : b.size ≤ 65536
        · have d6 : decide ((65536 : Int) < (b.size : Int)) = false := by simp; omega
          have hri : rightB l b = true := by rw [HRI.out]; simp [h6]
          have c4 := HC4.out hri
          have hrz := HRZ.out hri
          have HR := Lib.hid (show R = .tuple #[.string (⟨#[72, 84, 84, 80, 47, 49, 46, 49, 32]⟩ ++ itoaB s ++ ⟨#[32]⟩ ++ reasonB s ++ ⟨#[13, 10]⟩ ++ restB l b), .int .i64 0] from by rw [HW.out, if_pos (by simp [h6, h1, h5])])
          have hnum : ∀ W, Calls Tryz.prog 38 #[.int .i64 s] W fun e w' => e = .returned (.string (itoaB s)) ∧ W = w' := by
            obtain ⟨n, rfl⟩ : ∃ n : Nat, s = (n : Int) := ⟨s.toNat, by omega⟩
            exact fun W => number_any n W (by omega)
          have hiz : (itoaB s).size ≤ 9 := by
            obtain ⟨n, rfl⟩ : ∃ n : Nat, s = (n : Int) := ⟨s.toNat, by omega⟩
            exact (itoaB_dig n (by omega)).2.1
          have hrs := fun W => rreason_any s W
          have hrsz := reasonB_size s
          clear h6 hri
          generalize restB l b = rb at *
          generalize itoaB s = num at *
          generalize reasonB s = rea at *
          have j1 : ¬ 9223372036854775807 < 9 + num.size := by omega
          have j2 : ¬ 9223372036854775807 < 9 + num.size + 1 := by omega
          have j3 : ¬ 9223372036854775807 < 9 + num.size + 1 + rea.size := by omega
          have j4 : ¬ 9223372036854775807 < 9 + num.size + 1 + rea.size + 2 := by omega
          have j5 : ¬ 9223372036854775807 < 9 + num.size + 1 + rea.size + 2 + rb.size := by omega
          go_enter Tryz.func17, Tryz.ntmps17
          go_wp2_with (first | (go_at_call 34; refine (c3 _ (by repeat (first | assumption | exact Below.refl _ _ | apply below_drew | apply pw_below_drewN | apply below_alloc | (refine below_via (by assumption) ?_)))).mono ?_; rintro e w3 ⟨rfl, hb3⟩; obtain ⟨hbc3, hbf3⟩ := bcell hb3; have hz3 : w.heap.size < w3.heap.size := (by have := hb3.size; simp at this; omega)))
          have x0 : w3.cell? ⟨w.heap.size, 0, none⟩ = some (.int .i64 s) := below_cells hb3 0 _ rfl
          have x1 : w3.cell? ⟨w.heap.size, 1, none⟩ = some (.slice A l.length c) := below_cells hb3 1 _ rfl
          have x2 : w3.cell? ⟨w.heap.size, 2, none⟩ = some (.string b) := below_cells hb3 2 _ rfl
          have hbw3 : Below w.heap.size w w3 := (by repeat (first | assumption | exact Below.refl _ _ | apply below_drew | apply pw_below_drewN | apply below_alloc | (refine below_via (by assumption) ?_)))
          have k0 := cell_regrown x0
          have k1 := cell_regrown x1
          have k2 := cell_regrown x2
          have c5 := fun d os => Calls.regrown_of (c4 (grow (redrawn w3 d) os) (below_via (below_regrown w3 d os) hbw3))
          have c6 := fun d os => Calls.regrown_of ((hnum (grow (redrawn w3 d) os)).mono (fun e w' h => ⟨h.1, by rw [← h.2]; exact Below.refl _ _⟩))
          have c7 := fun d os => Calls.regrown_of ((hrs (grow (redrawn w3 d) os)).mono (fun e w' h => ⟨h.1, by rw [← h.2]; exact Below.refl _ _⟩))
          clear hbc3 hbf3 x0 x1 x2 c4 c3 hnum hrs
          refine wp_region_quiet_below (by kernel_rfl) (by kernel_rfl) ?_
          repeat (quiet_step (first | (with_reducible exact c5 _ _) | (with_reducible exact c6 _ _) | (with_reducible exact c7 _ _)))
          refine wpQuiet_nil ?_
          intro _ hw'
          obtain ⟨⟨dq, osq⟩, hw''⟩ := hw'
          subst hw''
          have hb4 := below_regrown (w3) dq osq
          generalize grow (redrawn (w3) dq) osq = W4 at *
          clear k0 k1 k2 c5 c6 c7
          go_wp2_with fail
          go_ret2
          rw [HR.out]
          exact ⟨rfl, (by repeat (first | assumption | exact Below.refl _ _ | apply below_drew | apply pw_below_drewN | apply below_alloc | (refine below_via (by assumption) ?_)))⟩
        · have d6 : decide ((65536 : Int) < (b.size : Int)) = true := by simp; omega
          have HR := Lib.hid (show R = .tuple #[.string ⟨#[]⟩, .int .i64 13] from by rw [HW.out, if_neg (by simp [h6])])
          clear h6
          go_enter Tryz.func17, Tryz.ntmps17
          go_wp2_with (first | (go_at_call 34; refine (c3 _ (by repeat (first | assumption | exact Below.refl _ _ | apply below_drew | apply pw_below_drewN | apply below_alloc | (refine below_via (by assumption) ?_)))).mono ?_; rintro e w3 ⟨rfl, hb3⟩; obtain ⟨hbc3, hbf3⟩ := bcell hb3; have hz3 : w.heap.size < w3.heap.size := (by have := hb3.size; simp at this; omega)))
          go_ret2
          rw [HR.out]
          exact ⟨rfl, (by repeat (first | assumption | exact Below.refl _ _ | apply below_drew | apply pw_below_drewN | apply below_alloc | (refine below_via (by assumption) ?_)))⟩
    · have HR := Lib.hid (show R = .tuple #[.string ⟨#[]⟩, .int .i64 13] from by rw [HW.out, if_neg (by simp [h5])])
      go_enter Tryz.func17, Tryz.ntmps17
      go_wp2_with fail
      go_ret2
      rw [HR.out]
      exact ⟨rfl, (by repeat (first | assumption | exact Below.refl _ _ | apply below_drew | apply pw_below_drewN | apply below_alloc | (refine below_via (by assumption) ?_)))⟩
  · have HR := Lib.hid (show R = .tuple #[.string ⟨#[]⟩, .int .i64 13] from by rw [HW.out, if_neg (by simp [h1])])
    go_enter Tryz.func17, Tryz.ntmps17
    go_wp2_with fail
    go_ret2
    rw [HR.out]
    exact ⟨rfl, (by repeat (first | assumption | exact Below.refl _ _ | apply below_drew | apply pw_below_drewN | apply below_alloc | (refine below_via (by assumption) ?_)))⟩
theorem write_shape (v : Value) : True := trivial
theorem writeReq_shape (m t : ByteArray) (l : List Head) (b : ByteArray) : ∃ x y, writeReq m t l b = .tuple #[.string x, .int .i64 y] := by
  unfold writeReq
  split
  · exact ⟨_, _, rfl⟩
  · exact ⟨_, _, rfl⟩
theorem writeResp_shape (s : Int) (l : List Head) (b : ByteArray) : ∃ x y, writeResp s l b = .tuple #[.string x, .int .i64 y] := by
  unfold writeResp
  split
  · exact ⟨_, _, rfl⟩
  · exact ⟨_, _, rfl⟩
set_option maxRecDepth 100000 in
set_option maxHeartbeats 8000000 in
theorem httpWrites_any (m t b : ByteArray) (A : Option Addr) (c : Nat) (l : List Head) (k : Int) (b' : ByteArray) (A' : Option Addr) (c' : Nat) (l' : List Head) (w : World) (G : Gnd w)
    (zm : m.size ≤ 1048576) (zt : t.size ≤ 1048576) (zl : l.length ≤ 1048576) (zl' : l'.length ≤ 1048576) (hC : Kd.C kH w A l.length l) (hC' : Kd.C kH w A' l'.length l') (hok : ∀ y ∈ l, y.name.size ≤ 1048576 ∧ y.value.size ≤ 1048576) (hok' : ∀ y ∈ l', y.name.size ≤ 1048576 ∧ y.value.size ≤ 1048576) :
    Calls Tryz.prog 5 #[.agg #[.string m, .string t, .slice A l.length c, .string b], .agg #[.int .i64 k, .slice A' l'.length c', .string b']] w fun e w' => e = .returned (.bool true) ∧ Below w.heap.size w w' := by
  have hlv := fun W (hb : Below w.heap.size w W) => lives_any W (G.below hb)
  have hwr := fun W (hb : Below w.heap.size w W) => writeRequest_any m t A c l b W (G.below hb) (by omega) (by omega) (by omega) (Kd.C_below hC hb) (fun y hy => ⟨by have := (hok y hy).1; omega, by have := (hok y hy).2; omega⟩)
  have hwp := fun W (hb : Below w.heap.size w W) => writeResponse_any k A' c' l' b' W (G.below hb) (by omega) (Kd.C_below hC' hb) (fun y hy => ⟨by have := (hok' y hy).1; omega, by have := (hok' y hy).2; omega⟩)
  have rwr := fun W (hb : Below w.heap.size w W) => rwriteRequest_any m t A c l b W zm zt zl (Kd.C_below hC hb) (fun y hy => ⟨by have := (hok y hy).1; omega, by have := (hok y hy).2; omega⟩)
  have rwp := fun W (hb : Below w.heap.size w W) => rwriteResponse_any k A' c' l' b' W zl' (Kd.C_below hC' hb) (fun y hy => ⟨by have := (hok' y hy).1; omega, by have := (hok' y hy).2; omega⟩)
  obtain ⟨x1, y1, e1⟩ := writeReq_shape m t l b
  obtain ⟨x2, y2, e2⟩ := writeResp_shape k l' b'
  rw [e1] at hwr rwr
  rw [e2] at hwp rwp
  have hs1 := str_eq x1 x1
  have hs2 := str_eq x2 x2
  rw [decide_eq_true rfl] at hs1 hs2
  clear hC hC' hok hok' e1 e2 G
  go_enter Tryz.func5, Tryz.ntmps5
  go_wp2_with (first
    | (go_at_call 14; (with_reducible refine (hwr _ (by repeat (first | assumption | exact Below.refl _ _ | apply below_drew | apply pw_below_drewN | apply below_alloc | (refine below_via (by assumption) ?_)))).mono ?_); rintro e w1 ⟨rfl, hb1⟩; obtain ⟨hbc1, hbf1⟩ := bcell hb1; have hz1 : w.heap.size + 1 < w1.heap.size := (by have := hb1.size; simp at this; omega); have hy1 : w.heap.size < w1.heap.size := (by omega))
    | (go_at_call 15; (with_reducible refine (rwr _ (by repeat (first | assumption | exact Below.refl _ _ | apply below_drew | apply pw_below_drewN | apply below_alloc | (refine below_via (by assumption) ?_)))).mono ?_); rintro e w2 ⟨rfl, hb2⟩; obtain ⟨hbc2, hbf2⟩ := bcell hb2; have hz2 : w.heap.size + 1 < w2.heap.size := (by have := hb2.size; omega); have hy2 : w.heap.size < w2.heap.size := (by omega))
    | (go_at_call 16; (with_reducible refine (hwp _ (by repeat (first | assumption | exact Below.refl _ _ | apply below_drew | apply pw_below_drewN | apply below_alloc | (refine below_via (by assumption) ?_)))).mono ?_); rintro e w3 ⟨rfl, hb3⟩; obtain ⟨hbc3, hbf3⟩ := bcell hb3; have hz3 : w.heap.size + 1 < w3.heap.size := (by have := hb3.size; omega); have hy3 : w.heap.size < w3.heap.size := (by omega))
    | (go_at_call 17; (with_reducible refine (rwp _ (by repeat (first | assumption | exact Below.refl _ _ | apply below_drew | apply pw_below_drewN | apply below_alloc | (refine below_via (by assumption) ?_)))).mono ?_); rintro e w4 ⟨rfl, hb4⟩)
    | (go_at_call 10; (with_reducible refine (hlv _ (by repeat (first | assumption | exact Below.refl _ _ | apply below_drew | apply pw_below_drewN | apply below_alloc | (refine below_via (by assumption) ?_)))).mono ?_); rintro e w5 ⟨rfl, hb5⟩))
  all_goals (go_ret; exact ⟨rfl, (by repeat (first | assumption | exact Below.refl _ _ | apply below_drew | apply pw_below_drewN | apply below_alloc | (refine below_via (by assumption) ?_)))⟩)
end
end Go.Proofs.YtjbehnalmgcbpaaGreatDoor.Ht
