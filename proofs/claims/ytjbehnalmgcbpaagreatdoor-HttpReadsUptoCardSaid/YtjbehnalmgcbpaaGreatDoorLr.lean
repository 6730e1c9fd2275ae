/- Package penstockref07: body; Package penstockref07: all; Plain laws: what stands behind the first line; the number of a response's first line; Package penstockref07: ReadRequest; Package penstockref07: ReadResponse; Package penstockref07: Find; HttpReads: the walk. -/
import Derived.Test.YtjbehnalmgcbpaaGreatDoorMi
import Derived.Test.YtjbehnalmgcbpaaGreatDoorSt
import Derived.Test.YtjbehnalmgcbpaaGreatDoorMg
import Derived.Test.YtjbehnalmgcbpaaGreatDoorRt
import Derived.Test.YtjbehnalmgcbpaaGreatDoorFi
import Derived.Test.YtjbehnalmgcbpaaGreatDoorSa
set_option linter.unusedVariables false
set_option linter.unusedSimpArgs false
namespace Go.Proofs.YtjbehnalmgcbpaaGreatDoor.Ht
section
open Go.Sort Go.RowKit Go.Proofs Go.Proofs.YtjbehnalmgcbpaaGreatDoorW.PrintWords Go.Proofs.YtjbehnalmgcbpaaGreatDoor.Bs Go.Proofs.YtjbehnalmgcbpaaGreatDoor.Ir Go.Proofs.YtjbehnalmgcbpaaGreatDoor.Gn

def lastV (L : List Head) : ByteArray := match L.getLast? with | some h => h.value | none => ⟨#[]⟩
theorem lastV_one {L : List Head} (h : L.length = 1) : lastV L = val0 L := by
  match L, h with
  | [x], _ => rfl
theorem lastV_snoc (L : List Head) (h : Head) : lastV (L ++ [h]) = h.value := by
  unfold lastV
  rw [List.getLast?_concat]
theorem hasName_snoc (name : ByteArray) (L : List Head) (h : Head) : hasName name (L ++ [h]) = if calledB name h.name = true then hasName name L ++ [h] else hasName name L := by
  unfold hasName
  rw [List.filter_append]
  by_cases e : calledB name h.name = true
  · rw [if_pos e]
    simp [calledH, e]
  · rw [if_neg e]
    simp [calledH, e]
theorem len_not_cod (n : ByteArray) (h : calledB lenS n = true) : calledB codS n = false := by
  unfold calledB at *
  rw [names_low.1] at h
  rw [names_low.2]
  generalize (smallB n).toList = x at *
  have e := eq_of_beq h
  subst e
  decide
theorem decN_step (l : List UInt8) (b : UInt8) : decN (l ++ [b]) = decN l * 10 + (b.toNat - 48) := by
  unfold decN
  rw [List.foldl_append]
  rfl
theorem decN_lt : ∀ (l : List UInt8) (k : Nat), l.length ≤ k → (∀ b ∈ l, b.toNat ≤ 57) → decN l < 10 ^ k := by
  intro l k hk h
  have key : ∀ (l : List UInt8) (acc : Nat), (∀ b ∈ l, b.toNat ≤ 57) → l.foldl (fun n b => n * 10 + (b.toNat - 48)) acc + 1 ≤ (acc + 1) * 10 ^ l.length := by
    intro l
    induction l with
    | nil => intro acc _; simp
    | cons b l ih =>
      intro acc h
      rw [List.foldl_cons, List.length_cons, Nat.pow_succ]
      have h1 := ih (acc * 10 + (b.toNat - 48)) (fun x hx => h x (by simp [hx]))
      have h2 := h b (by simp)
      have h3 : (acc * 10 + (b.toNat - 48) + 1) * 10 ^ l.length ≤ ((acc + 1) * 10) * 10 ^ l.length := Nat.mul_le_mul_right _ (by omega)
      have h4 : (acc + 1) * (10 ^ l.length * 10) = ((acc + 1) * 10) * 10 ^ l.length := by rw [Nat.mul_comm (10 ^ l.length) 10, ← Nat.mul_assoc]
      omega
  have h1 := key l 0 h
  have h2 := Nat.pow_le_pow_right (show 0 < 10 by decide) hk
  unfold decN
  omega
theorem digB_by (v : ByteArray) : digB v = v.data.toList.all fun b => digI (b.toNat : Int) := by
  unfold digB
  congr 1
  funext b
  have key : ∀ i : Fin 256, (decide (48 ≤ i.val) && decide (i.val ≤ 57)) = digI (i.val : Int) := by decide +kernel
  exact key ⟨b.toNat, b.toNat_lt⟩
/-- The number that a text of digits is: first k of its bytes. -/
def decK (v : ByteArray) (k : Nat) : Nat := decN (v.data.toList.take k)
theorem decK_step (v : ByteArray) (k : Nat) (hk : k < v.size) (h : digI (byI v k) = true) : ((decK v (k + 1) : Nat) : Int) = 10 * (decK v k : Int) + (byI v k - 48) := by
  have hk' : k < v.data.toList.length := hk
  unfold decK
  rw [List.take_succ_eq_append_getElem hk', decN_step]
  rw [byI_l v k hk'] at h ⊢
  unfold digI at h
  simp only [decide_eq_true_eq] at h
  omega
theorem decK_le (v : ByteArray) (k : Nat) (hk : k ≤ 9) (hv : k ≤ v.size) (h : ∀ j, j < k → digI (byI v j) = true) : decK v k ≤ 1000000000 := by
  unfold decK
  have := decN_lt (v.data.toList.take k) 9 (by rw [List.length_take]; omega) (fun b hb => by
    obtain ⟨j, hj, rfl⟩ := List.getElem_of_mem hb
    rw [List.length_take] at hj
    rw [List.getElem_take]
    have h1 := h j (by omega)
    rw [byI_l v j (by omega)] at h1
    unfold digI at h1
    simp only [decide_eq_true_eq] at h1
    omega)
  have e : 10 ^ 9 = 1000000000 := by decide
  omega
theorem decK_all (v : ByteArray) : decK v v.size = decN v.data.toList := by
  unfold decK
  rw [List.take_of_length_le]
  exact Nat.le_refl _
theorem bodyP_by (s : ByteArray) (l : List Head) (most : Int) (always : Bool) : bodyP s 0 l most always =
    if 0 < (hasName codS l).length then
      if (hasName codS l).length = 1 ∧ (smallB (lastV (hasName codS l))).toList = chkS.toList ∧ (hasName lenS l).length = 0 then chunksP s most 0 else .error 13
    else if (hasName lenS l).length = 0 ∧ always = false then .ok (⟨#[]⟩, 0)
    else if (hasName lenS l).length = 1 then
      if (lastV (hasName lenS l)).size ≠ 0 ∧ (lastV (hasName lenS l)).size ≤ 9 ∧ digB (lastV (hasName lenS l)) = true then
        if (decN (lastV (hasName lenS l)).data.toList : Int) ≤ most then takeP s 0 (decN (lastV (hasName lenS l)).data.toList) else .error 4
      else .error 13
    else .error 13 := by
  unfold bodyP
  by_cases h1 : 0 < (hasName codS l).length
  · rw [if_pos h1, if_pos h1]
    by_cases h2 : (hasName codS l).length = 1
    · rw [lastV_one h2]
    · rw [if_neg (fun h => h2 h.1), if_neg (fun h => h2 h.1)]
  · rw [if_neg h1, if_neg h1]
    by_cases h2 : (hasName lenS l).length = 1
    · rw [lastV_one h2]
    · rw [if_neg h2, if_neg h2]
set_option maxRecDepth 100000 in
set_option maxHeartbeats 8000000 in
theorem rbody_any (s : ByteArray) (A : Option Addr) (c : Nat) (l : List Head) (most : Int) (always : Bool) (w : World) (hs : s.size ≤ 1073741824) (hl : l.length ≤ 1073741824) (hm0 : 0 ≤ most) (hm1 : most ≤ 65536) (hC : Kd.C kH w A l.length l) (hok : ∀ h ∈ l, HOk h) :
    Calls Tryz.prog 74 #[.string s, .slice A l.length c, .int .i64 most, .bool always] w fun e w' => ChPost w (bodyP s 0 l most always) e w' := by
  have hch := fun W => rchunks_any s most W hs hm0 hm1
  obtain ⟨R, hR⟩ : ∃ R, bodyP s 0 l most always = R := ⟨_, rfl⟩
  rw [hR]
  have HR := Lib.hid hR
  have HC := Lib.hid hC
  have HO := Lib.hid hok
  clear hR hC hok
  go_enter Tryz.func74, Tryz.ntmps74
  go_wp2_with fail
  go_loopw [11, 12, 13, 14, 21] (fun va vc vv vh vi wr => ∃ (k a cd : Nat) (v ch : ByteArray), vi = .int .i64 k ∧ va = .int .i64 a ∧ vc = .int .i64 cd ∧ vv = .string v ∧ vh = .string ch ∧ k ≤ l.length ∧ a ≤ k ∧ cd ≤ k ∧ v.size ≤ 1073741824 ∧
      Hid (a = (hasName lenS (l.take k)).length ∧ cd = (hasName codS (l.take k)).length ∧ v = lastV (hasName lenS (l.take k)) ∧ ch = smallB (lastV (hasName codS (l.take k)))) ∧ Below w.heap.size w wr) (fun _ _ _ _ vi _ => l.length - (intOf vi).toNat)
  case atStart => exact ⟨0, 0, 0, ⟨#[]⟩, ⟨#[]⟩, rfl, rfl, rfl, rfl, rfl, by omega, by omega, by omega, by decide, Lib.hid ⟨rfl, rfl, rfl, (show (⟨#[]⟩ : ByteArray) = smallB ⟨#[]⟩ by decide)⟩, Below.refl _ _⟩
  case round =>
    obtain ⟨k, a, cd, v, ch, rfl, rfl, rfl, rfl, rfl, hk, hak, hck, hvz, hI, hb⟩ := hrel
    by_cases hlt : k < l.length
    · obtain ⟨ad, rfl, x0, x1⟩ := at_H (Kd.C_below HC.out hb) k hlt
      have hx : l.getD k zH = l[k] := by simp [List.getElem?_eq_getElem hlt]
      rw [hx] at x0 x1
      obtain ⟨hn, hv⟩ := HO.out l[k] (List.getElem_mem hlt)
      have htk : l.take (k + 1) = l.take k ++ [l[k]] := List.take_succ_eq_append_getElem hlt
      have HLEN := Lib.hid (hasName_snoc lenS (l.take k) l[k])
      have HCOD := Lib.hid (hasName_snoc codS (l.take k) l[k])
      rw [← htk] at HLEN HCOD
      have HLC := Lib.hid (len_not_cod l[k].name)
      have HLV := Lib.hid (lastV_snoc (hasName lenS (l.take k)) l[k])
      have HCV := Lib.hid (lastV_snoc (hasName codS (l.take k)) l[k])
      have hlow := fun W => low_any l[k].name W hn
      have hlow2 := fun W => low_any l[k].value W hv
      have e1 : calledB lenS l[k].name = ((smallB l[k].name).toList == [99, 111, 110, 116, 101, 110, 116, 45, 108, 101, 110, 103, 116, 104]) := by unfold calledB; rw [names_low.1]
      have e2 : calledB codS l[k].name = ((smallB l[k].name).toList == [116, 114, 97, 110, 115, 102, 101, 114, 45, 101, 110, 99, 111, 100, 105, 110, 103]) := by unfold calledB; rw [names_low.2]
      clear hx htk
      obtain ⟨Ln, hLn⟩ : ∃ Ln, hasName lenS (l.take (k + 1)) = Ln := ⟨_, rfl⟩
      obtain ⟨Cn, hCn⟩ : ∃ Cn, hasName codS (l.take (k + 1)) = Cn := ⟨_, rfl⟩
      rw [hLn] at HLEN
      rw [hCn] at HCOD
      have HLN := Lib.hid hLn
      have HCN := Lib.hid hCn
      clear hLn hCn
      generalize hasName lenS (l.take k) = L0 at *
      generalize hasName codS (l.take k) = C0 at *
      generalize calledB lenS l[k].name = b1 at *
      generalize calledB codS l[k].name = b2 at *
      generalize l[k] = H at *
      obtain ⟨nm, vl⟩ := H
      dsimp only at *
      generalize smallB nm = sn at *
      generalize hsv : smallB vl = sv at *
      have HSV := Lib.hid hsv
      clear hsv
      cases b1
      · cases b2
        · have q1 := e1.symm
          have q2 := e2.symm
          clear e1 e2
          have HI2 := Lib.hid (show a = Ln.length ∧ cd = Cn.length ∧ v = lastV Ln ∧ ch = smallB (lastV Cn) from by rw [HLEN.out, HCOD.out]; exact hI.out)
          clear HLC
          go_wp2_with (first | (go_at_call 48; (with_reducible refine (hlow _).mono ?_); rintro e w1 ⟨rfl, hb1⟩; obtain ⟨hbc1, hbf1⟩ := bcell hb1; have hz1 : wr.heap.size < w1.heap.size := (by have := hb1.size; simp at this; omega)) | (go_at_call 48; (with_reducible refine (hlow2 _).mono ?_); rintro e w2 ⟨rfl, hb2⟩))
          go_roundw
          case rel => exact ⟨k + 1, a, cd, v, ch, (by rw [Int.natCast_add]; rfl), rfl, rfl, rfl, rfl, by omega, by omega, by omega, hvz, Lib.hid (by rw [HLN.out, HCN.out]; exact HI2.out), (by repeat (first | assumption | exact Below.refl _ _ | apply below_drew | apply pw_below_drewN | apply below_alloc | (refine below_via (by assumption) ?_)))⟩
          case measure => show l.length - ((k : Int) + 1).toNat < l.length - ((k : Int)).toNat; omega
        · have q1 := e1.symm
          have q2 := e2.symm
          clear e1 e2
          have HI2 := Lib.hid (show a = Ln.length ∧ cd + 1 = Cn.length ∧ v = lastV Ln ∧ sv = smallB (lastV Cn) from by
            rw [HLEN.out, HCOD.out, if_neg (by simp), if_pos rfl, HCV.out, List.length_append]
            exact ⟨hI.out.1, by rw [hI.out.2.1]; rfl, hI.out.2.2.1, HSV.out.symm⟩)
          clear HLC
          go_wp2_with (first | (go_at_call 48; (with_reducible refine (hlow _).mono ?_); rintro e w1 ⟨rfl, hb1⟩; obtain ⟨hbc1, hbf1⟩ := bcell hb1; have hz1 : wr.heap.size < w1.heap.size := (by have := hb1.size; simp at this; omega)) | (go_at_call 48; (with_reducible refine (hlow2 _).mono ?_); rintro e w2 ⟨rfl, hb2⟩))
          go_roundw
          case rel => exact ⟨k + 1, a, cd + 1, v, sv, (by rw [Int.natCast_add]; rfl), rfl, (by rw [Int.natCast_add]; rfl), rfl, rfl, by omega, by omega, by omega, hvz, Lib.hid (by rw [HLN.out, HCN.out]; exact HI2.out), (by repeat (first | assumption | exact Below.refl _ _ | apply below_drew | apply pw_below_drewN | apply below_alloc | (refine below_via (by assumption) ?_)))⟩
          case measure => show l.length - ((k : Int) + 1).toNat < l.length - ((k : Int)).toNat; omega
      · have hb2f := HLC.out rfl
        subst hb2f
        have q1 := e1.symm
        have q2 := e2.symm
        clear e1 e2
        have HI2 := Lib.hid (show a + 1 = Ln.length ∧ cd = Cn.length ∧ vl = lastV Ln ∧ ch = smallB (lastV Cn) from by
          rw [HLEN.out, HCOD.out, if_pos rfl, if_neg (by simp), HLV.out, List.length_append]
          exact ⟨by rw [hI.out.1]; rfl, hI.out.2.1, rfl, hI.out.2.2.2⟩)
        clear HLC
        go_wp2_with (first | (go_at_call 48; (with_reducible refine (hlow _).mono ?_); rintro e w1 ⟨rfl, hb1⟩; obtain ⟨hbc1, hbf1⟩ := bcell hb1; have hz1 : wr.heap.size < w1.heap.size := (by have := hb1.size; simp at this; omega)) | (go_at_call 48; (with_reducible refine (hlow2 _).mono ?_); rintro e w2 ⟨rfl, hb2⟩))
        go_roundw
        case rel => exact ⟨k + 1, a + 1, cd, vl, ch, (by rw [Int.natCast_add]; rfl), (by rw [Int.natCast_add]; rfl), rfl, rfl, rfl, by omega, by omega, by omega, hv, Lib.hid (by rw [HLN.out, HCN.out]; exact HI2.out), (by repeat (first | assumption | exact Below.refl _ _ | apply below_drew | apply pw_below_drewN | apply below_alloc | (refine below_via (by assumption) ?_)))⟩
        case measure => show l.length - ((k : Int) + 1).toNat < l.length - ((k : Int)).toNat; omega
    · have HS := Lib.hid (show R = if 0 < cd then (if cd = 1 ∧ ch.toList = chkS.toList ∧ a = 0 then chunksP s most 0 else .error 13) else if a = 0 ∧ always = false then .ok (⟨#[]⟩, 0) else if a = 1 then (if v.size ≠ 0 ∧ v.size ≤ 9 ∧ digB v = true then if (decN v.data.toList : Int) ≤ most then takeP s 0 (decN v.data.toList) else .error 4 else .error 13) else .error 13 from by
        have hI' := hI.out
        rw [show k = l.length by omega, List.take_length] at hI'
        obtain ⟨e1, e2, e3, e4⟩ := hI'
        rw [← HR.out, bodyP_by, e1, e2, e3, e4])
      clear hI HR
      by_cases hc0 : 0 < cd
      · have dc0 : decide ((0 : Int) < (cd : Int)) = true := by simp; omega
        have dc0n : decide (0 < cd) = true := by simp; omega
        have HS1 := Lib.hid (show R = if cd = 1 ∧ ch.toList = chkS.toList ∧ a = 0 then chunksP s most 0 else .error 13 from by rw [HS.out, if_pos hc0])
        clear HS
        by_cases hc1 : cd = 1
        · have dc1 : decide ((1 : Int) < (cd : Int)) = false := by simp; omega
          by_cases hcc : ch.toList = chkS.toList
          · have dcc : (ch.toList == [99, 104, 117, 110, 107, 101, 100]) = true := by rw [hcc, ByteArray.toList_eq]; rfl
            by_cases ha0 : a = 0
            · have da0 : decide ((0 : Int) < (a : Int)) = false := by simp; omega
              have da0n : decide (0 < a) = false := by simp; omega
              have HRC := Lib.hid (show R = chunksP s most 0 from by rw [HS1.out, if_pos ⟨hc1, hcc, ha0⟩])
              clear HS1 hc0 hc1 hcc ha0
              generalize chunksP s most 0 = C at *
              cases C with
              | error y =>
                simp only [ChPost] at hch
                go_wp2_with fail
                refine (hch _).mono ?_
                rintro e w1 ⟨hb1, bx, nx, rfl⟩
                go_wp2_with fail
                go_ret3
                rw [HRC.out]
                exact ⟨(by repeat (first | assumption | exact Below.refl _ _ | apply below_drew | apply pw_below_drewN | apply below_alloc | (refine below_via (by assumption) ?_))), bx, nx, rfl⟩
              | ok z =>
                obtain ⟨z1, z2⟩ := z
                simp only [ChPost] at hch
                go_wp2_with fail
                refine (hch _).mono ?_
                rintro e w1 ⟨hb1, rfl⟩
                go_wp2_with fail
                go_ret3
                rw [HRC.out]
                exact ⟨(by repeat (first | assumption | exact Below.refl _ _ | apply below_drew | apply pw_below_drewN | apply below_alloc | (refine below_via (by assumption) ?_))), rfl⟩
            · have da0 : decide ((0 : Int) < (a : Int)) = true := by simp; omega
              have da0n : decide (0 < a) = true := by simp; omega
              have HRC := Lib.hid (show R = .error 13 from by rw [HS1.out, if_neg (fun h => ha0 h.2.2)])
              clear HS1 hc0 hc1 hcc ha0 hch
              go_wp2_with fail
              go_ret3
              rw [HRC.out]
              exact ⟨(by repeat (first | assumption | exact Below.refl _ _ | apply below_drew | apply pw_below_drewN | apply below_alloc | (refine below_via (by assumption) ?_))), _, _, rfl⟩
          · have dcc : (ch.toList == [99, 104, 117, 110, 107, 101, 100]) = false := by rw [beq_eq_false_iff_ne]; intro e; exact hcc (by rw [e, ByteArray.toList_eq]; rfl)
            have HRC := Lib.hid (show R = .error 13 from by rw [HS1.out, if_neg (fun h => hcc h.2.1)])
            clear HS1 hc0 hc1 hcc hch
            go_wp2_with fail
            go_ret3
            rw [HRC.out]
            exact ⟨(by repeat (first | assumption | exact Below.refl _ _ | apply below_drew | apply pw_below_drewN | apply below_alloc | (refine below_via (by assumption) ?_))), _, _, rfl⟩
        · have dc1 : decide ((1 : Int) < (cd : Int)) = true := by simp; omega
          have HRC := Lib.hid (show R = .error 13 from by rw [HS1.out, if_neg (fun h => hc1 h.1)])
          clear HS1 hc0 hc1 hch
          go_wp2_with fail
          go_ret3
          rw [HRC.out]
          exact ⟨(by repeat (first | assumption | exact Below.refl _ _ | apply below_drew | apply pw_below_drewN | apply below_alloc | (refine below_via (by assumption) ?_))), _, _, rfl⟩
      · have dc0 : decide ((0 : Int) < (cd : Int)) = false := by simp; omega
        have dc0n : decide (0 < cd) = false := by simp; omega
        have HS1 := Lib.hid (show R = if a = 0 ∧ always = false then .ok (⟨#[]⟩, 0) else if a = 1 then (if v.size ≠ 0 ∧ v.size ≤ 9 ∧ digB v = true then if (decN v.data.toList : Int) ≤ most then takeP s 0 (decN v.data.toList) else .error 4 else .error 13) else .error 13 from by rw [HS.out, if_neg hc0])
        clear HS hc0 hch
        by_cases ha0 : a = 0
        · have da0 : ((a : Int) == 0) = true := by rw [ha0]; rfl
          have da1 : ((a : Int) == 1) = false := by rw [ha0]; rfl
          have da1m : ((a : Int) != 1) = true := by simpa using da1
          cases always with
          | false =>
            have HRC := Lib.hid (show R = .ok (⟨#[]⟩, 0) from by rw [HS1.out, if_pos ⟨ha0, rfl⟩])
            clear HS1 ha0
            go_wp2_with fail
            go_ret3
            rw [HRC.out]
            exact ⟨(by repeat (first | assumption | exact Below.refl _ _ | apply below_drew | apply pw_below_drewN | apply below_alloc | (refine below_via (by assumption) ?_))), rfl⟩
          | true =>
            have HRC := Lib.hid (show R = .error 13 from by rw [HS1.out, if_neg (by simp), if_neg (by omega)])
            clear HS1 ha0
            go_wp2_with fail
            go_ret3
            rw [HRC.out]
            exact ⟨(by repeat (first | assumption | exact Below.refl _ _ | apply below_drew | apply pw_below_drewN | apply below_alloc | (refine below_via (by assumption) ?_))), _, _, rfl⟩
        · have da0 : ((a : Int) == 0) = false := by rw [beq_eq_false_iff_ne]; omega
          have HS2 := Lib.hid (show R = if a = 1 then (if v.size ≠ 0 ∧ v.size ≤ 9 ∧ digB v = true then if (decN v.data.toList : Int) ≤ most then takeP s 0 (decN v.data.toList) else .error 4 else .error 13) else .error 13 from by rw [HS1.out, if_neg (fun h => ha0 h.1)])
          clear HS1 ha0
          by_cases ha1 : a = 1
          · have da1 : ((a : Int) == 1) = true := by rw [ha1]; rfl
            have da1m : ((a : Int) != 1) = false := by simpa using da1
            have HS3 := Lib.hid (show R = if v.size ≠ 0 ∧ v.size ≤ 9 ∧ digB v = true then if (decN v.data.toList : Int) ≤ most then takeP s 0 (decN v.data.toList) else .error 4 else .error 13 from by rw [HS2.out, if_pos ha1])
            clear HS2 ha1
            by_cases hv0 : v.size = 0
            · have dv0 : v.toList.isEmpty = true := size_eq0 v (by omega)
              have HRC := Lib.hid (show R = .error 13 from by rw [HS3.out, if_neg (fun h => h.1 hv0)])
              clear HS3 hv0
              go_wp2_with fail
              go_ret3
              rw [HRC.out]
              exact ⟨(by repeat (first | assumption | exact Below.refl _ _ | apply below_drew | apply pw_below_drewN | apply below_alloc | (refine below_via (by assumption) ?_))), _, _, rfl⟩
            · have dv0 : v.toList.isEmpty = false := size_ne v (by omega)
              by_cases hv9 : v.size ≤ 9
              · have dv9 : decide ((9 : Int) < (v.size : Int)) = false := by simp; omega
                have HS4 := Lib.hid (show R = if digB v = true then (if (decN v.data.toList : Int) ≤ most then takeP s 0 (decN v.data.toList) else .error 4) else .error 13 from by
                  rw [HS3.out]
                  cases digB v with
                  | true => rw [if_pos ⟨hv0, hv9, rfl⟩, if_pos rfl]
                  | false => rw [if_neg (by simp), if_neg (by simp)])
                clear HS3
                go_wp2_with fail
                clear dv0 dv9 da0 da1 da1m dc0 dc0n hv0
                go_loopw [17, 18] (fun vn vi wr2 => ∃ (k2 N : Nat), vn = .int .i64 N ∧ vi = .int .i64 k2 ∧ k2 ≤ v.size ∧ N ≤ 1000000000 ∧ Hid (N = decK v k2) ∧ Hid (∀ j, j < k2 → digI (byI v j) = true) ∧ wr2 = wr) (fun _ vi _ => v.size - (intOf vi).toNat)
                case atStart => exact ⟨0, 0, rfl, rfl, by omega, by omega, Lib.hid rfl, Lib.hid (fun j hj => by omega), rfl⟩
                case round =>
                  obtain ⟨k2, N, rfl, rfl, hk2, hN9, hN, hD, rfl⟩ := hrel
                  by_cases hlt2 : k2 < v.size
                  · have hx := byI_at v k2 hlt2
                    have hdg := fun W => digit_any (byI v k2) W
                    have hrg := byI_range v k2
                    have q0 : ((k2 : Int)).toNat = k2 := by omega
                    cases hdf : digI (byI v k2) with
                    | false =>
                      rw [hdf] at hdg
                      have HRC := Lib.hid (show R = .error 13 from by
                        rw [HS4.out, digB_by, if_neg]
                        exact Bool.eq_false_iff.1 (not_all_by v digI k2 hlt2 hdf))
                      clear hdf HS4
                      generalize byI v k2 = x at *
                      go_wp2_with (go_at_call 47; refine (hdg _).mono ?_; rintro e w2 ⟨rfl, rfl⟩)
                      go_ret3
                      rw [HRC.out]
                      exact ⟨(by repeat (first | assumption | exact Below.refl _ _ | apply below_drew | apply pw_below_drewN | apply below_alloc | (refine below_via (by assumption) ?_))), _, _, rfl⟩
                    | true =>
                      rw [hdf] at hdg
                      have HK := Lib.hid (decK_step v k2 hlt2 hdf)
                      have hx48 : 48 ≤ byI v k2 ∧ byI v k2 ≤ 57 := by unfold digI at hdf; simpa using hdf
                      have HD2 := Lib.hid (show ∀ j, j < k2 + 1 → digI (byI v j) = true from fun j hj => by
                        by_cases e : j = k2
                        · rw [e]; exact hdf
                        · exact hD.out j (by omega))
                      have HN9 := Lib.hid (decK_le v (k2 + 1) (by omega) (by omega) HD2.out)
                      obtain ⟨h48, h57⟩ := hx48
                      clear hdf hrg
                      generalize hxx : byI v k2 = x at *
                      have HXX := Lib.hid hxx
                      clear hxx
                      go_wp2_with (go_at_call 47; refine (hdg _).mono ?_; rintro e w2 ⟨rfl, rfl⟩)
                      go_roundw
                      case rel => exact ⟨k2 + 1, decK v (k2 + 1), (by rw [HK.out, ← hN.out]), (by rw [Int.natCast_add]; rfl), by omega, HN9.out, Lib.hid rfl, HD2, trivial⟩
                      case measure => show v.size - ((k2 : Int) + 1).toNat < v.size - ((k2 : Int)).toNat; omega
                  · have HN2 := Lib.hid (show N = decN v.data.toList from by rw [hN.out, show k2 = v.size by omega, decK_all])
                    have HDB := Lib.hid (show digB v = true from by
                      rw [digB_by]
                      exact (all_by v digI).1 (fun j hj => hD.out j (by omega)))
                    have HS5 := Lib.hid (show R = if (N : Int) ≤ most then (if (N : Int) ≤ (s.size : Int) - (0 : Nat) then .ok (s.extract 0 (0 + (N : Int).toNat), 0 + (N : Int).toNat) else .error 14) else .error 4 from by
                      rw [HS4.out, HDB.out, if_pos rfl, ← HN2.out, takeP_by s 0 N (by omega) (by omega)])
                    clear HS4 HN2 HDB hN hD
                    by_cases hnm : (N : Int) ≤ most
                    · have dnm : decide (most < (N : Int)) = false := by simp; omega
                      by_cases hns : N ≤ s.size
                      · have dns : decide ((s.size : Int) < (N : Int)) = false := by simp; omega
                        have dns2 : decide (s.size < N) = false := by simp; omega
                        have HRC := Lib.hid (show R = .ok (s.extract 0 N, N) from by
                          rw [HS5.out, if_pos hnm, if_pos (by omega)]
                          simp)
                        clear HS5
                        go_wp2_with fail
                        go_ret3
                        rw [HRC.out]
                        exact ⟨(by repeat (first | assumption | exact Below.refl _ _ | apply below_drew | apply pw_below_drewN | apply below_alloc | (refine below_via (by assumption) ?_))), rfl⟩
                      · have dns : decide ((s.size : Int) < (N : Int)) = true := by simp; omega
                        have dns2 : decide (s.size < N) = true := by simp; omega
                        have HRC := Lib.hid (show R = .error 14 from by rw [HS5.out, if_pos hnm, if_neg (by omega)])
                        clear HS5
                        go_wp2_with fail
                        go_ret3
                        rw [HRC.out]
                        exact ⟨(by repeat (first | assumption | exact Below.refl _ _ | apply below_drew | apply pw_below_drewN | apply below_alloc | (refine below_via (by assumption) ?_))), _, _, rfl⟩
                    · have dnm : decide (most < (N : Int)) = true := by simp; omega
                      have HRC := Lib.hid (show R = .error 4 from by rw [HS5.out, if_neg hnm])
                      clear HS5
                      go_wp2_with fail
                      go_ret3
                      rw [HRC.out]
                      exact ⟨(by repeat (first | assumption | exact Below.refl _ _ | apply below_drew | apply pw_below_drewN | apply below_alloc | (refine below_via (by assumption) ?_))), _, _, rfl⟩
              · have dv9 : decide ((9 : Int) < (v.size : Int)) = true := by simp; omega
                have HRC := Lib.hid (show R = .error 13 from by rw [HS3.out, if_neg (fun h => hv9 h.2.1)])
                clear HS3 hv9
                go_wp2_with fail
                go_ret3
                rw [HRC.out]
                exact ⟨(by repeat (first | assumption | exact Below.refl _ _ | apply below_drew | apply pw_below_drewN | apply below_alloc | (refine below_via (by assumption) ?_))), _, _, rfl⟩
          · have da1 : ((a : Int) == 1) = false := by rw [beq_eq_false_iff_ne]; omega
            have da1m : ((a : Int) != 1) = true := by simpa using da1
            have HRC := Lib.hid (show R = .error 13 from by rw [HS2.out, if_neg ha1])
            clear HS2 ha1
            go_wp2_with fail
            go_ret3
            rw [HRC.out]
            exact ⟨(by repeat (first | assumption | exact Below.refl _ _ | apply below_drew | apply pw_below_drewN | apply below_alloc | (refine below_via (by assumption) ?_))), _, _, rfl⟩
end
section
open Go.Sort Go.RowKit Go.Proofs Go.Proofs.YtjbehnalmgcbpaaGreatDoorW.PrintWords Go.Proofs.YtjbehnalmgcbpaaGreatDoor.Bs Go.Proofs.YtjbehnalmgcbpaaGreatDoor.Ir Go.Proofs.YtjbehnalmgcbpaaGreatDoor.Gn

def allP (s : ByteArray) (most : Int) (always : Bool) : Except Int ((List Head × ByteArray) × Nat) :=
  match headsP s 0 with
  | .error y => .error y
  | .ok (l, q) => match bodyP (rest s q) 0 l most always with
    | .error y => .error y
    | .ok (b, m) => .ok ((l.filter (fun h => !framingB h.name), b), q + m)
def AllPost (w : World) (R : Except Int ((List Head × ByteArray) × Nat)) (e : Ending) (w' : World) : Prop :=
  Below w.heap.size w w' ∧ match R with
    | .error y => e = .returned (.tuple #[.slice none 0 0, .string ⟨#[]⟩, .int .i64 0, .int .i64 y])
    | .ok z => ∃ A c, e = .returned (.tuple #[.slice A z.1.1.length c, .string z.1.2, .int .i64 z.2, .int .i64 0]) ∧ Kd.C kH w' A z.1.1.length z.1.1 ∧ ∀ ad, A = some ad → w.heap.size ≤ ad.block
set_option maxRecDepth 100000 in
set_option maxHeartbeats 8000000 in
theorem rall_any (s : ByteArray) (most : Int) (always : Bool) (w : World) (hs : s.size ≤ 1073741824) (hm0 : 0 ≤ most) (hm1 : most ≤ 65536) :
    Calls Tryz.prog 44 #[.string s, .int .i64 most, .bool always] w fun e w' => AllPost w (allP s most always) e w' := by
  obtain ⟨R, hR⟩ : ∃ R, allP s most always = R := ⟨_, rfl⟩
  rw [hR]
  have hrh := fun W => readHeads_any s W hs
  have hne := eok_heads s 0 (Nat.zero_le _)
  unfold allP at hR
  cases hhp : headsP s 0 with
  | error y =>
    rw [hhp] at hrh hR hne
    have HRES := Lib.hid hR.symm
    have hy0 : (y != 0) = true := eok_ne hne rfl
    simp only [RdPost] at hrh
    clear hR hhp hne
    go_enter Tryz.func44, Tryz.ntmps44
    go_wp2_with (go_at_call 73; refine (hrh _).mono ?_; rintro e w1 ⟨hb1, rfl⟩)
    refine bodyPost_ret (v := .tuple #[.slice none 0 0, .string ⟨#[]⟩, .int .i64 0, .int .i64 y]) (by simp [results, Tryz.results44, go_sem]) rfl ⟨(by repeat (first | assumption | exact Below.refl _ _ | apply below_drew | apply pw_below_drewN | apply below_alloc | (refine below_via (by assumption) ?_))), ?_⟩
    rw [HRES.out]
  | ok z =>
    obtain ⟨l, q⟩ := z
    rw [hhp] at hrh hR
    obtain ⟨hok, hlz, hq0, hq⟩ := headsP_ok hs (Nat.zero_le _) hhp
    simp only [RdPost] at hrh
    simp only at hR
    have hrz : (rest s q).size = s.size - q := rest_size
    have hbd := fun A c W hC => rbody_any (rest s q) A c l most always W (by omega) (by omega) hm0 hm1 hC hok
    have hne2 := eok_body (rest s q) 0 l most always (by omega) (Nat.zero_le _)
    cases hbp : bodyP (rest s q) 0 l most always with
    | error y =>
      rw [hbp] at hbd hR hne2
      have hy0 : (y != 0) = true := eok_ne hne2 rfl
      have HRES := Lib.hid hR.symm
      simp only [ChPost] at hbd
      clear hR hhp hne hbp hne2 hok
      go_enter Tryz.func44, Tryz.ntmps44
      go_wp2_with (first | (go_at_call 73; refine (hrh _).mono ?_; rintro e w1 ⟨hb1, A, c, rfl, hC1⟩; have hbd1 := hbd A c w1 hC1) | (go_at_call 74; refine hbd1.mono ?_; rintro e w2 ⟨hb2, bx, nx, rfl⟩))
      refine bodyPost_ret (v := .tuple #[.slice none 0 0, .string ⟨#[]⟩, .int .i64 0, .int .i64 y]) (by simp [results, Tryz.results44, go_sem]) rfl ⟨(by repeat (first | assumption | exact Below.refl _ _ | apply below_drew | apply pw_below_drewN | apply below_alloc | (refine below_via (by assumption) ?_))), ?_⟩
      rw [HRES.out]
    | ok zb =>
      obtain ⟨bx, m⟩ := zb
      obtain ⟨_, hm⟩ := bodyP_ok (show (rest s q).size ≤ 1073741824 by omega) (Nat.zero_le _) hbp
      rw [hbp] at hbd hR
      have HRES := Lib.hid hR.symm
      have HOK := Lib.hid hok
      simp only [ChPost] at hbd
      clear hR hhp hne hbp hne2 hok
      go_enter Tryz.func44, Tryz.ntmps44
      go_wp2_with (first | (go_at_call 73; refine (hrh _).mono ?_; rintro e w1 ⟨hb1, A, c, rfl, hC1⟩; have hbd1 := hbd A c w1 hC1) | (go_at_call 74; refine hbd1.mono ?_; rintro e w2 ⟨hb2, rfl⟩))
      have hC2 := Kd.C_below hC1 hb2
      have HC2 := Lib.hid hC2
      have HB2 := Lib.hid (show Below w.heap.size w w2 from (by repeat (first | assumption | exact Below.refl _ _ | apply below_drew | apply pw_below_drewN | apply below_alloc | (refine below_via (by assumption) ?_))))
      clear hrh hbd hbd1 hC1 hC2 hb1 hb2
      go_loopw [15, 43] (fun vo vi wr => ∃ (k : Nat) (out : List Head) (A' : Option Addr) (c' : Nat), vo = .slice A' out.length c' ∧ vi = .int .i64 k ∧ k ≤ l.length ∧ Hid (out.length ≤ k) ∧ Hid (out = (l.take k).filter (fun h => !framingB h.name)) ∧ Hid (rowsV w2.heap.size out wr (.slice A' out.length c')) ∧ Below w2.heap.size w2 wr) (fun _ vi _ => l.length - (intOf vi).toNat)
      case atStart => exact ⟨0, [], none, 0, rfl, rfl, by omega, Lib.hid (by simp), Lib.hid rfl, Lib.hid (Kd.R_nil _ _ _ _ _), Below.refl _ _⟩
      case round =>
        obtain ⟨k, out, A', c', rfl, rfl, hk, hOL, hOE, hOR, hb⟩ := hrel
        by_cases hlt : k < l.length
        · obtain ⟨ad, rfl, x0, x1⟩ := at_H (Kd.C_below HC2.out hb) k hlt
          have hx : l.getD k zH = l[k] := by simp [List.getElem?_eq_getElem hlt]
          rw [hx] at x0 x1
          obtain ⟨hn, hv⟩ := HOK.out l[k] (List.getElem_mem hlt)
          have htk : l.take (k + 1) = l.take k ++ [l[k]] := List.take_succ_eq_append_getElem hlt
          have HFL := Lib.hid (show (l.take (k + 1)).filter (fun h => !framingB h.name) = if framingB l[k].name = true then out else out ++ [l[k]] from by
            rw [htk, List.filter_append, ← hOE.out]
            cases hfb : framingB l[k].name <;> simp [hfb])
          have hfrm := fun W => rframing_any l[k].name W hn
          obtain ⟨i0, hi, hz0, hz1, hz2⟩ := info_parts inH
          clear hx htk
          generalize l[k] = H at *
          obtain ⟨nm, vl⟩ := H
          dsimp only at x0 x1 hn hv HFL hfrm
          generalize framingB nm = bf at *
          have hbz := hb.size
          cases bf with
          | true =>
            have HFL2 := Lib.hid (show (l.take (k + 1)).filter (fun h => !framingB h.name) = out from by rw [HFL.out, if_pos rfl])
            clear HFL
            go_wp2_with (go_at_call 68; refine (hfrm _).mono ?_; rintro e w6 ⟨rfl, hb6⟩; have hbw6 : Below wr.heap.size wr w6 := (by repeat (first | assumption | exact Below.refl _ _ | apply below_drew | apply pw_below_drewN | apply below_alloc | (refine below_via (by assumption) ?_))))
            go_roundw
            case rel => exact ⟨k + 1, out, A', c', rfl, (by rw [Int.natCast_add]; rfl), by omega, Lib.hid (by have := hOL.out; omega), Lib.hid HFL2.out.symm, Lib.hid (Kd.R_below hOR.out hbw6), (by repeat (first | assumption | exact Below.refl _ _ | apply below_drew | apply pw_below_drewN | apply below_alloc | (refine below_via (by assumption) ?_)))⟩
            case measure => show l.length - ((k : Int) + 1).toNat < l.length - ((k : Int)).toNat; omega
          | false =>
            have HFL2 := Lib.hid (show (l.take (k + 1)).filter (fun h => !framingB h.name) = out ++ [⟨nm, vl⟩] from by rw [HFL.out, if_neg (by simp)])
            clear HFL
            go_wp2_with fail
            refine (hfrm _).mono ?_
            rintro e w6 ⟨rfl, hb6⟩
            obtain ⟨hbc6, hbf6⟩ := bcell hb6
            have hz6 : wr.heap.size < w6.heap.size := (by have := hb6.size; simp at this; omega)
            have y0 : w6.cell? ⟨wr.heap.size, 0, none⟩ = some (.string nm) := below_cells hb6 0 _ rfl
            have y1 : w6.cell? ⟨wr.heap.size, 1, none⟩ = some (.string vl) := below_cells hb6 1 _ rfl
            have hbw6 : Below wr.heap.size wr w6 := (by repeat (first | assumption | exact Below.refl _ _ | apply below_drew | apply pw_below_drewN | apply below_alloc | (refine below_via (by assumption) ?_)))
            obtain ⟨hk6, inner, hown6, hreps6⟩ := Kd.R_below hOR.out hbw6
            clear hfrm hbc6 hbf6 hOR hb6
            go_wp2_with (at_builtin; refine wpList_append_own _ rfl (.tmp 51) (.tmp 53) 23 rfl w2.heap.size 61 i0 (.agg #[.string ⟨#[]⟩, .string ⟨#[]⟩]) 2 32 Tu_heads hi hz0 hz1 hz2 rfl (by decide) _ out.length inner rfl (hown6.alloc _) ⟨_, 0, none⟩ 1 1 [.string nm, .string vl] rfl rfl ?c1 ?c2 ?c3 ?c4 ?c5 ?_)
            case c1 =>
              intro j u hj
              rw [add_plain]
              exact cell_new _ _ _ j u (by simpa using hj)
            case c2 =>
              intro u hu
              simp only [List.mem_cons, List.not_mem_nil, or_false] at hu
              rcases hu with rfl | rfl <;> rfl
            case c3 => have := hOL.out; unfold maxLen; omega
            case c4 => have := hOL.out; omega
            case c5 => have := hbw6.size; have := hb.size; simp; omega
            intro v' w7 hown7 hg7 _
            obtain ⟨A3, cp3, rfl⟩ := own_slice hown7
            have hlo6 : ∀ k, (Value.slice A' out.length c').ownBlock = some k → w2.heap.size ≤ k := fun k hk => own_base hown6 k hk
            have hR7 : rowsV w2.heap.size (out ++ [⟨nm, vl⟩]) w7 (.slice A3 (out.length + 1) cp3) := ⟨fun k hk => own_base hown7 k hk, _, by rw [List.length_append]; exact hown7, Reps.snoc (Reps.imp_ hreps6 (fun _ _ h => h)) (kH_mkM _ _ _ ⟨nm, vl⟩) rfl⟩
            have hbb6 : Below w2.heap.size w2 (w6.alloc (.cells #[.string nm, .string vl] 61)) := (by repeat (first | assumption | exact Below.refl _ _ | apply below_drew | apply pw_below_drewN | apply below_alloc | (refine below_via (by assumption) ?_)))
            have hb7 : Below w2.heap.size w2 w7 := hbb6.grown hg7 hbb6.size hlo6
            have eL : (out ++ [(⟨nm, vl⟩ : Head)]).length = out.length + 1 := by rw [List.length_append]; rfl
            have HR7 := Lib.hid (show rowsV w2.heap.size (out ++ [⟨nm, vl⟩]) w7 (.slice A3 (out ++ [(⟨nm, vl⟩ : Head)]).length cp3) from by rw [eL]; exact hR7)
            have HEL := Lib.hid eL
            clear eL
            have HB7 := Lib.hid hb7
            clear hR7 hb7 hown7 hg7 hown6 hreps6 hk6 hlo6 hbb6 hbw6 y0 y1 x0 x1 hz6 hi hz0 hz1 hz2 hb
            go_wp2_with fail
            go_roundw
            case rel =>
              refine ⟨k + 1, out ++ [⟨nm, vl⟩], A3, cp3, ?_, ?_, by omega, ?_, Lib.hid HFL2.out.symm, HR7, HB7.out⟩
              · rw [HEL.out]
              · rw [Int.natCast_add]; rfl
              · exact Lib.hid (by have := hOL.out; have := HEL.out; omega)
            case measure => show l.length - ((k : Int) + 1).toNat < l.length - ((k : Int)).toNat; omega
        · have HRE := Lib.hid (show out = l.filter (fun h => !framingB h.name) from by rw [hOE.out, show k = l.length by omega, List.take_length])
          have HKC := Lib.hid ((Kd.R_reads' hOR.out).2.2)
          go_wp2_with fail
          refine bodyPost_ret (v := .tuple #[.slice A' out.length c', .string bx, .int .i64 (q + m), .int .i64 0]) (by simp [results, Tryz.results44, go_sem]) rfl ⟨(by have := HB2.out; exact (by repeat (first | assumption | exact Below.refl _ _ | apply below_drew | apply pw_below_drewN | apply below_alloc | (refine below_via (by assumption) ?_)))), ?_⟩
          rw [HRES.out, ← HRE.out]
          refine ⟨A', c', ?_, HKC.out, fun ad e => by subst e; have := hOR.out.1 ad.block rfl; have := HB2.out.size; omega⟩
          dsimp only
          rw [Int.natCast_add]
end
section
open Go.Sort Go.RowKit Go.Proofs Go.Proofs.YtjbehnalmgcbpaaGreatDoorW.PrintWords Go.Proofs.YtjbehnalmgcbpaaGreatDoor.Bs Go.Proofs.YtjbehnalmgcbpaaGreatDoor.Ir Go.Proofs.YtjbehnalmgcbpaaGreatDoor.Gn

theorem rest_zero (s : ByteArray) : rest s 0 = s := by
  apply ByteArray.ext
  apply Array.ext'
  rw [rest_l]
  rfl
theorem readEnd_by {γ : Type} (s : ByteArray) (most : Int) (always : Bool) (q : Nat) (z : γ) (hs : s.size ≤ 1073741824) (hq : q ≤ s.size) :
    readEnd s most always q z = match allP (rest s q) most always with | .error y => .error y | .ok r => .ok ⟨r.1.1, r.1.2, q + r.2, z⟩ := by
  unfold readEnd allP
  have h1 := headsP_shift s q 0 hq (Nat.zero_le _)
  rw [Nat.add_zero] at h1
  rw [h1]
  have hz : (rest s q).size = s.size - q := rest_size
  cases hh : headsP (rest s q) 0 with
  | error y => rfl
  | ok z' =>
    obtain ⟨l, q2⟩ := z'
    obtain ⟨_, _, _, hq2⟩ := headsP_ok (show (rest s q).size ≤ 1073741824 by omega) (Nat.zero_le _) hh
    simp only [plus]
    unfold readFin
    rw [bodyP_shift s (q + q2) l most always hs (by omega), rest_rest]
    cases bodyP (rest s (q + q2)) 0 l most always with
    | error y => rfl
    | ok zb => simp only [plus, Nat.add_assoc]
theorem allP_ok {s : ByteArray} {most : Int} {always : Bool} (hs : s.size ≤ 1073741824) {r : (List Head × ByteArray) × Nat} (h : allP s most always = .ok r) : r.2 ≤ s.size := by
  unfold allP at h
  cases hh : headsP s 0 with
  | error y => rw [hh] at h; cases h
  | ok z' =>
    obtain ⟨l, q2⟩ := z'
    obtain ⟨_, _, _, hq2⟩ := headsP_ok hs (Nat.zero_le _) hh
    rw [hh] at h
    have hz : (rest s q2).size = s.size - q2 := rest_size
    cases hb : bodyP (rest s q2) 0 l most always with
    | error y => simp only [hb] at h; cases h
    | ok zb =>
      obtain ⟨b, m⟩ := zb
      have := (bodyP_ok (show (rest s q2).size ≤ 1073741824 by omega) (Nat.zero_le _) hb).2
      simp only [hb, Except.ok.injEq] at h
      rw [← h]
      show q2 + m ≤ s.size
      omega
theorem dec3 (n : Nat) (h : 100 ≤ n) (h2 : n ≤ 999) : Lib.decDigits n = [UInt8.ofNat (48 + n / 100), UInt8.ofNat (48 + n / 10 % 10), UInt8.ofNat (48 + n % 10)] := by
  rw [Lib.decDigits, dif_neg (by omega), Lib.decDigits, dif_neg (by omega), Lib.decDigits, dif_pos (by omega)]
  rw [Nat.div_div_eq_div_mul]
  rfl
def threeB (x : ByteArray) : Bool := decide (x.size = 3) && digI (byI x 0) && digI (byI x 1) && digI (byI x 2) && decide (49 ≤ byI x 0) && decide (byI x 0 ≤ 53)
def threeN (x : ByteArray) : Int := 100 * (byI x 0 - 48) + 10 * (byI x 1 - 48) + (byI x 2 - 48)
theorem three_by (a b c : UInt8) : threeB ⟨#[a, b, c]⟩ = (digI (a.toNat : Int) && digI (b.toNat : Int) && digI (c.toNat : Int) && decide (49 ≤ (a.toNat : Int)) && decide ((a.toNat : Int) ≤ 53)) := by
  unfold threeB
  rw [byI_l ⟨#[a, b, c]⟩ 0 (show 0 < 3 by decide), byI_l ⟨#[a, b, c]⟩ 1 (show 1 < 3 by decide), byI_l ⟨#[a, b, c]⟩ 2 (show 2 < 3 by decide)]
  rfl
theorem threeN_by (a b c : UInt8) : threeN ⟨#[a, b, c]⟩ = 100 * ((a.toNat : Int) - 48) + 10 * ((b.toNat : Int) - 48) + ((c.toNat : Int) - 48) := by
  unfold threeN
  rw [byI_l ⟨#[a, b, c]⟩ 0 (show 0 < 3 by decide), byI_l ⟨#[a, b, c]⟩ 1 (show 1 < 3 by decide), byI_l ⟨#[a, b, c]⟩ 2 (show 2 < 3 by decide)]
  rfl
theorem itoa3 (n : Nat) (h : 100 ≤ n) (h2 : n ≤ 999) : itoaB (n : Int) = ⟨#[UInt8.ofNat (48 + n / 100), UInt8.ofNat (48 + n / 10 % 10), UInt8.ofNat (48 + n % 10)]⟩ := by
  apply ByteArray.ext
  apply Array.ext'
  rw [itoaB_l, dec3 n h h2]
theorem three_of (k : Int) (h1 : 100 ≤ k) (h2 : k ≤ 599) : threeB (itoaB k) = true := by
  obtain ⟨n, rfl⟩ : ∃ n : Nat, k = n := ⟨k.toNat, by omega⟩
  rw [itoa3 n (by omega) (by omega), three_by]
  have hd : ∀ d, d < 10 → (UInt8.ofNat (48 + d)).toNat = 48 + d := by decide
  rw [hd (n / 100) (by omega), hd (n / 10 % 10) (by omega), hd (n % 10) (by omega)]
  unfold digI
  simp only [Bool.and_eq_true, decide_eq_true_eq]
  omega
theorem firstResp_by (x0 x1 x2 : ByteArray) : firstResp x0 x1 x2 = if x0 = httpS ∧ threeB x1 = true then .ok (threeN x1) else .error 13 := by
  unfold firstResp
  by_cases h0 : x0 = httpS
  · rw [if_pos h0]
    cases h3 : threeB x1 with
    | false =>
      rw [if_neg (by simp)]
      split
      · rename_i k _
        split
        · rename_i h
          rw [← h.1, three_of k h.2.1 h.2.2] at h3
          cases h3
        · rfl
      · rfl
    | true =>
      rw [if_pos ⟨h0, rfl⟩]
      have hz : x1.size = 3 := by
        unfold threeB at h3
        simp only [Bool.and_eq_true, decide_eq_true_eq] at h3
        exact h3.1.1.1.1.1
      obtain ⟨a, b, c, rfl⟩ : ∃ a b c, x1 = ⟨#[a, b, c]⟩ := by
        obtain ⟨⟨l⟩⟩ := x1
        match l, hz with
        | [a, b, c], _ => exact ⟨a, b, c, rfl⟩
      rw [three_by] at h3
      unfold digI at h3
      simp only [Bool.and_eq_true, decide_eq_true_eq] at h3
      obtain ⟨⟨⟨⟨⟨ha1, ha2⟩, hb1, hb2⟩, hc1, hc2⟩, ha3⟩, ha4⟩ := h3
      have hdB : digB ⟨#[a, b, c]⟩ = true := by
        unfold digB
        simp
        omega
      have hat := (atoi_digits ⟨#[a, b, c]⟩ (show (3 : Nat) ≠ 0 by decide) (show 3 ≤ 9 by decide) hdB).1
      have hN : (decN (⟨#[a, b, c]⟩ : ByteArray).data.toList : Int) = threeN ⟨#[a, b, c]⟩ := by
        rw [threeN_by]
        show (((((0 * 10 + (a.toNat - 48)) * 10 + (b.toNat - 48)) * 10 + (c.toNat - 48) : Nat)) : Int) = _
        omega
      rw [hat, hN]
      have hlo : 100 ≤ threeN ⟨#[a, b, c]⟩ ∧ threeN ⟨#[a, b, c]⟩ ≤ 599 := by
        rw [threeN_by]
        omega
      have hit : itoaB (threeN ⟨#[a, b, c]⟩) = ⟨#[a, b, c]⟩ := by
        rw [← hN, itoa3 _ (by omega) (by omega)]
        have e : ∀ (x : UInt8) (n : Nat), n = x.toNat → UInt8.ofNat n = x := fun x n h => by rw [h, UInt8.ofNat_toNat]
        have hn : decN (⟨#[a, b, c]⟩ : ByteArray).data.toList = ((0 * 10 + (a.toNat - 48)) * 10 + (b.toNat - 48)) * 10 + (c.toNat - 48) := rfl
        rw [hn, e a _ (by omega), e b _ (by omega), e c _ (by omega)]
      exact if_pos ⟨hit, hlo⟩
  · rw [if_neg h0, if_neg (fun h => h0 h.1)]
end
section
open Go.Sort Go.RowKit Go.Proofs Go.Proofs.YtjbehnalmgcbpaaGreatDoorW.PrintWords Go.Proofs.YtjbehnalmgcbpaaGreatDoor.Bs Go.Proofs.YtjbehnalmgcbpaaGreatDoor.Ir Go.Proofs.YtjbehnalmgcbpaaGreatDoor.Gn

theorem words_shape (ws : List ByteArray) : (∃ x0 x1 x2, ws = [x0, x1, x2]) ∨ (wordsR ws = .tuple #[.string ⟨#[]⟩, .string ⟨#[]⟩, .string ⟨#[]⟩, .bool false] ∧ ∀ {γ : Type} (s : ByteArray) (most : Int) (always : Bool) (f : ByteArray → ByteArray → ByteArray → Except Int γ) (q : Nat), readGo s most always f ws q = .error 13) := by
  match ws with
  | [] => exact .inr ⟨rfl, fun _ _ _ _ _ => rfl⟩
  | [_] => exact .inr ⟨rfl, fun _ _ _ _ _ => rfl⟩
  | [_, _] => exact .inr ⟨rfl, fun _ _ _ _ _ => rfl⟩
  | [x, y, z] => exact .inl ⟨x, y, z, rfl⟩
  | _ :: _ :: _ :: _ :: _ => exact .inr ⟨rfl, fun _ _ _ _ _ => rfl⟩
theorem eok_all (s : ByteArray) (most : Int) (always : Bool) (hs : s.size ≤ 1073741824) {y : Int} (h : allP s most always = .error y) : (y != 0) = true := by
  unfold allP at h
  have h1 := eok_heads s 0 (Nat.zero_le _)
  cases hh : headsP s 0 with
  | error y' =>
    rw [hh] at h h1
    simp only [Except.error.injEq] at h
    rw [← h]
    exact eok_ne h1 rfl
  | ok z =>
    obtain ⟨l, q⟩ := z
    rw [hh] at h
    have hz : (rest s q).size = s.size - q := rest_size
    have h2 := eok_body (rest s q) 0 l most always (by omega) (Nat.zero_le _)
    cases hb : bodyP (rest s q) 0 l most always with
    | error y' =>
      rw [hb] at h2
      simp only [hb, Except.error.injEq] at h
      rw [← h]
      exact eok_ne h2 rfl
    | ok zb => simp only [hb] at h; cases h
set_option maxRecDepth 100000 in
set_option maxHeartbeats 8000000 in
theorem rreadRequest_any (s : ByteArray) (most : Int) (w : World) (hs : s.size ≤ 1073741824) :
    Calls Tryz.prog 20 #[.string s, .int .i64 most] w fun e w' => ReqPost w (reqP s most) e w' := by
  obtain ⟨R, hR⟩ : ∃ R, reqP s most = R := ⟨_, rfl⟩
  rw [hR]
  unfold reqP readP at hR
  obtain ⟨w0, hw0⟩ : ∃ w0, w0 = (w.alloc (.cells #[.string ⟨#[]⟩, .string ⟨#[]⟩, .slice none 0 0, .string ⟨#[]⟩] 25)) := ⟨_, rfl⟩
  have hb0 : Below w.heap.size w w0 := by rw [hw0]; exact below_alloc (Below.refl _ _) _
  have ha0 : ReqAt w.heap.size ⟨#[]⟩ ⟨#[]⟩ (.slice none 0 0) ⟨#[]⟩ w0 := by rw [hw0]; exact heap_alloc_new w _
  have hz0 : w.heap.size < w0.heap.size := by rw [hw0]; simp
  have HB0 := Lib.hid hb0
  have HA0 := Lib.hid ha0
  have HZ0 := Lib.hid hz0
  clear hb0 ha0 hz0
  by_cases hm : 0 ≤ most ∧ most ≤ 65536
  · rw [if_pos hm] at hR
    obtain ⟨hm0, hm1⟩ := hm
    have dm0 : decide (most < 0) = false := by simp; omega
    have dm1 : decide (65536 < most) = false := by simp; omega
    have hln := fun W => rline_any s W hs
    have hLP : lineP s 0 = plus 0 (lineB s) := by unfold lineP; rw [rest_zero]
    have hne := eok_line s 0
    have hLOK := fun x q' => @lineP_ok s x 0 q' (Nat.zero_le _)
    rw [hLP] at hR hne hLOK
    cases hL : lineB s with
    | error y =>
      rw [hL] at hR hln hne
      have hy0 : (y != 0) = true := eok_ne hne rfl
      have HRES := Lib.hid hR.symm
      simp only [lineR] at hln
      clear hR hne hL hLP hLOK
      go_enter Tryz.func20, Tryz.ntmps20
      go_wp2_with fail
      rw [← hw0]
      clear hw0
      refine (hln _).mono ?_
      rintro e w1 ⟨rfl, rfl⟩
      obtain ⟨r0, r1, r2, r3⟩ := blk_cells4 HA0.out
      have f0 : ∀ i, w0.frozen? ⟨w.heap.size, i, none⟩ = false := fun i => blk_frozen HA0.out i
      go_wp2_with fail
      have hw4 := blk_set4 HA0.out (.string ⟨#[]⟩) (.string ⟨#[]⟩) (.slice none 0 0) (.string ⟨#[]⟩)
      have hbl : Below w.heap.size w ((((w0.setCell ⟨w.heap.size, 0, none⟩ (.string ⟨#[]⟩)).setCell ⟨w.heap.size, 1, none⟩ (.string ⟨#[]⟩)).setCell ⟨w.heap.size, 2, none⟩ (.slice none 0 0)).setCell ⟨w.heap.size, 3, none⟩ (.string ⟨#[]⟩)) := (((HB0.out.setCell (Nat.le_refl _) _).setCell (Nat.le_refl _) _).setCell (Nat.le_refl _) _).setCell (Nat.le_refl _) _
      generalize ((((w0.setCell ⟨w.heap.size, 0, none⟩ (.string ⟨#[]⟩)).setCell ⟨w.heap.size, 1, none⟩ (.string ⟨#[]⟩)).setCell ⟨w.heap.size, 2, none⟩ (.slice none 0 0)).setCell ⟨w.heap.size, 3, none⟩ (.string ⟨#[]⟩)) = w4 at *
      obtain ⟨t0, t1, t2, t3⟩ := blk_cells4 hw4
      refine bodyPost_ret (v := .tuple #[.agg #[.string ⟨#[]⟩, .string ⟨#[]⟩, .slice none 0 0, .string ⟨#[]⟩], .int .i64 0, .int .i64 y]) (by simp [results, Tryz.results20, go_sem, t0, t1, t2, t3]) rfl ?_
      rw [HRES.out]
      exact ⟨hbl, rfl⟩
    | ok z =>
      obtain ⟨x, k⟩ := z
      rw [hL] at hR hln hLOK
      obtain ⟨hk1, hk2, hxs⟩ := hLOK x (0 + k) rfl
      simp only [plus, Nat.zero_add] at hR
      have HR1 := Lib.hid (show R = readGo s most false firstReq (wordsB x) k from hR.symm)
      simp only [lineR] at hln
      have hwd := fun W => rwords_any x W (by omega)
      have hwz := wordsB_size x
      clear hR hne hL hLP hLOK
      rcases words_shape (wordsB x) with ⟨x0, x1, x2, hws⟩ | ⟨hw1, hw2⟩
      · rw [hws] at hwd hwz
        have z0 := hwz x0 (by simp)
        have z1 := hwz x1 (by simp)
        have htk := fun W => rtoken_any x0 W (by omega)
        have htg := fun W => rtarget_any x1 W (by omega)
        have heq := http_eq x2
        have HR2 := Lib.hid (show R = if tokenB x0 = true ∧ targetB x1 = true ∧ x2 = httpS then readEnd s most false k (x0, x1) else .error 13 from by
          rw [HR1.out, hws]
          simp only [readGo, firstReq]
          by_cases h : tokenB x0 = true ∧ targetB x1 = true ∧ x2 = httpS
          · rw [if_pos h, if_pos h]
          · rw [if_neg h, if_neg h])
        simp only [wordsR] at hwd
        clear HR1 hws hwz
        cases htb : tokenB x0 with
        | false =>
          have HRES := Lib.hid (show R = .error 13 from by rw [HR2.out, if_neg (by simp [htb])])
          rw [htb] at htk
          clear htb HR2
          go_enter Tryz.func20, Tryz.ntmps20
          go_wp2_with fail
          rw [← hw0]
          clear hw0
          refine (hln _).mono ?_
          rintro e w1 ⟨rfl, rfl⟩
          go_wp2_with (first | (go_at_call 43; refine (hwd _).mono ?_; rintro e w2 ⟨rfl, hb2⟩; have HA2 := Lib.hid (show ReqAt w.heap.size ⟨#[]⟩ ⟨#[]⟩ (.slice none 0 0) ⟨#[]⟩ w2 from (hb2.block _ HZ0.out).trans HA0.out); obtain ⟨r0, r1, r2, r3⟩ := blk_cells4 HA2.out; have f0 : ∀ i, w2.frozen? ⟨w.heap.size, i, none⟩ = false := (fun i => blk_frozen HA2.out i)) | (go_at_call 32; refine (htk _).mono ?_; rintro e w3 ⟨rfl, rfl⟩))
          have HB2 := Lib.hid (show Below w.heap.size w w2 from below_via hb2 HB0.out)
          have hw4 := blk_set4 HA2.out (.string ⟨#[]⟩) (.string ⟨#[]⟩) (.slice none 0 0) (.string ⟨#[]⟩)
          have hbl : Below w.heap.size w ((((w2.setCell ⟨w.heap.size, 0, none⟩ (.string ⟨#[]⟩)).setCell ⟨w.heap.size, 1, none⟩ (.string ⟨#[]⟩)).setCell ⟨w.heap.size, 2, none⟩ (.slice none 0 0)).setCell ⟨w.heap.size, 3, none⟩ (.string ⟨#[]⟩)) := (((HB2.out.setCell (Nat.le_refl _) _).setCell (Nat.le_refl _) _).setCell (Nat.le_refl _) _).setCell (Nat.le_refl _) _
          generalize ((((w2.setCell ⟨w.heap.size, 0, none⟩ (.string ⟨#[]⟩)).setCell ⟨w.heap.size, 1, none⟩ (.string ⟨#[]⟩)).setCell ⟨w.heap.size, 2, none⟩ (.slice none 0 0)).setCell ⟨w.heap.size, 3, none⟩ (.string ⟨#[]⟩)) = w4 at *
          obtain ⟨t0, t1, t2, t3⟩ := blk_cells4 hw4
          refine bodyPost_ret (v := .tuple #[.agg #[.string ⟨#[]⟩, .string ⟨#[]⟩, .slice none 0 0, .string ⟨#[]⟩], .int .i64 0, .int .i64 13]) (by simp [results, Tryz.results20, go_sem, t0, t1, t2, t3]) rfl ?_
          rw [HRES.out]
          exact ⟨hbl, rfl⟩
        | true =>
          rw [htb] at htk
          have HR3 := Lib.hid (show R = if targetB x1 = true ∧ x2 = httpS then readEnd s most false k (x0, x1) else .error 13 from by rw [HR2.out]; simp only [htb, true_and])
          clear HR2 htb
          cases htb2 : targetB x1 with
          | false =>
            have HRES := Lib.hid (show R = .error 13 from by rw [HR3.out, if_neg (by simp [htb2])])
            rw [htb2] at htg
            clear htb2 HR3
            go_enter Tryz.func20, Tryz.ntmps20
            go_wp2_with fail
            rw [← hw0]
            clear hw0
            refine (hln _).mono ?_
            rintro e w1 ⟨rfl, rfl⟩
            go_wp2_with (first | (go_at_call 43; refine (hwd _).mono ?_; rintro e w2 ⟨rfl, hb2⟩; have HA2 := Lib.hid (show ReqAt w.heap.size ⟨#[]⟩ ⟨#[]⟩ (.slice none 0 0) ⟨#[]⟩ w2 from (hb2.block _ HZ0.out).trans HA0.out); obtain ⟨r0, r1, r2, r3⟩ := blk_cells4 HA2.out; have f0 : ∀ i, w2.frozen? ⟨w.heap.size, i, none⟩ = false := (fun i => blk_frozen HA2.out i)) | (go_at_call 32; refine (htk _).mono ?_; rintro e w3 ⟨rfl, rfl⟩) | (go_at_call 33; refine (htg _).mono ?_; rintro e w3 ⟨rfl, rfl⟩))
            have HB2 := Lib.hid (show Below w.heap.size w w2 from below_via hb2 HB0.out)
            have hw4 := blk_set4 HA2.out (.string ⟨#[]⟩) (.string ⟨#[]⟩) (.slice none 0 0) (.string ⟨#[]⟩)
            have hbl : Below w.heap.size w ((((w2.setCell ⟨w.heap.size, 0, none⟩ (.string ⟨#[]⟩)).setCell ⟨w.heap.size, 1, none⟩ (.string ⟨#[]⟩)).setCell ⟨w.heap.size, 2, none⟩ (.slice none 0 0)).setCell ⟨w.heap.size, 3, none⟩ (.string ⟨#[]⟩)) := (((HB2.out.setCell (Nat.le_refl _) _).setCell (Nat.le_refl _) _).setCell (Nat.le_refl _) _).setCell (Nat.le_refl _) _
            generalize ((((w2.setCell ⟨w.heap.size, 0, none⟩ (.string ⟨#[]⟩)).setCell ⟨w.heap.size, 1, none⟩ (.string ⟨#[]⟩)).setCell ⟨w.heap.size, 2, none⟩ (.slice none 0 0)).setCell ⟨w.heap.size, 3, none⟩ (.string ⟨#[]⟩)) = w4 at *
            obtain ⟨t0, t1, t2, t3⟩ := blk_cells4 hw4
            refine bodyPost_ret (v := .tuple #[.agg #[.string ⟨#[]⟩, .string ⟨#[]⟩, .slice none 0 0, .string ⟨#[]⟩], .int .i64 0, .int .i64 13]) (by simp [results, Tryz.results20, go_sem, t0, t1, t2, t3]) rfl ?_
            rw [HRES.out]
            exact ⟨hbl, rfl⟩
          | true =>
            rw [htb2] at htg
            by_cases hx2 : x2 = httpS
            · rw [decide_eq_true hx2] at heq
              have heqn : (x2.toList != [72, 84, 84, 80, 47, 49, 46, 49]) = false := by rw [bne, heq]; rfl
              have hrz : (rest s k).size = s.size - k := rest_size
              have hall := fun W => rall_any (rest s k) most false W (by omega) hm0 hm1
              have hao := fun r h => @allP_ok (rest s k) most false (by omega) r h
              have HR4 := Lib.hid (show R = match allP (rest s k) most false with | .error y => .error y | .ok r => .ok ⟨r.1.1, r.1.2, k + r.2, (x0, x1)⟩ from by
                rw [HR3.out, if_pos ⟨htb2, hx2⟩, readEnd_by s most false k _ hs (by omega)]
                try (cases allP (rest s k) most false <;> rfl))
              clear htb2 HR3 hx2
              cases hal : allP (rest s k) most false with
              | error y =>
                have hy0 := eok_all (rest s k) most false (by omega) hal
                rw [hal] at hall
                have HRES := Lib.hid (show R = .error y from by rw [HR4.out, hal])
                simp only [AllPost] at hall
                clear hal HR4 hao
                go_enter Tryz.func20, Tryz.ntmps20
                go_wp2_with fail
                rw [← hw0]
                clear hw0
                refine (hln _).mono ?_
                rintro e w1 ⟨rfl, rfl⟩
                go_wp2_with (first | (go_at_call 43; refine (hwd _).mono ?_; rintro e w2 ⟨rfl, hb2⟩; have HA2 := Lib.hid (show ReqAt w.heap.size ⟨#[]⟩ ⟨#[]⟩ (.slice none 0 0) ⟨#[]⟩ w2 from (hb2.block _ HZ0.out).trans HA0.out); obtain ⟨r0, r1, r2, r3⟩ := blk_cells4 HA2.out; have f0 : ∀ i, w2.frozen? ⟨w.heap.size, i, none⟩ = false := (fun i => blk_frozen HA2.out i)) | (go_at_call 32; refine (htk _).mono ?_; rintro e w3 ⟨rfl, rfl⟩) | (go_at_call 33; refine (htg _).mono ?_; rintro e w3 ⟨rfl, rfl⟩))
                refine (hall _).mono ?_
                rintro e w5 ⟨hb5, rfl⟩
                have HA5 := Lib.hid (show ReqAt w.heap.size ⟨#[]⟩ ⟨#[]⟩ (.slice none 0 0) ⟨#[]⟩ w5 from (hb5.block _ (by have := hb2.size; have := HZ0.out; omega)).trans HA2.out)
                have HB5 := Lib.hid (show Below w.heap.size w w5 from below_via hb5 (below_via hb2 HB0.out))
                clear r0 r1 r2 r3 f0 hall htk htg hwd
                obtain ⟨r0, r1, r2, r3⟩ := blk_cells4 HA5.out
                have f0 : ∀ i, w5.frozen? ⟨w.heap.size, i, none⟩ = false := fun i => blk_frozen HA5.out i
                go_wp2_with fail
                have hw4 := blk_set4 HA5.out (.string ⟨#[]⟩) (.string ⟨#[]⟩) (.slice none 0 0) (.string ⟨#[]⟩)
                have hbl : Below w.heap.size w ((((w5.setCell ⟨w.heap.size, 0, none⟩ (.string ⟨#[]⟩)).setCell ⟨w.heap.size, 1, none⟩ (.string ⟨#[]⟩)).setCell ⟨w.heap.size, 2, none⟩ (.slice none 0 0)).setCell ⟨w.heap.size, 3, none⟩ (.string ⟨#[]⟩)) := (((HB5.out.setCell (Nat.le_refl _) _).setCell (Nat.le_refl _) _).setCell (Nat.le_refl _) _).setCell (Nat.le_refl _) _
                generalize ((((w5.setCell ⟨w.heap.size, 0, none⟩ (.string ⟨#[]⟩)).setCell ⟨w.heap.size, 1, none⟩ (.string ⟨#[]⟩)).setCell ⟨w.heap.size, 2, none⟩ (.slice none 0 0)).setCell ⟨w.heap.size, 3, none⟩ (.string ⟨#[]⟩)) = w4 at *
                obtain ⟨t0, t1, t2, t3⟩ := blk_cells4 hw4
                refine bodyPost_ret (v := .tuple #[.agg #[.string ⟨#[]⟩, .string ⟨#[]⟩, .slice none 0 0, .string ⟨#[]⟩], .int .i64 0, .int .i64 y]) (by simp [results, Tryz.results20, go_sem, t0, t1, t2, t3]) rfl ?_
                rw [HRES.out]
                exact ⟨hbl, rfl⟩
              | ok r =>
                obtain ⟨⟨l, bx⟩, m⟩ := r
                have hmz := hao _ hal
                rw [hal] at hall
                have HRES := Lib.hid (show R = .ok ⟨l, bx, k + m, (x0, x1)⟩ from by rw [HR4.out, hal])
                simp only [AllPost] at hall hmz
                clear hal HR4 hao
                go_enter Tryz.func20, Tryz.ntmps20
                go_wp2_with fail
                rw [← hw0]
                clear hw0
                refine (hln _).mono ?_
                rintro e w1 ⟨rfl, rfl⟩
                go_wp2_with (first | (go_at_call 43; refine (hwd _).mono ?_; rintro e w2 ⟨rfl, hb2⟩; have HA2 := Lib.hid (show ReqAt w.heap.size ⟨#[]⟩ ⟨#[]⟩ (.slice none 0 0) ⟨#[]⟩ w2 from (hb2.block _ HZ0.out).trans HA0.out); obtain ⟨r0, r1, r2, r3⟩ := blk_cells4 HA2.out; have f0 : ∀ i, w2.frozen? ⟨w.heap.size, i, none⟩ = false := (fun i => blk_frozen HA2.out i)) | (go_at_call 32; refine (htk _).mono ?_; rintro e w3 ⟨rfl, rfl⟩) | (go_at_call 33; refine (htg _).mono ?_; rintro e w3 ⟨rfl, rfl⟩))
                refine (hall _).mono ?_
                rintro e w5 ⟨hb5, A, c, rfl, hC5, hAd⟩
                have HA5 := Lib.hid (show ReqAt w.heap.size ⟨#[]⟩ ⟨#[]⟩ (.slice none 0 0) ⟨#[]⟩ w5 from (hb5.block _ (by have := hb2.size; have := HZ0.out; omega)).trans HA2.out)
                have HB5 := Lib.hid (show Below w.heap.size w w5 from below_via hb5 (below_via hb2 HB0.out))
                have HC5 := Lib.hid hC5
                have HAD := Lib.hid (show ∀ ad, A = some ad → ad.block ≠ w.heap.size from fun ad e => by have := hAd ad e; have := hb2.size; have := HZ0.out; omega)
                clear r0 r1 r2 r3 f0 hall htk htg hwd hC5 hAd
                obtain ⟨r0, r1, r2, r3⟩ := blk_cells4 HA5.out
                have f0 : ∀ i, w5.frozen? ⟨w.heap.size, i, none⟩ = false := fun i => blk_frozen HA5.out i
                go_wp2_with fail
                have hw4 := blk_set4 HA5.out (.string x0) (.string x1) (.slice A l.length c) (.string bx)
                have hbl : Below w.heap.size w ((((w5.setCell ⟨w.heap.size, 0, none⟩ (.string x0)).setCell ⟨w.heap.size, 1, none⟩ (.string x1)).setCell ⟨w.heap.size, 2, none⟩ (.slice A l.length c)).setCell ⟨w.heap.size, 3, none⟩ (.string bx)) := (((HB5.out.setCell (Nat.le_refl _) _).setCell (Nat.le_refl _) _).setCell (Nat.le_refl _) _).setCell (Nat.le_refl _) _
                have hA0 : ∀ ad, A = some ad → ad.block ≠ w.heap.size := HAD.out
                have hC6 : Kd.C kH ((((w5.setCell ⟨w.heap.size, 0, none⟩ (.string x0)).setCell ⟨w.heap.size, 1, none⟩ (.string x1)).setCell ⟨w.heap.size, 2, none⟩ (.slice A l.length c)).setCell ⟨w.heap.size, 3, none⟩ (.string bx)) A l.length l := kC_off (kC_off (kC_off (kC_off HC5.out hA0 _) hA0 _) hA0 _) hA0 _
                generalize ((((w5.setCell ⟨w.heap.size, 0, none⟩ (.string x0)).setCell ⟨w.heap.size, 1, none⟩ (.string x1)).setCell ⟨w.heap.size, 2, none⟩ (.slice A l.length c)).setCell ⟨w.heap.size, 3, none⟩ (.string bx)) = w4 at *
                obtain ⟨t0, t1, t2, t3⟩ := blk_cells4 hw4
                refine bodyPost_ret (v := .tuple #[.agg #[.string x0, .string x1, .slice A l.length c, .string bx], .int .i64 ((k : Int) + (m : Int)), .int .i64 0]) (by simp [results, Tryz.results20, go_sem, t0, t1, t2, t3]) rfl ?_
                rw [HRES.out]
                exact ⟨hbl, A, c, by dsimp only; rw [Int.natCast_add], hC6⟩
            · rw [decide_eq_false hx2] at heq
              have heqn : (x2.toList != [72, 84, 84, 80, 47, 49, 46, 49]) = true := by rw [bne, heq]; rfl
              have HRES := Lib.hid (show R = .error 13 from by rw [HR3.out, if_neg (by simp [hx2])])
              clear htb2 HR3 hx2
              go_enter Tryz.func20, Tryz.ntmps20
              go_wp2_with fail
              rw [← hw0]
              clear hw0
              refine (hln _).mono ?_
              rintro e w1 ⟨rfl, rfl⟩
              go_wp2_with (first | (go_at_call 43; refine (hwd _).mono ?_; rintro e w2 ⟨rfl, hb2⟩; have HA2 := Lib.hid (show ReqAt w.heap.size ⟨#[]⟩ ⟨#[]⟩ (.slice none 0 0) ⟨#[]⟩ w2 from (hb2.block _ HZ0.out).trans HA0.out); obtain ⟨r0, r1, r2, r3⟩ := blk_cells4 HA2.out; have f0 : ∀ i, w2.frozen? ⟨w.heap.size, i, none⟩ = false := (fun i => blk_frozen HA2.out i)) | (go_at_call 32; refine (htk _).mono ?_; rintro e w3 ⟨rfl, rfl⟩) | (go_at_call 33; refine (htg _).mono ?_; rintro e w3 ⟨rfl, rfl⟩))
              have HB2 := Lib.hid (show Below w.heap.size w w2 from below_via hb2 HB0.out)
              have hw4 := blk_set4 HA2.out (.string ⟨#[]⟩) (.string ⟨#[]⟩) (.slice none 0 0) (.string ⟨#[]⟩)
              have hbl : Below w.heap.size w ((((w2.setCell ⟨w.heap.size, 0, none⟩ (.string ⟨#[]⟩)).setCell ⟨w.heap.size, 1, none⟩ (.string ⟨#[]⟩)).setCell ⟨w.heap.size, 2, none⟩ (.slice none 0 0)).setCell ⟨w.heap.size, 3, none⟩ (.string ⟨#[]⟩)) := (((HB2.out.setCell (Nat.le_refl _) _).setCell (Nat.le_refl _) _).setCell (Nat.le_refl _) _).setCell (Nat.le_refl _) _
              generalize ((((w2.setCell ⟨w.heap.size, 0, none⟩ (.string ⟨#[]⟩)).setCell ⟨w.heap.size, 1, none⟩ (.string ⟨#[]⟩)).setCell ⟨w.heap.size, 2, none⟩ (.slice none 0 0)).setCell ⟨w.heap.size, 3, none⟩ (.string ⟨#[]⟩)) = w4 at *
              obtain ⟨t0, t1, t2, t3⟩ := blk_cells4 hw4
              refine bodyPost_ret (v := .tuple #[.agg #[.string ⟨#[]⟩, .string ⟨#[]⟩, .slice none 0 0, .string ⟨#[]⟩], .int .i64 0, .int .i64 13]) (by simp [results, Tryz.results20, go_sem, t0, t1, t2, t3]) rfl ?_
              rw [HRES.out]
              exact ⟨hbl, rfl⟩
      · have HRES := Lib.hid (show R = .error 13 from by rw [HR1.out, hw2])
        rw [hw1] at hwd
        clear HR1 hw1 hw2 hwz
        go_enter Tryz.func20, Tryz.ntmps20
        go_wp2_with fail
        rw [← hw0]
        clear hw0
        refine (hln _).mono ?_
        rintro e w1 ⟨rfl, rfl⟩
        go_wp2_with (first | (go_at_call 43; refine (hwd _).mono ?_; rintro e w2 ⟨rfl, hb2⟩; have HA2 := Lib.hid (show ReqAt w.heap.size ⟨#[]⟩ ⟨#[]⟩ (.slice none 0 0) ⟨#[]⟩ w2 from (hb2.block _ HZ0.out).trans HA0.out); obtain ⟨r0, r1, r2, r3⟩ := blk_cells4 HA2.out; have f0 : ∀ i, w2.frozen? ⟨w.heap.size, i, none⟩ = false := (fun i => blk_frozen HA2.out i)))
        have HB2 := Lib.hid (show Below w.heap.size w w2 from below_via hb2 HB0.out)
        have hw4 := blk_set4 HA2.out (.string ⟨#[]⟩) (.string ⟨#[]⟩) (.slice none 0 0) (.string ⟨#[]⟩)
        have hbl : Below w.heap.size w ((((w2.setCell ⟨w.heap.size, 0, none⟩ (.string ⟨#[]⟩)).setCell ⟨w.heap.size, 1, none⟩ (.string ⟨#[]⟩)).setCell ⟨w.heap.size, 2, none⟩ (.slice none 0 0)).setCell ⟨w.heap.size, 3, none⟩ (.string ⟨#[]⟩)) := (((HB2.out.setCell (Nat.le_refl _) _).setCell (Nat.le_refl _) _).setCell (Nat.le_refl _) _).setCell (Nat.le_refl _) _
        generalize ((((w2.setCell ⟨w.heap.size, 0, none⟩ (.string ⟨#[]⟩)).setCell ⟨w.heap.size, 1, none⟩ (.string ⟨#[]⟩)).setCell ⟨w.heap.size, 2, none⟩ (.slice none 0 0)).setCell ⟨w.heap.size, 3, none⟩ (.string ⟨#[]⟩)) = w4 at *
        obtain ⟨t0, t1, t2, t3⟩ := blk_cells4 hw4
        refine bodyPost_ret (v := .tuple #[.agg #[.string ⟨#[]⟩, .string ⟨#[]⟩, .slice none 0 0, .string ⟨#[]⟩], .int .i64 0, .int .i64 13]) (by simp [results, Tryz.results20, go_sem, t0, t1, t2, t3]) rfl ?_
        rw [HRES.out]
        exact ⟨hbl, rfl⟩
  · rw [if_neg hm] at hR
    have HRES := Lib.hid hR.symm
    clear hR
    by_cases hm0 : most < 0
    · have dm0 : decide (most < 0) = true := by simpa using hm0
      clear hm
      go_enter Tryz.func20, Tryz.ntmps20
      go_wp2_with fail
      rw [← hw0]
      clear hw0
      obtain ⟨t0, t1, t2, t3⟩ := blk_cells4 HA0.out
      refine bodyPost_ret (v := .tuple #[.agg #[.string ⟨#[]⟩, .string ⟨#[]⟩, .slice none 0 0, .string ⟨#[]⟩], .int .i64 0, .int .i64 2]) (by simp [results, Tryz.results20, go_sem, t0, t1, t2, t3]) rfl ?_
      rw [HRES.out]
      exact ⟨HB0.out, rfl⟩
    · have dm0 : decide (most < 0) = false := by simpa using hm0
      have dm1 : decide (65536 < most) = true := by simp; omega
      clear hm
      go_enter Tryz.func20, Tryz.ntmps20
      go_wp2_with fail
      rw [← hw0]
      clear hw0
      obtain ⟨t0, t1, t2, t3⟩ := blk_cells4 HA0.out
      refine bodyPost_ret (v := .tuple #[.agg #[.string ⟨#[]⟩, .string ⟨#[]⟩, .slice none 0 0, .string ⟨#[]⟩], .int .i64 0, .int .i64 2]) (by simp [results, Tryz.results20, go_sem, t0, t1, t2, t3]) rfl ?_
      rw [HRES.out]
      exact ⟨HB0.out, rfl⟩
end
section
open Go.Sort Go.RowKit Go.Proofs Go.Proofs.YtjbehnalmgcbpaaGreatDoorW.PrintWords Go.Proofs.YtjbehnalmgcbpaaGreatDoor.Bs Go.Proofs.YtjbehnalmgcbpaaGreatDoor.Ir Go.Proofs.YtjbehnalmgcbpaaGreatDoor.Gn

set_option maxRecDepth 100000 in
set_option maxHeartbeats 8000000 in
theorem rreadResponse_any (s : ByteArray) (most : Int) (w : World) (hs : s.size ≤ 1073741824) :
    Calls Tryz.prog 22 #[.string s, .int .i64 most] w fun e w' => RespPost w (respP s most) e w' := by
  obtain ⟨R, hR⟩ : ∃ R, respP s most = R := ⟨_, rfl⟩
  rw [hR]
  unfold respP readP at hR
  obtain ⟨w0, hw0⟩ : ∃ w0, w0 = (w.alloc (.cells #[.int .i64 0, .slice none 0 0, .string ⟨#[]⟩] 35)) := ⟨_, rfl⟩
  have hb0 : Below w.heap.size w w0 := by rw [hw0]; exact below_alloc (Below.refl _ _) _
  have ha0 : RespAt w.heap.size 0 (.slice none 0 0) ⟨#[]⟩ w0 := by rw [hw0]; exact heap_alloc_new w _
  have hz0 : w.heap.size < w0.heap.size := by rw [hw0]; simp
  have HB0 := Lib.hid hb0
  have HA0 := Lib.hid ha0
  have HZ0 := Lib.hid hz0
  clear hb0 ha0 hz0
  by_cases hm : 0 ≤ most ∧ most ≤ 65536
  · rw [if_pos hm] at hR
    obtain ⟨hm0, hm1⟩ := hm
    have dm0 : decide (most < 0) = false := by simp; omega
    have dm1 : decide (65536 < most) = false := by simp; omega
    have hln := fun W => rline_any s W hs
    have hLP : lineP s 0 = plus 0 (lineB s) := by unfold lineP; rw [rest_zero]
    have hne := eok_line s 0
    have hLOK := fun x q' => @lineP_ok s x 0 q' (Nat.zero_le _)
    rw [hLP] at hR hne hLOK
    cases hL : lineB s with
    | error y =>
      rw [hL] at hR hln hne
      have hy0 : (y != 0) = true := eok_ne hne rfl
      have HRES := Lib.hid hR.symm
      simp only [lineR] at hln
      clear hR hne hL hLP hLOK
      go_enter Tryz.func22, Tryz.ntmps22
      go_wp2_with fail
      rw [← hw0]
      clear hw0
      refine (hln _).mono ?_
      rintro e w1 ⟨rfl, rfl⟩
      obtain ⟨r0, r1, r2⟩ := blk_cells3 HA0.out
      have f0 : ∀ i, w0.frozen? ⟨w.heap.size, i, none⟩ = false := fun i => blk_frozen HA0.out i
      go_wp2_with fail
      have hw4 := blk_set3 HA0.out (.int .i64 0) (.slice none 0 0) (.string ⟨#[]⟩)
      have hbl : Below w.heap.size w (((w0.setCell ⟨w.heap.size, 0, none⟩ (.int .i64 0)).setCell ⟨w.heap.size, 1, none⟩ (.slice none 0 0)).setCell ⟨w.heap.size, 2, none⟩ (.string ⟨#[]⟩)) := ((HB0.out.setCell (Nat.le_refl _) _).setCell (Nat.le_refl _) _).setCell (Nat.le_refl _) _
      generalize (((w0.setCell ⟨w.heap.size, 0, none⟩ (.int .i64 0)).setCell ⟨w.heap.size, 1, none⟩ (.slice none 0 0)).setCell ⟨w.heap.size, 2, none⟩ (.string ⟨#[]⟩)) = w4 at *
      obtain ⟨t0, t1, t2⟩ := blk_cells3 hw4
      refine bodyPost_ret (v := .tuple #[.agg #[.int .i64 0, .slice none 0 0, .string ⟨#[]⟩], .int .i64 0, .int .i64 y]) (by simp [results, Tryz.results22, go_sem, t0, t1, t2]) rfl ?_
      rw [HRES.out]
      exact ⟨hbl, rfl⟩
    | ok z =>
      obtain ⟨x, k⟩ := z
      rw [hL] at hR hln hLOK
      obtain ⟨hk1, hk2, hxs⟩ := hLOK x (0 + k) rfl
      simp only [plus, Nat.zero_add] at hR
      have HR1 := Lib.hid (show R = readGo s most true firstResp (wordsB x) k from hR.symm)
      simp only [lineR] at hln
      have hwd := fun W => rwords_any x W (by omega)
      have hwz := wordsB_size x
      clear hR hne hL hLP hLOK
      rcases words_shape (wordsB x) with ⟨x0, x1, x2, hws⟩ | ⟨hw1, hw2⟩
      · rw [hws] at hwd hwz
        have z1 := hwz x1 (by simp)
        have heq := http_eq x0
        have HR2 := Lib.hid (show R = if x0 = httpS ∧ threeB x1 = true then readEnd s most true k (threeN x1) else .error 13 from by
          rw [HR1.out, hws]
          simp only [readGo, firstResp_by]
          by_cases h : x0 = httpS ∧ threeB x1 = true
          · rw [if_pos h, if_pos h]
          · rw [if_neg h, if_neg h])
        simp only [wordsR] at hwd
        clear HR1 hws hwz
        by_cases hx0 : x0 = httpS
        · rw [decide_eq_true hx0] at heq
          have heqn : (x0.toList != [72, 84, 84, 80, 47, 49, 46, 49]) = false := by rw [bne, heq]; rfl
          have HR5 := Lib.hid (show R = if threeB x1 = true then readEnd s most true k (threeN x1) else .error 13 from by
            rw [HR2.out]
            simp only [hx0, true_and])
          clear HR2 hx0
          by_cases hsz : x1.size = 3
          · have dsz : ((x1.size : Int) == 3) = true := by rw [hsz]; rfl
            have dszn : ((x1.size : Int) != 3) = false := by rw [hsz]; rfl
            have hs0 : 0 < x1.size := by omega
            have hs1 : 1 < x1.size := by omega
            have hs2 : 2 < x1.size := by omega
            have h0 := byI_at x1 0 hs0
            have h1 := byI_at x1 1 hs1
            have h2 := byI_at x1 2 hs2
            have hd0 := fun W => digit_any (byI x1 0) W
            have hd1 := fun W => digit_any (byI x1 1) W
            have hd2 := fun W => digit_any (byI x1 2) W
            have HR6 := Lib.hid (show R = if digI (byI x1 0) = true ∧ digI (byI x1 1) = true ∧ digI (byI x1 2) = true ∧ 49 ≤ byI x1 0 ∧ byI x1 0 ≤ 53 then readEnd s most true k (threeN x1) else .error 13 from by
              rw [HR5.out]
              unfold threeB
              simp only [hsz, decide_true, Bool.true_and, Bool.and_eq_true, decide_eq_true_eq, and_assoc])
            have HN := Lib.hid (show threeN x1 = 100 * (byI x1 0 - 48) + 10 * (byI x1 1 - 48) + (byI x1 2 - 48) from rfl)
            clear HR5 hsz
            generalize threeN x1 = N at *
            generalize byI x1 0 = a0 at *
            generalize byI x1 1 = a1 at *
            generalize byI x1 2 = a2 at *
            cases g0 : digI a0 with
            | false =>
              rw [g0] at hd0
              have HRES := Lib.hid (show R = .error 13 from by rw [HR6.out, if_neg (by simp [g0])])
              clear HR6 g0
              go_enter Tryz.func22, Tryz.ntmps22
              go_wp2_with fail
              rw [← hw0]
              clear hw0
              refine (hln _).mono ?_
              rintro e w1 ⟨rfl, rfl⟩
              go_wp2_with (first | (go_at_call 43; refine (hwd _).mono ?_; rintro e w2 ⟨rfl, hb2⟩; have HA2 := Lib.hid (show RespAt w.heap.size 0 (.slice none 0 0) ⟨#[]⟩ w2 from (hb2.block _ HZ0.out).trans HA0.out); obtain ⟨r0, r1, r2⟩ := blk_cells3 HA2.out; have f0 : ∀ i, w2.frozen? ⟨w.heap.size, i, none⟩ = false := (fun i => blk_frozen HA2.out i)) | (go_at_call 47; with_reducible refine (hd0 _).mono ?_; rintro e w3 ⟨rfl, rfl⟩) | (go_at_call 47; with_reducible refine (hd1 _).mono ?_; rintro e w3 ⟨rfl, rfl⟩) | (go_at_call 47; with_reducible refine (hd2 _).mono ?_; rintro e w3 ⟨rfl, rfl⟩))
              have HB2 := Lib.hid (show Below w.heap.size w w2 from below_via hb2 HB0.out)
              have hw4 := blk_set3 HA2.out (.int .i64 0) (.slice none 0 0) (.string ⟨#[]⟩)
              have hbl : Below w.heap.size w (((w2.setCell ⟨w.heap.size, 0, none⟩ (.int .i64 0)).setCell ⟨w.heap.size, 1, none⟩ (.slice none 0 0)).setCell ⟨w.heap.size, 2, none⟩ (.string ⟨#[]⟩)) := ((HB2.out.setCell (Nat.le_refl _) _).setCell (Nat.le_refl _) _).setCell (Nat.le_refl _) _
              generalize (((w2.setCell ⟨w.heap.size, 0, none⟩ (.int .i64 0)).setCell ⟨w.heap.size, 1, none⟩ (.slice none 0 0)).setCell ⟨w.heap.size, 2, none⟩ (.string ⟨#[]⟩)) = w4 at *
              obtain ⟨t0, t1, t2⟩ := blk_cells3 hw4
              refine bodyPost_ret (v := .tuple #[.agg #[.int .i64 0, .slice none 0 0, .string ⟨#[]⟩], .int .i64 0, .int .i64 13]) (by simp [results, Tryz.results22, go_sem, t0, t1, t2]) rfl ?_
              rw [HRES.out]
              exact ⟨hbl, rfl⟩
            | true =>
              rw [g0] at hd0
              have ha0 : 48 ≤ a0 ∧ a0 ≤ 57 := by unfold digI at g0; simpa using g0
              cases g1 : digI a1 with
              | false =>
                rw [g1] at hd1
                have HRES := Lib.hid (show R = .error 13 from by rw [HR6.out, if_neg (by simp [g1])])
                clear HR6 g0 g1 ha0
                go_enter Tryz.func22, Tryz.ntmps22
                go_wp2_with fail
                rw [← hw0]
                clear hw0
                refine (hln _).mono ?_
                rintro e w1 ⟨rfl, rfl⟩
                go_wp2_with (first | (go_at_call 43; refine (hwd _).mono ?_; rintro e w2 ⟨rfl, hb2⟩; have HA2 := Lib.hid (show RespAt w.heap.size 0 (.slice none 0 0) ⟨#[]⟩ w2 from (hb2.block _ HZ0.out).trans HA0.out); obtain ⟨r0, r1, r2⟩ := blk_cells3 HA2.out; have f0 : ∀ i, w2.frozen? ⟨w.heap.size, i, none⟩ = false := (fun i => blk_frozen HA2.out i)) | (go_at_call 47; with_reducible refine (hd0 _).mono ?_; rintro e w3 ⟨rfl, rfl⟩) | (go_at_call 47; with_reducible refine (hd1 _).mono ?_; rintro e w3 ⟨rfl, rfl⟩) | (go_at_call 47; with_reducible refine (hd2 _).mono ?_; rintro e w3 ⟨rfl, rfl⟩))
                have HB2 := Lib.hid (show Below w.heap.size w w2 from below_via hb2 HB0.out)
                have hw4 := blk_set3 HA2.out (.int .i64 0) (.slice none 0 0) (.string ⟨#[]⟩)
                have hbl : Below w.heap.size w (((w2.setCell ⟨w.heap.size, 0, none⟩ (.int .i64 0)).setCell ⟨w.heap.size, 1, none⟩ (.slice none 0 0)).setCell ⟨w.heap.size, 2, none⟩ (.string ⟨#[]⟩)) := ((HB2.out.setCell (Nat.le_refl _) _).setCell (Nat.le_refl _) _).setCell (Nat.le_refl _) _
                generalize (((w2.setCell ⟨w.heap.size, 0, none⟩ (.int .i64 0)).setCell ⟨w.heap.size, 1, none⟩ (.slice none 0 0)).setCell ⟨w.heap.size, 2, none⟩ (.string ⟨#[]⟩)) = w4 at *
                obtain ⟨t0, t1, t2⟩ := blk_cells3 hw4
                refine bodyPost_ret (v := .tuple #[.agg #[.int .i64 0, .slice none 0 0, .string ⟨#[]⟩], .int .i64 0, .int .i64 13]) (by simp [results, Tryz.results22, go_sem, t0, t1, t2]) rfl ?_
                rw [HRES.out]
                exact ⟨hbl, rfl⟩
              | true =>
                rw [g1] at hd1
                have ha1 : 48 ≤ a1 ∧ a1 ≤ 57 := by unfold digI at g1; simpa using g1
                cases g2 : digI a2 with
                | false =>
                  rw [g2] at hd2
                  have HRES := Lib.hid (show R = .error 13 from by rw [HR6.out, if_neg (by simp [g2])])
                  clear HR6 g0 g1 g2 ha0 ha1
                  go_enter Tryz.func22, Tryz.ntmps22
                  go_wp2_with fail
                  rw [← hw0]
                  clear hw0
                  refine (hln _).mono ?_
                  rintro e w1 ⟨rfl, rfl⟩
                  go_wp2_with (first | (go_at_call 43; refine (hwd _).mono ?_; rintro e w2 ⟨rfl, hb2⟩; have HA2 := Lib.hid (show RespAt w.heap.size 0 (.slice none 0 0) ⟨#[]⟩ w2 from (hb2.block _ HZ0.out).trans HA0.out); obtain ⟨r0, r1, r2⟩ := blk_cells3 HA2.out; have f0 : ∀ i, w2.frozen? ⟨w.heap.size, i, none⟩ = false := (fun i => blk_frozen HA2.out i)) | (go_at_call 47; with_reducible refine (hd0 _).mono ?_; rintro e w3 ⟨rfl, rfl⟩) | (go_at_call 47; with_reducible refine (hd1 _).mono ?_; rintro e w3 ⟨rfl, rfl⟩) | (go_at_call 47; with_reducible refine (hd2 _).mono ?_; rintro e w3 ⟨rfl, rfl⟩))
                  have HB2 := Lib.hid (show Below w.heap.size w w2 from below_via hb2 HB0.out)
                  have hw4 := blk_set3 HA2.out (.int .i64 0) (.slice none 0 0) (.string ⟨#[]⟩)
                  have hbl : Below w.heap.size w (((w2.setCell ⟨w.heap.size, 0, none⟩ (.int .i64 0)).setCell ⟨w.heap.size, 1, none⟩ (.slice none 0 0)).setCell ⟨w.heap.size, 2, none⟩ (.string ⟨#[]⟩)) := ((HB2.out.setCell (Nat.le_refl _) _).setCell (Nat.le_refl _) _).setCell (Nat.le_refl _) _
                  generalize (((w2.setCell ⟨w.heap.size, 0, none⟩ (.int .i64 0)).setCell ⟨w.heap.size, 1, none⟩ (.slice none 0 0)).setCell ⟨w.heap.size, 2, none⟩ (.string ⟨#[]⟩)) = w4 at *
                  obtain ⟨t0, t1, t2⟩ := blk_cells3 hw4
                  refine bodyPost_ret (v := .tuple #[.agg #[.int .i64 0, .slice none 0 0, .string ⟨#[]⟩], .int .i64 0, .int .i64 13]) (by simp [results, Tryz.results22, go_sem, t0, t1, t2]) rfl ?_
                  rw [HRES.out]
                  exact ⟨hbl, rfl⟩
                | true =>
                  rw [g2] at hd2
                  have ha2 : 48 ≤ a2 ∧ a2 ≤ 57 := by unfold digI at g2; simpa using g2
                  have HR7 := Lib.hid (show R = if 49 ≤ a0 ∧ a0 ≤ 53 then readEnd s most true k N else .error 13 from by rw [HR6.out]; simp only [g0, g1, g2, true_and])
                  clear HR6 g0 g1 g2
                  obtain ⟨ha0, hb0⟩ := ha0
                  obtain ⟨ha1, hb1⟩ := ha1
                  obtain ⟨ha2, hb2'⟩ := ha2
                  by_cases h49 : 49 ≤ a0
                  · have d49 : decide (a0 < 49) = false := by simp; omega
                    by_cases h53 : a0 ≤ 53
                    · have d53 : decide (53 < a0) = false := by simp; omega
                      have hrz : (rest s k).size = s.size - k := rest_size
                      have hall := fun W => rall_any (rest s k) most true W (by omega) hm0 hm1
                      have hao := fun r h => @allP_ok (rest s k) most true (by omega) r h
                      have HR4 := Lib.hid (show R = match allP (rest s k) most true with | .error y => .error y | .ok r => .ok ⟨r.1.1, r.1.2, k + r.2, N⟩ from by
                        rw [HR7.out, if_pos ⟨h49, h53⟩, readEnd_by s most true k _ hs (by omega)]
                        try (cases allP (rest s k) most true <;> rfl))
                      clear HR7
                      cases hal : allP (rest s k) most true with
                      | error y =>
                        have hy0 := eok_all (rest s k) most true (by omega) hal
                        rw [hal] at hall
                        have HRES := Lib.hid (show R = .error y from by rw [HR4.out, hal])
                        simp only [AllPost] at hall
                        clear hal HR4 hao
                        go_enter Tryz.func22, Tryz.ntmps22
                        go_wp2_with fail
                        rw [← hw0]
                        clear hw0
                        refine (hln _).mono ?_
                        rintro e w1 ⟨rfl, rfl⟩
                        go_wp2_with (first | (go_at_call 43; refine (hwd _).mono ?_; rintro e w2 ⟨rfl, hb2⟩; have HA2 := Lib.hid (show RespAt w.heap.size 0 (.slice none 0 0) ⟨#[]⟩ w2 from (hb2.block _ HZ0.out).trans HA0.out); obtain ⟨r0, r1, r2⟩ := blk_cells3 HA2.out; have f0 : ∀ i, w2.frozen? ⟨w.heap.size, i, none⟩ = false := (fun i => blk_frozen HA2.out i)) | (go_at_call 47; with_reducible refine (hd0 _).mono ?_; rintro e w3 ⟨rfl, rfl⟩) | (go_at_call 47; with_reducible refine (hd1 _).mono ?_; rintro e w3 ⟨rfl, rfl⟩) | (go_at_call 47; with_reducible refine (hd2 _).mono ?_; rintro e w3 ⟨rfl, rfl⟩))
                        have HB2 := Lib.hid (show Below w.heap.size w w2 from below_via hb2 HB0.out)
                        refine (hall _).mono ?_
                        rintro e w5 ⟨hb5, rfl⟩
                        have HA5 := Lib.hid (show RespAt w.heap.size 0 (.slice none 0 0) ⟨#[]⟩ w5 from (hb5.block _ (by have := hb2.size; have := HZ0.out; omega)).trans HA2.out)
                        have HB5 := Lib.hid (show Below w.heap.size w w5 from below_via hb5 HB2.out)
                        clear r0 r1 r2 f0 hall hd0 hd1 hd2 hwd
                        obtain ⟨r0, r1, r2⟩ := blk_cells3 HA5.out
                        have f0 : ∀ i, w5.frozen? ⟨w.heap.size, i, none⟩ = false := fun i => blk_frozen HA5.out i
                        go_wp2_with fail
                        have hw4 := blk_set3 HA5.out (.int .i64 0) (.slice none 0 0) (.string ⟨#[]⟩)
                        have hbl : Below w.heap.size w (((w5.setCell ⟨w.heap.size, 0, none⟩ (.int .i64 0)).setCell ⟨w.heap.size, 1, none⟩ (.slice none 0 0)).setCell ⟨w.heap.size, 2, none⟩ (.string ⟨#[]⟩)) := ((HB5.out.setCell (Nat.le_refl _) _).setCell (Nat.le_refl _) _).setCell (Nat.le_refl _) _
                        generalize (((w5.setCell ⟨w.heap.size, 0, none⟩ (.int .i64 0)).setCell ⟨w.heap.size, 1, none⟩ (.slice none 0 0)).setCell ⟨w.heap.size, 2, none⟩ (.string ⟨#[]⟩)) = w4 at *
                        obtain ⟨t0, t1, t2⟩ := blk_cells3 hw4
                        refine bodyPost_ret (v := .tuple #[.agg #[.int .i64 0, .slice none 0 0, .string ⟨#[]⟩], .int .i64 0, .int .i64 y]) (by simp [results, Tryz.results22, go_sem, t0, t1, t2]) rfl ?_
                        rw [HRES.out]
                        exact ⟨hbl, rfl⟩
                      | ok r =>
                        obtain ⟨⟨l, bx⟩, m⟩ := r
                        have hmz := hao _ hal
                        rw [hal] at hall
                        have HRES := Lib.hid (show R = .ok ⟨l, bx, k + m, N⟩ from by rw [HR4.out, hal])
                        simp only [AllPost] at hall hmz
                        clear hal HR4 hao
                        go_enter Tryz.func22, Tryz.ntmps22
                        go_wp2_with fail
                        rw [← hw0]
                        clear hw0
                        refine (hln _).mono ?_
                        rintro e w1 ⟨rfl, rfl⟩
                        go_wp2_with (first | (go_at_call 43; refine (hwd _).mono ?_; rintro e w2 ⟨rfl, hb2⟩; have HA2 := Lib.hid (show RespAt w.heap.size 0 (.slice none 0 0) ⟨#[]⟩ w2 from (hb2.block _ HZ0.out).trans HA0.out); obtain ⟨r0, r1, r2⟩ := blk_cells3 HA2.out; have f0 : ∀ i, w2.frozen? ⟨w.heap.size, i, none⟩ = false := (fun i => blk_frozen HA2.out i)) | (go_at_call 47; with_reducible refine (hd0 _).mono ?_; rintro e w3 ⟨rfl, rfl⟩) | (go_at_call 47; with_reducible refine (hd1 _).mono ?_; rintro e w3 ⟨rfl, rfl⟩) | (go_at_call 47; with_reducible refine (hd2 _).mono ?_; rintro e w3 ⟨rfl, rfl⟩))
                        have HB2 := Lib.hid (show Below w.heap.size w w2 from below_via hb2 HB0.out)
                        refine (hall _).mono ?_
                        rintro e w5 ⟨hb5, A, c, rfl, hC5, hAd⟩
                        have HA5 := Lib.hid (show RespAt w.heap.size 0 (.slice none 0 0) ⟨#[]⟩ w5 from (hb5.block _ (by have := hb2.size; have := HZ0.out; omega)).trans HA2.out)
                        have HB5 := Lib.hid (show Below w.heap.size w w5 from below_via hb5 HB2.out)
                        have HC5 := Lib.hid hC5
                        have HAD := Lib.hid (show ∀ ad, A = some ad → ad.block ≠ w.heap.size from fun ad e => by have := hAd ad e; have := hb2.size; have := HZ0.out; omega)
                        clear r0 r1 r2 f0 hall hd0 hd1 hd2 hwd hC5 hAd
                        obtain ⟨r0, r1, r2⟩ := blk_cells3 HA5.out
                        have f0 : ∀ i, w5.frozen? ⟨w.heap.size, i, none⟩ = false := fun i => blk_frozen HA5.out i
                        go_wp2_with fail
                        go_big_region
                        go_wp2_with fail
                        have hw4 := blk_set3 HA5.out (.int .i64 (100 * (a0 - 48) + 10 * (a1 - 48) + (a2 - 48))) (.slice A l.length c) (.string bx)
                        have hbl : Below w.heap.size w (((w5.setCell ⟨w.heap.size, 0, none⟩ (.int .i64 (100 * (a0 - 48) + 10 * (a1 - 48) + (a2 - 48)))).setCell ⟨w.heap.size, 1, none⟩ (.slice A l.length c)).setCell ⟨w.heap.size, 2, none⟩ (.string bx)) := ((HB5.out.setCell (Nat.le_refl _) _).setCell (Nat.le_refl _) _).setCell (Nat.le_refl _) _
                        have hA0 : ∀ ad, A = some ad → ad.block ≠ w.heap.size := HAD.out
                        have hC6 : Kd.C kH (((w5.setCell ⟨w.heap.size, 0, none⟩ (.int .i64 (100 * (a0 - 48) + 10 * (a1 - 48) + (a2 - 48)))).setCell ⟨w.heap.size, 1, none⟩ (.slice A l.length c)).setCell ⟨w.heap.size, 2, none⟩ (.string bx)) A l.length l := kC_off (kC_off (kC_off HC5.out hA0 _) hA0 _) hA0 _
                        generalize (((w5.setCell ⟨w.heap.size, 0, none⟩ (.int .i64 (100 * (a0 - 48) + 10 * (a1 - 48) + (a2 - 48)))).setCell ⟨w.heap.size, 1, none⟩ (.slice A l.length c)).setCell ⟨w.heap.size, 2, none⟩ (.string bx)) = w4 at *
                        have hdr : Below w4.heap.size w4 w4.drew := (by repeat (first | assumption | exact Below.refl _ _ | apply below_drew | apply pw_below_drewN | apply below_alloc | (refine below_via (by assumption) ?_)))
                        have hbl7 : Below w.heap.size w w4.drew := (by repeat (first | assumption | exact Below.refl _ _ | apply below_drew | apply pw_below_drewN | apply below_alloc | (refine below_via (by assumption) ?_)))
                        have hC7 := Kd.C_below hC6 hdr
                        have hw7 := (hdr.block _ (by have := HZ0.out; have := hbl.size; exact blk_lt hw4)).trans hw4
                        obtain ⟨t0, t1, t2⟩ := blk_cells3 hw7
                        refine bodyPost_ret (v := .tuple #[.agg #[.int .i64 (100 * (a0 - 48) + 10 * (a1 - 48) + (a2 - 48)), .slice A l.length c, .string bx], .int .i64 ((k : Int) + (m : Int)), .int .i64 0]) (by simp [results, Tryz.results22, go_sem, t0, t1, t2]) rfl ?_
                        rw [HRES.out]
                        exact ⟨hbl7, A, c, by dsimp only; rw [Int.natCast_add, HN.out], hC7⟩
                    · have d53 : decide (53 < a0) = true := by simp; omega
                      have HRES := Lib.hid (show R = .error 13 from by rw [HR7.out, if_neg (fun h => h53 h.2)])
                      clear HR7
                      go_enter Tryz.func22, Tryz.ntmps22
                      go_wp2_with fail
                      rw [← hw0]
                      clear hw0
                      refine (hln _).mono ?_
                      rintro e w1 ⟨rfl, rfl⟩
                      go_wp2_with (first | (go_at_call 43; refine (hwd _).mono ?_; rintro e w2 ⟨rfl, hb2⟩; have HA2 := Lib.hid (show RespAt w.heap.size 0 (.slice none 0 0) ⟨#[]⟩ w2 from (hb2.block _ HZ0.out).trans HA0.out); obtain ⟨r0, r1, r2⟩ := blk_cells3 HA2.out; have f0 : ∀ i, w2.frozen? ⟨w.heap.size, i, none⟩ = false := (fun i => blk_frozen HA2.out i)) | (go_at_call 47; with_reducible refine (hd0 _).mono ?_; rintro e w3 ⟨rfl, rfl⟩) | (go_at_call 47; with_reducible refine (hd1 _).mono ?_; rintro e w3 ⟨rfl, rfl⟩) | (go_at_call 47; with_reducible refine (hd2 _).mono ?_; rintro e w3 ⟨rfl, rfl⟩))
                      have HB2 := Lib.hid (show Below w.heap.size w w2 from below_via hb2 HB0.out)
                      have hw4 := blk_set3 HA2.out (.int .i64 0) (.slice none 0 0) (.string ⟨#[]⟩)
                      have hbl : Below w.heap.size w (((w2.setCell ⟨w.heap.size, 0, none⟩ (.int .i64 0)).setCell ⟨w.heap.size, 1, none⟩ (.slice none 0 0)).setCell ⟨w.heap.size, 2, none⟩ (.string ⟨#[]⟩)) := ((HB2.out.setCell (Nat.le_refl _) _).setCell (Nat.le_refl _) _).setCell (Nat.le_refl _) _
                      generalize (((w2.setCell ⟨w.heap.size, 0, none⟩ (.int .i64 0)).setCell ⟨w.heap.size, 1, none⟩ (.slice none 0 0)).setCell ⟨w.heap.size, 2, none⟩ (.string ⟨#[]⟩)) = w4 at *
                      obtain ⟨t0, t1, t2⟩ := blk_cells3 hw4
                      refine bodyPost_ret (v := .tuple #[.agg #[.int .i64 0, .slice none 0 0, .string ⟨#[]⟩], .int .i64 0, .int .i64 13]) (by simp [results, Tryz.results22, go_sem, t0, t1, t2]) rfl ?_
                      rw [HRES.out]
                      exact ⟨hbl, rfl⟩
                  · have d49 : decide (a0 < 49) = true := by simp; omega
                    have HRES := Lib.hid (show R = .error 13 from by rw [HR7.out, if_neg (fun h => h49 h.1)])
                    clear HR7
                    go_enter Tryz.func22, Tryz.ntmps22
                    go_wp2_with fail
                    rw [← hw0]
                    clear hw0
                    refine (hln _).mono ?_
                    rintro e w1 ⟨rfl, rfl⟩
                    go_wp2_with (first | (go_at_call 43; refine (hwd _).mono ?_; rintro e w2 ⟨rfl, hb2⟩; have HA2 := Lib.hid (show RespAt w.heap.size 0 (.slice none 0 0) ⟨#[]⟩ w2 from (hb2.block _ HZ0.out).trans HA0.out); obtain ⟨r0, r1, r2⟩ := blk_cells3 HA2.out; have f0 : ∀ i, w2.frozen? ⟨w.heap.size, i, none⟩ = false := (fun i => blk_frozen HA2.out i)) | (go_at_call 47; with_reducible refine (hd0 _).mono ?_; rintro e w3 ⟨rfl, rfl⟩) | (go_at_call 47; with_reducible refine (hd1 _).mono ?_; rintro e w3 ⟨rfl, rfl⟩) | (go_at_call 47; with_reducible refine (hd2 _).mono ?_; rintro e w3 ⟨rfl, rfl⟩))
                    have HB2 := Lib.hid (show Below w.heap.size w w2 from below_via hb2 HB0.out)
                    have hw4 := blk_set3 HA2.out (.int .i64 0) (.slice none 0 0) (.string ⟨#[]⟩)
                    have hbl : Below w.heap.size w (((w2.setCell ⟨w.heap.size, 0, none⟩ (.int .i64 0)).setCell ⟨w.heap.size, 1, none⟩ (.slice none 0 0)).setCell ⟨w.heap.size, 2, none⟩ (.string ⟨#[]⟩)) := ((HB2.out.setCell (Nat.le_refl _) _).setCell (Nat.le_refl _) _).setCell (Nat.le_refl _) _
                    generalize (((w2.setCell ⟨w.heap.size, 0, none⟩ (.int .i64 0)).setCell ⟨w.heap.size, 1, none⟩ (.slice none 0 0)).setCell ⟨w.heap.size, 2, none⟩ (.string ⟨#[]⟩)) = w4 at *
                    obtain ⟨t0, t1, t2⟩ := blk_cells3 hw4
                    refine bodyPost_ret (v := .tuple #[.agg #[.int .i64 0, .slice none 0 0, .string ⟨#[]⟩], .int .i64 0, .int .i64 13]) (by simp [results, Tryz.results22, go_sem, t0, t1, t2]) rfl ?_
                    rw [HRES.out]
                    exact ⟨hbl, rfl⟩
          · have dsz : ((x1.size : Int) == 3) = false := by rw [beq_eq_false_iff_ne]; omega
            have dszn : ((x1.size : Int) != 3) = true := by simp; omega
            have HRES := Lib.hid (show R = .error 13 from by rw [HR5.out, if_neg (by unfold threeB; simp [hsz])])
            clear HR5 hsz
            go_enter Tryz.func22, Tryz.ntmps22
            go_wp2_with fail
            rw [← hw0]
            clear hw0
            refine (hln _).mono ?_
            rintro e w1 ⟨rfl, rfl⟩
            go_wp2_with (first | (go_at_call 43; refine (hwd _).mono ?_; rintro e w2 ⟨rfl, hb2⟩; have HA2 := Lib.hid (show RespAt w.heap.size 0 (.slice none 0 0) ⟨#[]⟩ w2 from (hb2.block _ HZ0.out).trans HA0.out); obtain ⟨r0, r1, r2⟩ := blk_cells3 HA2.out; have f0 : ∀ i, w2.frozen? ⟨w.heap.size, i, none⟩ = false := (fun i => blk_frozen HA2.out i)))
            have HB2 := Lib.hid (show Below w.heap.size w w2 from below_via hb2 HB0.out)
            have hw4 := blk_set3 HA2.out (.int .i64 0) (.slice none 0 0) (.string ⟨#[]⟩)
            have hbl : Below w.heap.size w (((w2.setCell ⟨w.heap.size, 0, none⟩ (.int .i64 0)).setCell ⟨w.heap.size, 1, none⟩ (.slice none 0 0)).setCell ⟨w.heap.size, 2, none⟩ (.string ⟨#[]⟩)) := ((HB2.out.setCell (Nat.le_refl _) _).setCell (Nat.le_refl _) _).setCell (Nat.le_refl _) _
            generalize (((w2.setCell ⟨w.heap.size, 0, none⟩ (.int .i64 0)).setCell ⟨w.heap.size, 1, none⟩ (.slice none 0 0)).setCell ⟨w.heap.size, 2, none⟩ (.string ⟨#[]⟩)) = w4 at *
            obtain ⟨t0, t1, t2⟩ := blk_cells3 hw4
            refine bodyPost_ret (v := .tuple #[.agg #[.int .i64 0, .slice none 0 0, .string ⟨#[]⟩], .int .i64 0, .int .i64 13]) (by simp [results, Tryz.results22, go_sem, t0, t1, t2]) rfl ?_
            rw [HRES.out]
            exact ⟨hbl, rfl⟩
        · rw [decide_eq_false hx0] at heq
          have heqn : (x0.toList != [72, 84, 84, 80, 47, 49, 46, 49]) = true := by rw [bne, heq]; rfl
          have HRES := Lib.hid (show R = .error 13 from by rw [HR2.out, if_neg (fun h => hx0 h.1)])
          clear HR2 hx0
          go_enter Tryz.func22, Tryz.ntmps22
          go_wp2_with fail
          rw [← hw0]
          clear hw0
          refine (hln _).mono ?_
          rintro e w1 ⟨rfl, rfl⟩
          go_wp2_with (first | (go_at_call 43; refine (hwd _).mono ?_; rintro e w2 ⟨rfl, hb2⟩; have HA2 := Lib.hid (show RespAt w.heap.size 0 (.slice none 0 0) ⟨#[]⟩ w2 from (hb2.block _ HZ0.out).trans HA0.out); obtain ⟨r0, r1, r2⟩ := blk_cells3 HA2.out; have f0 : ∀ i, w2.frozen? ⟨w.heap.size, i, none⟩ = false := (fun i => blk_frozen HA2.out i)))
          have HB2 := Lib.hid (show Below w.heap.size w w2 from below_via hb2 HB0.out)
          have hw4 := blk_set3 HA2.out (.int .i64 0) (.slice none 0 0) (.string ⟨#[]⟩)
          have hbl : Below w.heap.size w (((w2.setCell ⟨w.heap.size, 0, none⟩ (.int .i64 0)).setCell ⟨w.heap.size, 1, none⟩ (.slice none 0 0)).setCell ⟨w.heap.size, 2, none⟩ (.string ⟨#[]⟩)) := ((HB2.out.setCell (Nat.le_refl _) _).setCell (Nat.le_refl _) _).setCell (Nat.le_refl _) _
          generalize (((w2.setCell ⟨w.heap.size, 0, none⟩ (.int .i64 0)).setCell ⟨w.heap.size, 1, none⟩ (.slice none 0 0)).setCell ⟨w.heap.size, 2, none⟩ (.string ⟨#[]⟩)) = w4 at *
          obtain ⟨t0, t1, t2⟩ := blk_cells3 hw4
          refine bodyPost_ret (v := .tuple #[.agg #[.int .i64 0, .slice none 0 0, .string ⟨#[]⟩], .int .i64 0, .int .i64 13]) (by simp [results, Tryz.results22, go_sem, t0, t1, t2]) rfl ?_
          rw [HRES.out]
          exact ⟨hbl, rfl⟩
      · have HRES := Lib.hid (show R = .error 13 from by rw [HR1.out, hw2])
        rw [hw1] at hwd
        clear HR1 hw1 hw2 hwz
        go_enter Tryz.func22, Tryz.ntmps22
        go_wp2_with fail
        rw [← hw0]
        clear hw0
        refine (hln _).mono ?_
        rintro e w1 ⟨rfl, rfl⟩
        go_wp2_with (first | (go_at_call 43; refine (hwd _).mono ?_; rintro e w2 ⟨rfl, hb2⟩; have HA2 := Lib.hid (show RespAt w.heap.size 0 (.slice none 0 0) ⟨#[]⟩ w2 from (hb2.block _ HZ0.out).trans HA0.out); obtain ⟨r0, r1, r2⟩ := blk_cells3 HA2.out; have f0 : ∀ i, w2.frozen? ⟨w.heap.size, i, none⟩ = false := (fun i => blk_frozen HA2.out i)))
        have HB2 := Lib.hid (show Below w.heap.size w w2 from below_via hb2 HB0.out)
        have hw4 := blk_set3 HA2.out (.int .i64 0) (.slice none 0 0) (.string ⟨#[]⟩)
        have hbl : Below w.heap.size w (((w2.setCell ⟨w.heap.size, 0, none⟩ (.int .i64 0)).setCell ⟨w.heap.size, 1, none⟩ (.slice none 0 0)).setCell ⟨w.heap.size, 2, none⟩ (.string ⟨#[]⟩)) := ((HB2.out.setCell (Nat.le_refl _) _).setCell (Nat.le_refl _) _).setCell (Nat.le_refl _) _
        generalize (((w2.setCell ⟨w.heap.size, 0, none⟩ (.int .i64 0)).setCell ⟨w.heap.size, 1, none⟩ (.slice none 0 0)).setCell ⟨w.heap.size, 2, none⟩ (.string ⟨#[]⟩)) = w4 at *
        obtain ⟨t0, t1, t2⟩ := blk_cells3 hw4
        refine bodyPost_ret (v := .tuple #[.agg #[.int .i64 0, .slice none 0 0, .string ⟨#[]⟩], .int .i64 0, .int .i64 13]) (by simp [results, Tryz.results22, go_sem, t0, t1, t2]) rfl ?_
        rw [HRES.out]
        exact ⟨hbl, rfl⟩
  · rw [if_neg hm] at hR
    have HRES := Lib.hid hR.symm
    clear hR
    by_cases hm0 : most < 0
    · have dm0 : decide (most < 0) = true := by simpa using hm0
      clear hm
      go_enter Tryz.func22, Tryz.ntmps22
      go_wp2_with fail
      rw [← hw0]
      clear hw0
      obtain ⟨t0, t1, t2⟩ := blk_cells3 HA0.out
      refine bodyPost_ret (v := .tuple #[.agg #[.int .i64 0, .slice none 0 0, .string ⟨#[]⟩], .int .i64 0, .int .i64 2]) (by simp [results, Tryz.results22, go_sem, t0, t1, t2]) rfl ?_
      rw [HRES.out]
      exact ⟨HB0.out, rfl⟩
    · have dm0 : decide (most < 0) = false := by simpa using hm0
      have dm1 : decide (65536 < most) = true := by simp; omega
      clear hm
      go_enter Tryz.func22, Tryz.ntmps22
      go_wp2_with fail
      rw [← hw0]
      clear hw0
      obtain ⟨t0, t1, t2⟩ := blk_cells3 HA0.out
      refine bodyPost_ret (v := .tuple #[.agg #[.int .i64 0, .slice none 0 0, .string ⟨#[]⟩], .int .i64 0, .int .i64 2]) (by simp [results, Tryz.results22, go_sem, t0, t1, t2]) rfl ?_
      rw [HRES.out]
      exact ⟨HB0.out, rfl⟩
end
section
open Go.Sort Go.RowKit Go.Proofs Go.Proofs.YtjbehnalmgcbpaaGreatDoorW.PrintWords Go.Proofs.YtjbehnalmgcbpaaGreatDoor.Bs Go.Proofs.YtjbehnalmgcbpaaGreatDoor.Ir Go.Proofs.YtjbehnalmgcbpaaGreatDoor.Gn

theorem findH_cons (h : Head) (l : List Head) (name : ByteArray) : findH (h :: l) name = if calledB name h.name = true then .tuple #[.string h.value, .bool true] else findH l name := by
  unfold findH calledH
  rw [List.find?_cons]
  cases calledB name h.name <;> simp
set_option maxRecDepth 100000 in
set_option maxHeartbeats 8000000 in
theorem rfind_any (A : Option Addr) (c : Nat) (l : List Head) (name : ByteArray) (w : World) (hl : l.length ≤ 1073741824) (hC : Kd.C kH w A l.length l) (hok : ∀ h ∈ l, HOk h) (hm : name.size ≤ 1073741824) :
    Calls Tryz.prog 23 #[.slice A l.length c, .string name] w fun e w' => e = .returned (findH l name) ∧ Below w.heap.size w w' := by
  have HC := Lib.hid hC
  have HO := Lib.hid hok
  have hlown := fun W => low_any name W hm
  clear hC hok
  obtain ⟨R, hR⟩ : ∃ R, findH l name = R := ⟨_, rfl⟩
  rw [hR]
  have HR := Lib.hid hR
  clear hR
  go_enter Tryz.func23, Tryz.ntmps23
  go_wp2_with fail
  go_loopw [10] (fun vi wr => ∃ k : Nat, vi = .int .i64 k ∧ k ≤ l.length ∧ Hid (R = findH (l.drop k) name) ∧ Below w.heap.size w wr) (fun vi _ => l.length - (intOf vi).toNat)
  case atStart => exact ⟨0, rfl, by omega, Lib.hid HR.out.symm, Below.refl _ _⟩
  case round =>
    obtain ⟨k, rfl, hk, hI, hb⟩ := hrel
    by_cases hlt : k < l.length
    · obtain ⟨ad, rfl, x0, x1⟩ := at_H (Kd.C_below HC.out hb) k hlt
      have hx : l.getD k zH = l[k] := by simp [List.getElem?_eq_getElem hlt]
      rw [hx] at x0 x1
      obtain ⟨hn, hv⟩ := HO.out l[k] (List.getElem_mem hlt)
      have hlow := fun W => low_any l[k].name W hn
      have HS := Lib.hid (show R = if calledB name l[k].name = true then .tuple #[.string l[k].value, .bool true] else findH (l.drop (k + 1)) name from by
        rw [hI.out, ← List.getElem_cons_drop hlt, findH_cons])
      have hcb : ((smallB l[k].name).toList == (smallB name).toList) = calledB name l[k].name := rfl
      clear hx hI
      generalize calledB name l[k].name = b at *
      generalize l[k] = H at *
      obtain ⟨nm, vl⟩ := H
      dsimp only at x0 x1 hn hv HS hlow hcb
      generalize smallB nm = sn at *
      generalize smallB name = sm at *
      cases b with
      | true =>
        have HRES := Lib.hid (show R = .tuple #[.string vl, .bool true] from by rw [HS.out, if_pos rfl])
        clear HS
        go_wp2_with (first | (go_at_call 48; with_reducible refine (hlow _).mono ?_; rintro e w1 ⟨rfl, hb1⟩; obtain ⟨hbc1, hbf1⟩ := bcell hb1; have hz1 : wr.heap.size < w1.heap.size := (by have := hb1.size; simp at this; omega)) | (go_at_call 48; with_reducible refine (hlown _).mono ?_; rintro e w2 ⟨rfl, hb2⟩; obtain ⟨hbc2, hbf2⟩ := bcell hb2; have hz2 : wr.heap.size < w2.heap.size := (by have := hb2.size; omega)))
        go_ret2
        rw [HRES.out]
        exact ⟨rfl, (by repeat (first | assumption | exact Below.refl _ _ | apply below_drew | apply pw_below_drewN | apply below_alloc | (refine below_via (by assumption) ?_)))⟩
      | false =>
        have HI2 := Lib.hid (show R = findH (l.drop (k + 1)) name from by rw [HS.out, if_neg (by simp)])
        clear HS
        go_wp2_with (first | (go_at_call 48; with_reducible refine (hlow _).mono ?_; rintro e w1 ⟨rfl, hb1⟩; obtain ⟨hbc1, hbf1⟩ := bcell hb1; have hz1 : wr.heap.size < w1.heap.size := (by have := hb1.size; simp at this; omega)) | (go_at_call 48; with_reducible refine (hlown _).mono ?_; rintro e w2 ⟨rfl, hb2⟩; obtain ⟨hbc2, hbf2⟩ := bcell hb2; have hz2 : wr.heap.size < w2.heap.size := (by have := hb2.size; omega)))
        go_roundw
        case rel => exact ⟨k + 1, (by rw [Int.natCast_add]; rfl), by omega, HI2, (by repeat (first | assumption | exact Below.refl _ _ | apply below_drew | apply pw_below_drewN | apply below_alloc | (refine below_via (by assumption) ?_)))⟩
        case measure => show l.length - ((k : Int) + 1).toNat < l.length - ((k : Int)).toNat; omega
    · have HRES := Lib.hid (show R = .tuple #[.string ⟨#[]⟩, .bool false] from by
        rw [hI.out, List.drop_of_length_le (by omega)]
        rfl)
      go_wp2_with fail
      go_ret2
      rw [HRES.out]
      exact ⟨rfl, (by repeat (first | assumption | exact Below.refl _ _ | apply below_drew | apply pw_below_drewN | apply below_alloc | (refine below_via (by assumption) ?_)))⟩
end
section
open Go.Sort Go.RowKit Go.Proofs Go.Proofs.YtjbehnalmgcbpaaGreatDoorW.PrintWords Go.Proofs.YtjbehnalmgcbpaaGreatDoor.Bs Go.Proofs.YtjbehnalmgcbpaaGreatDoor.Ir Go.Proofs.YtjbehnalmgcbpaaGreatDoor.Gn

/-- What ReadRequest answers, in one form. -/
theorem req_uni (s : ByteArray) (most : Int) (hs : s.size ≤ 1073741824) : ∃ (m t b : ByteArray) (l : List Head) (n y : Int), l.length ≤ 1073741824 ∧ ∀ w e w', ReqPost w (reqP s most) e w' →
    ∃ A c, e = .returned (.tuple #[.agg #[.string m, .string t, .slice A l.length c, .string b], .int .i64 n, .int .i64 y]) ∧ Hid (Kd.C kH w' A l.length l) ∧ Below w.heap.size w w' := by
  cases h : reqP s most with
  | error y => exact ⟨⟨#[]⟩, ⟨#[]⟩, ⟨#[]⟩, [], 0, y, by simp, fun w e w' hp => ⟨none, 0, hp.2, Lib.hid (Kd.C_nil kH w'), hp.1⟩⟩
  | ok r =>
    obtain ⟨hn, hok, hln⟩ := readP_ok hs h
    refine ⟨r.got.1, r.got.2, r.body, r.heads, r.n, 0, by omega, fun w e w' hp => ?_⟩
    obtain ⟨hb, A, c, he, hC⟩ := hp
    exact ⟨A, c, he, Lib.hid hC, hb⟩
theorem resp_uni (s : ByteArray) (most : Int) (hs : s.size ≤ 1073741824) : ∃ (k : Int) (b : ByteArray) (l : List Head) (n y : Int), l.length ≤ 1073741824 ∧ ∀ w e w', RespPost w (respP s most) e w' →
    ∃ A c, e = .returned (.tuple #[.agg #[.int .i64 k, .slice A l.length c, .string b], .int .i64 n, .int .i64 y]) ∧ Hid (Kd.C kH w' A l.length l) ∧ Below w.heap.size w w' := by
  cases h : respP s most with
  | error y => exact ⟨0, ⟨#[]⟩, [], 0, y, by simp, fun w e w' hp => ⟨none, 0, hp.2, Lib.hid (Kd.C_nil kH w'), hp.1⟩⟩
  | ok r =>
    obtain ⟨hn, hok, hln⟩ := readP_ok hs h
    refine ⟨r.got, r.body, r.heads, r.n, 0, by omega, fun w e w' hp => ?_⟩
    obtain ⟨hb, A, c, he, hC⟩ := hp
    exact ⟨A, c, he, Lib.hid hC, hb⟩
theorem find_form (l : List Head) (name : ByteArray) : ∃ v b, findH l name = .tuple #[.string v, .bool b] := by
  unfold findH
  cases l.find? (calledH name) with
  | none => exact ⟨_, _, rfl⟩
  | some h => exact ⟨_, _, rfl⟩
set_option maxRecDepth 100000 in
set_option maxHeartbeats 8000000 in
theorem httpReads_any (s : ByteArray) (most : Int) (A : Option Addr) (c : Nat) (l : List Head) (name : ByteArray) (w : World) (G : Gnd w)
    (zs : s.size ≤ 1048576) (zl : l.length ≤ 1048576) (zn : name.size ≤ 1048576) (hC : Kd.C kH w A l.length l) (hok : ∀ y ∈ l, y.name.size ≤ 1048576 ∧ y.value.size ≤ 1048576) :
    Calls Tryz.prog 8 #[.string s, .int .i64 most, .slice A l.length c, .string name] w fun e w' => e = .returned (.bool true) ∧ Below w.heap.size w w' := by
  have hlv := fun W (hb : Below w.heap.size w W) => lives_any W (G.below hb)
  have hokH : ∀ h ∈ l, HOk h := fun y hy => ⟨by have := (hok y hy).1; omega, by have := (hok y hy).2; omega⟩
  obtain ⟨m, t, b, l1, n1, y1, z1, hq⟩ := req_uni s most (by omega)
  obtain ⟨k, b', l2, n2, y2, z2, hp⟩ := resp_uni s most (by omega)
  have c1 := fun W (hb : Below w.heap.size w W) => (readRequest_any s most W (G.below hb) (G.below hb).low (by omega)).mono (fun {e w'} h => hq W e w' h)
  have c2 := fun W => (rreadRequest_any s most W (by omega)).mono (fun {e w'} h => hq W e w' h)
  have c3 := fun W (hb : Below w.heap.size w W) => (readResponse_any s most W (G.below hb) (G.below hb).low (by omega)).mono (fun {e w'} h => hp W e w' h)
  have c4 := fun W => (rreadResponse_any s most W (by omega)).mono (fun {e w'} h => hp W e w' h)
  have c5 := fun W (hb : Below w.heap.size w W) => find_any A c l name W (by omega) (Kd.C_below hC hb) hokH (by omega)
  have c6 := fun W (hb : Below w.heap.size w W) => rfind_any A c l name W (by omega) (Kd.C_below hC hb) hokH (by omega)
  obtain ⟨fv, fb, hfe⟩ := find_form l name
  rw [hfe] at c5 c6
  have hse := str_eq fv fv
  rw [decide_eq_true rfl] at hse
  have hs1 := fun A0 A1 c0 c1 W h0 h1 => sameRequest_any m t b m t b A0 A1 c0 c1 l1 l1 W h0 h1 z1 z1
  rw [decide_eq_true (show m = m ∧ t = t ∧ l1 = l1 ∧ b = b from ⟨rfl, rfl, rfl, rfl⟩)] at hs1
  have hs2 := fun A0 A1 c0 c1 W h0 h1 => sameResponse_any k k b' b' A0 A1 c0 c1 l2 l2 W h0 h1 z2 z2
  rw [decide_eq_true (show k = k ∧ l2 = l2 ∧ b' = b' from ⟨rfl, rfl, rfl⟩)] at hs2
  clear G hC hok hokH hq hp hfe
  go_enter Tryz.func8, Tryz.ntmps8
  go_wp2_with (first
    | (go_at_call 11; (with_reducible refine (c1 _ (by repeat (first | assumption | exact Below.refl _ _ | apply below_drew | apply pw_below_drewN | apply below_alloc | (refine below_via (by assumption) ?_)))).mono ?_); rintro e w1 ⟨A1, k1, rfl, hC1, hb1⟩)
    | (go_at_call 20; (with_reducible refine (c2 _).mono ?_); rintro e w2 ⟨A2, k2, rfl, hC2, hb2⟩; obtain ⟨hbc2, hbf2⟩ := bcell hb2; have hz21 : w1.heap.size < w2.heap.size := (by have := hb2.size; (try simp at this); omega))
    | (go_at_call 21; (with_reducible refine (c3 _ (by repeat (first | assumption | exact Below.refl _ _ | apply below_drew | apply pw_below_drewN | apply below_alloc | (refine below_via (by assumption) ?_)))).mono ?_); rintro e w3 ⟨A3, k3, rfl, hC3, hb3⟩; obtain ⟨hbc3, hbf3⟩ := bcell hb3; have hz31 : w1.heap.size < w3.heap.size := (by have := hb3.size; (try simp at this); omega); have hz32 : w2.heap.size < w3.heap.size := (by have := hb3.size; (try simp at this); omega))
    | (go_at_call 22; (with_reducible refine (c4 _).mono ?_); rintro e w4 ⟨A4, k4, rfl, hC4, hb4⟩; obtain ⟨hbc4, hbf4⟩ := bcell hb4; have hz41 : w1.heap.size < w4.heap.size := (by have := hb4.size; (try simp at this); omega); have hz42 : w2.heap.size < w4.heap.size := (by have := hb4.size; (try simp at this); omega); have hz43 : w3.heap.size < w4.heap.size := (by have := hb4.size; (try simp at this); omega))
    | (go_at_call 19; (with_reducible refine (c5 _ (by repeat (first | assumption | exact Below.refl _ _ | apply below_drew | apply pw_below_drewN | apply below_alloc | (refine below_via (by assumption) ?_)))).mono ?_); rintro e w5 ⟨rfl, hb5⟩; obtain ⟨hbc5, hbf5⟩ := bcell hb5; have hz51 : w1.heap.size < w5.heap.size := (by have := hb5.size; (try simp at this); omega); have hz52 : w2.heap.size < w5.heap.size := (by have := hb5.size; (try simp at this); omega); have hz53 : w3.heap.size < w5.heap.size := (by have := hb5.size; (try simp at this); omega); have hz54 : w4.heap.size < w5.heap.size := (by have := hb5.size; (try simp at this); omega))
    | (go_at_call 23; refine (c6 _ (by repeat (first | assumption | exact Below.refl _ _ | apply below_drew | apply pw_below_drewN | apply below_alloc | (refine below_via (by assumption) ?_)))).mono ?_; rintro e w6 ⟨rfl, hb6⟩; obtain ⟨hbc6, hbf6⟩ := bcell hb6; have hz61 : w1.heap.size < w6.heap.size := (by have := hb6.size; (try simp at this); omega); have hz62 : w2.heap.size < w6.heap.size := (by have := hb6.size; (try simp at this); omega); have hz63 : w3.heap.size < w6.heap.size := (by have := hb6.size; (try simp at this); omega); have hz64 : w4.heap.size < w6.heap.size := (by have := hb6.size; (try simp at this); omega))
    | (go_at_call 10; (with_reducible refine (hlv _ (by repeat (first | assumption | exact Below.refl _ _ | apply below_drew | apply pw_below_drewN | apply below_alloc | (refine below_via (by assumption) ?_)))).mono ?_); rintro e w7 ⟨rfl, hb7⟩; obtain ⟨hbc7, hbf7⟩ := bcell hb7; have hz71 : w1.heap.size < w7.heap.size := (by have := hb7.size; (try simp at this); omega); have hz72 : w2.heap.size < w7.heap.size := (by have := hb7.size; (try simp at this); omega); have hz73 : w3.heap.size < w7.heap.size := (by have := hb7.size; (try simp at this); omega); have hz74 : w4.heap.size < w7.heap.size := (by have := hb7.size; (try simp at this); omega))
    | (go_at_call 12; refine (hs1 _ _ _ _ _ (Kd.C_below hC1.out (by repeat (first | assumption | exact Below.refl _ _ | apply below_drew | apply pw_below_drewN | apply below_alloc | (refine below_via (by assumption) ?_)))) (Kd.C_below hC2.out (by repeat (first | assumption | exact Below.refl _ _ | apply below_drew | apply pw_below_drewN | apply below_alloc | (refine below_via (by assumption) ?_))))).mono ?_; rintro e w8 ⟨rfl, hb8⟩; obtain ⟨hbc8, hbf8⟩ := bcell hb8; have hz83 : w3.heap.size < w8.heap.size := (by have := hb8.size; (try simp at this); omega); have hz84 : w4.heap.size < w8.heap.size := (by have := hb8.size; (try simp at this); omega))
    | (go_at_call 24; refine (hs2 _ _ _ _ _ (Kd.C_below hC3.out (by repeat (first | assumption | exact Below.refl _ _ | apply below_drew | apply pw_below_drewN | apply below_alloc | (refine below_via (by assumption) ?_)))) (Kd.C_below hC4.out (by repeat (first | assumption | exact Below.refl _ _ | apply below_drew | apply pw_below_drewN | apply below_alloc | (refine below_via (by assumption) ?_))))).mono ?_; rintro e w9 ⟨rfl, hb9⟩))
  go_goals
  all_goals (go_ret; exact ⟨rfl, (by repeat (first | assumption | exact Below.refl _ _ | apply below_drew | apply pw_below_drewN | apply below_alloc | (refine below_via (by assumption) ?_)))⟩)
end
end Go.Proofs.YtjbehnalmgcbpaaGreatDoor.Ht
