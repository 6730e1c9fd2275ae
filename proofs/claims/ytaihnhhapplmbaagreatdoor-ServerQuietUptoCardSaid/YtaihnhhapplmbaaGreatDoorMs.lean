/- Package http: message. -/
import Derived.Test.YtaihnhhapplmbaaGreatDoorRi
import Derived.Test.YtaihnhhapplmbaaGreatDoorGn
import Derived.Test.YtaihnhhapplmbaaGreatDoorBd
set_option linter.unusedVariables false
set_option linter.unusedSimpArgs false
namespace Go.Proofs.YtaihnhhapplmbaaGreatDoor.Ht
open Go.Sort Go.RowKit Go.Proofs Go.Proofs.YtaihnhhapplmbaaGreatDoorW.PrintWords Go.Proofs.YtaihnhhapplmbaaGreatDoor.Bs Go.Proofs.YtaihnhhapplmbaaGreatDoor.Ir Go.Proofs.YtaihnhhapplmbaaGreatDoor.Gn

def lineL (h : Head) : List UInt8 := h.name.data.toList ++ [58, 32] ++ h.value.data.toList ++ [13, 10]
def allH (l : List Head) (body : ByteArray) : List Head := l ++ [⟨lenS, itoaB body.size⟩]
def messageL (first : ByteArray) (l : List Head) (body : ByteArray) : List UInt8 := first.data.toList ++ [13, 10] ++ (allH l body).flatMap lineL ++ ([13, 10] ++ body.data.toList)
def messageB (first : ByteArray) (l : List Head) (body : ByteArray) : ByteArray := ⟨(messageL first l body).toArray⟩

theorem builder_move {B b : Nat} {bs : List Value} {w w' : World} (h : Lib.IsBuilder 115 5 B b bs w) (hm : ∀ k, k < w.heap.size → w'.heap[k]? = w.heap[k]?) : Lib.IsBuilder 115 5 B b bs w' := by
  have key : ∀ p, Lib.BuilderAt 115 5 B b p bs w → Lib.BuilderAt 115 5 B b p bs w' := by
    rintro p ⟨hB, v, hb, ho, hne⟩
    exact ⟨hB, v, (hm b (blk_lt hb)).trans hb, own_move ho (fun k hk => hm k (own_lt ho k hk)), hne⟩
  exact h.imp (key _) (key _)
theorem builder_block {B b : Nat} {bs : List Value} {w : World} (h : Lib.IsBuilder 115 5 B b bs w) : ∃ cs, w.heap[b]? = some (.cells cs 115 (0, 0)) := by
  rcases h with ⟨_, v, hb, _⟩ | ⟨_, v, hb, _⟩ <;> exact ⟨_, hb⟩
theorem heads_ne : (∀ q, q ∈ 82 :: kH.E → q ≠ 115) ∧ (∀ q, q ∈ 82 :: kH.E → q ≠ 5) := by
  have : kH.E = [] := rfl
  rw [this]
  constructor <;> intro q hq <;> rw [List.mem_singleton.1 hq] <;> decide
def preL (first : ByteArray) : List UInt8 := first.data.toList ++ [13, 10]
theorem take_flat (L : List Head) (k : Nat) (hk : k < L.length) : (L.take (k + 1)).flatMap lineL = (L.take k).flatMap lineL ++ lineL L[k] := by
  rw [List.take_succ_eq_append_getElem hk, List.flatMap_append]
  simp
theorem lineL_length (h : Head) (hok : HOk h) : (lineL h).length ≤ 2147483652 := by
  obtain ⟨h1, h2⟩ := hok
  have e1 : h.name.data.toList.length = h.name.size := rfl
  have e2 : h.value.data.toList.length = h.value.size := rfl
  simp only [lineL, List.length_append, e1, e2, List.length_cons, List.length_nil]
  omega
theorem flat_length (L : List Head) (hok : ∀ h ∈ L, HOk h) : (L.flatMap lineL).length ≤ L.length * 2147483652 := by
  induction L with
  | nil => simp
  | cons x L ih =>
    have := ih (fun h hh => hok h (List.mem_cons_of_mem _ hh))
    have := lineL_length x (hok x List.mem_cons_self)
    simp only [List.flatMap_cons, List.length_append, List.length_cons]
    omega
theorem itoaB_size (n : Nat) (h : n ≤ 65536) : (itoaB n).size ≤ 21 := by
  have := Lib.itoa_length_le (n : Int) (by omega) (by omega)
  simpa [itoaB, ByteArray.size] using this

set_option maxRecDepth 100000 in
set_option maxHeartbeats 4000000 in
theorem message_any (first : ByteArray) (A : Option Addr) (c : Nat) (l : List Head) (body : ByteArray) (w : World) (G : Gnd w) (hf : first.size ≤ 1073741824) (hl : l.length ≤ 64) (hC : Kd.C kH w A l.length l) (hok : ∀ h ∈ l, HOk h) (hb : body.size ≤ 65536) :
    Calls Tryz.prog 27 #[.string first, .slice A l.length c, .string body] w fun e w' => e = .returned (.string (messageB first l body)) ∧ Below w.heap.size w w' := by
  have HC := Lib.hid hC
  have HO := Lib.hid hok
  have HG := Lib.hid G
  clear hC hok G
  have n1 : ¬ 9223372036854775807 < first.size + 2 := by omega
  have n2 : ¬ 9223372036854775807 < 2 + body.size := by omega
  have hB0 := Lib.fresh_isBuilder 115 5 w
  obtain ⟨i0, hi, hz0, hz1, hz2⟩ := info_parts inH
  go_enter Tryz.func27, Tryz.ntmps27
  go_wp2_with (go_at_call 56; refine (Bd.WriteString w.heap.size w.heap.size [] _ _ hB0 ?_ ?_).mono ?_)
  · have e : (first ++ (⟨#[13, 10]⟩ : ByteArray)).size = first.size + 2 := ByteArray.size_append
    rw [e]
    simp
    omega
  · simp
  rintro e w1 ⟨rfl, hB1, hb1, hk1⟩
  have hbw1 : Below w.heap.size w w1 := (below_alloc (Below.refl _ _) _).trans hb1
  go_wp2_with (go_at_call 57; refine (clone_H A c l w1 (by omega) (Kd.C_below HC.out hbw1)).mono ?_)
  rintro e w2 ⟨v, rfl, hR, hb2⟩
  go_wp2_with (go_at_call 34; refine (itoa_any _ (by omega) (by omega) w2 (HG.out.below (hbw1.trans (hb2.mono hbw1.size)))).mono ?_)
  rintro e w3 ⟨rfl, hb3⟩
  have hR3 := Kd.R_below hR hb3
  have hb23 : Below w1.heap.size w1 w3 := below_via hb3 hb2
  obtain ⟨_, inner, hown, hreps⟩ := hR3
  go_wp2_with (at_builtin; refine wpList_append_own _ rfl (.tmp 14) (.tmp 19) 49 rfl w1.heap.size 82 i0 (.agg #[.string ⟨#[]⟩, .string ⟨#[]⟩]) 2 32 Tu_heads hi hz0 hz1 hz2 rfl (by decide) _ l.length inner rfl (hown.alloc _) ⟨w3.heap.size, 0, none⟩ 1 1 [.string lenS, .string (itoaB body.size)] rfl rfl ?c1 ?c2 ?c3 ?c4 ?c5 ?_)
  case c1 =>
    intro j u hj
    rw [add_plain]
    exact cell_new _ _ _ j u (by simpa [lenS] using hj)
  case c2 =>
    intro u hu
    simp only [List.mem_cons, List.not_mem_nil, or_false] at hu
    rcases hu with rfl | rfl <;> rfl
  case c3 => unfold maxLen; omega
  case c4 => omega
  case c5 => have := hb23.size; simp; omega
  intro v' w5 hown5 hg5 _
  have hbel5 : Below w1.heap.size w1 w5 := (below_alloc hb23 _).grown hg5 (by have := hb23.size; simp; omega) (fun k hk => (hown.lt k hk).1)
  have HB5 := Lib.hid (builder_move (Or.inr hB1) (fun k hk => hbel5.block k hk))
  have hR5 : Kd.R kH 82 w5 w1.heap.size (fun _ => True) v' (allH l body) := ⟨fun _ _ => trivial, _, by rw [show (allH l body).length = l.length + 1 from by simp [allH]]; exact hown5, Reps.snoc (Reps.imp_ hreps (fun _ _ h => h)) (kH_mkM _ _ _ ⟨lenS, itoaB body.size⟩) rfl⟩
  obtain ⟨av, cv, rfl⟩ := own_slice hown5
  obtain ⟨m, hm⟩ : ∃ m, m = l.length + 1 := ⟨_, rfl⟩
  rw [← hm] at hR5 ⊢
  have hLl : (allH l body).length = m := by simp [allH, hm]
  have hm65 : m ≤ 65 := by omega
  clear hm
  have HLL := Lib.hid hLl
  clear hLl
  have HLok := Lib.hid (show ∀ h ∈ allH l body, HOk h from fun h hh => by
    rcases List.mem_append.1 hh with hh | hh
    · exact HO.out h hh
    · rw [List.mem_singleton.1 hh]
      exact ⟨(by decide : lenS.size ≤ 1073741824), by have := itoaB_size body.size hb; show (itoaB body.size).size ≤ _; omega⟩)
  have HR5 := Lib.hid hR5
  have HW5 := Lib.hid (below_via (hbel5 : Below w1.heap.size w1 w5) hbw1)
  have hw15 := hbel5.size
  clear hR5 hbel5 hown5 hg5 hown hreps hb23 hb2 hb3 hB1 hk1 hb1 hB0 hi hz0 hz1 hz2
  go_wp2_with fail
  go_loopw [22] (fun i wr => ∃ k : Nat, k ≤ (allH l body).length ∧ i = .int .i64 k ∧ Hid (Lib.IsBuilder 115 5 w.heap.size w.heap.size (Lib.byteCells (preL first ++ ((allH l body).take k).flatMap lineL)) wr) ∧ Hid (Kd.R kH 82 wr w1.heap.size (fun _ => True) (.slice av m cv) (allH l body)) ∧ w1.heap.size ≤ wr.heap.size ∧ Below w.heap.size w wr) (fun i _ => m - (intOf i).toNat)
  case atStart => exact ⟨0, Nat.zero_le _, rfl, Lib.hid (by have := HB5.out; simpa [preL, Lib.strCells, Lib.byteCells] using this), HR5, hw15, HW5.out⟩
  case round =>
    obtain ⟨k, hk, rfl, hbd, hrr, hsz, hbw⟩ := hrel
    have hkm : k ≤ m := by have := HLL.out; omega
    by_cases hlt : k < m
    · obtain ⟨-, -, hCr⟩ := Kd.R_reads' hrr.out
      obtain ⟨ad, rfl, h0, h1⟩ := at_H hCr k (by have := HLL.out; omega)
      have hk' : k < (allH l body).length := by have := HLL.out; omega
      have hx : (allH l body).getD k zH = (allH l body)[k] := by simp [List.getElem?_eq_getElem hk']
      rw [hx] at h0 h1
      have HX := Lib.hid (HLok.out _ (List.getElem_mem hk'))
      obtain ⟨⟨n, v⟩, hxx⟩ : ∃ x, x = (allH l body)[k] := ⟨_, rfl⟩
      rw [← hxx] at h0 h1 HX
      obtain ⟨hn1, hv1⟩ := HX.out
      dsimp only at h0 h1 hn1 hv1
      have HXX := Lib.hid hxx
      clear hxx hx hCr HX
      have hBA := builder_move (w' := wr.alloc (.cells #[.string n, .string v] 82)) hbd.out (fun j hj => Below.heap_alloc _ _ _ hj)
      have HFL := Lib.hid (show (((allH l body).take k).flatMap lineL).length ≤ 139586437380 from by
        have h1 := flat_length ((allH l body).take k) (fun h hh => HLok.out h (List.mem_of_mem_take hh))
        have h2 : ((allH l body).take k).length ≤ 65 := by rw [List.length_take]; have := HLL.out; omega
        exact Nat.le_trans h1 (Nat.le_trans (Nat.mul_le_mul_right _ h2) (by decide)))
      go_wp2_with (go_at_call 56; refine (Bd.WriteString w.heap.size w.heap.size _ _ _ hBA ?_ ?_).mono ?_)
      · have hfl := HFL.out
        rw [Lib.byteCells_length]
        simp only [ByteArray.size_append, List.length_append, preL]
        have : first.data.toList.length = first.size := rfl
        have h2 : (⟨#[13, 10]⟩ : ByteArray).size = 2 := rfl
        have h3 : (⟨#[58, 32]⟩ : ByteArray).size = 2 := rfl
        simp only [List.length_cons, List.length_nil, this, h2, h3]
        omega
      · simp
        have := hbw.size
        omega
      rintro e w2 ⟨rfl, hB2, hbl2, hok2⟩
      obtain ⟨cs, hblk⟩ := builder_block hBA
      have HR2 := Lib.hid (Bd.R_others (Kd.R_alloc hrr.out _) hok2 hblk heads_ne.1 heads_ne.2)
      have HB2 := Lib.hid hB2
      have hz2 : wr.heap.size < w2.heap.size := by have := hbl2.size; simp at this; omega
      have hbw2 : Below w.heap.size w w2 := (below_alloc hbw _).trans hbl2
      clear hBA hblk hB2 hok2 hbl2
      go_wp2_with fail
      go_roundw
      case rel =>
        refine ⟨k + 1, hk', by go_num, Lib.hid ?_, HR2, by omega, hbw2⟩
        have hB2 := HB2.out
        rw [take_flat _ _ hk', ← HXX.out, ← List.append_assoc, Lib.byteCells_append]
        refine Or.inr ?_
        simpa [lineL, Lib.strCells, Lib.byteCells] using hB2
      case measure => simp [intOf]; omega
    · obtain rfl : k = m := by omega
      have HFL := Lib.hid (show ((allH l body).flatMap lineL).length ≤ 139586437380 from by
        have h1 := flat_length (allH l body) HLok.out
        exact Nat.le_trans h1 (Nat.le_trans (Nat.mul_le_mul_right _ (show _ ≤ 65 by have := HLL.out; omega)) (by decide)))
      have hbd' := hbd.out
      rw [List.take_of_length_le (by have := HLL.out; omega)] at hbd'
      go_wp2_with (go_at_call 56; refine (Bd.WriteString w.heap.size w.heap.size _ _ _ hbd' ?_ ?_).mono ?_)
      · have hfl := HFL.out
        rw [Lib.byteCells_length]
        simp only [ByteArray.size_append, List.length_append, preL]
        have : first.data.toList.length = first.size := rfl
        have h2 : (⟨#[13, 10]⟩ : ByteArray).size = 2 := rfl
        simp only [List.length_cons, List.length_nil, this, h2]
        omega
      · have := hbw.size
        omega
      rintro e w2 ⟨rfl, hB2, hbl2, _⟩
      have hB3 : Lib.IsBuilder 115 5 w.heap.size w.heap.size (Lib.byteCells (messageL first l body)) w2 := by
        refine Or.inr ?_
        simpa [preL, messageL, Lib.strCells, Lib.byteCells] using hB2
      have hbw2 : Below w.heap.size w w2 := hbw.trans hbl2
      clear hB2 hbl2 hbd'
      go_wp2_with (go_at_call 58; refine (Go.Proofs.Tryz.Builder_String_any w.heap.size w.heap.size _ _ hB3 ?_).mono ?_)
      · have := hbw2.size
        omega
      rintro e w3 ⟨rfl, hb3⟩
      go_wp2_with fail
      go_ret
      exact ⟨rfl, hbw2.trans hb3⟩
end Go.Proofs.YtaihnhhapplmbaaGreatDoor.Ht
