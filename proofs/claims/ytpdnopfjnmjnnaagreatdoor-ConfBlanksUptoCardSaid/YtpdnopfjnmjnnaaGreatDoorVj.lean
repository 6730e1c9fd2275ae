/- strings.Replacer: build; strings.Replacer: Replace of a text that stays; NewReplacer; conf.shown; Package conf: shown. -/
import Derived.Test.YtpdnopfjnmjnnaaGreatDoorVf
import Derived.Test.YtpdnopfjnmjnnaaGreatDoorNv
set_option linter.unusedVariables false
set_option linter.unusedSimpArgs false
namespace Go.Proofs.YtpdnopfjnmjnnaaGreatDoor.Cn
section
open Go.Sort Go.RowKit Go.Proofs Go.Proofs.YtpdnopfjnmjnnaaGreatDoorW.PrintWords Go.Proofs.YtpdnopfjnmjnnaaGreatDoor.Bs Go.Proofs.YtpdnopfjnmjnnaaGreatDoor.Ir Go.Proofs.YtpdnopfjnmjnnaaGreatDoor.Cz

/-- What stands in pairs: a byte's text, and what it becomes. -/
def rT : List ByteArray := [⟨#[92]⟩, ⟨#[92, 92]⟩, ⟨#[34]⟩, ⟨#[92, 34]⟩, ⟨#[10]⟩, ⟨#[92, 110]⟩, ⟨#[9]⟩, ⟨#[92, 116]⟩]
theorem rT_at {w : World} {ab : Nat} (h : Kd.string.C w (some ⟨ab, 0, none⟩) 8 rT) (i : Nat) (hi : i < 8) : w.cell? ⟨ab, i, none⟩ = some (.string (rT.getD i ⟨#[]⟩)) := by
  obtain ⟨ad, cc, e0, -, hK, hcc⟩ := Kd.C_get h (⟨#[]⟩ : ByteArray) (i : Int) (by omega) (by omega)
  injection e0 with e0
  subst e0
  have hcs : cc = [Value.string (rT.getD (i : Int).toNat ⟨#[]⟩)] := hK
  have q0 := hcc 0 (.string (rT.getD (i : Int).toNat ⟨#[]⟩)) (by rw [hcs]; rfl)
  rw [Int.toNat_natCast] at q0
  have e : i * Kd.string.sz + 0 = i := Nat.mul_one i
  rw [e, add_plain] at q0
  exact q0
theorem zero189 : Tryz.zeroCells189 = (Array.replicate 256 (.slice none 0 0)).push (.slice none 0 0) := by kernel_rfl
theorem size189 : (Tryz.prog.info? 189).map (·.size) = some 257 := by kernel_rfl
theorem set_last (n : Nat) (x v : Value) : ((Array.replicate n x).push x).toList.set n v = List.replicate n x ++ [v] := by
  rw [Array.toList_push, Array.toList_replicate, List.set_append_right _ _ (by simp)]
  simp
/-- The table's first cells. -/
def tabN0 (n : Nat) (v : Value) : Array Value := (List.replicate n (Value.slice none 0 0) ++ [v]).toArray
theorem tabN0_size (n : Nat) (v : Value) : (tabN0 n v).size = n + 1 := by simp [tabN0]
theorem tabN0_last (n : Nat) (v : Value) : (tabN0 n v)[n]? = some v := by simp [tabN0]
theorem tabN0_at (n : Nat) (v : Value) (j : Nat) (hj : j < n) : (tabN0 n v)[j]? = some (.slice none 0 0) := by
  unfold tabN0
  rw [List.getElem?_toArray, List.getElem?_append_left (by simpa using hj), List.getElem?_replicate, if_pos hj]
theorem tabN0_one (n : Nat) (v : Value) (hv : v.oneCell' = true) : (tabN0 n v).all (·.oneCell') = true := by
  unfold tabN0
  rw [← Array.all_toList, List.all_eq_true]
  intro x hx
  rcases List.mem_append.1 hx with h | h
  · rw [List.eq_of_mem_replicate h]; rfl
  · rcases List.mem_singleton.1 h with rfl
    exact hv
def tab0 (v : Value) : Array Value := tabN0 256 v
theorem tab0_size (v : Value) : (tab0 v).size = 257 := tabN0_size 256 v
theorem tab0_last (v : Value) : (tab0 v)[256]? = some v := tabN0_last 256 v
theorem tab0_at (v : Value) (j : Nat) (hj : j < 256) : (tab0 v)[j]? = some (.slice none 0 0) := tabN0_at 256 v j hj
theorem tab0_one (v : Value) (hv : v.oneCell' = true) : (tab0 v).all (·.oneCell') = true := tabN0_one 256 v hv
theorem tab0_eq (v : Value) : Tryz.zeroCells189.toList.set 256 v = (tab0 v).toList := by
  rw [zero189, set_last]
  unfold tab0 tabN0
  rw [List.toList_toArray]
theorem run_tab0 (w : World) (v : Value) (hv : v.oneCell' = true) : (storeCells ⟨w.heap.size, 0, none⟩ (Tryz.zeroCells189.toList.set 256 v) 0).run Tryz.prog (w.alloc (.cells Tryz.zeroCells189 189)) = .ok () (w.alloc (.cells (tab0 v) 189)) :=
  (congrArg (fun L => (storeCells ⟨w.heap.size, 0, none⟩ L 0).run Tryz.prog (w.alloc (.cells Tryz.zeroCells189 189))) (tab0_eq v)).trans (run_storeCells_new w 189 _ (tab0 v) (by rw [tab0_size]; exact size189) (by rw [tab0_size, zero189, Array.size_push, Array.size_replicate]) (tab0_one v hv))
/-- The replacer's table behind k pairs. -/
structure RepS (w wr : World) (rb k : Nat) (v : Value) (xs : List ByteArray) : Prop where
  ge : w.heap.size ≤ rb
  bel : Below w.heap.size w wr
  len : xs.length = k
  row : Kd.string.R 9 wr w.heap.size (fun k => w.heap.size ≤ k) v xs
  tab : ∃ cs : Array Value, wr.heap[rb]? = some (.cells cs 189 (0, 0)) ∧ cs.size = 257 ∧ cs[256]? = some v ∧ ∀ j : Nat, j < 256 → ([9, 10, 34, 92].take k).contains j = false → cs[j]? = some (.slice none 0 0)
theorem RepS.c256 {w wr : World} {rb k : Nat} {v : Value} {xs : List ByteArray} (h : RepS w wr rb k v xs) : wr.cell? ⟨rb, 256, none⟩ = some v := by
  obtain ⟨cs, h1, _, h2, _⟩ := h.tab
  exact (blk_cell h1 256).trans h2
theorem RepS.at {w wr : World} {rb k : Nat} {v : Value} {xs : List ByteArray} (h : RepS w wr rb k v xs) (j : Nat) (hj : j < 256) (hd : ([9, 10, 34, 92].take k).contains j = false) : wr.cell? ⟨rb, j, none⟩ = some (.slice none 0 0) := by
  obtain ⟨cs, h1, _, _, h2⟩ := h.tab
  exact (blk_cell h1 j).trans (h2 j hj hd)
/-- Behind the append: the table's block is as it was. -/
theorem RepS.kept {w wr wr1 w4 : World} {rb k : Nat} {v : Value} {xs : List ByteArray} (h : RepS w wr rb k v xs) (hb1 : Below wr.heap.size wr wr1) (hg : wr1.grownBy w4 v.ownBlock) : w4.heap[rb]? = wr.heap[rb]? := by
  obtain ⟨cs, h1, _⟩ := h.tab
  obtain ⟨_, inner, ho, _⟩ := h.row
  have h2 := hb1.block rb (blk_lt h1)
  exact (hg.block rb (Nat.lt_of_lt_of_le (blk_lt h1) hb1.size) (own_ne ho h1 (by decide))).trans h2
theorem RepS.step {w wr wr1 w4 w7 : World} {rb k o : Nat} {v v1 nv : Value} {xs : List ByteArray} {t n : ByteArray} (h : RepS w wr rb k v xs) (ho : ([9, 10, 34, 92] : List Nat)[k]? = some o) (hb1 : Below wr.heap.size wr wr1) (hR : Kd.string.R 9 w4 w.heap.size (fun k => w.heap.size ≤ k) v1 (xs ++ [t])) (hB : Below w.heap.size w w4) (hg : wr1.grownBy w4 v.ownBlock)
    (h7 : w7 = (Lib.bytesWorld (w4.setCell ⟨rb, 256, none⟩ v1) 5 n).setCell ⟨rb, o, none⟩ nv) : RepS w w7 rb (k + 1) v1 (xs ++ [t]) := by
  have hkept := h.kept hb1 hg
  obtain ⟨cs, c1, c2, c3, c4⟩ := h.tab
  rw [c1] at hkept
  have ho4 : o < 256 := by
    match k, ho with
    | 0, ho => injection ho with ho; omega
    | 1, ho => injection ho with ho; omega
    | 2, ho => injection ho with ho; omega
    | 3, ho => injection ho with ho; omega
    | k + 4, ho => simp at ho
  have s5 := blk_set hkept 256 v1
  have s6 := ((below_bytes (w4.setCell ⟨rb, 256, none⟩ v1) 5 n).block rb (blk_lt s5)).trans s5
  have s7 := blk_set s6 o nv
  have hsz5 : (w4.setCell ⟨rb, 256, none⟩ v1).heap.size = w4.heap.size := by simp [World.setCell]
  have hB7 : Below w.heap.size w w7 := by
    rw [h7]
    have b5 := hB.setCell (p := ⟨rb, 256, none⟩) h.ge v1
    exact (b5.trans ((below_bytes _ 5 n).mono b5.size)).setCell (p := ⟨rb, o, none⟩) h.ge nv
  refine ⟨h.ge, hB7, by simp [h.len], ?_, ?_⟩
  · refine Kd.R_mono (Kd.R_move (Kd.R_bound hR) (fun k hk => ?_)) (fun k hk => hk.1)
    obtain ⟨_, _, hlt, q, hq, cells, hc⟩ := hk
    have hne : k ≠ rb := by
      rintro rfl
      rw [hkept] at hc
      injection hc with hc
      injection hc with _ hc
      rcases List.mem_cons.1 hq with rfl | hq
      · exact absurd hc (by decide)
      · cases hq
    rw [h7]
    exact (Below.heap_setCell _ _ _ k hne).trans (((below_bytes (w4.setCell ⟨rb, 256, none⟩ v1) 5 n).block k (by rw [hsz5]; exact hlt)).trans (Below.heap_setCell w4 _ _ k hne))
  · rw [← h7] at s7
    refine ⟨_, s7, by simp [c2], ?_, fun j hj hd => ?_⟩
    · rw [Array.getElem?_setIfInBounds_ne (by omega)]
      simp [Array.getElem?_setIfInBounds, c2]
    · have hjo : j ≠ o := by
        rintro rfl
        match k, ho, hd with
        | 0, ho, hd => injection ho with ho; subst ho; simp at hd
        | 1, ho, hd => injection ho with ho; subst ho; simp at hd
        | 2, ho, hd => injection ho with ho; subst ho; simp at hd
        | 3, ho, hd => injection ho with ho; subst ho; simp at hd
        | k + 4, ho, hd => simp at ho
      have hd' : ([9, 10, 34, 92].take k).contains j = false := by
        match k, ho, hd with
        | 0, ho, hd => rfl
        | 1, ho, hd => simp at hd ⊢; omega
        | 2, ho, hd => simp at hd ⊢; omega
        | 3, ho, hd => simp at hd ⊢; omega
        | k + 4, ho, hd => simp at ho
      have := c4 j hj hd'
      rw [Array.getElem?_setIfInBounds_ne (Ne.symm hjo), Array.getElem?_setIfInBounds_ne (by omega)]
      exact this
set_option maxRecDepth 100000 in
set_option maxHeartbeats 4000000 in
theorem build_any (rp ab : Nat) (c : Nat) (w : World) (h4 : w.cell? ⟨rp, 4, none⟩ = some (.slice (some ⟨ab, 0, none⟩) 8 c)) (hC : Kd.string.C w (some ⟨ab, 0, none⟩) 8 rT) :
    Calls Tryz.prog 116 #[.pointer (some ⟨rp, 0, none⟩)] w fun e w' => ∃ rb, e = .returned (.iface 190 (.pointer (some ⟨rb, 0, none⟩))) ∧ w.heap.size ≤ rb ∧ RepB w' rb ∧ Below w.heap.size w w' := by
  have p0 : w.cell? ⟨ab, 0, none⟩ = some (.string ⟨#[92]⟩) := rT_at hC 0 (by omega)
  have p1 : w.cell? ⟨ab, 1, none⟩ = some (.string ⟨#[92, 92]⟩) := rT_at hC 1 (by omega)
  have p2 : w.cell? ⟨ab, 2, none⟩ = some (.string ⟨#[34]⟩) := rT_at hC 2 (by omega)
  have p3 : w.cell? ⟨ab, 3, none⟩ = some (.string ⟨#[92, 34]⟩) := rT_at hC 3 (by omega)
  have p4 : w.cell? ⟨ab, 4, none⟩ = some (.string ⟨#[10]⟩) := rT_at hC 4 (by omega)
  have p5 : w.cell? ⟨ab, 5, none⟩ = some (.string ⟨#[92, 110]⟩) := rT_at hC 5 (by omega)
  have p6 : w.cell? ⟨ab, 6, none⟩ = some (.string ⟨#[9]⟩) := rT_at hC 6 (by omega)
  have p7 : w.cell? ⟨ab, 7, none⟩ = some (.string ⟨#[92, 116]⟩) := rT_at hC 7 (by omega)
  clear hC
  have heq : ∀ W, (binOp .eql 54 (.slice none 0 0) (.slice none 0 0)).run Tryz.prog W = .ok (.bool true) W := fun W => by rfl
  obtain ⟨i29, hi29, hz29, hs29, hb29⟩ := info_parts inS
  obtain ⟨w1, hmk0, hown1, hg1⟩ := run_makeSlice_owned (P := Tryz.prog) w w.heap.size 29 9 i29 (.string ⟨#[]⟩) 1 Tu_strings hi29 hz29 hs29 .i64 .i64 4 (by decide) (by rw [hb29]; decide) (by decide) (Nat.le_refl _)
  have hmk : (Instr.makeSlice 29 (.int .i64 0) (.int .i64 4)).run Tryz.prog w = .ok (.slice (some ⟨w.heap.size, 0, none⟩) 0 4) w1 := hmk0
  have hst := run_tab0 w1 (.slice (some ⟨w.heap.size, 0, none⟩) 0 4) rfl
  have hb1 : Below w.heap.size w w1 := ⟨hg1.os, hg1.tape, hg1.output, hg1.size, fun k hk => hg1.block k hk (by simp)⟩
  have HS : Hid (RepS w (w1.alloc (.cells (tab0 (.slice (some ⟨w.heap.size, 0, none⟩) 0 4)) 189)) w1.heap.size 0 (.slice (some ⟨w.heap.size, 0, none⟩) 0 4) []) := Lib.hid ⟨hb1.size, below_alloc hb1 _, rfl, ⟨fun k hk => Nat.le_of_eq (Option.some.inj hk), [], hown1.kept (World.grownBy_alloc w1 _ none) (by simp [Value.ownBlock]), Reps.none _ _⟩, _, heap_alloc_new w1 _, tab0_size _, tab0_last _, fun j hj _ => tab0_at _ j hj⟩
  clear hmk0 hown1 hg1 hb1
  go_enter Tryz.func116, Tryz.ntmps116
  go_wp2_with fail
  go_loopw [4, 5] (fun av iv wr => (av = .bool true ∧ iv = .int .i64 0 ∨ av = .bool false ∧ (iv = .int .i64 2 ∨ iv = .int .i64 4 ∨ iv = .int .i64 6 ∨ iv = .int .i64 8)) ∧ w = wr) (fun _ iv _ => 8 - (intOf iv).toNat)
  case atStart => exact ⟨.inl ⟨rfl, rfl⟩, rfl⟩
  case round =>
    rcases hrel with ⟨⟨rfl, rfl⟩ | ⟨rfl, (rfl | rfl | rfl | rfl)⟩, rfl⟩
    iterate 4
      · go_wp2_with fail
        go_roundw
        case rel => exact ⟨.inr ⟨rfl, by simp⟩, trivial⟩
        case measure => simp [intOf]
    go_wp2_with fail
    generalize w1.alloc (.cells (tab0 (.slice (some ⟨w.heap.size, 0, none⟩) 0 4)) 189) = wB at *
    generalize w1.heap.size = rb at *
    clear hst hmk
    go_loopw [12] (fun iv wr => ∃ (k : Nat) (v : Value) (xs : List ByteArray), (k = 0 ∧ iv = .int .i64 6 ∨ k = 1 ∧ iv = .int .i64 4 ∨ k = 2 ∧ iv = .int .i64 2 ∨ k = 3 ∧ iv = .int .i64 0 ∨ k = 4 ∧ iv = .int .i64 (-2)) ∧ Hid (RepS w wr rb k v xs)) (fun iv _ => ((intOf iv) + 2).toNat)
    case atStart => exact ⟨0, _, _, .inl ⟨rfl, rfl⟩, HS⟩
    case round =>
      obtain ⟨k, v, xs, hk, HSk⟩ := hrel
      obtain ⟨Av, cv, rfl⟩ := Kd.R_slice HSk.out.row
      have hbw := HSk.out.bel
      have hxl := HSk.out.len
      have q256 := HSk.out.c256
      rcases hk with ⟨rfl, rfl⟩ | ⟨rfl, rfl⟩ | ⟨rfl, rfl⟩ | ⟨rfl, rfl⟩ | ⟨rfl, rfl⟩
      · have q := HSk.out.at 9 (by omega) (by decide)
        have hb9 : ((⟨#[9]⟩ : ByteArray)[0]'(by decide)).toNat = 9 := rfl
        have r6 := (hbw.cell (World.block_lt_of_cell? w _ p6)).trans p6
        have r7 := (hbw.cell (World.block_lt_of_cell? w _ p7)).trans p7
        obtain ⟨wr1, hw1⟩ : ∃ wr1, wr1 = wr.alloc (.cells #[.int .u8 9] 5) := ⟨_, rfl⟩
        have hcb : (convert 54 9 (.slice (some ⟨wr.heap.size, 0, none⟩) 1 1)).run Tryz.prog (wr.alloc (.cells #[.int .u8 9] 5)) = .ok (.string ⟨#[9]⟩) wr1 := hw1 ▸ run_convert_bytes_back (P := Tryz.prog) (wr.alloc (.cells #[.int .u8 9] 5)) 54 9 5 ⟨wr.heap.size, 0, none⟩ 1 [9] Tu_bytes Tu_byte Tu_string (fun j hj => by
          have : j = 0 := by simp at hj; omega
          subst this
          exact blk_cell (heap_alloc_new wr _) 0)
        have hba : Below wr.heap.size wr wr1 := hw1 ▸ below_alloc (Below.refl _ _) _
        have HBA := Lib.hid hba
        have HR1 := Lib.hid (Kd.R_below HSk.out.row hba)
        have HBS := Lib.hid (Nat.le_trans hbw.size hba.size)
        have HXL := Lib.hid hxl
        have HBW := Lib.hid hbw
        clear hba hxl hbw hw1
        go_wp2_with (at_builtin; refine Kd.R_append Kd.string (w0 := wr1) (W := wr1) w.heap.size rfl (.tmp 119) (.tmp 123) 29 9 (.string ⟨#[]⟩) 16 rfl Tu_strings inS rfl (by decide) (by decide) _ _ ⟨#[9]⟩ [.string ⟨#[9]⟩] (fun k => w.heap.size ≤ k) (fun _ => False) rfl rfl rfl (fun _ h => h.elim) (fun k hk => Nat.le_trans HBS.out hk) HR1.out (Below.refl _ _) HBS.out (by have := HXL.out; omega) ?_)
        intro v1 w4 hR4 hB4 hg4 hat4
        obtain ⟨xs1, hxs1⟩ : ∃ xs1, xs1 = xs ++ [(⟨#[9]⟩ : ByteArray)] := ⟨_, rfl⟩
        rw [← hxs1] at hR4
        obtain ⟨A1, c1, rfl⟩ := Kd.R_slice hR4
        have hk4 := HSk.out.kept HBA.out hg4
        obtain ⟨cs, t1, t2, t3, t4⟩ := HSk.out.tab
        rw [t1] at hk4
        have s256 := (blk_cell hk4 256).trans t3
        have f256 := blk_frozen hk4 256
        have hcv := Lib.run_convert_string_bytes (P := Tryz.prog) (w4.setCell ⟨rb, 256, none⟩ (.slice A1 xs1.length c1)) 9 54 5 ⟨#[92, 116]⟩ Tu_string Tu_bytes Tu_byte
        have s6 := ((below_bytes (w4.setCell ⟨rb, 256, none⟩ (.slice A1 xs1.length c1)) 5 ⟨#[92, 116]⟩).block rb (blk_lt (blk_set hk4 256 _))).trans (blk_set hk4 256 (.slice A1 xs1.length c1))
        have z9 := (blk_cell s6 9).trans ((Array.getElem?_setIfInBounds_ne (by omega)).trans (t4 9 (by omega) (by decide)))
        have f9 := blk_frozen s6 9
        have hB4' := HBW.out.trans ((HBA.out.mono HBW.out.size).trans hB4)
        have HST := Lib.hid (fun (w7 : World) (nv : Value) h7 => RepS.step (w7 := w7) (nv := nv) (t := ⟨#[9]⟩) (n := ⟨#[92, 116]⟩) HSk.out (o := 9) rfl HBA.out (by rw [← hxs1]; exact hR4) hB4' hg4 h7)
        rw [← hxs1] at HST
        clear hxs1 hR4 hB4 hg4 hat4 hk4 t1 t2 t3 t4 s6 q256 q r6 r7 hcb hB4'
        go_wp2_with fail
        go_roundw
        case rel => exact ⟨1, _, _, .inr (.inl ⟨rfl, rfl⟩), Lib.hid (HST.out _ _ rfl)⟩
        case measure => simp [intOf]
      · have q := HSk.out.at 10 (by omega) (by decide)
        have hb9 : ((⟨#[10]⟩ : ByteArray)[0]'(by decide)).toNat = 10 := rfl
        have r6 := (hbw.cell (World.block_lt_of_cell? w _ p4)).trans p4
        have r7 := (hbw.cell (World.block_lt_of_cell? w _ p5)).trans p5
        obtain ⟨wr1, hw1⟩ : ∃ wr1, wr1 = wr.alloc (.cells #[.int .u8 10] 5) := ⟨_, rfl⟩
        have hcb : (convert 54 9 (.slice (some ⟨wr.heap.size, 0, none⟩) 1 1)).run Tryz.prog (wr.alloc (.cells #[.int .u8 10] 5)) = .ok (.string ⟨#[10]⟩) wr1 := hw1 ▸ run_convert_bytes_back (P := Tryz.prog) (wr.alloc (.cells #[.int .u8 10] 5)) 54 9 5 ⟨wr.heap.size, 0, none⟩ 1 [10] Tu_bytes Tu_byte Tu_string (fun j hj => by
          have : j = 0 := by simp at hj; omega
          subst this
          exact blk_cell (heap_alloc_new wr _) 0)
        have hba : Below wr.heap.size wr wr1 := hw1 ▸ below_alloc (Below.refl _ _) _
        have HBA := Lib.hid hba
        have HR1 := Lib.hid (Kd.R_below HSk.out.row hba)
        have HBS := Lib.hid (Nat.le_trans hbw.size hba.size)
        have HXL := Lib.hid hxl
        have HBW := Lib.hid hbw
        clear hba hxl hbw hw1
        go_wp2_with (at_builtin; refine Kd.R_append Kd.string (w0 := wr1) (W := wr1) w.heap.size rfl (.tmp 119) (.tmp 123) 29 9 (.string ⟨#[]⟩) 16 rfl Tu_strings inS rfl (by decide) (by decide) _ _ ⟨#[10]⟩ [.string ⟨#[10]⟩] (fun k => w.heap.size ≤ k) (fun _ => False) rfl rfl rfl (fun _ h => h.elim) (fun k hk => Nat.le_trans HBS.out hk) HR1.out (Below.refl _ _) HBS.out (by have := HXL.out; omega) ?_)
        intro v1 w4 hR4 hB4 hg4 hat4
        obtain ⟨xs1, hxs1⟩ : ∃ xs1, xs1 = xs ++ [(⟨#[10]⟩ : ByteArray)] := ⟨_, rfl⟩
        rw [← hxs1] at hR4
        obtain ⟨A1, c1, rfl⟩ := Kd.R_slice hR4
        have hk4 := HSk.out.kept HBA.out hg4
        obtain ⟨cs, t1, t2, t3, t4⟩ := HSk.out.tab
        rw [t1] at hk4
        have s256 := (blk_cell hk4 256).trans t3
        have f256 := blk_frozen hk4 256
        have hcv := Lib.run_convert_string_bytes (P := Tryz.prog) (w4.setCell ⟨rb, 256, none⟩ (.slice A1 xs1.length c1)) 9 54 5 ⟨#[92, 110]⟩ Tu_string Tu_bytes Tu_byte
        have s6 := ((below_bytes (w4.setCell ⟨rb, 256, none⟩ (.slice A1 xs1.length c1)) 5 ⟨#[92, 110]⟩).block rb (blk_lt (blk_set hk4 256 _))).trans (blk_set hk4 256 (.slice A1 xs1.length c1))
        have z9 := (blk_cell s6 10).trans ((Array.getElem?_setIfInBounds_ne (by omega)).trans (t4 10 (by omega) (by decide)))
        have f9 := blk_frozen s6 10
        have hB4' := HBW.out.trans ((HBA.out.mono HBW.out.size).trans hB4)
        have HST := Lib.hid (fun (w7 : World) (nv : Value) h7 => RepS.step (w7 := w7) (nv := nv) (t := ⟨#[10]⟩) (n := ⟨#[92, 110]⟩) HSk.out (o := 10) rfl HBA.out (by rw [← hxs1]; exact hR4) hB4' hg4 h7)
        rw [← hxs1] at HST
        clear hxs1 hR4 hB4 hg4 hat4 hk4 t1 t2 t3 t4 s6 q256 q r6 r7 hcb hB4'
        go_wp2_with fail
        go_roundw
        case rel => exact ⟨2, _, _, .inr (.inr (.inl ⟨rfl, rfl⟩)), Lib.hid (HST.out _ _ rfl)⟩
        case measure => simp [intOf]
      · have q := HSk.out.at 34 (by omega) (by decide)
        have hb9 : ((⟨#[34]⟩ : ByteArray)[0]'(by decide)).toNat = 34 := rfl
        have r6 := (hbw.cell (World.block_lt_of_cell? w _ p2)).trans p2
        have r7 := (hbw.cell (World.block_lt_of_cell? w _ p3)).trans p3
        obtain ⟨wr1, hw1⟩ : ∃ wr1, wr1 = wr.alloc (.cells #[.int .u8 34] 5) := ⟨_, rfl⟩
        have hcb : (convert 54 9 (.slice (some ⟨wr.heap.size, 0, none⟩) 1 1)).run Tryz.prog (wr.alloc (.cells #[.int .u8 34] 5)) = .ok (.string ⟨#[34]⟩) wr1 := hw1 ▸ run_convert_bytes_back (P := Tryz.prog) (wr.alloc (.cells #[.int .u8 34] 5)) 54 9 5 ⟨wr.heap.size, 0, none⟩ 1 [34] Tu_bytes Tu_byte Tu_string (fun j hj => by
          have : j = 0 := by simp at hj; omega
          subst this
          exact blk_cell (heap_alloc_new wr _) 0)
        have hba : Below wr.heap.size wr wr1 := hw1 ▸ below_alloc (Below.refl _ _) _
        have HBA := Lib.hid hba
        have HR1 := Lib.hid (Kd.R_below HSk.out.row hba)
        have HBS := Lib.hid (Nat.le_trans hbw.size hba.size)
        have HXL := Lib.hid hxl
        have HBW := Lib.hid hbw
        clear hba hxl hbw hw1
        go_wp2_with (at_builtin; refine Kd.R_append Kd.string (w0 := wr1) (W := wr1) w.heap.size rfl (.tmp 119) (.tmp 123) 29 9 (.string ⟨#[]⟩) 16 rfl Tu_strings inS rfl (by decide) (by decide) _ _ ⟨#[34]⟩ [.string ⟨#[34]⟩] (fun k => w.heap.size ≤ k) (fun _ => False) rfl rfl rfl (fun _ h => h.elim) (fun k hk => Nat.le_trans HBS.out hk) HR1.out (Below.refl _ _) HBS.out (by have := HXL.out; omega) ?_)
        intro v1 w4 hR4 hB4 hg4 hat4
        obtain ⟨xs1, hxs1⟩ : ∃ xs1, xs1 = xs ++ [(⟨#[34]⟩ : ByteArray)] := ⟨_, rfl⟩
        rw [← hxs1] at hR4
        obtain ⟨A1, c1, rfl⟩ := Kd.R_slice hR4
        have hk4 := HSk.out.kept HBA.out hg4
        obtain ⟨cs, t1, t2, t3, t4⟩ := HSk.out.tab
        rw [t1] at hk4
        have s256 := (blk_cell hk4 256).trans t3
        have f256 := blk_frozen hk4 256
        have hcv := Lib.run_convert_string_bytes (P := Tryz.prog) (w4.setCell ⟨rb, 256, none⟩ (.slice A1 xs1.length c1)) 9 54 5 ⟨#[92, 34]⟩ Tu_string Tu_bytes Tu_byte
        have s6 := ((below_bytes (w4.setCell ⟨rb, 256, none⟩ (.slice A1 xs1.length c1)) 5 ⟨#[92, 34]⟩).block rb (blk_lt (blk_set hk4 256 _))).trans (blk_set hk4 256 (.slice A1 xs1.length c1))
        have z9 := (blk_cell s6 34).trans ((Array.getElem?_setIfInBounds_ne (by omega)).trans (t4 34 (by omega) (by decide)))
        have f9 := blk_frozen s6 34
        have hB4' := HBW.out.trans ((HBA.out.mono HBW.out.size).trans hB4)
        have HST := Lib.hid (fun (w7 : World) (nv : Value) h7 => RepS.step (w7 := w7) (nv := nv) (t := ⟨#[34]⟩) (n := ⟨#[92, 34]⟩) HSk.out (o := 34) rfl HBA.out (by rw [← hxs1]; exact hR4) hB4' hg4 h7)
        rw [← hxs1] at HST
        clear hxs1 hR4 hB4 hg4 hat4 hk4 t1 t2 t3 t4 s6 q256 q r6 r7 hcb hB4'
        go_wp2_with fail
        go_roundw
        case rel => exact ⟨3, _, _, .inr (.inr (.inr (.inl ⟨rfl, rfl⟩))), Lib.hid (HST.out _ _ rfl)⟩
        case measure => simp [intOf]
      · have q := HSk.out.at 92 (by omega) (by decide)
        have hb9 : ((⟨#[92]⟩ : ByteArray)[0]'(by decide)).toNat = 92 := rfl
        have r6 := (hbw.cell (World.block_lt_of_cell? w _ p0)).trans p0
        have r7 := (hbw.cell (World.block_lt_of_cell? w _ p1)).trans p1
        obtain ⟨wr1, hw1⟩ : ∃ wr1, wr1 = wr.alloc (.cells #[.int .u8 92] 5) := ⟨_, rfl⟩
        have hcb : (convert 54 9 (.slice (some ⟨wr.heap.size, 0, none⟩) 1 1)).run Tryz.prog (wr.alloc (.cells #[.int .u8 92] 5)) = .ok (.string ⟨#[92]⟩) wr1 := hw1 ▸ run_convert_bytes_back (P := Tryz.prog) (wr.alloc (.cells #[.int .u8 92] 5)) 54 9 5 ⟨wr.heap.size, 0, none⟩ 1 [92] Tu_bytes Tu_byte Tu_string (fun j hj => by
          have : j = 0 := by simp at hj; omega
          subst this
          exact blk_cell (heap_alloc_new wr _) 0)
        have hba : Below wr.heap.size wr wr1 := hw1 ▸ below_alloc (Below.refl _ _) _
        have HBA := Lib.hid hba
        have HR1 := Lib.hid (Kd.R_below HSk.out.row hba)
        have HBS := Lib.hid (Nat.le_trans hbw.size hba.size)
        have HXL := Lib.hid hxl
        have HBW := Lib.hid hbw
        clear hba hxl hbw hw1
        go_wp2_with (at_builtin; refine Kd.R_append Kd.string (w0 := wr1) (W := wr1) w.heap.size rfl (.tmp 119) (.tmp 123) 29 9 (.string ⟨#[]⟩) 16 rfl Tu_strings inS rfl (by decide) (by decide) _ _ ⟨#[92]⟩ [.string ⟨#[92]⟩] (fun k => w.heap.size ≤ k) (fun _ => False) rfl rfl rfl (fun _ h => h.elim) (fun k hk => Nat.le_trans HBS.out hk) HR1.out (Below.refl _ _) HBS.out (by have := HXL.out; omega) ?_)
        intro v1 w4 hR4 hB4 hg4 hat4
        obtain ⟨xs1, hxs1⟩ : ∃ xs1, xs1 = xs ++ [(⟨#[92]⟩ : ByteArray)] := ⟨_, rfl⟩
        rw [← hxs1] at hR4
        obtain ⟨A1, c1, rfl⟩ := Kd.R_slice hR4
        have hk4 := HSk.out.kept HBA.out hg4
        obtain ⟨cs, t1, t2, t3, t4⟩ := HSk.out.tab
        rw [t1] at hk4
        have s256 := (blk_cell hk4 256).trans t3
        have f256 := blk_frozen hk4 256
        have hcv := Lib.run_convert_string_bytes (P := Tryz.prog) (w4.setCell ⟨rb, 256, none⟩ (.slice A1 xs1.length c1)) 9 54 5 ⟨#[92, 92]⟩ Tu_string Tu_bytes Tu_byte
        have s6 := ((below_bytes (w4.setCell ⟨rb, 256, none⟩ (.slice A1 xs1.length c1)) 5 ⟨#[92, 92]⟩).block rb (blk_lt (blk_set hk4 256 _))).trans (blk_set hk4 256 (.slice A1 xs1.length c1))
        have z9 := (blk_cell s6 92).trans ((Array.getElem?_setIfInBounds_ne (by omega)).trans (t4 92 (by omega) (by decide)))
        have f9 := blk_frozen s6 92
        have hB4' := HBW.out.trans ((HBA.out.mono HBW.out.size).trans hB4)
        have HST := Lib.hid (fun (w7 : World) (nv : Value) h7 => RepS.step (w7 := w7) (nv := nv) (t := ⟨#[92]⟩) (n := ⟨#[92, 92]⟩) HSk.out (o := 92) rfl HBA.out (by rw [← hxs1]; exact hR4) hB4' hg4 h7)
        rw [← hxs1] at HST
        clear hxs1 hR4 hB4 hg4 hat4 hk4 t1 t2 t3 t4 s6 q256 q r6 r7 hcb hB4'
        go_wp2_with fail
        go_roundw
        case rel => exact ⟨4, _, _, .inr (.inr (.inr (.inr ⟨rfl, rfl⟩))), Lib.hid (HST.out _ _ rfl)⟩
        case measure => simp [intOf]
      · have HB := Lib.hid HSk.out
        clear q256
        go_wp2_with fail
        go_ret
        refine ⟨rb, rfl, HB.out.ge, ?_, HB.out.bel⟩
        obtain ⟨cs, t1, t2, t3, t4⟩ := HB.out.tab
        exact ⟨cs, Av, cv, t1, by rw [t3, hxl], fun j hj hd => t4 j hj (by
          simp at hd ⊢
          omega)⟩
end
section
open Go.Sort Go.RowKit Go.Proofs Go.Proofs.YtpdnopfjnmjnnaaGreatDoorW.PrintWords Go.Proofs.YtpdnopfjnmjnnaaGreatDoor.Bs Go.Proofs.YtpdnopfjnmjnnaaGreatDoor.Ir Go.Proofs.YtpdnopfjnmjnnaaGreatDoor.Cz

theorem buildOnce_any (rp ab c base : Nat) (w : World) (h : w.heap[rp]? = some (.cells #[.int .u32 0, .int .i32 1, .int .u32 0, .nilIface, .slice (some ⟨ab, 0, none⟩) 8 c] 155 (0, 0))) (hC : Kd.string.C w (some ⟨ab, 0, none⟩) 8 rT) (hbase : base ≤ rp) :
    Calls Tryz.prog 97 #[.pointer (some ⟨rp, 0, none⟩)] w fun e w' => e = .returned (.tuple #[]) ∧ ∃ rb, w'.heap[rp]? = some (.cells #[.int .u32 0, .int .i32 1, .int .u32 0, .iface 190 (.pointer (some ⟨rb, 0, none⟩)), .slice none 0 0] 155 (0, 0)) ∧ RepB w' rb ∧ rp < rb ∧ Below base w w' := by
  have hb := build_any rp ab c w (blk_cell h 4) hC
  have hlt := blk_lt h
  have HH := Lib.hid h
  clear h hC
  go_enter Tryz.func97, Tryz.ntmps97
  go_wp2_with fail
  refine hb.mono ?_
  rintro e w1 ⟨rb, rfl, hge, hrb, hbel⟩
  have h1 := (hbel.block rp hlt).trans HH.out
  have q3 := blk_cell h1 3
  have z3 := blk_frozen h1 3
  have h2 := blk_set h1 3 (.iface 190 (.pointer (some ⟨rb, 0, none⟩)))
  have q4 := blk_cell h2 4
  have z4 := blk_frozen h2 4
  have HX := Lib.hid (And.intro h1 (And.intro hrb hbel))
  clear hb h1 h2 hrb hbel
  go_wp2_with fail
  go_end0
  obtain ⟨cs, X, c', t1, t2, t3⟩ := HX.out.2.1.tab
  have hne : rb ≠ rp := by omega
  exact ⟨rfl, rb, blk_set (blk_set HX.out.1 3 _) 4 _, ⟨cs, X, c', blk_far (blk_far t1 hne _) hne _, t2, t3⟩, by omega, ((HX.out.2.2.mono (by omega)).setCell (p := ⟨rp, 3, none⟩) hbase _).setCell (p := ⟨rp, 4, none⟩) hbase _⟩
theorem C_far {w : World} {ab rp : Nat} (h : Kd.string.C w (some ⟨ab, 0, none⟩) 8 rT) (hne : ab ≠ rp) (i : Nat) (u : Value) : Kd.string.C (w.setCell ⟨rp, i, none⟩ u) (some ⟨ab, 0, none⟩) 8 rT := by
  obtain ⟨a, b, f⟩ := h
  refine ⟨a, b, fun h0 => ?_⟩
  obtain ⟨ad, e, g⟩ := f h0
  refine ⟨ad, e, fun j p hp => ?_⟩
  obtain ⟨c, c1, c2, c3⟩ := g j p hp
  refine ⟨c, c1, c2, fun k v hk => ?_⟩
  injection e with e
  subst e
  have q := c3 k v hk
  rw [add_plain] at q ⊢
  rw [World.cell?_setCell_other _ _ _ _ (by
    intro h
    injection h with h
    exact hne h.symm)]
  exact q
set_option maxRecDepth 100000 in
theorem replace_same (rp ab c base : Nat) (s : ByteArray) (w : World) (h : w.heap[rp]? = some (.cells #[.int .u32 0, .int .i32 0, .int .u32 0, .nilIface, .slice (some ⟨ab, 0, none⟩) 8 c] 155 (0, 0))) (hC : Kd.string.C w (some ⟨ab, 0, none⟩) 8 rT) (hbase : base ≤ rp) (hne : ab ≠ rp) (hs : s.size < 32) (hb : ∀ b ∈ s.data.toList, spB b = false) :
    Calls Tryz.prog 66 #[.pointer (some ⟨rp, 0, none⟩), .string s] w fun e w' => e = .returned (.string s) ∧ Below base w w' := by
  have h1 := blk_set h 1 (.int .i32 1)
  have hB := buildOnce_any rp ab c base (w.setCell ⟨rp, 1, none⟩ (.int .i32 1)) h1 (C_far hC hne _ _) hbase
  have hdo := Oc.do_first rp 97 #[.pointer (some ⟨rp, 0, none⟩)] (fun w' => ∃ rb, w'.heap[rp]? = some (.cells #[.int .u32 0, .int .i32 1, .int .u32 0, .iface 190 (.pointer (some ⟨rb, 0, none⟩)), .slice none 0 0] 155 (0, 0)) ∧ RepB w' rb ∧ rp < rb ∧ Below base (w.setCell ⟨rp, 1, none⟩ (.int .i32 1)) w') w (blk_cell h 0) (blk_cell h 1) (blk_frozen h 0) (blk_frozen h 1) (fun args w => by kernel_rfl) (hB.mono (by
    rintro e w1 ⟨rfl, rb, g1, g2, g3, g4⟩
    exact ⟨rfl, ⟨blk_cell g1 0, blk_cell g1 1, blk_frozen g1 0, blk_frozen g1 1⟩, rb, g1, g2, g3, g4⟩))
  have HH := Lib.hid h
  have HS := Lib.hid (And.intro hs hb)
  clear h h1 hB hC hs hb
  go_enter Tryz.func66, Tryz.ntmps66
  go_wp2_with fail
  refine hdo.mono ?_
  rintro e w2 ⟨rfl, w1, ⟨rb, g1, g2, g3, g4⟩, -, hw2⟩
  have k1 : w2.heap[rp]? = some (.cells #[.int .u32 1, .int .i32 0, .int .u32 0, .iface 190 (.pointer (some ⟨rb, 0, none⟩)), .slice none 0 0] 155 (0, 0)) := by
    rw [hw2]
    exact blk_set (blk_set (w := w1.drew) g1 0 _) 1 _
  have hr2 : RepB w2 rb := by
    obtain ⟨cs, X, c', t1, t2, t3⟩ := g2.tab
    have hne : rb ≠ rp := by omega
    rw [hw2]
    exact ⟨cs, X, c', blk_far (blk_far (w := w1.drew) t1 hne _) hne _, t2, t3⟩
  have hb2 : Below base w w2 := by
    rw [hw2]
    exact ((below_drew (((Below.refl base w).setCell (p := ⟨rp, 1, none⟩) hbase _).trans g4)).setCell (p := ⟨rp, 0, none⟩) hbase _).setCell (p := ⟨rp, 1, none⟩) hbase _
  have q3 := blk_cell k1 3
  have hrp := replaceB_same rb s w2 hr2 HS.out.1 HS.out.2
  have hm : ∀ W, (method 362 190 (.pointer (some ⟨rb, 0, none⟩)) "Replace").run Tryz.prog W = .ok (198, .pointer (some ⟨rb, 0, none⟩)) W := fun W => by rfl
  have HB2 := Lib.hid hb2
  clear hdo g1 g2 g3 g4 k1 hr2 hb2 hw2
  go_wp2_with fail
  refine hrp.mono ?_
  rintro e w3 ⟨rfl, rfl⟩
  go_wp2_with fail
  go_ret
  exact ⟨rfl, HB2.out⟩
set_option maxRecDepth 100000 in
theorem newReplacer_any (a : Nat) (w : World) (hC : Kd.string.C w (some ⟨a, 0, none⟩) 8 rT) :
    Calls Tryz.prog 65 #[.slice (some ⟨a, 0, none⟩) 8 8] w fun e w' => ∃ rp ab c, e = .returned (.pointer (some ⟨rp, 0, none⟩)) ∧ w'.heap[rp]? = some (.cells #[.int .u32 0, .int .i32 0, .int .u32 0, .nilIface, .slice (some ⟨ab, 0, none⟩) 8 c] 155 (0, 0)) ∧ Kd.string.C w' (some ⟨ab, 0, none⟩) 8 rT ∧ ab ≠ rp ∧ w.heap.size ≤ rp ∧ Below w.heap.size w w' := by
  obtain ⟨inner, hr, hat⟩ := ReadsRow.inner_ (show ReadsRow (Kd.string.K w) 1 w (some ⟨a, 0, none⟩) rT.length rT from hC)
  have hone : ∀ u ∈ inner, u.oneCell' = true := reps_one (fun _ _ h => Kd.string.K_one h) (fun _ _ h => Kd.string.K_len h) hr
  have hlen : inner.length = rT.length * 1 := hr.1
  have HR := Lib.hid (And.intro hr (And.intro hat (And.intro hone hlen)))
  clear hC hr hat hone hlen
  obtain ⟨i0, hi, hz0, hz1, hz2⟩ := info_parts inS
  go_enter Tryz.func65, Tryz.ntmps65
  go_wp2_with (at_builtin; refine wpList_append_own _ rfl (.const (.slice none 0 0)) (.tmp 8) 29 rfl w.heap.size 9 i0 (.string ⟨#[]⟩) 1 16 Tu_texts hi hz0 hz1 hz2 rfl (by decide) (.slice none 0 0) 0 [] rfl ?c0 ⟨a, 0, none⟩ 8 8 inner rfl ?c6 ?c1 ?c2 ?c3 ?c4 ?c5 ?_)
  case c0 => exact own_nil _ _ _ _
  case c6 => exact HR.out.2.2.2
  case c1 => exact HR.out.2.1
  case c2 => exact HR.out.2.2.1
  case c3 => unfold maxLen; omega
  case c4 => omega
  case c5 => simp
  intro v' w1 hown hgrow _
  have hbel : Below w.heap.size w w1 := (Below.refl _ _).grown hgrow (Nat.le_refl _) (fun k hk => by simp [Value.ownBlock] at hk)
  have hown2 : w1.ownsRow w.heap.size 9 1 v' 8 inner := by simpa using hown
  obtain ⟨g, cap, rfl⟩ : ∃ g cap, v' = .slice (some ⟨g, 0, none⟩) 8 cap := by
    rcases hown2.2 with ⟨_, h, _⟩ | ⟨g, cap, cur, rfl, _⟩
    exact ⟨g, cap, rfl⟩
  obtain ⟨A, c, e1, _, hrd⟩ := OwnRow.reads (show OwnRow (Kd.string.K w) 9 1 w1 w.heap.size (.slice (some ⟨g, 0, none⟩) 8 cap) rT from ⟨inner, hown2, HR.out.1⟩)
  injection e1 with e1 e2 e3
  subst e1
  subst e3
  clear e2
  have hglt : g < w1.heap.size := by
    obtain ⟨cells, hc⟩ := own_typed hown2 g rfl
    exact blk_lt hc
  have HX := Lib.hid (And.intro hrd (And.intro hbel hglt))
  clear hown hgrow hown2 hbel hrd
  go_wp2_with fail
  go_ret
  refine ⟨w1.heap.size, g, cap, rfl, heap_alloc_new w1 _, ?_, by have := HX.out.2.2; omega, HX.out.2.1.size, below_alloc HX.out.2.1 _⟩
  have hb := below_alloc (Below.refl w1.heap.size w1) (.cells #[.int .u32 0, .int .i32 0, .int .u32 0, .nilIface, .slice (some ⟨g, 0, none⟩) 8 cap] 155)
  exact HX.out.1.imp_ hb (fun _ _ hp => hp)
end
section
open Go.Sort Go.RowKit Go.Proofs Go.Proofs.YtpdnopfjnmjnnaaGreatDoorW.PrintWords Go.Proofs.YtpdnopfjnmjnnaaGreatDoor.Bs Go.Proofs.YtpdnopfjnmjnnaaGreatDoor.Ir Go.Proofs.YtpdnopfjnmjnnaaGreatDoor.Cz

theorem rT_new (w : World) : Kd.string.C (w.alloc (.cells #[.string ⟨#[92]⟩, .string ⟨#[92, 92]⟩, .string ⟨#[34]⟩, .string ⟨#[92, 34]⟩, .string ⟨#[10]⟩, .string ⟨#[92, 110]⟩, .string ⟨#[9]⟩, .string ⟨#[92, 116]⟩] 9)) (some ⟨w.heap.size, 0, none⟩) 8 rT := by
  have hn := heap_alloc_new w (.cells #[.string ⟨#[92]⟩, .string ⟨#[92, 92]⟩, .string ⟨#[34]⟩, .string ⟨#[92, 34]⟩, .string ⟨#[10]⟩, .string ⟨#[92, 110]⟩, .string ⟨#[9]⟩, .string ⟨#[92, 116]⟩] 9)
  refine ⟨rfl, by decide, fun _ => ⟨_, rfl, fun j p hp => ⟨[.string p], rfl, rfl, fun i u hu => ?_⟩⟩⟩
  have hi : i = 0 := by
    have := (List.getElem?_eq_some_iff.1 hu).1
    simp at this
    exact this
  subst hi
  have e : j * Kd.string.sz + 0 = j := Nat.mul_one j
  rw [e, add_plain]
  have hu' : u = .string p := by simpa using hu.symm
  subst hu'
  have hj : j < 8 := (List.getElem?_eq_some_iff.1 hp).1
  refine (blk_cell hn j).trans ?_
  match j, hj, hp with
  | 0, _, hp => injection hp with hp; rw [← hp]; rfl
  | 1, _, hp => injection hp with hp; rw [← hp]; rfl
  | 2, _, hp => injection hp with hp; rw [← hp]; rfl
  | 3, _, hp => injection hp with hp; rw [← hp]; rfl
  | 4, _, hp => injection hp with hp; rw [← hp]; rfl
  | 5, _, hp => injection hp with hp; rw [← hp]; rfl
  | 6, _, hp => injection hp with hp; rw [← hp]; rfl
  | 7, _, hp => injection hp with hp; rw [← hp]; rfl
def quoB (s : ByteArray) : ByteArray := ⟨#[34]⟩ ++ s ++ ⟨#[34]⟩
set_option maxRecDepth 100000 in
theorem shown_any (g : Nat) (eg : ∀ args w, (callFunc g args).run Tryz.prog w = .ok (.enter g args) w) (p : Bool) (s : ByteArray) (w : World) (hp : Calls Tryz.prog g #[.string s] w fun e w' => e = .returned (.bool p) ∧ Below w.heap.size w w') (hok : p = true ∨ s.size < 32 ∧ ∀ b ∈ s.data.toList, spB b = false) :
    Calls Tryz.prog 39 #[.string s, .func (.func g) #[] #[]] w fun e w' => e = .returned (.string (if p then s else quoB s)) ∧ Below w.heap.size w w' := by
  cases p
  case true =>
    go_enter Tryz.func39, Tryz.ntmps39
    go_wp2_with (go_at_fn g; refine hp.mono ?_; rintro e w1 ⟨rfl, hb1⟩)
    go_ret
    exact ⟨rfl, hb1⟩
  case false =>
    have hok' : s.size < 32 ∧ ∀ b ∈ s.data.toList, spB b = false := by
      rcases hok with h | h
      · cases h
      · exact h
    have HOK := Lib.hid hok'
    have hsz : s.size < 32 := hok'.1
    clear hok hok'
    go_enter Tryz.func39, Tryz.ntmps39
    go_wp2_with (go_at_fn g; refine hp.mono ?_; rintro e w1 ⟨rfl, hb1⟩)
    have hba : Below w.heap.size w (w1.alloc (.cells #[.string ⟨#[92]⟩, .string ⟨#[92, 92]⟩, .string ⟨#[34]⟩, .string ⟨#[92, 34]⟩, .string ⟨#[10]⟩, .string ⟨#[92, 110]⟩, .string ⟨#[9]⟩, .string ⟨#[92, 116]⟩] 9)) := below_alloc hb1 _
    have hn := newReplacer_any w1.heap.size _ (rT_new w1)
    generalize w1.alloc (.cells #[.string ⟨#[92]⟩, .string ⟨#[92, 92]⟩, .string ⟨#[34]⟩, .string ⟨#[92, 34]⟩, .string ⟨#[10]⟩, .string ⟨#[92, 110]⟩, .string ⟨#[9]⟩, .string ⟨#[92, 116]⟩] 9) = w2 at *
    refine hn.mono ?_
    rintro e w3 ⟨rp, ab, c, rfl, h3, hC3, hne, hge, hb3⟩
    have hr := replace_same rp ab c w2.heap.size s w3 h3 hC3 hge hne HOK.out.1 HOK.out.2
    have HB3 := Lib.hid (hba.trans (hb3.mono hba.size))
    have HSZ := Lib.hid hba.size
    clear hn h3 hC3 hb3 hba
    go_wp2_with fail
    refine hr.mono ?_
    rintro e w4 ⟨rfl, hb4⟩
    have HB4 := Lib.hid (HB3.out.trans (hb4.mono HSZ.out))
    clear hr hb4
    go_wp2_with fail
    all_goals trace_state
    go_ret
    exact ⟨rfl, HB4.out⟩
end
end Go.Proofs.YtpdnopfjnmjnnaaGreatDoor.Cn
