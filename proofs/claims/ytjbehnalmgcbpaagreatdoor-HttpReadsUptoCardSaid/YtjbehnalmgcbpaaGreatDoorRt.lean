/- Package http: ReadResponse. -/
import Derived.Test.YtjbehnalmgcbpaaGreatDoorRs
set_option linter.unusedVariables false
set_option linter.unusedSimpArgs false
namespace Go.Proofs.YtjbehnalmgcbpaaGreatDoor.Ht
open Go.Sort Go.RowKit Go.Proofs Go.Proofs.YtjbehnalmgcbpaaGreatDoorW.PrintWords Go.Proofs.YtjbehnalmgcbpaaGreatDoor.Bs Go.Proofs.YtjbehnalmgcbpaaGreatDoor.Ir Go.Proofs.YtjbehnalmgcbpaaGreatDoor.Gn

def respP (s : ByteArray) (most : Int) : Except Int (ReadOk Int) := readP s most true firstResp
def RespPost (w : World) (R : Except Int (ReadOk Int)) (e : Ending) (w' : World) : Prop :=
  Below w.heap.size w w' ∧ match R with
    | .error y => e = .returned (.tuple #[.agg #[.int .i64 0, .slice none 0 0, .string ⟨#[]⟩], .int .i64 0, .int .i64 y])
    | .ok r => ∃ A c, e = .returned (.tuple #[.agg #[.int .i64 r.got, .slice A r.heads.length c, .string r.body], .int .i64 r.n, .int .i64 0]) ∧ Kd.C kH w' A r.heads.length r.heads
theorem blk_set3 {w : World} {g : Nat} {t : TypeId} {x0 x1 x2 : Value} (h : w.heap[g]? = some (.cells #[x0, x1, x2] t (0, 0))) (u0 u1 u2 : Value) : (((w.setCell ⟨g, 0, none⟩ u0).setCell ⟨g, 1, none⟩ u1).setCell ⟨g, 2, none⟩ u2).heap[g]? = some (.cells #[u0, u1, u2] t (0, 0)) :=
  blk_set (blk_set (blk_set h 0 u0) 1 u1) 2 u2
theorem blk_cells3 {w : World} {g : Nat} {t : TypeId} {x0 x1 x2 : Value} (h : w.heap[g]? = some (.cells #[x0, x1, x2] t (0, 0))) : w.cell? ⟨g, 0, none⟩ = some x0 ∧ w.cell? ⟨g, 1, none⟩ = some x1 ∧ w.cell? ⟨g, 2, none⟩ = some x2 := by
  refine ⟨?_, ?_, ?_⟩ <;> (rw [blk_cell h]; rfl)
theorem eok_firstResp (a b c : ByteArray) : EOk (firstResp a b c) := by
  unfold firstResp
  split
  · split
    · split
      · exact .ok _
      · exact .err (by omega)
    · exact .err (by omega)
  · exact .err (by omega)
set_option maxRecDepth 100000 in
set_option maxHeartbeats 2000000 in
theorem readResponse_any (s : ByteArray) (most : Int) (w : World) (G : Gnd w) (hb64 : lowG ≤ w.heap.size) (hs : s.size ≤ 1073741824) :
    Calls Tryz.prog 21 #[.string s, .int .i64 most] w fun e w' => RespPost w (respP s most) e w' := by
  have hmf : ∀ (fn : Fn) (first cap : Array Value) (w : World), (Instr.makeFunc fn first cap).run Tryz.prog w = .ok (.func fn first cap) w := fun _ _ _ _ => rfl
  obtain ⟨w2, hw2⟩ : ∃ w2, w2 = (w.alloc (.cells #[.int .i64 0, .slice none 0 0, .string ⟨#[]⟩] 35)).alloc (.cells #[.int .i64 0, .slice none 0 0, .string ⟨#[]⟩] 35) := ⟨_, rfl⟩
  have hb2 : Below w.heap.size w w2 := by rw [hw2]; exact below_alloc (below_alloc (Below.refl _ _) _) _
  have hz2 : w2.heap.size = w.heap.size + 1 + 1 := by rw [hw2]; simp
  have ha : RespAt w.heap.size 0 (.slice none 0 0) ⟨#[]⟩ w2 := by
    rw [hw2, RespAt, Below.heap_alloc _ _ _ (by simp)]
    exact heap_alloc_new w _
  have hr : RespAt (w.heap.size + 1) 0 (.slice none 0 0) ⟨#[]⟩ w2 := by
    have e1 : (w.alloc (.cells #[.int .i64 0, .slice none 0 0, .string ⟨#[]⟩] 35)).heap.size = w.heap.size + 1 := by simp
    rw [hw2, RespAt, ← e1]
    exact heap_alloc_new _ _
  have hrd := read_any s most true 45 #[.pointer (some ⟨w.heap.size + 1, 0, none⟩)] (w.heap.size + 1) (fun W => FinResp (w.heap.size + 1) 0 W) (FinResp (w.heap.size + 1)) firstResp w2 (fun args w => by kernel_rfl) (G.below hb2) (by omega) hs (by omega) (by omega) (fun W h => h.trans hr) (fun z W W' h e => e.trans h) (firstResp_any _)
  have hne := eok_read s most true firstResp eok_firstResp hs
  have HA := Lib.hid ha
  have HB := Lib.hid hb2
  have HZ := Lib.hid hz2
  unfold respP
  clear G ha hr hb2 hz2
  generalize readP s most true firstResp = R at *
  go_enter Tryz.func21, Tryz.ntmps21
  go_wp2_with fail
  rw [← hw2]
  clear hw2
  cases R with
  | error y =>
    refine hrd.mono ?_
    rintro e w3 ⟨hg, rfl⟩
    have hy : y ≠ 0 := by have := hne y rfl; omega
    have hy1 : (y == 0) = false := by rw [beq_eq_false_iff_ne]; exact hy
    have hy2 : (y != 0) = true := by simpa using hy
    have ha3 : RespAt w.heap.size 0 (.slice none 0 0) ⟨#[]⟩ w3 := (hg.block _ (by have := HZ.out; omega) (fun e => by have := Option.some.inj e; omega)).trans HA.out
    have r0 : w3.cell? ⟨w.heap.size, 0, none⟩ = some (.int .i64 0) := by rw [blk_cell ha3]; rfl
    have r1 : w3.cell? ⟨w.heap.size, 1, none⟩ = some (.slice none 0 0) := by rw [blk_cell ha3]; rfl
    have r2 : w3.cell? ⟨w.heap.size, 2, none⟩ = some (.string ⟨#[]⟩) := by rw [blk_cell ha3]; rfl
    have f0 : ∀ i, w3.frozen? ⟨w.heap.size, i, none⟩ = false := fun i => blk_frozen ha3 i
    have HBG := Lib.hid (below_of_grown HB.out hg (by omega))
    have HA3 := Lib.hid ha3
    clear hrd hne hg ha3 hy
    unfold readE
    go_wp2_with fail
    have hw4 := blk_set3 HA3.out (.int .i64 0) (.slice none 0 0) (.string ⟨#[]⟩)
    have hbl : Below w.heap.size w (((w3.setCell ⟨w.heap.size, 0, none⟩ (.int .i64 0)).setCell ⟨w.heap.size, 1, none⟩ (.slice none 0 0)).setCell ⟨w.heap.size, 2, none⟩ (.string ⟨#[]⟩)) :=
      ((HBG.out.setCell (Nat.le_refl _) _).setCell (Nat.le_refl _) _).setCell (Nat.le_refl _) _
    generalize (((w3.setCell ⟨w.heap.size, 0, none⟩ (.int .i64 0)).setCell ⟨w.heap.size, 1, none⟩ (.slice none 0 0)).setCell ⟨w.heap.size, 2, none⟩ (.string ⟨#[]⟩)) = w4 at *
    obtain ⟨t0, t1, t2⟩ := blk_cells3 hw4
    refine bodyPost_ret (v := .tuple #[.agg #[.int .i64 0, .slice none 0 0, .string ⟨#[]⟩], .int .i64 0, .int .i64 y]) (by simp [results, Tryz.results21, go_sem, t0, t1, t2]) rfl ⟨hbl, rfl⟩
  | ok r =>
    refine hrd.mono ?_
    rintro e w3 ⟨hg, ⟨A, c, rfl, hC, hA⟩, hfin, hn⟩
    have ha3 : RespAt w.heap.size 0 (.slice none 0 0) ⟨#[]⟩ w3 := (hg.block _ (by have := HZ.out; omega) (fun e => by have := Option.some.inj e; omega)).trans HA.out
    have r0 : w3.cell? ⟨w.heap.size, 0, none⟩ = some (.int .i64 0) := by rw [blk_cell ha3]; rfl
    have r1 : w3.cell? ⟨w.heap.size, 1, none⟩ = some (.slice none 0 0) := by rw [blk_cell ha3]; rfl
    have r2 : w3.cell? ⟨w.heap.size, 2, none⟩ = some (.string ⟨#[]⟩) := by rw [blk_cell ha3]; rfl
    have f0 : ∀ i, w3.frozen? ⟨w.heap.size, i, none⟩ = false := fun i => blk_frozen ha3 i
    have hf : RespAt (w.heap.size + 1) r.got (.slice none 0 0) ⟨#[]⟩ w3 := hfin
    have q0 : w3.cell? ⟨w.heap.size + 1, 0, none⟩ = some (.int .i64 r.got) := by rw [blk_cell hf]; rfl
    have q1 : w3.cell? ⟨w.heap.size + 1, 1, none⟩ = some (.slice none 0 0) := by rw [blk_cell hf]; rfl
    have q2 : w3.cell? ⟨w.heap.size + 1, 2, none⟩ = some (.string ⟨#[]⟩) := by rw [blk_cell hf]; rfl
    have g0 : ∀ i, w3.frozen? ⟨w.heap.size + 1, i, none⟩ = false := fun i => blk_frozen hf i
    have HBG := Lib.hid (below_of_grown HB.out hg (by omega))
    have HC := Lib.hid hC
    have HAd := Lib.hid hA
    have HA3 := Lib.hid ha3
    have hA0 : ∀ ad, A = some ad → ad.block ≠ w.heap.size := fun ad e => by have := hA ad e; have := HZ.out; omega
    have hA1 : ∀ ad, A = some ad → ad.block ≠ w.heap.size + 1 := fun ad e => by have := hA ad e; have := HZ.out; omega
    have HA0 := Lib.hid hA0
    have HA1 := Lib.hid hA1
    clear hrd hne hg ha3 hf hfin hC hA hA0 hA1
    go_wp2_with fail
    obtain ⟨w4, hw4⟩ : ∃ w4, w4 = (w3.setCell ⟨w.heap.size + 1, 1, none⟩ (.slice A r.heads.length c)).setCell ⟨w.heap.size + 1, 2, none⟩ (.string r.body) := ⟨_, rfl⟩
    rw [← hw4]
    have ha4 : RespAt w.heap.size 0 (.slice none 0 0) ⟨#[]⟩ w4 := by rw [hw4]; exact blk_far (blk_far HA3.out (by simp) _) (by simp) _
    have hb4 : Below w.heap.size w w4 := by rw [hw4]; exact (HBG.out.setCell (by simp) _).setCell (by simp) _
    have hC4 : Kd.C kH w4 A r.heads.length r.heads := by rw [hw4]; exact kC_off (kC_off HC.out HA1.out _) HA1.out _
    have hw5 := blk_set3 ha4 (.int .i64 r.got) (.slice A r.heads.length c) (.string r.body)
    have hbl : Below w.heap.size w (((w4.setCell ⟨w.heap.size, 0, none⟩ (.int .i64 r.got)).setCell ⟨w.heap.size, 1, none⟩ (.slice A r.heads.length c)).setCell ⟨w.heap.size, 2, none⟩ (.string r.body)) :=
      ((hb4.setCell (Nat.le_refl _) _).setCell (Nat.le_refl _) _).setCell (Nat.le_refl _) _
    have hC5 : Kd.C kH (((w4.setCell ⟨w.heap.size, 0, none⟩ (.int .i64 r.got)).setCell ⟨w.heap.size, 1, none⟩ (.slice A r.heads.length c)).setCell ⟨w.heap.size, 2, none⟩ (.string r.body)) A r.heads.length r.heads :=
      kC_off (kC_off (kC_off hC4 HA0.out _) HA0.out _) HA0.out _
    generalize (((w4.setCell ⟨w.heap.size, 0, none⟩ (.int .i64 r.got)).setCell ⟨w.heap.size, 1, none⟩ (.slice A r.heads.length c)).setCell ⟨w.heap.size, 2, none⟩ (.string r.body)) = w5 at *
    obtain ⟨t0, t1, t2⟩ := blk_cells3 hw5
    refine bodyPost_ret (v := .tuple #[.agg #[.int .i64 r.got, .slice A r.heads.length c, .string r.body], .int .i64 r.n, .int .i64 0]) (by simp [results, Tryz.results21, go_sem, t0, t1, t2]) rfl ⟨hbl, A, c, rfl, hC5⟩
end Go.Proofs.YtjbehnalmgcbpaaGreatDoor.Ht
