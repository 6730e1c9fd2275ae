/- Package http: ReadRequest. -/
import Derived.Test.YtaihnhhapplmbaaGreatDoorRq
import Derived.Test.YtaihnhhapplmbaaGreatDoorEr
set_option linter.unusedVariables false
set_option linter.unusedSimpArgs false
namespace Go.Proofs.YtaihnhhapplmbaaGreatDoor.Ht
open Go.Sort Go.RowKit Go.Proofs Go.Proofs.YtaihnhhapplmbaaGreatDoorW.PrintWords Go.Proofs.YtaihnhhapplmbaaGreatDoor.Bs Go.Proofs.YtaihnhhapplmbaaGreatDoor.Ir Go.Proofs.YtaihnhhapplmbaaGreatDoor.Gn

def reqP (s : ByteArray) (most : Int) : Except Int (ReadOk (ByteArray × ByteArray)) := readP s most false firstReq
def ReqPost (w : World) (R : Except Int (ReadOk (ByteArray × ByteArray))) (e : Ending) (w' : World) : Prop :=
  Below w.heap.size w w' ∧ match R with
    | .error y => e = .returned (.tuple #[.agg #[.string ⟨#[]⟩, .string ⟨#[]⟩, .slice none 0 0, .string ⟨#[]⟩], .int .i64 0, .int .i64 y])
    | .ok r => ∃ A c, e = .returned (.tuple #[.agg #[.string r.got.1, .string r.got.2, .slice A r.heads.length c, .string r.body], .int .i64 r.n, .int .i64 0]) ∧ Kd.C kH w' A r.heads.length r.heads
theorem kC_off {w : World} {A : Option Addr} {n : Nat} {l : List Head} (h : Kd.C kH w A n l) {b i : Nat} (hb : ∀ ad, A = some ad → ad.block ≠ b) (u : Value) : Kd.C kH (w.setCell ⟨b, i, none⟩ u) A n l := by
  obtain ⟨e1, h2, h3⟩ := h
  refine ⟨e1, h2, fun hp => ?_⟩
  obtain ⟨ad, ha, hc⟩ := h3 hp
  refine ⟨ad, ha, fun j p hj => ?_⟩
  obtain ⟨cc, hl, hk, hcell⟩ := hc j p hj
  refine ⟨cc, hl, by rw [kH_open hk]; exact kH_mk _ p, fun q u' hu => ?_⟩
  rw [World.cell?_setCell_other]
  · exact hcell q u' hu
  · intro e
    have := congrArg Addr.block e
    rw [addr_block] at this
    exact hb ad ha this.symm
theorem blk_set4 {w : World} {g : Nat} {t : TypeId} {x0 x1 x2 x3 : Value} (h : w.heap[g]? = some (.cells #[x0, x1, x2, x3] t (0, 0))) (u0 u1 u2 u3 : Value) : ((((w.setCell ⟨g, 0, none⟩ u0).setCell ⟨g, 1, none⟩ u1).setCell ⟨g, 2, none⟩ u2).setCell ⟨g, 3, none⟩ u3).heap[g]? = some (.cells #[u0, u1, u2, u3] t (0, 0)) :=
  blk_set (blk_set (blk_set (blk_set h 0 u0) 1 u1) 2 u2) 3 u3
theorem blk_cells4 {w : World} {g : Nat} {t : TypeId} {x0 x1 x2 x3 : Value} (h : w.heap[g]? = some (.cells #[x0, x1, x2, x3] t (0, 0))) : w.cell? ⟨g, 0, none⟩ = some x0 ∧ w.cell? ⟨g, 1, none⟩ = some x1 ∧ w.cell? ⟨g, 2, none⟩ = some x2 ∧ w.cell? ⟨g, 3, none⟩ = some x3 := by
  refine ⟨?_, ?_, ?_, ?_⟩ <;> (rw [blk_cell h]; rfl)
theorem eok_firstReq (a b c : ByteArray) : EOk (firstReq a b c) := by
  unfold firstReq
  split
  · exact .ok _
  · exact .err (by omega)
theorem below_of_grown {w W W' : World} {b : Nat} (h : Below w.heap.size w W) (hg : W.grownBy W' (some b)) (hb : w.heap.size ≤ b) : Below w.heap.size w W' :=
  h.grown hg h.size (fun k hk => by have := Option.some.inj hk; omega)
set_option maxRecDepth 100000 in
set_option maxHeartbeats 2000000 in
theorem readRequest_any (s : ByteArray) (most : Int) (w : World) (G : Gnd w) (hb64 : lowG ≤ w.heap.size) (hs : s.size ≤ 1073741824) :
    Calls Tryz.prog 21 #[.string s, .int .i64 most] w fun e w' => ReqPost w (reqP s most) e w' := by
  have hmf : ∀ (fn : Fn) (first cap : Array Value) (w : World), (Instr.makeFunc fn first cap).run Tryz.prog w = .ok (.func fn first cap) w := fun _ _ _ _ => rfl
  obtain ⟨w2, hw2⟩ : ∃ w2, w2 = (w.alloc (.cells #[.string ⟨#[]⟩, .string ⟨#[]⟩, .slice none 0 0, .string ⟨#[]⟩] 51)).alloc (.cells #[.string ⟨#[]⟩, .string ⟨#[]⟩, .slice none 0 0, .string ⟨#[]⟩] 51) := ⟨_, rfl⟩
  have hb2 : Below w.heap.size w w2 := by rw [hw2]; exact below_alloc (below_alloc (Below.refl _ _) _) _
  have hz2 : w2.heap.size = w.heap.size + 1 + 1 := by rw [hw2]; simp
  have ha : ReqAt w.heap.size ⟨#[]⟩ ⟨#[]⟩ (.slice none 0 0) ⟨#[]⟩ w2 := by
    rw [hw2, ReqAt, Below.heap_alloc _ _ _ (by simp)]
    exact heap_alloc_new w _
  have hr : ReqAt (w.heap.size + 1) ⟨#[]⟩ ⟨#[]⟩ (.slice none 0 0) ⟨#[]⟩ w2 := by
    have e1 : (w.alloc (.cells #[.string ⟨#[]⟩, .string ⟨#[]⟩, .slice none 0 0, .string ⟨#[]⟩] 51)).heap.size = w.heap.size + 1 := by simp
    rw [hw2, ReqAt, ← e1]
    exact heap_alloc_new _ _
  have hrd := read_any s most false 36 #[.pointer (some ⟨w.heap.size + 1, 0, none⟩)] (w.heap.size + 1) (fun W => FinReq (w.heap.size + 1) (⟨#[]⟩, ⟨#[]⟩) W) (FinReq (w.heap.size + 1)) firstReq w2 (fun args w => by kernel_rfl) (G.below hb2) (by omega) hs (by omega) (by omega) (fun W h => h.trans hr) (fun z W W' h e => e.trans h) (firstReq_any _)
  have hne := eok_read s most false firstReq eok_firstReq hs
  have HA := Lib.hid ha
  have HB := Lib.hid hb2
  have HZ := Lib.hid hz2
  unfold reqP
  clear G ha hr hb2 hz2
  generalize readP s most false firstReq = R at *
  go_enter Tryz.func21, Tryz.ntmps21
  go_wp2_with fail
  rw [← hw2]
  clear hw2
  cases R with
  | error y =>
    refine hrd.mono ?_
    rintro e w3 ⟨hg, rfl⟩
    have hy : y ≠ 0 := by have := hne y rfl; omega
    have hy1 : (y == 0) = false := by rw [beq_eq_false_iff_ne]; exact hy
    have hy2 : (y != 0) = true := by simpa using hy
    have ha3 : ReqAt w.heap.size ⟨#[]⟩ ⟨#[]⟩ (.slice none 0 0) ⟨#[]⟩ w3 := (hg.block _ (by have := HZ.out; omega) (fun e => by have := Option.some.inj e; omega)).trans HA.out
    have r0 : w3.cell? ⟨w.heap.size, 0, none⟩ = some (.string ⟨#[]⟩) := by rw [blk_cell ha3]; rfl
    have r1 : w3.cell? ⟨w.heap.size, 1, none⟩ = some (.string ⟨#[]⟩) := by rw [blk_cell ha3]; rfl
    have r2 : w3.cell? ⟨w.heap.size, 2, none⟩ = some (.slice none 0 0) := by rw [blk_cell ha3]; rfl
    have r3 : w3.cell? ⟨w.heap.size, 3, none⟩ = some (.string ⟨#[]⟩) := by rw [blk_cell ha3]; rfl
    have f0 : ∀ i, w3.frozen? ⟨w.heap.size, i, none⟩ = false := fun i => blk_frozen ha3 i
    have HBG := Lib.hid (below_of_grown HB.out hg (by omega))
    have HA3 := Lib.hid ha3
    clear hrd hne hg ha3 hy
    unfold readE
    go_wp2_with fail
    have hw4 := blk_set4 HA3.out (.string ⟨#[]⟩) (.string ⟨#[]⟩) (.slice none 0 0) (.string ⟨#[]⟩)
    have hbl : Below w.heap.size w ((((w3.setCell ⟨w.heap.size, 0, none⟩ (.string ⟨#[]⟩)).setCell ⟨w.heap.size, 1, none⟩ (.string ⟨#[]⟩)).setCell ⟨w.heap.size, 2, none⟩ (.slice none 0 0)).setCell ⟨w.heap.size, 3, none⟩ (.string ⟨#[]⟩)) :=
      (((HBG.out.setCell (Nat.le_refl _) _).setCell (Nat.le_refl _) _).setCell (Nat.le_refl _) _).setCell (Nat.le_refl _) _
    generalize ((((w3.setCell ⟨w.heap.size, 0, none⟩ (.string ⟨#[]⟩)).setCell ⟨w.heap.size, 1, none⟩ (.string ⟨#[]⟩)).setCell ⟨w.heap.size, 2, none⟩ (.slice none 0 0)).setCell ⟨w.heap.size, 3, none⟩ (.string ⟨#[]⟩)) = w4 at *
    obtain ⟨t0, t1, t2, t3⟩ := blk_cells4 hw4
    refine bodyPost_ret (v := .tuple #[.agg #[.string ⟨#[]⟩, .string ⟨#[]⟩, .slice none 0 0, .string ⟨#[]⟩], .int .i64 0, .int .i64 y]) (by simp [results, Tryz.results21, go_sem, t0, t1, t2, t3]) rfl ⟨hbl, rfl⟩
  | ok r =>
    refine hrd.mono ?_
    rintro e w3 ⟨hg, ⟨A, c, rfl, hC, hA⟩, hfin, hn⟩
    have ha3 : ReqAt w.heap.size ⟨#[]⟩ ⟨#[]⟩ (.slice none 0 0) ⟨#[]⟩ w3 := (hg.block _ (by have := HZ.out; omega) (fun e => by have := Option.some.inj e; omega)).trans HA.out
    have r0 : w3.cell? ⟨w.heap.size, 0, none⟩ = some (.string ⟨#[]⟩) := by rw [blk_cell ha3]; rfl
    have r1 : w3.cell? ⟨w.heap.size, 1, none⟩ = some (.string ⟨#[]⟩) := by rw [blk_cell ha3]; rfl
    have r2 : w3.cell? ⟨w.heap.size, 2, none⟩ = some (.slice none 0 0) := by rw [blk_cell ha3]; rfl
    have r3 : w3.cell? ⟨w.heap.size, 3, none⟩ = some (.string ⟨#[]⟩) := by rw [blk_cell ha3]; rfl
    have f0 : ∀ i, w3.frozen? ⟨w.heap.size, i, none⟩ = false := fun i => blk_frozen ha3 i
    have hf : ReqAt (w.heap.size + 1) r.got.1 r.got.2 (.slice none 0 0) ⟨#[]⟩ w3 := hfin
    have q0 : w3.cell? ⟨w.heap.size + 1, 0, none⟩ = some (.string r.got.1) := by rw [blk_cell hf]; rfl
    have q1 : w3.cell? ⟨w.heap.size + 1, 1, none⟩ = some (.string r.got.2) := by rw [blk_cell hf]; rfl
    have q2 : w3.cell? ⟨w.heap.size + 1, 2, none⟩ = some (.slice none 0 0) := by rw [blk_cell hf]; rfl
    have q3 : w3.cell? ⟨w.heap.size + 1, 3, none⟩ = some (.string ⟨#[]⟩) := by rw [blk_cell hf]; rfl
    have g0 : ∀ i, w3.frozen? ⟨w.heap.size + 1, i, none⟩ = false := fun i => blk_frozen hf i
    have HBG := Lib.hid (below_of_grown HB.out hg (by omega))
    have HC := Lib.hid hC
    have HAd := Lib.hid hA
    have HA3 := Lib.hid ha3
    have hA0 : ∀ ad, A = some ad → ad.block ≠ w.heap.size := fun ad e => by have := hA ad e; have := HZ.out; omega
    have hA1 : ∀ ad, A = some ad → ad.block ≠ w.heap.size + 1 := fun ad e => by have := hA ad e; have := HZ.out; omega
    have HA0 := Lib.hid hA0
    have HA1 := Lib.hid hA1
    clear hrd hne hg ha3 hf hfin hC hA hA0 hA1
    go_wp2_with fail
    obtain ⟨w4, hw4⟩ : ∃ w4, w4 = (w3.setCell ⟨w.heap.size + 1, 2, none⟩ (.slice A r.heads.length c)).setCell ⟨w.heap.size + 1, 3, none⟩ (.string r.body) := ⟨_, rfl⟩
    rw [← hw4]
    have ha4 : ReqAt w.heap.size ⟨#[]⟩ ⟨#[]⟩ (.slice none 0 0) ⟨#[]⟩ w4 := by rw [hw4]; exact blk_far (blk_far HA3.out (by simp) _) (by simp) _
    have hb4 : Below w.heap.size w w4 := by rw [hw4]; exact (HBG.out.setCell (by simp) _).setCell (by simp) _
    have hC4 : Kd.C kH w4 A r.heads.length r.heads := by rw [hw4]; exact kC_off (kC_off HC.out HA1.out _) HA1.out _
    have hw5 := blk_set4 ha4 (.string r.got.1) (.string r.got.2) (.slice A r.heads.length c) (.string r.body)
    have hbl : Below w.heap.size w ((((w4.setCell ⟨w.heap.size, 0, none⟩ (.string r.got.1)).setCell ⟨w.heap.size, 1, none⟩ (.string r.got.2)).setCell ⟨w.heap.size, 2, none⟩ (.slice A r.heads.length c)).setCell ⟨w.heap.size, 3, none⟩ (.string r.body)) :=
      (((hb4.setCell (Nat.le_refl _) _).setCell (Nat.le_refl _) _).setCell (Nat.le_refl _) _).setCell (Nat.le_refl _) _
    have hC5 : Kd.C kH ((((w4.setCell ⟨w.heap.size, 0, none⟩ (.string r.got.1)).setCell ⟨w.heap.size, 1, none⟩ (.string r.got.2)).setCell ⟨w.heap.size, 2, none⟩ (.slice A r.heads.length c)).setCell ⟨w.heap.size, 3, none⟩ (.string r.body)) A r.heads.length r.heads :=
      kC_off (kC_off (kC_off (kC_off hC4 HA0.out _) HA0.out _) HA0.out _) HA0.out _
    generalize ((((w4.setCell ⟨w.heap.size, 0, none⟩ (.string r.got.1)).setCell ⟨w.heap.size, 1, none⟩ (.string r.got.2)).setCell ⟨w.heap.size, 2, none⟩ (.slice A r.heads.length c)).setCell ⟨w.heap.size, 3, none⟩ (.string r.body)) = w5 at *
    obtain ⟨t0, t1, t2, t3⟩ := blk_cells4 hw5
    refine bodyPost_ret (v := .tuple #[.agg #[.string r.got.1, .string r.got.2, .slice A r.heads.length c, .string r.body], .int .i64 r.n, .int .i64 0]) (by simp [results, Tryz.results21, go_sem, t0, t1, t2, t3]) rfl ⟨hbl, A, c, rfl, hC5⟩
end Go.Proofs.YtaihnhhapplmbaaGreatDoor.Ht
