/- The plain side of conf's lives; penstocklaw12's lives. -/
import Derived.Test.YtpdnopfjnmjnnaaGreatDoorVm
import Derived.Test.YtpdnopfjnmjnnaaGreatDoorNt
set_option linter.unusedVariables false
set_option linter.unusedSimpArgs false
namespace Go.Proofs.YtpdnopfjnmjnnaaGreatDoor.Cn
section
open Go.Sort Go.RowKit Go.Proofs Go.Proofs.YtpdnopfjnmjnnaaGreatDoorW.PrintWords Go.Proofs.YtpdnopfjnmjnnaaGreatDoor.Bs Go.Proofs.YtpdnopfjnmjnnaaGreatDoor.Ir Go.Proofs.YtpdnopfjnmjnnaaGreatDoor.Cz

def lvB : Kn := ⟨⟨#[98]⟩, 2, ⟨#[]⟩, [⟨#[120]⟩, ⟨#[121, 32, 122]⟩], []⟩
def lvA : Kn := ⟨⟨#[97]⟩, 0, ⟨#[]⟩, [], [lvB]⟩
def lvC : Kn := ⟨⟨#[99]⟩, 1, ⟨#[53, 115]⟩, [], []⟩
def lvN : Kn := ⟨⟨#[]⟩, 0, ⟨#[]⟩, [], [lvA, lvC]⟩
theorem lv_parse1 : parseL [97, 58, 10, 32, 32, 98, 58, 32, 91, 120, 44, 32, 34, 121, 32, 122, 34, 93, 32, 35, 32, 108, 105, 115, 116, 10, 99, 58, 32, 53, 115, 10] = .ok [lvA, lvC] := by kernel_rfl
theorem lv_parse2 : parseL [97, 58, 32, 49, 10, 98, 10] = .error (15, 2) := by kernel_rfl
theorem lv_get : getL lvN [⟨#[97]⟩, ⟨#[98]⟩] = some lvB := by kernel_rfl
theorem lv_millis : millisL [53, 115] = some 5000 := by kernel_rfl
theorem lv_bytes : bytesL [52, 75, 105, 66] = some 4096 := by kernel_rfl
theorem lv_right : (decide (lvN.f1 = 0) && rightG 9 lvN) = true := by kernel_rfl
theorem lv_lines : linesB 3 0 lvN = [97, 58, 10, 32, 32, 98, 58, 32, 91, 120, 44, 32, 34, 121, 32, 122, 34, 93, 10, 99, 58, 32, 53, 115, 10] := by kernel_rfl
end
section
open Go.Sort Go.RowKit Go.Proofs Go.Proofs.YtpdnopfjnmjnnaaGreatDoorW.PrintWords Go.Proofs.YtpdnopfjnmjnnaaGreatDoor.Bs Go.Proofs.YtpdnopfjnmjnnaaGreatDoor.Ir Go.Proofs.YtpdnopfjnmjnnaaGreatDoor.Cz

theorem lv_prok : PrOK 3 lvN := by
  intro y hy
  rcases List.mem_cons.1 hy with rfl | hy
  · refine ⟨by decide, fun h => absurd h (by decide), fun h => absurd h (by decide), ?_⟩
    intro y hy
    rcases List.mem_cons.1 hy with rfl | hy
    · refine ⟨by decide, fun h => absurd h (by decide), fun _ => ⟨?_, by decide⟩, fun y hy => by cases hy⟩
      intro s hs
      rcases List.mem_cons.1 hs with rfl | hs
      · exact ⟨by decide, .inl (by kernel_rfl)⟩
      · rcases List.mem_cons.1 hs with rfl | hs
        · exact ⟨by decide, .inr ⟨by decide, by decide⟩⟩
        · cases hs
    · cases hy
  · rcases List.mem_cons.1 hy with rfl | hy
    · exact ⟨by decide, fun _ => ⟨by decide, .inl (by kernel_rfl)⟩, fun h => absurd h (by decide), fun y hy => by cases hy⟩
    · cases hy
theorem lv_fitB : Fit lvB := Fit.mk _ (by decide) (by decide) (fun y hy => by cases hy)
theorem lv_fitA : Fit lvA := by
  refine Fit.mk _ (by decide) (by decide) (fun y hy => ?_)
  rcases List.mem_cons.1 hy with rfl | hy
  · exact lv_fitB
  · cases hy
theorem lv_fit : Fit lvN := by
  refine Fit.mk _ (by decide) (by decide) (fun y hy => ?_)
  rcases List.mem_cons.1 hy with rfl | hy
  · exact lv_fitA
  · rcases List.mem_cons.1 hy with rfl | hy
    · exact Fit.mk _ (by decide) (by decide) (fun y hy => by cases hy)
    · cases hy
theorem lv_fitTB : FitT lvB := by
  refine FitT.mk _ (by decide) (fun s hs => ?_) (by decide) (fun y hy => by cases hy)
  rcases List.mem_cons.1 hs with rfl | hs
  · decide
  · rcases List.mem_cons.1 hs with rfl | hs
    · decide
    · cases hs
theorem lv_fitTA : FitT lvA := by
  refine FitT.mk _ (by decide) (fun s hs => by cases hs) (by decide) (fun y hy => ?_)
  rcases List.mem_cons.1 hy with rfl | hy
  · exact lv_fitTB
  · cases hy
theorem lv_fitT : FitT lvN := by
  refine FitT.mk _ (by decide) (fun s hs => by cases hs) (by decide) (fun y hy => ?_)
  rcases List.mem_cons.1 hy with rfl | hy
  · exact lv_fitTA
  · rcases List.mem_cons.1 hy with rfl | hy
    · exact FitT.mk _ (by decide) (fun s hs => by cases hs) (by decide) (fun y hy => by cases hy)
    · cases hy
theorem S2_new (w : World) (a b : ByteArray) : Kd.string.C (w.alloc (.cells #[.string a, .string b] 9)) (some ⟨w.heap.size, 0, none⟩) 2 [a, b] := by
  have hn := heap_alloc_new w (.cells #[.string a, .string b] 9)
  refine ⟨rfl, by decide, fun _ => ⟨_, rfl, fun j p hp => ⟨[.string p], rfl, rfl, fun i u hu => ?_⟩⟩⟩
  have hi : i = 0 := by
    have := (List.getElem?_eq_some_iff.1 hu).1
    simp at this
    exact this
  subst hi
  have e : j * Kd.string.sz + 0 = j := Nat.mul_one j
  rw [e, add_plain]
  have hu' : u = .string p := by simpa using hu.symm
  subst hu'
  have hj : j < 2 := (List.getElem?_eq_some_iff.1 hp).1
  refine (blk_cell hn j).trans ?_
  match j, hj, hp with
  | 0, _, hp => injection hp with hp; rw [← hp]; rfl
  | 1, _, hp => injection hp with hp; rw [← hp]; rfl
theorem S0_C (w : World) : Kd.string.C w none 0 [] := ⟨rfl, by decide, fun h => absurd h (by decide)⟩
theorem K_C {w : World} {v : Value} {base : Nat} {ok : Nat → Prop} {xs : List Kn} (h : kK.R 44 w base ok v xs) (hp : 0 < xs.length) : ∃ g cap, v = .slice (some ⟨g, 0, none⟩) xs.length cap ∧ kK.C w (some ⟨g, 0, none⟩) xs.length xs := by
  obtain ⟨g, cap, rfl, _, hg, _⟩ := Kd.R_form h hp
  obtain ⟨A, c, e1, hle, hC⟩ := Kd.R_reads h
  injection e1 with e1 _ e3
  subst e1
  exact ⟨g, cap, rfl, hC⟩
theorem S_C {w : World} {v : Value} {base : Nat} {ok : Nat → Prop} {xs : List ByteArray} (h : Kd.string.R 9 w base ok v xs) (hp : 0 < xs.length) : ∃ g cap, v = .slice (some ⟨g, 0, none⟩) xs.length cap ∧ ∀ j x, xs[j]? = some x → w.cell? ⟨g, j, none⟩ = some (.string x) := by
  obtain ⟨g, cap, rfl, _, hg, _⟩ := Kd.R_form h hp
  obtain ⟨A, c, e1, hle, hC⟩ := Kd.R_reads h
  injection e1 with e1 _ e3
  subst e1
  refine ⟨g, cap, rfl, fun j x hj => ?_⟩
  have hjl : j < xs.length := (List.getElem?_eq_some_iff.1 hj).1
  obtain ⟨ad, cc, e0, -, hK, hcc⟩ := Kd.C_get hC (⟨#[]⟩ : ByteArray) (j : Int) (by omega) (by omega)
  injection e0 with e0
  subst e0
  have hcs : cc = [Value.string (xs.getD (j : Int).toNat ⟨#[]⟩)] := hK
  rw [Int.toNat_natCast] at hcs
  have hsy : xs.getD j ⟨#[]⟩ = x := by simp [hj]
  rw [hsy] at hcs
  have qs := hcc 0 (.string x) (by rw [hcs]; rfl)
  rw [Int.toNat_natCast] at qs
  have ej : j * Kd.string.sz + 0 = j := Nat.mul_one j
  rw [ej, add_plain] at qs
  simpa using qs
set_option maxRecDepth 100000 in
set_option maxHeartbeats 4000000 in
theorem lives_any (w : World) (hm : Mx w) (hv : Ev w) (hlow : 1 < w.heap.size) : Calls Tryz.prog 14 #[] w fun e w' => e = .returned (.bool true) ∧ Below w.heap.size w w' := by
  have hp1 := parse_any ⟨#[97, 58, 10, 32, 32, 98, 58, 32, 91, 120, 44, 32, 34, 121, 32, 122, 34, 93, 32, 35, 32, 108, 105, 115, 116, 10, 99, 58, 32, 53, 115, 10]⟩ w hm (by decide)
  rw [show (⟨#[97, 58, 10, 32, 32, 98, 58, 32, 91, 120, 44, 32, 34, 121, 32, 122, 34, 93, 32, 35, 32, 108, 105, 115, 116, 10, 99, 58, 32, 53, 115, 10]⟩ : ByteArray).data.toList = [97, 58, 10, 32, 32, 98, 58, 32, 91, 120, 44, 32, 34, 121, 32, 122, 34, 93, 32, 35, 32, 108, 105, 115, 116, 10, 99, 58, 32, 53, 115, 10] from rfl, lv_parse1] at hp1
  go_enter Tryz.func14, Tryz.ntmps14
  go_wp2_with fail
  refine hp1.mono ?_
  rintro e w1 ⟨hb1, v, rfl, hR1⟩
  obtain ⟨g, cap, rfl, hC1⟩ := K_C hR1 (by decide)
  have hC1' : kK.C w1 (some ⟨g, 0, none⟩) 2 [lvA, lvC] := hC1
  rw [show ([lvA, lvC] : List Kn).length = 2 from rfl]
  obtain ⟨w3, hw3⟩ : ∃ w3, w3 = (w1.alloc (.cells #[.int .u8 0, .string ⟨#[]⟩, .slice none 0 0, .slice (some ⟨g, 0, none⟩) 2 cap] 32)).alloc (.cells #[.string ⟨#[97]⟩, .string ⟨#[98]⟩] 9) := ⟨_, rfl⟩
  have hb3 : Below w1.heap.size w1 w3 := by rw [hw3]; exact below_alloc (below_alloc (Below.refl _ _) _) _
  have hbx : w3.heap[w1.heap.size]? = some (.cells #[.int .u8 0, .string ⟨#[]⟩, .slice none 0 0, .slice (some ⟨g, 0, none⟩) 2 cap] 32 (0, 0)) := by rw [hw3, Below.heap_alloc _ _ _ (by simp)]; exact heap_alloc_new w1 _
  have hcp : Kd.string.C w3 (some ⟨w1.heap.size + 1, 0, none⟩) 2 [⟨#[97]⟩, ⟨#[98]⟩] := by
    have := S2_new (w1.alloc (.cells #[.int .u8 0, .string ⟨#[]⟩, .slice none 0 0, .slice (some ⟨g, 0, none⟩) 2 cap] 32)) ⟨#[97]⟩ ⟨#[98]⟩
    rw [hw3]
    simpa using this
  have hget := get_any lvN lv_fit none 0 (some ⟨g, 0, none⟩) cap (some ⟨w1.heap.size + 1, 0, none⟩) 2 [⟨#[97]⟩, ⟨#[98]⟩] w3 (S0_C w3) (hC1'.imp_ hb3 (fun _ _ hp => kK.K_below hb3 hp)) hcp (by decide)
  have HW3 := Lib.hid hw3
  have HC1 := Lib.hid hC1'
  have HB3 := Lib.hid (And.intro (hb1.trans (hb3.mono hb1.size)) hb3)
  have HBX := Lib.hid hbx
  clear hp1 hR1 hC1 hC1' hw3 hb3 hbx hcp
  go_wp2_with fail
  rw [← HW3.out]
  refine hget.mono ?_
  rintro e w4 ⟨hb4, hq⟩
  rw [lv_get] at hq
  obtain ⟨v3, v4, rfl, hR3, hR4⟩ := hq
  obtain ⟨g3, cap3, rfl, hC3⟩ := S_C hR3 (by decide)
  obtain ⟨A4, c4, rfl⟩ := Kd.R_slice hR4
  have hyz : w4.cell? ⟨g3, 1, none⟩ = some (.string ⟨#[121, 32, 122]⟩) := hC3 1 _ rfl
  rw [show lvB.f3.length = 2 from rfl, show lvB.f4.length = 0 from rfl, show lvB.f1 = 2 from rfl, show lvB.f2 = (⟨#[]⟩ : ByteArray) from rfl]
  obtain ⟨w5, hw5⟩ : ∃ w5, w5 = w4.alloc (.cells #[.int .u8 2, .string ⟨#[]⟩, .slice (some ⟨g3, 0, none⟩) 2 cap3, .slice A4 0 c4] 32) := ⟨_, rfl⟩
  have hb5 : Below w4.heap.size w4 w5 := by rw [hw5]; exact below_alloc (Below.refl _ _) _
  have hby : w5.heap[w4.heap.size]? = some (.cells #[.int .u8 2, .string ⟨#[]⟩, .slice (some ⟨g3, 0, none⟩) 2 cap3, .slice A4 0 c4] 32 (0, 0)) := by rw [hw5]; exact heap_alloc_new w4 _
  have hyz5 := (hb5.cell (World.block_lt_of_cell? w4 _ hyz)).trans hyz
  have hb35 : Below w3.heap.size w3 w5 := hb4.trans (hb5.mono hb4.size)
  have hbw5 : Below w.heap.size w w5 := HB3.out.1.trans (hb35.mono HB3.out.1.size)
  have hmil := millis_any w5 [53, 115] (by decide) (hv.below hbw5 hlow) (Nat.lt_of_lt_of_le hlow hbw5.size)
  rw [lv_millis] at hmil
  have HW5 := Lib.hid hw5
  have HB5 := Lib.hid (And.intro hbw5 hb35)
  have HBY := Lib.hid hby
  have HYZ := Lib.hid hyz5
  clear hget hb4 hR3 hR4 hC3 hyz hw5 hb5 hby hyz5 hb35 hbw5
  go_wp2_with fail
  rw [← HW5.out]
  refine hmil.mono ?_
  rintro e w6 ⟨rfl, hb6⟩
  have hbw6 : Below w.heap.size w w6 := HB5.out.1.trans (hb6.mono HB5.out.1.size)
  have hbyt := bytes_any w6 [52, 75, 105, 66] (by decide) (hv.below hbw6 hlow) (Nat.lt_of_lt_of_le hlow hbw6.size)
  rw [lv_bytes] at hbyt
  unfold unitV
  have HB6 := Lib.hid (And.intro hbw6 hb6)
  clear hmil hb6 hbw6
  go_wp2_with fail
  refine hbyt.mono ?_
  rintro e w7 ⟨rfl, hb7⟩
  have hbw7 : Below w.heap.size w w7 := HB6.out.1.trans (hb7.mono HB6.out.1.size)
  have hp2 := parse_any ⟨#[97, 58, 32, 49, 10, 98, 10]⟩ w7 (hm.below hbw7) (by decide)
  rw [show (⟨#[97, 58, 32, 49, 10, 98, 10]⟩ : ByteArray).data.toList = [97, 58, 32, 49, 10, 98, 10] from rfl, lv_parse2] at hp2
  unfold unitV
  have HB7 := Lib.hid (And.intro hbw7 hb7)
  clear hbyt hb7 hbw7
  go_wp2_with fail
  refine hp2.mono ?_
  rintro e w8 ⟨hb8, rfl⟩
  obtain ⟨w9, hw9⟩ : ∃ w9, w9 = w8.alloc (.cells #[.int .u8 0, .string ⟨#[]⟩, .slice none 0 0, .slice none 0 0] 32) := ⟨_, rfl⟩
  have hb9 : Below w8.heap.size w8 w9 := by rw [hw9]; exact below_alloc (Below.refl _ _) _
  have hb79 : Below w7.heap.size w7 w9 := hb8.trans (hb9.mono hb8.size)
  have hb69 : Below w6.heap.size w6 w9 := HB7.out.2.trans (hb79.mono HB7.out.2.size)
  have hb59 : Below w5.heap.size w5 w9 := HB6.out.2.trans (hb69.mono HB6.out.2.size)
  have hb39 : Below w3.heap.size w3 w9 := HB5.out.2.trans (hb59.mono HB5.out.2.size)
  have hb19 : Below w1.heap.size w1 w9 := HB3.out.2.trans (hb39.mono HB3.out.2.size)
  have hbw9 : Below w.heap.size w w9 := HB7.out.1.trans (hb79.mono HB7.out.1.size)
  have hpr := print_any 3 (by decide) lvN lv_fit lv_fitT lv_prok none 0 (some ⟨g, 0, none⟩) cap w9 (S0_C w9) (HC1.out.imp_ hb19 (fun _ _ hp => kK.K_below hb19 hp)) (hm.below hbw9) lv_right (by rw [lv_lines]; decide) (by rw [lv_lines]; decide)
  rw [lv_lines] at hpr
  have hbx9 := (hb39.block _ (blk_lt HBX.out)).trans HBX.out
  have x0 := blk_cell hbx9 0
  have x1 := blk_cell hbx9 1
  have x2 := blk_cell hbx9 2
  have x3 := blk_cell hbx9 3
  rw [hw9] at x0 x1 x2 x3
  have HW9 := Lib.hid hw9
  have HB9 := Lib.hid (And.intro hbw9 hb59)
  clear hp2 hb8 hb9 hb79 hb69 hb59 hb39 hb19 hbw9 hbx9 hw9
  go_wp2_with fail
  rw [← HW9.out]
  refine hpr.mono ?_
  rintro e wa ⟨rfl, hba⟩
  have hb5a : Below w5.heap.size w5 wa := HB9.out.2.trans (hba.mono HB9.out.2.size)
  have y2 := blk_cell ((hb5a.block _ (blk_lt HBY.out)).trans HBY.out) 2
  have yz := (hb5a.cell (World.block_lt_of_cell? w5 _ HYZ.out)).trans HYZ.out
  rw [show printV [97, 58, 10, 32, 32, 98, 58, 32, 91, 120, 44, 32, 34, 121, 32, 122, 34, 93, 10, 99, 58, 32, 53, 115, 10] = .tuple #[.string ⟨#[97, 58, 10, 32, 32, 98, 58, 32, 91, 120, 44, 32, 34, 121, 32, 122, 34, 93, 10, 99, 58, 32, 53, 115, 10]⟩, .int .i64 0] from rfl]
  have HBA := Lib.hid (HB9.out.1.trans (hba.mono HB9.out.1.size))
  clear hpr x0 x1 x2 x3 hba hb5a
  go_wp2_with fail
  go_ret
  exact ⟨rfl, HBA.out⟩
end
end Go.Proofs.YtpdnopfjnmjnnaaGreatDoor.Cn
