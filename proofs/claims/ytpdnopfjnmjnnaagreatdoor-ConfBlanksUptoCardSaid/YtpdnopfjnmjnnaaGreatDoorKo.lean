/- The arguments of conf's cards: a node, lists of texts. -/
import Derived.Test.YtpdnopfjnmjnnaaGreatDoorKp
import Derived.Test.YtpdnopfjnmjnnaaGreatDoorVg
import Derived.SliceStrings
set_option linter.unusedVariables false
set_option linter.unusedSimpArgs false
namespace Go.Proofs.YtpdnopfjnmjnnaaGreatDoor.Kp
open Go.ChangeShapes Go.WideShapes Go.ChangeAt Go.RowKit Go.Deep Go.Joins Go.Proofs.YtpdnopfjnmjnnaaGreatDoor.Kg Go.Proofs.YtpdnopfjnmjnnaaGreatDoor.Cn Go.Proofs.YtpdnopfjnmjnnaaGreatDoorW.PrintWords

theorem cellsStr : Tryz.prog.cellsOf 9 = 1 := by kernel_rfl
theorem cellsKd : Tryz.prog.cellsOf 44 = 5 := by kernel_rfl
theorem cellsNd : Tryz.prog.cellsOf 32 = 4 := by kernel_rfl
theorem cellsNk : Tryz.prog.cellsOf 28 = 1 := by kernel_rfl
theorem cellsSs : Tryz.prog.cellsOf 29 = 1 := by kernel_rfl
theorem cellsKs : Tryz.prog.cellsOf 30 = 1 := by kernel_rfl
theorem tStrs : Tryz.prog.underlying 29 = some (.slice 9) := by kernel_rfl
theorem tKeys : Tryz.prog.underlying 30 = some (.slice 44) := by kernel_rfl
theorem Nd_struct : ∃ f0 f1 f2 f3, Tryz.prog.underlying 32 = some (.struct #[f0, f1, f2, f3]) ∧ f0.type = 28 ∧ f1.type = 9 ∧ f2.type = 29 ∧ f3.type = 30 ∧ f0.offset = 0 ∧ f1.offset = 1 ∧ f2.offset = 2 ∧ f3.offset = 3 := ⟨_, _, _, _, Tryz.underlying32, rfl, rfl, rfl, rfl, rfl, rfl, rfl, rfl⟩
theorem Kd_struct : ∃ f0 f1, Tryz.prog.underlying 44 = some (.struct #[f0, f1]) ∧ f0.type = 9 ∧ f1.type = 32 ∧ f0.offset = 0 ∧ f1.offset = 1 := ⟨_, _, Tryz.underlying44, rfl, rfl, rfl, rfl⟩
section
variable {H : Type} {enc : TypeId × Value → H} {W : World}
theorem bulk_strs (ss : List ByteArray) : (∀ s ∈ ss, s.size ≤ Rows.uptoBulkAll (strs (H := H) ss)) ∧ ss.length ≤ Rows.uptoBulkAll (strs (H := H) ss) := by
  induction ss with
  | nil => simp
  | cons s ss ih =>
    have e1 : strs (H := H) (s :: ss) = .lit (.string s.data.toList) :: strs ss := rfl
    have e3 : s.data.toList.length = s.size := rfl
    rw [e1, Rows.uptoBulkAll, Rows.uptoBulk, e3, List.length_cons]
    refine ⟨fun x hx => ?_, by have := ih.2; omega⟩
    rcases List.mem_cons.1 hx with rfl | hx
    · omega
    · have := ih.1 x hx; omega
theorem open_strs {fuel : Nat} {cs : List Value} {x : DataW H × List MemPlace} (h : DataW.trod enc Tryz.prog W 0 (fun _ => true) true fuel 29 cs = some x) (hb : Rows.uptoBulk x.1 ≤ 1048576) :
    ∃ (A : Option Addr) (cap : Nat) (P : List ByteArray), cs = [.slice A P.length cap] ∧ P.length ≤ cap ∧ Kd.string.C W A P.length P ∧ (∀ s ∈ P, s.size ≤ 1048576) ∧ P.length ≤ 1048576 := by
  rcases open_strings tStrs Tryz.underlying9 cellsStr h with ⟨hcs, hx⟩ | ⟨a, len, cap, ss, hcs, _, hl, hm, hz, hx, hcell, _⟩
  · exact ⟨none, 0, [], hcs, by simp, Kd.C_nil Kd.string W, by simp, by simp⟩
  · rw [hx] at hb
    simp only [Rows.uptoBulk] at hb
    have hbs := bulk_strs (H := H) (ss.take len)
    simp only [if_true] at hz
    have hlen : (ss.take len).length = len := by rw [List.length_take]; omega
    refine ⟨some a, cap, ss.take len, by rw [hlen]; exact hcs, by omega, ⟨rfl, by unfold maxLen at hm; omega, fun _ => ⟨a, rfl, fun j p hj => ?_⟩⟩, fun s hs => by have := hbs.1 s hs; omega, by omega⟩
    have hjl : j < len := by have := (List.getElem?_eq_some_iff.1 hj).1; omega
    have hp : ss.getD j ByteArray.empty = p := by
      rw [List.getElem?_take_of_lt hjl] at hj
      simp [List.getD, hj]
    refine ⟨[.string p], rfl, rfl, fun q u hu => ?_⟩
    match q, hu with
    | 0, hu =>
      cases hu
      have := hcell j (by omega)
      rw [hp] at this
      simpa [Kd.string, Kd.scalar] using this
/-- What the cells of a node say, its keys read by a given law. -/
def NodeAt (W : World) (x : Kn) (cs : List Value) : Prop := ∃ A3 c3 A4 c4, cs = [.int .u8 x.f1, .string x.f2, .slice A3 x.f3.length c3, .slice A4 x.f4.length c4] ∧ x.f3.length ≤ c3 ∧ Kd.string.C W A3 x.f3.length x.f3 ∧ x.f4.length ≤ c4 ∧ kK.C W A4 x.f4.length x.f4 ∧ Fit x ∧ FitT x
theorem open_fields {k : ByteArray} (hk : k.size ≤ 1048576) {n : Nat} {c0 c1 c2 c3 : Value} {y0 y1 y2 y3 : DataW H × List MemPlace} (g0 : DataW.trod enc Tryz.prog W 0 (fun _ => true) true n 28 [c0] = some y0) (g1 : DataW.trod enc Tryz.prog W 0 (fun _ => true) true n 9 [c1] = some y1) (g2 : DataW.trod enc Tryz.prog W 0 (fun _ => true) true n 29 [c2] = some y2)
    (g3 : ∃ (A : Option Addr) (cap : Nat) (l : List Kn), c3 = .slice A l.length cap ∧ l.length ≤ cap ∧ kK.C W A l.length l ∧ (∀ y ∈ l, Fit y ∧ FitT y) ∧ l.length ≤ 1048576) (hb : Rows.uptoBulkAll [y0.1, y1.1, y2.1, y3.1] ≤ 1048576) : ∃ x : Kn, x.f0 = k ∧ NodeAt W x [c0, c1, c2, c3] := by
  simp only [Rows.uptoBulkAll] at hb
  obtain ⟨i, e0, -, -⟩ := DataW.trod_int Tryz.underlying28 g0
  obtain ⟨s, e1, z1, -⟩ := DataW.trod_string Tryz.underlying9 g1
  obtain ⟨A3, d3, P, e2, l3, C3, hP, n3⟩ := open_strs g2 (by omega)
  obtain ⟨A4, d4, l, e3, l4, C4, hl, n4⟩ := g3
  simp only [List.cons.injEq, and_true] at e0 e1 e2
  have hb1 : Rows.uptoBulk y1.1 ≤ 1048576 := by omega
  rw [z1] at hb1
  have hs : s.size ≤ 1048576 := short hb1
  refine ⟨⟨k, i, s, P, l⟩, rfl, A3, d3, A4, d4, by rw [e0, e1, e2, e3], l3, C3, l4, C4, Fit.mk _ (by show P.length ≤ _; omega) (by show l.length ≤ _; omega) (fun y hy => (hl y hy).1), FitT.mk _ (by show s.size ≤ _; omega) (fun s hs => by have := hP s hs; omega) (by show k.size ≤ _; omega) (fun y hy => (hl y hy).2)⟩
theorem list4 {α : Type} {l : List α} (h : l.length = 4) : ∃ a b c d, l = [a, b, c, d] := by
  match l, h with
  | [a, b, c, d], _ => exact ⟨a, b, c, d, rfl⟩
theorem list5 {α : Type} {l : List α} (h : l.length = 5) : ∃ a b c d e, l = [a, b, c, d, e] := by
  match l, h with
  | [a, b, c, d, e], _ => exact ⟨a, b, c, d, e, rfl⟩
/-- A node's fields. -/
theorem node_parts {fuel : Nat} {cs : List Value} {x : DataW H × List MemPlace} (h : DataW.trod enc Tryz.prog W 0 (fun _ => true) true fuel 32 cs = some x) :
    ∃ n c0 c1 c2 c3 y0 y1 y2 y3, cs = [c0, c1, c2, c3] ∧ x.1 = .agg [y0.1, y1.1, y2.1, y3.1] ∧ DataW.trod enc Tryz.prog W 0 (fun _ => true) true n 28 [c0] = some y0 ∧ DataW.trod enc Tryz.prog W 0 (fun _ => true) true n 9 [c1] = some y1 ∧ DataW.trod enc Tryz.prog W 0 (fun _ => true) true n 29 [c2] = some y2 ∧ DataW.trod enc Tryz.prog W 0 (fun _ => true) true n 30 [c3] = some y3 := by
  obtain ⟨f0, f1, f2, f3, hs, t0, t1, t2, t3, o0, o1, o2, o3⟩ := Nd_struct
  obtain ⟨ys, n, _, hy, hlc, hyl, hf⟩ := DataW.trod_struct hs h
  have g0 := hf 0 f0 rfl
  have g1 := hf 1 f1 rfl
  have g2 := hf 2 f2 rfl
  have g3 := hf 3 f3 rfl
  rw [t0, o0, cellsNk] at g0
  rw [t1, o1, cellsStr] at g1
  rw [t2, o2, cellsSs] at g2
  rw [t3, o3, cellsKs] at g3
  obtain ⟨y0, y1, y2, y3, rfl⟩ := list4 hyl
  rw [cellsNd] at hlc
  obtain ⟨c0, c1, c2, c3, rfl⟩ := list4 hlc
  exact ⟨n, c0, c1, c2, c3, y0, y1, y2, y3, rfl, by rw [hy]; rfl, g0, g1, g2, g3⟩
theorem open_keys {B : Nat} (ih : ∀ {fuel : Nat} {cs : List Value} {x : DataW H × List MemPlace}, DataW.trod enc Tryz.prog W 0 (fun _ => true) true fuel 44 cs = some x → Rows.uptoBulk x.1 ≤ B → ∃ y : Kn, kK.K W y cs ∧ Fit y ∧ FitT y) (hB : B ≤ 1048576)
    {fuel : Nat} {c : Value} {x : DataW H × List MemPlace} (h : DataW.trod enc Tryz.prog W 0 (fun _ => true) true fuel 30 [c] = some x) (hb : Rows.uptoBulk x.1 ≤ B) :
    ∃ (A : Option Addr) (cap : Nat) (l : List Kn), c = .slice A l.length cap ∧ l.length ≤ cap ∧ kK.C W A l.length l ∧ (∀ y ∈ l, Fit y ∧ FitT y) ∧ l.length ≤ 1048576 := by
  rcases open_slice tKeys h with ⟨hcs, hx⟩ | ⟨a, len, cap, m, n, D, Pl, hcs, _, hl, hm, hmm, hx, hi⟩
  · simp only [List.cons.injEq, and_true] at hcs
    exact ⟨none, 0, [], hcs, by simp, Kd.C_nil kK W, by simp, by simp⟩
  · simp only [List.cons.injEq, and_true] at hcs
    rw [hx] at hb
    simp only [Rows.uptoBulk] at hb
    have hlen := bulk_len ((List.range len).map D)
    rw [List.length_map, List.length_range] at hlen
    have hm' : m = cap := by rw [hmm]; simp
    have key : ∀ i, ∃ y : Kn, i < len → (∃ cs, W.cells? 0 (a.add (i * 5)) 5 = some cs ∧ kK.K W y cs) ∧ Fit y ∧ FitT y := by
      intro i
      by_cases hil : i < len
      · obtain ⟨cs', hc, ht⟩ := hi i (by omega)
        rw [cellsKd] at hc
        have hD : D i ∈ (List.range len).map D := List.mem_map_of_mem (List.mem_range.2 hil)
        have hbd := bulk_mem hD
        obtain ⟨y, h1, h2, h3⟩ := ih ht (by show Rows.uptoBulk (D i) ≤ B; omega)
        exact ⟨y, fun _ => ⟨⟨cs', hc, h1⟩, h2, h3⟩⟩
      · exact ⟨zKn, fun h => absurd h hil⟩
    obtain ⟨f, hf⟩ := Classical.axiomOfChoice key
    refine ⟨some a, cap, (List.range len).map f, by simpa using hcs, by simpa using hl, ⟨by simp, by simp; unfold maxLen at hm; omega, fun _ => ⟨a, rfl, fun j p hj => ?_⟩⟩, ?_, by simp; omega⟩
    · have hjl : j < len := by have := (List.getElem?_eq_some_iff.1 hj).1; simpa using this
      have hp : f j = p := by simpa [hjl] using hj
      obtain ⟨⟨cs, c0, c1⟩, _, _⟩ := hf j hjl
      rw [hp] at c1
      obtain ⟨_, hcl, hat⟩ := World.cells?_some c0
      have e5 : kK.sz = 5 := rfl
      refine ⟨cs, hcl, c1, fun q u hu => ?_⟩
      have hq : q < 5 := by rw [← hcl]; exact (List.getElem?_eq_some_iff.1 hu).1
      have := hat q hq
      rw [hu] at this
      show W.cell? (a.add (j * 5 + q)) = some u
      simpa [Go.Deep.add_add] using this
    · intro y hy
      obtain ⟨i, hi2, rfl⟩ := List.mem_map.1 hy
      exact (hf i (List.mem_range.1 hi2)).2
theorem open_keyed (B : Nat) (hB : B ≤ 1048576) : ∀ {fuel : Nat} {cs : List Value} {x : DataW H × List MemPlace}, DataW.trod enc Tryz.prog W 0 (fun _ => true) true fuel 44 cs = some x → Rows.uptoBulk x.1 ≤ B → ∃ y : Kn, kK.K W y cs ∧ Fit y ∧ FitT y := by
  induction B with
  | zero => intro fuel cs x h hb; have := bulk_one x.1; omega
  | succ B ih =>
    intro fuel cs x h hb
    obtain ⟨f0, f1, hs, t0, t1, o0, o1⟩ := Kd_struct
    obtain ⟨ys, n, _, hy, hlc, hyl, hf⟩ := DataW.trod_struct hs h
    have g0 := hf 0 f0 rfl
    have g1 := hf 1 f1 rfl
    rw [t0, o0, cellsStr] at g0
    rw [t1, o1, cellsNd] at g1
    obtain ⟨y0, y1, rfl⟩ := list2 hyl
    rw [cellsKd] at hlc
    obtain ⟨d0, d1, d2, d3, d4, rfl⟩ := list5 hlc
    obtain ⟨s, e0, z0, -⟩ := DataW.trod_string Tryz.underlying9 g0
    obtain ⟨m, c0, c1, c2, c3, z1, z2, z3, z4, hcs, hz, k0, k1, k2, k3⟩ := node_parts g1
    have hx1 : x.1 = .agg [y0.1, y1.1] := by rw [hy]; rfl
    rw [hx1, hz, z0] at hb
    simp only [Rows.uptoBulk, Rows.uptoBulkAll] at hb
    have b1 := bulk_one z1.1
    have b2 := bulk_one z2.1
    have b3 := bulk_one z3.1
    have hs : s.size ≤ 1048576 := by have e3 : s.data.toList.length = s.size := rfl; omega
    obtain ⟨y, hy0, A3, w3, A4, w4, e, l3, C3, l4, C4, F, FT⟩ := open_fields (y3 := z4) hs k0 k1 k2 (open_keys (ih (by omega)) (by omega) k3 (by omega)) (by simp only [Rows.uptoBulkAll]; omega)
    simp at e0 hcs
    obtain ⟨rfl, rfl, rfl, rfl⟩ := hcs
    refine ⟨y, ?_, F, FT⟩
    have hh := kK_mk W y l3 C3 l4 C4
    rw [← e] at hh
    rw [hy0] at hh
    rw [e0]
    exact hh
/-- A node. -/
theorem open_node {fuel : Nat} {cs : List Value} {x : DataW H × List MemPlace} (h : DataW.trod enc Tryz.prog W 0 (fun _ => true) true fuel 32 cs = some x) (hb : Rows.uptoBulk x.1 ≤ 1048576) : ∃ y : Kn, NodeAt W y cs := by
  obtain ⟨m, c0, c1, c2, c3, z1, z2, z3, z4, hcs, hz, k0, k1, k2, k3⟩ := node_parts h
  rw [hz] at hb
  simp only [Rows.uptoBulk] at hb
  have hb' := hb
  simp only [Rows.uptoBulkAll] at hb'
  obtain ⟨y, -, hN⟩ := open_fields (y3 := z4) (k := ⟨#[]⟩) (by decide) k0 k1 k2 (open_keys (open_keyed 1048576 (by omega)) (by omega) k3 (by omega)) (by omega)
  rw [hcs]
  exact ⟨y, hN⟩
end
end Go.Proofs.YtpdnopfjnmjnnaaGreatDoor.Kp
