/- The arguments of the cards: heads, texts; what the bound on the bulk gives. -/
import Derived.Test.YtaihnhhapplmbaaGreatDoorGl
import Derived.Test.YtaihnhhapplmbaaGreatDoorHd
import Derived.Deep.Slices
import Derived.Lib.SmallJoins
import Derived.ChangeOld
set_option linter.unusedVariables false
set_option linter.unusedSimpArgs false
namespace Go.Proofs.YtaihnhhapplmbaaGreatDoor.Op
open Go.ChangeShapes Go.WideShapes Go.ChangeAt Go.RowKit Go.Deep Go.Joins Go.Proofs.YtaihnhhapplmbaaGreatDoor.Gl Go.Proofs.YtaihnhhapplmbaaGreatDoor.Ht Go.Proofs.YtaihnhhapplmbaaGreatDoorW.PrintWords
open Go.ChangeMaps (open_string shut_string)

theorem laidOut : laidOutB Tryz.prog = true := by kernel_rfl
theorem list2 {α : Type} {l : List α} (h : l.length = 2) : ∃ a b, l = [a, b] := by
  match l, h with
  | [a, b], _ => exact ⟨a, b, rfl⟩
section
variable {H : Type} {enc : TypeId × Value → H} {W : World}
theorem bulk_one (d : DataW H) : 1 ≤ Rows.uptoBulk d := by
  cases d with
  | lit l => cases l <;> simp [Rows.uptoBulk]
  | held h => simp [Rows.uptoBulk]
  | nil => simp [Rows.uptoBulk]
  | _ => simp [Rows.uptoBulk]
theorem bulk_mem {d : DataW H} : ∀ {l : List (DataW H)}, d ∈ l → Rows.uptoBulk d ≤ Rows.uptoBulkAll l
  | [], h => by cases h
  | x :: r, h => by
    rw [Rows.uptoBulkAll]
    rcases List.mem_cons.1 h with e | e
    · rw [e]; omega
    · have := bulk_mem e; omega
theorem bulk_len : ∀ (l : List (DataW H)), l.length ≤ Rows.uptoBulkAll l
  | [] => by simp
  | x :: r => by have := bulk_one x; have := bulk_len r; rw [Rows.uptoBulkAll, List.length_cons]; omega
theorem small_of {l : List (DataW H)} (hk : Rows.uptoSmall H l = true) : Rows.uptoBulkAll l ≤ 1048576 := of_decide_eq_true hk
theorem short {s : ByteArray} (h : Rows.uptoBulk (DataW.lit (H := H) (.string s.data.toList)) ≤ 1048576) : s.size ≤ 1048576 := by
  rw [Rows.uptoBulk] at h
  have e : s.data.toList.length = s.size := rfl
  omega
theorem Ht_struct : ∃ f0 f1, Tryz.prog.underlying 82 = some (.struct #[f0, f1]) ∧ f0.type = 9 ∧ f1.type = 9 ∧ f0.offset = 0 ∧ f1.offset = 1 := ⟨_, _, Tryz.underlying82, rfl, rfl, rfl, rfl⟩
theorem cellsHd : Tryz.prog.cellsOf 82 = 2 := by kernel_rfl
theorem cellsStr : Tryz.prog.cellsOf 9 = 1 := by kernel_rfl
theorem hT : Tryz.prog.underlying 49 = some (.slice 82) := by kernel_rfl
theorem open_heads {fuel : Nat} {cs : List Value} {x : DataW H × List MemPlace} (h : DataW.trod enc Tryz.prog W 0 (fun _ => true) true fuel 49 cs = some x) (hb : Rows.uptoBulk x.1 ≤ 1048576) :
    ∃ (A : Option Addr) (cap : Nat) (l : List Head), cs = [.slice A l.length cap] ∧ Kd.C kH W A l.length l ∧ (∀ y ∈ l, y.name.size ≤ 1048576 ∧ y.value.size ≤ 1048576) ∧ l.length ≤ 1048576 := by
  rcases open_slice hT h with ⟨hcs, hx⟩ | ⟨a, len, cap, m, n, D, Pl, hcs, _, hl, hm, hmm, hx, hi⟩
  · exact ⟨none, 0, [], hcs, Kd.C_nil kH W, by simp, by simp⟩
  · rw [hx] at hb
    simp only [Rows.uptoBulk] at hb
    have hlen := bulk_len ((List.range len).map D)
    rw [List.length_map, List.length_range] at hlen
    have hm' : m = cap := by rw [hmm]; simp
    have key : ∀ i, ∃ y : Head, i < len → W.cell? (a.add (i * 2)) = some (.string y.name) ∧ W.cell? (a.add (i * 2 + 1)) = some (.string y.value) ∧ y.name.size ≤ 1048576 ∧ y.value.size ≤ 1048576 := by
      intro i
      by_cases hil : i < len
      · obtain ⟨cs', hc, ht⟩ := hi i (by omega)
        rw [cellsHd] at hc
        obtain ⟨f0, f1, hs, t0, t1, o0, o1⟩ := Ht_struct
        obtain ⟨ys, n', hn', hy, hlc, hyl, hf⟩ := DataW.trod_struct hs ht
        obtain ⟨_, hcl, hat⟩ := World.cells?_some hc
        have g0 := hf 0 f0 rfl
        have g1 := hf 1 f1 rfl
        rw [t0, o0, cellsStr] at g0
        rw [t1, o1, cellsStr] at g1
        obtain ⟨y0, y1, rfl⟩ := list2 hyl
        obtain ⟨s0, e0, z0, m0⟩ := DataW.trod_string Tryz.underlying9 g0
        obtain ⟨s1, e1, z1, m1⟩ := DataW.trod_string Tryz.underlying9 g1
        have hD : D i ∈ (List.range len).map D := List.mem_map_of_mem (List.mem_range.2 hil)
        have hbd := bulk_mem hD
        have hDi : D i = .agg [y0.1, y1.1] := by
          have := congrArg Prod.fst hy
          simpa using this
        rw [hDi, z0, z1] at hbd
        simp only [Rows.uptoBulk, Rows.uptoBulkAll] at hbd
        have l0 : s0.data.toList.length = s0.size := rfl
        have l1 : s1.data.toList.length = s1.size := rfl
        rw [cellsHd] at hlc
        obtain ⟨c0, c1, rfl⟩ := list2 hlc
        have e0' : c0 = .string s0 := by simpa using e0
        have e1' : c1 = .string s1 := by simpa using e1
        have hb0 : s0.size ≤ 1048576 := by omega
        have hb1 : s1.size ≤ 1048576 := by omega
        refine ⟨⟨s0, s1⟩, fun _ => ⟨?_, ?_, hb0, hb1⟩⟩
        · have := hat 0 (by simp)
          rw [← e0']
          simpa [Go.Deep.add_add] using this
        · have := hat 1 (by simp)
          rw [← e1']
          simpa [Go.Deep.add_add] using this
      · exact ⟨zH, fun h => absurd h hil⟩
    obtain ⟨f, hf⟩ := Classical.axiomOfChoice key
    refine ⟨some a, cap, (List.range len).map f, by simpa using hcs, ⟨by simp, by simp; unfold maxLen at hm; omega, fun _ => ⟨a, rfl, fun j p hj => ?_⟩⟩, ?_, by simp; omega⟩
    · have hjl : j < len := by have := (List.getElem?_eq_some_iff.1 hj).1; simpa using this
      have hp : f j = p := by simpa [hjl] using hj
      obtain ⟨c0, c1, _, _⟩ := hf j hjl
      rw [hp] at c0 c1
      refine ⟨[.string p.name, .string p.value], rfl, kH_mk _ p, fun q u hu => ?_⟩
      match q, hu with
      | 0, hu => cases hu; exact c0
      | 1, hu => cases hu; exact c1
    · intro y hy
      obtain ⟨i, hi2, rfl⟩ := List.mem_map.1 hy
      exact (hf i (List.mem_range.1 hi2)).2.2
end
end Go.Proofs.YtaihnhhapplmbaaGreatDoor.Op
