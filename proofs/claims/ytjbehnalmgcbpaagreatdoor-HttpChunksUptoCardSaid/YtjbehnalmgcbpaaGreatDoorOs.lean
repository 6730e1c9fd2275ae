/- The arguments of the cards: lists of texts. -/
import Derived.Test.YtjbehnalmgcbpaaGreatDoorOp
import Derived.Test.YtjbehnalmgcbpaaGreatDoorLh
import Derived.SliceStrings
set_option linter.unusedVariables false
set_option linter.unusedSimpArgs false
namespace Go.Proofs.YtjbehnalmgcbpaaGreatDoor.Op
open Go.ChangeShapes Go.WideShapes Go.ChangeAt Go.RowKit Go.Deep Go.Joins Go.Proofs.YtjbehnalmgcbpaaGreatDoor.Gl Go.Proofs.YtjbehnalmgcbpaaGreatDoor.Ht Go.Proofs.YtjbehnalmgcbpaaGreatDoorW.PrintWords

theorem tStrs : Tryz.prog.underlying 31 = some (.slice 9) := by kernel_rfl
theorem bulk_strs {H : Type} (ss : List ByteArray) : sumS ss + ss.length = Rows.uptoBulkAll (strs (H := H) ss) := by
  induction ss with
  | nil => simp [strs, Rows.uptoBulkAll, sumS]
  | cons s ss ih =>
    have e1 : strs (H := H) (s :: ss) = .lit (.string s.data.toList) :: strs ss := rfl
    have e2 : sumS (s :: ss) = s.size + sumS ss := by simp [sumS]
    have e3 : s.data.toList.length = s.size := rfl
    rw [e1, Rows.uptoBulkAll, Rows.uptoBulk, ← ih, e2, List.length_cons, e3]
    omega
theorem open_strs {H : Type} {enc : TypeId × Value → H} {W : World} {fuel : Nat} {cs : List Value} {x : DataW H × List MemPlace} (h : DataW.trod enc Tryz.prog W 0 (fun _ => true) true fuel 31 cs = some x) (hb : Rows.uptoBulk x.1 ≤ 1048576) :
    ∃ (A : Option Addr) (cap : Nat) (P : List ByteArray), cs = [.slice A P.length cap] ∧ Kd.C Kd.string W A P.length P ∧ sumS P ≤ 1048576 ∧ P.length ≤ 1048576 := by
  rcases open_strings tStrs Tryz.underlying9 cellsStr h with ⟨hcs, hx⟩ | ⟨a, len, cap, ss, hcs, _, hl, hm, hz, hx, hcell, _⟩
  · exact ⟨none, 0, [], hcs, Kd.C_nil Kd.string W, by simp [sumS], by simp⟩
  · rw [hx] at hb
    simp only [Rows.uptoBulk] at hb
    have hbs := bulk_strs (H := H) (ss.take len)
    simp only [if_true] at hz
    have hlen : (ss.take len).length = len := by rw [List.length_take]; omega
    refine ⟨some a, cap, ss.take len, by rw [hlen]; exact hcs, ⟨rfl, by unfold maxLen at hm; omega, fun _ => ⟨a, rfl, fun j p hj => ?_⟩⟩, by omega, by omega⟩
    have hjl : j < len := by have := (List.getElem?_eq_some_iff.1 hj).1; omega
    have hp : ss.getD j ByteArray.empty = p := by
      rw [List.getElem?_take_of_lt hjl] at hj
      simp [List.getD, hj]
    refine ⟨[.string p], rfl, rfl, fun q u hu => ?_⟩
    match q, hu with
    | 0, hu =>
      cases hu
      have := hcell j (by omega)
      rw [hp] at this
      simpa [Kd.string, Kd.scalar] using this
end Go.Proofs.YtjbehnalmgcbpaaGreatDoor.Op
