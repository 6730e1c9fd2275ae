/- strings.Replacer, of bytes by texts: what a text without such bytes becomes. -/
import Derived.Test.YtpdnopfjnmjnnaaGreatDoorVe
import Derived.Test.YtpdnopfjnmjnnaaGreatDoorNm
set_option linter.unusedVariables false
set_option linter.unusedSimpArgs false
namespace Go.Proofs.YtpdnopfjnmjnnaaGreatDoor.Cn
open Go.Sort Go.RowKit Go.Proofs Go.Proofs.YtpdnopfjnmjnnaaGreatDoorW.PrintWords Go.Proofs.YtpdnopfjnmjnnaaGreatDoor.Bs Go.Proofs.YtpdnopfjnmjnnaaGreatDoor.Ir Go.Proofs.YtpdnopfjnmjnnaaGreatDoor.Cz

/-- The bytes that are quoted. -/
def spB (b : UInt8) : Bool := [92, 34, 10, 9].contains b.toNat
/-- The replacer's table in memory. -/
structure RepB (w : World) (rb : Nat) : Prop where
  tab : ∃ (cs : Array Value) (X : Option Addr) (c : Nat), w.heap[rb]? = some (.cells cs 189 (0, 0)) ∧ cs[256]? = some (.slice X 4 c) ∧ ∀ j : Nat, j < 256 → [92, 34, 10, 9].contains j = false → cs[j]? = some (.slice none 0 0)
theorem RepB.at {w : World} {rb : Nat} (h : RepB w rb) (b : UInt8) (hb : spB b = false) : w.cell? ⟨rb, b.toNat, none⟩ = some (.slice none 0 0) := by
  obtain ⟨cs, X, c, h1, h2, h3⟩ := h.tab
  have := blk_cell h1 b.toNat
  rw [this]
  exact h3 _ b.toNat_lt hb
set_option maxRecDepth 100000 in
theorem replaceB_same (rb : Nat) (s : ByteArray) (w : World) (h : RepB w rb) (hs : s.size < 32) (hb : ∀ b ∈ s.data.toList, spB b = false) :
    Calls Tryz.prog 198 #[.pointer (some ⟨rb, 0, none⟩), .string s] w fun e w' => e = .returned (.string s) ∧ w = w' := by
  have HR := Lib.hid h
  have HB := Lib.hid hb
  have q256 : ∃ X c, w.cell? ⟨rb, 256, none⟩ = some (.slice X 4 c) := by
    obtain ⟨cs, X, c, h1, h2, h3⟩ := h.tab
    exact ⟨X, c, (blk_cell h1 256).trans h2⟩
  obtain ⟨X, c, q256⟩ := q256
  have hd : decide ((32 : Int) ≤ (s.size : Int)) = false := by simp; omega
  clear h hb
  go_enter Tryz.func198, Tryz.ntmps198
  go_wp2_with fail
  go_loopw [6, 10] (fun cv i wr => ∃ k : Nat, k ≤ s.size ∧ cv = .bool false ∧ i = .int .i64 k ∧ w = wr) (fun _ i _ => s.size - (intOf i).toNat)
  case atStart => exact ⟨0, Nat.zero_le _, rfl, rfl, rfl⟩
  case round =>
    obtain ⟨k, hk, rfl, rfl, rfl⟩ := hrel
    have hwr : IntKind.i64.wrap ((k : Int) + 1) = (k : Int) + 1 := IntWalk.i64_in _ (by omega)
    by_cases hlt : k < s.size
    · have hm := HB.out (s[k]'hlt) (by
        have e : s[k]'hlt = s.data.toList[k]'hlt := rfl
        rw [e]
        exact List.getElem_mem _)
      have q := HR.out.at _ hm
      have h256 : (((s[k]'hlt).toNat : Nat) : Int) < 256 := by
        have := (s[k]'hlt).toNat_lt
        omega
      go_wp2_with fail
      go_roundw
      case rel => exact ⟨k + 1, by omega, rfl, by simp, trivial⟩
      case measure => simp [intOf]; omega
    · go_wp2_with fail
      go_ret
      exact ⟨rfl, rfl⟩
end Go.Proofs.YtpdnopfjnmjnnaaGreatDoor.Cn
