/- Package conf: numbers with units. -/
import Derived.Test.YtpdnopfjnmjnnaaGreatDoorNm
set_option linter.unusedVariables false
set_option linter.unusedSimpArgs false
namespace Go.Proofs.YtpdnopfjnmjnnaaGreatDoor.Cn
open Go.Sort Go.RowKit Go.Proofs Go.Proofs.YtpdnopfjnmjnnaaGreatDoorW.PrintWords Go.Proofs.YtpdnopfjnmjnnaaGreatDoor.Bs Go.Proofs.YtpdnopfjnmjnnaaGreatDoor.Ir Go.Proofs.YtpdnopfjnmjnnaaGreatDoor.Cz

def noDig (r : Nat) : Bool := decide (r < 48) || decide (57 < r)
theorem unit1_any (r : Nat) (w : World) (hr : r ≤ 1114111) : Calls Tryz.prog 34 #[.int .i32 (r : Int)] w fun e w' => e = .returned (.bool (noDig r)) ∧ Below w.heap.size w w' := by
  unfold noDig
  by_cases h1 : r < 48
  all_goals by_cases h2 : 57 < r
  all_goals first
    | (exfalso; omega; done)
    | (go_enter Tryz.func34, Tryz.ntmps34
       go_wp2_with fail
       go_ret
       exact ⟨by simp [h1, h2] <;> omega, Below.refl _ _⟩)
end Go.Proofs.YtpdnopfjnmjnnaaGreatDoor.Cn
