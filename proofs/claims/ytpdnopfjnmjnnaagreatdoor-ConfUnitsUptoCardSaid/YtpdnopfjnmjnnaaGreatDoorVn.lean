/- The plain side of conf's lives. -/
import Derived.Test.YtpdnopfjnmjnnaaGreatDoorVm
import Derived.Test.YtpdnopfjnmjnnaaGreatDoorNt
set_option linter.unusedVariables false
set_option linter.unusedSimpArgs false
namespace Go.Proofs.YtpdnopfjnmjnnaaGreatDoor.Cn
open Go.Sort Go.RowKit Go.Proofs Go.Proofs.YtpdnopfjnmjnnaaGreatDoorW.PrintWords Go.Proofs.YtpdnopfjnmjnnaaGreatDoor.Bs Go.Proofs.YtpdnopfjnmjnnaaGreatDoor.Ir Go.Proofs.YtpdnopfjnmjnnaaGreatDoor.Cz

def lvB : Kn := ⟨⟨#[98]⟩, 2, ⟨#[]⟩, [⟨#[120]⟩, ⟨#[121, 32, 122]⟩], []⟩
def lvA : Kn := ⟨⟨#[97]⟩, 0, ⟨#[]⟩, [], [lvB]⟩
def lvC : Kn := ⟨⟨#[99]⟩, 1, ⟨#[53, 115]⟩, [], []⟩
def lvN : Kn := ⟨⟨#[]⟩, 0, ⟨#[]⟩, [], [lvA, lvC]⟩
theorem lv_parse1 : parseL [97, 58, 10, 32, 32, 98, 58, 32, 91, 120, 44, 32, 34, 121, 32, 122, 34, 93, 32, 35, 32, 108, 105, 115, 116, 10, 99, 58, 32, 53, 115, 10] = .ok [lvA, lvC] := by kernel_rfl
theorem lv_parse2 : parseL [97, 58, 32, 49, 10, 98, 10] = .error (15, 2) := by kernel_rfl
theorem lv_get : getL lvN [⟨#[97]⟩, ⟨#[98]⟩] = some lvB := by kernel_rfl
theorem lv_millis : millisL [53, 115] = some 5000 := by kernel_rfl
theorem lv_bytes : bytesL [52, 75, 105, 66] = some 4096 := by kernel_rfl
theorem lv_right : (decide (lvN.f1 = 0) && rightG 9 lvN) = true := by kernel_rfl
theorem lv_lines : linesB 3 0 lvN = [97, 58, 10, 32, 32, 98, 58, 32, 91, 120, 44, 32, 34, 121, 32, 122, 34, 93, 10, 99, 58, 32, 53, 115, 10] := by kernel_rfl
end Go.Proofs.YtpdnopfjnmjnnaaGreatDoor.Cn
