/- ConfNumbers' walk; ConfNumbers' walk, as the card asks it. -/
import Derived.Test.YtpdnopfjnmjnnaaGreatDoorVq
import Derived.Test.YtpdnopfjnmjnnaaGreatDoorVo
import Derived.Test.YtpdnopfjnmjnnaaGreatDoorKg
set_option linter.unusedVariables false
set_option linter.unusedSimpArgs false
namespace Go.Proofs.YtpdnopfjnmjnnaaGreatDoor.Cn
section
open Go.Sort Go.RowKit Go.Proofs Go.Proofs.YtpdnopfjnmjnnaaGreatDoorW.PrintWords Go.Proofs.YtpdnopfjnmjnnaaGreatDoor.Bs Go.Proofs.YtpdnopfjnmjnnaaGreatDoor.Ir Go.Proofs.YtpdnopfjnmjnnaaGreatDoor.Cz

set_option maxRecDepth 100000 in
set_option maxHeartbeats 2000000 in
theorem confNumbers_any (l : List UInt8) (w : World) (hl : l.length ≤ 1073741824) (hm : Mx w) (hv : Ev w) (hlow : 1 < w.heap.size) : Calls Tryz.prog 3 #[.string (bsOf l)] w fun e w' => e = .returned (.bool true) ∧ Below w.heap.size w w' := by
  have hsz : (bsOf l).size ≤ 1073741824 := hl
  have h1 := millis_any w l hl hv hlow
  have HR1 := Lib.hid (fun W => rmillis_any (bsOf l) W hsz)
  have HB1 := Lib.hid (fun W => millis_any W l hl)
  have HC1 := Lib.hid (fun W => bytes_any W l hl)
  have HD1 := Lib.hid (fun W => rbytes_any (bsOf l) W hsz)
  rw [show (bsOf l).data.toList = l from rfl] at HR1 HD1
  generalize millisL l = A at *
  generalize bytesL l = B at *
  clear hsz
  cases A
  all_goals cases B
  all_goals unfold unitV at h1
  all_goals go_enter Tryz.func3, Tryz.ntmps3
  all_goals go_wp2_with fail
  all_goals refine h1.mono ?_
  all_goals rintro e w1 ⟨rfl, hb1⟩
  all_goals have h2 := HR1.out w1
  all_goals unfold unitV at h2
  all_goals clear h1
  all_goals go_wp2_with fail
  all_goals refine h2.mono ?_
  all_goals rintro e w2 ⟨rfl, hb2⟩
  all_goals have hw2 : Below w.heap.size w w2 := hb1.trans (hb2.mono hb1.size)
  all_goals have h3 := HC1.out w2 (hv.below hw2 hlow) (Nat.lt_of_lt_of_le hlow hw2.size)
  all_goals unfold unitV at h3
  all_goals clear h2 hb1 hb2
  all_goals go_wp2_with fail
  all_goals refine h3.mono ?_
  all_goals rintro e w3 ⟨rfl, hb3⟩
  all_goals have hw3 : Below w.heap.size w w3 := hw2.trans (hb3.mono hw2.size)
  all_goals have h4 := HD1.out w3
  all_goals unfold unitV at h4
  all_goals clear h3 hb3 hw2
  all_goals go_wp2_with fail
  all_goals refine h4.mono ?_
  all_goals rintro e w4 ⟨rfl, hb4⟩
  all_goals have hw4 : Below w.heap.size w w4 := hw3.trans (hb4.mono hw3.size)
  all_goals have h5 := lives_any w4 (hm.below hw4) (hv.below hw4 hlow) (Nat.lt_of_lt_of_le hlow hw4.size)
  all_goals clear h4 hb4 hw3
  all_goals go_wp2_with fail
  all_goals refine h5.mono ?_
  all_goals rintro e w5 ⟨rfl, hb5⟩
  all_goals have hw5 : Below w.heap.size w w5 := hw4.trans (hb5.mono hw4.size)
  all_goals clear h5 hb5 hw4
  all_goals go_wp2_with fail
  all_goals go_ret
  all_goals exact ⟨rfl, hw5⟩
end
section
open Go.Sort Go.RowKit Go.Proofs Go.Proofs.YtpdnopfjnmjnnaaGreatDoorW.PrintWords Go.Proofs.YtpdnopfjnmjnnaaGreatDoor.Bs Go.Proofs.YtpdnopfjnmjnnaaGreatDoor.Ir Go.Proofs.YtpdnopfjnmjnnaaGreatDoor.Cz Go.Proofs.YtpdnopfjnmjnnaaGreatDoor.Kg

theorem bs_self (s : ByteArray) : bsOf s.data.toList = s := by
  apply ByteArray.ext
  simp [bsOf]
theorem confNumbers_s (s : ByteArray) (W : World) (g : Gk W) (hs : s.size ≤ 1048576) : Calls Tryz.prog 3 #[.string s] W fun e w' => e = .returned (.bool true) ∧ Below W.heap.size W w' := by
  have h := confNumbers_any s.data.toList W (by have : s.data.toList.length = s.size := rfl; omega) g.mx g.ev g.low
  rwa [bs_self] at h
end
end Go.Proofs.YtpdnopfjnmjnnaaGreatDoor.Cn
