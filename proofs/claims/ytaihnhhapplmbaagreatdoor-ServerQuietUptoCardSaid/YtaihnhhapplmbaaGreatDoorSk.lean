/- Package server: targets, must, asked's closure; asked and Look at fixed requests. -/
import Derived.Test.YtaihnhhapplmbaaGreatDoorSf
import Derived.Test.YtaihnhhapplmbaaGreatDoorRe
import Derived.Test.YtaihnhhapplmbaaGreatDoorRr
import Derived.Test.YtaihnhhapplmbaaGreatDoorFi
import Derived.StringKeys
set_option linter.unusedVariables false
set_option linter.unusedSimpArgs false
namespace Go.Proofs.YtaihnhhapplmbaaGreatDoor.Sv
open Go.Sort Go.RowKit Go.Maps Go.Proofs Go.Proofs.YtaihnhhapplmbaaGreatDoorW.PrintWords Go.Proofs.YtaihnhhapplmbaaGreatDoor.Bs Go.Proofs.YtaihnhhapplmbaaGreatDoor.Ir Go.Proofs.YtaihnhhapplmbaaGreatDoor.Gn Go.Proofs.YtaihnhhapplmbaaGreatDoor.Ht

theorem tSig : Tryz.prog.underlying 37 = some (.int .u8) := by kernel_rfl
theorem tSM : Tryz.prog.underlying 96 = some (.map 9 37) := by kernel_rfl
theorem lawS : Keyed Tryz.prog 9 := string_keyed Tu_string
theorem zeroS (w : World) : (zeroValue 37).run Tryz.prog w = .ok (.int .u8 0) w := by kernel_rfl
def u8D (c : Int) : DataW Unit := .lit (.int .u8 c)
def tg0 : ByteArray := ⟨#[47, 118, 49, 47, 116, 114, 97, 99, 101, 115]⟩
def tg1 : ByteArray := ⟨#[47, 118, 49, 47, 108, 111, 103, 115]⟩
def tg2 : ByteArray := ⟨#[47, 118, 49, 47, 109, 101, 116, 114, 105, 99, 115]⟩
def targs : List (ByteArray × Int) := [(tg0, 1), (tg1, 2), (tg2, 3)]
def targD (k : Nat) : DataW Unit := (targs.take k).foldl (fun D p => D.put (.string p.1.data.toList) (u8D p.2)) (.map [])
theorem must_t (s : Int) (w : World) : Calls Tryz.prog 39 #[.bool true, .int .i64 s] w fun e w' => e = .returned (.tuple #[]) ∧ w = w' := by
  go_enter Tryz.func39, Tryz.ntmps39
  go_wp2
  go_end0
  exact ⟨rfl, rfl⟩
theorem must_f (s : Int) (w : World) : Calls Tryz.prog 39 #[.bool false, .int .i64 s] w fun e w' => e = .panicked [{ v := .iface 72 (.int .i64 s), recovered := false }] ∧ w = w' := by
  go_enter Tryz.func39, Tryz.ntmps39
  go_wp2
  exact ⟨rfl, rfl, rfl⟩
set_option maxRecDepth 100000 in
set_option maxHeartbeats 2000000 in
theorem targets_any (w : World) : Calls Tryz.prog 38 #[] w fun e w' => e = .returned (.map (some w.heap.size)) ∧ Hid (w'.ownsMap Tryz.prog 9 (plainElem (H := Unit) Tryz.prog 37) w.heap.size 3 (targD 3)) ∧ Below w.heap.size w w' := by
  have hmm := @run_makeMap Tryz.prog
  have H0 := Lib.hid (World.ownsMap_made w Tryz.prog 9 (plainElem (H := Unit) Tryz.prog 37))
  have HB := Lib.hid ((Below.refl w.heap.size w).alloc (Nat.le_refl _) (.map #[] 0))
  go_enter Tryz.func38, Tryz.ntmps38
  go_wp2_with (refine wpList_insert_own _ rfl _ _ _ 96 rfl 9 37 lawS tSM _ w.heap.size 0 (targD 0) rfl H0.out (by unfold maxLen; omega) _ _ _ rfl rfl (Go.WideMaps.keyOf_string_mk Tu_string (by decide)) (u8D 1) [] (plainElem_int tSig (by decide)) ?_)
  intro w1 hown1 hgrow1
  have H1 := Lib.hid (show w1.ownsMap Tryz.prog 9 (plainElem (H := Unit) Tryz.prog 37) w.heap.size 1 (targD 1) from hown1)
  have HB1 := Lib.hid ((HB.out).grown hgrow1 (by simp) (fun k hk => by cases hk; exact Nat.le_refl _))
  clear hown1 hgrow1
  go_wp2_with (refine wpList_insert_own _ rfl _ _ _ 96 rfl 9 37 lawS tSM _ w.heap.size 1 (targD 1) rfl H1.out (by unfold maxLen; omega) _ _ _ rfl rfl (Go.WideMaps.keyOf_string_mk Tu_string (by decide)) (u8D 2) [] (plainElem_int tSig (by decide)) ?_)
  intro w2 hown2 hgrow2
  have H2 := Lib.hid (show w2.ownsMap Tryz.prog 9 (plainElem (H := Unit) Tryz.prog 37) w.heap.size 2 (targD 2) from hown2)
  have HB2 := Lib.hid ((HB1.out).grown hgrow2 HB1.out.size (fun k hk => by cases hk; exact Nat.le_refl _))
  clear hown2 hgrow2
  go_wp2_with (refine wpList_insert_own _ rfl _ _ _ 96 rfl 9 37 lawS tSM _ w.heap.size 2 (targD 2) rfl H2.out (by unfold maxLen; omega) _ _ _ rfl rfl (Go.WideMaps.keyOf_string_mk Tu_string (by decide)) (u8D 3) [] (plainElem_int tSig (by decide)) ?_)
  intro w3 hown3 hgrow3
  have H3 := Lib.hid (show w3.ownsMap Tryz.prog 9 (plainElem (H := Unit) Tryz.prog 37) w.heap.size 3 (targD 3) from hown3)
  have HB3 := Lib.hid ((HB2.out).grown hgrow3 HB2.out.size (fun k hk => by cases hk; exact Nat.le_refl _))
  clear hown3 hgrow3
  go_wp2_with fail
  go_ret
  exact ⟨rfl, H3, HB3.out⟩
end Go.Proofs.YtaihnhhapplmbaaGreatDoor.Sv
