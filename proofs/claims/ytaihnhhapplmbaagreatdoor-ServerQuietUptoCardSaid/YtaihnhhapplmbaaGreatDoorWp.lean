/- Package http: WriteResponse. -/
import Derived.Test.YtaihnhhapplmbaaGreatDoorWr
import Derived.Lib.QuietBelow
set_option linter.unusedVariables false
set_option linter.unusedSimpArgs false
namespace Go.Proofs.YtaihnhhapplmbaaGreatDoor.Ht
open Go.Sort Go.RowKit Go.Proofs Go.Proofs.YtaihnhhapplmbaaGreatDoorW.PrintWords Go.Proofs.YtaihnhhapplmbaaGreatDoor.Bs Go.Proofs.YtaihnhhapplmbaaGreatDoor.Ir Go.Proofs.YtaihnhhapplmbaaGreatDoor.Gn

def vS : ByteArray := ⟨#[72, 84, 84, 80, 47, 49, 46, 49]⟩
def firstP (s : Int) : ByteArray := ⟨#[72, 84, 84, 80, 47, 49, 46, 49, 32]⟩ ++ itoaB s ++ ⟨#[32]⟩ ++ reasonB s
def respOk (s : Int) (l : List Head) (b : ByteArray) : Bool := decide (100 ≤ s) && decide (s ≤ 599) && rightB l b
def writeResp (s : Int) (l : List Head) (b : ByteArray) : Value := if respOk s l b then .tuple #[.string (messageB (firstP s) l b), .int .i64 0] else .tuple #[.string ⟨#[]⟩, .int .i64 13]
theorem reasonB_size (s : Int) : (reasonB s).size ≤ 22 := by
  unfold reasonB
  have h : ∀ k : Nat, k ≤ 9 → (words.getD k ⟨#[]⟩).size ≤ 22 := by decide
  have := reasonIx_range s
  exact h _ (by omega)
set_option maxRecDepth 100000 in
set_option maxHeartbeats 4000000 in
theorem writeResponse_any (s : Int) (A : Option Addr) (c : Nat) (l : List Head) (b : ByteArray) (w : World) (G : Gnd w) (hl : l.length ≤ 1073741824) (hC : Kd.C kH w A l.length l) (hok : ∀ h ∈ l, HOk h) :
    Calls Tryz.prog 35 #[.agg #[.int .i64 s, .slice A l.length c, .string b]] w fun e w' => e = .returned (writeResp s l b) ∧ Below w.heap.size w w' := by
  have c3 := fun W (hb : Below w.heap.size w W) => right_any A c l b W hl (Kd.C_below hC hb) hok
  have HR := Lib.hid (@rightB_le l b)
  by_cases h1 : s < 100
  · rw [show writeResp s l b = .tuple #[.string ⟨#[]⟩, .int .i64 13] from by simp [writeResp, respOk]; omega]
    clear c3
    go_enter Tryz.func35, Tryz.ntmps35
    go_wp2_with fail
    go_ret2
    exact ⟨rfl, (by repeat (first | assumption | exact Below.refl _ _ | apply below_drew | apply pw_below_drewN | apply below_alloc | (refine below_via (by assumption) ?_)))⟩
  by_cases h2 : 599 < s
  · rw [show writeResp s l b = .tuple #[.string ⟨#[]⟩, .int .i64 13] from by simp [writeResp, respOk]; omega]
    clear c3
    go_enter Tryz.func35, Tryz.ntmps35
    go_wp2_with fail
    go_ret2
    exact ⟨rfl, (by repeat (first | assumption | exact Below.refl _ _ | apply below_drew | apply pw_below_drewN | apply below_alloc | (refine below_via (by assumption) ?_)))⟩
  cases hr : rightB l b
  · rw [hr] at c3
    rw [show writeResp s l b = .tuple #[.string ⟨#[]⟩, .int .i64 13] from by simp [writeResp, respOk, hr]]
    clear HR hr
    go_enter Tryz.func35, Tryz.ntmps35
    go_wp2_with (go_at_call 26; refine (c3 _ (by repeat (first | assumption | exact Below.refl _ _ | apply below_drew | apply pw_below_drewN | apply below_alloc | (refine below_via (by assumption) ?_)))).mono ?_; rintro e w3 ⟨rfl, hb3⟩; obtain ⟨hbc3, hbf3⟩ := bcell hb3; have hz3 : w.heap.size < w3.heap.size := (by have := hb3.size; simp at this; omega))
    go_ret2
    exact ⟨rfl, (by repeat (first | assumption | exact Below.refl _ _ | apply below_drew | apply pw_below_drewN | apply below_alloc | (refine below_via (by assumption) ?_)))⟩
  · obtain ⟨hl64, hb6⟩ := HR.out hr
    rw [hr] at c3
    rw [show writeResp s l b = .tuple #[.string (messageB (firstP s) l b), .int .i64 0] from by simp [writeResp, respOk, hr]; omega]
    clear HR hr
    obtain ⟨msg, hmsg⟩ : ∃ x, x = messageB (firstP s) l b := ⟨_, rfl⟩
    rw [← hmsg]
    have HM := Lib.hid hmsg
    clear hmsg
    go_enter Tryz.func35, Tryz.ntmps35
    go_wp2_with (go_at_call 26; refine (c3 _ (by repeat (first | assumption | exact Below.refl _ _ | apply below_drew | apply pw_below_drewN | apply below_alloc | (refine below_via (by assumption) ?_)))).mono ?_; rintro e w3 ⟨rfl, hb3⟩; obtain ⟨hbc3, hbf3⟩ := bcell hb3; have hz3 : w.heap.size < w3.heap.size := (by have := hb3.size; simp at this; omega))
    have hbw3 : Below w.heap.size w w3 := (by repeat (first | assumption | exact Below.refl _ _ | apply below_drew | apply pw_below_drewN | apply below_alloc | (refine below_via (by assumption) ?_)))
    have HC3 := Lib.hid (Kd.C_below hC hbw3)
    have HG3 := Lib.hid (G.below hbw3)
    have HO := Lib.hid hok
    have hx0 : w3.cell? ⟨w.heap.size, 0, none⟩ = some (.int .i64 s) := (hb3.cell (p := ⟨w.heap.size, 0, none⟩) (by simp)).trans (cell_new _ _ _ 0 _ rfl)
    have hx1 : w3.cell? ⟨w.heap.size, 1, none⟩ = some (.slice A l.length c) := (hb3.cell (p := ⟨w.heap.size, 1, none⟩) (by simp)).trans (cell_new _ _ _ 1 _ rfl)
    have hx2 : w3.cell? ⟨w.heap.size, 2, none⟩ = some (.string b) := (hb3.cell (p := ⟨w.heap.size, 2, none⟩) (by simp)).trans (cell_new _ _ _ 2 _ rfl)
    have c5 := fun d os => Calls.regrown_of (itoa_any s (by omega) (by omega) (grow (redrawn w3 d) os) (HG3.out.below (below_regrown _ _ _)))
    have c6 := fun d os => Calls.regrown_of (reason_any s (by omega) (grow (redrawn w3 d) os))
    have e3 := reasonB_size s
    have e4 : (itoaB s).size ≤ 21 := by
      have := itoaB_size s.toNat (by omega)
      rwa [show ((s.toNat : Nat) : Int) = s from by omega] at this
    have hsz : (firstP s).size ≤ 1073741824 := by
      have e1 : (⟨#[32]⟩ : ByteArray).size = 1 := rfl
      have e2 : (⟨#[72, 84, 84, 80, 47, 49, 46, 49, 32]⟩ : ByteArray).size = 9 := rfl
      simp only [firstP, ByteArray.size_append, e1, e2]
      omega
    have c7 := fun d os => Calls.regrown_of (message_any (firstP s) A c l b (grow (redrawn w3 d) os) (HG3.out.below (below_regrown _ _ _)) hsz hl64 (Kd.C_below HC3.out (below_regrown _ _ _)) HO.out hb6)
    rw [← HM.out] at c7
    clear HM
    unfold firstP at c7
    generalize itoaB s = t1 at *
    generalize reasonB s = t2 at *
    have k0 := cell_regrown hx0
    have k1 := cell_regrown hx1
    have k2 := cell_regrown hx2
    have n1 : ¬ 9223372036854775807 < 9 + t1.size := by omega
    have n2 : ¬ 9223372036854775807 < 9 + t1.size + 1 := by omega
    have n3 : ¬ 9223372036854775807 < 9 + t1.size + 1 + t2.size := by omega
    clear c3 hC hok G hbc3 hbf3 hsz e3 e4 hx0 hx1 hx2
    refine wp_region_quiet_below (by kernel_rfl) (by kernel_rfl) ?_
    repeat (quiet_step (first | (with_reducible exact c5 _ _) | (with_reducible exact c6 _ _) | (with_reducible exact c7 _ _)))
    refine wpQuiet_nil ?_
    intro _ hw'
    obtain ⟨⟨dq, osq⟩, hw''⟩ := hw'
    subst hw''
    have hb4 := below_regrown (w3) dq osq
    generalize grow (redrawn (w3) dq) osq = W4 at *
    clear c5 c6 c7 k0 k1 k2
    go_wp2_with fail
    go_ret2
    exact ⟨rfl, (by repeat (first | assumption | exact Below.refl _ _ | apply below_drew | apply pw_below_drewN | apply below_alloc | (refine below_via (by assumption) ?_)))⟩
end Go.Proofs.YtaihnhhapplmbaaGreatDoor.Ht
