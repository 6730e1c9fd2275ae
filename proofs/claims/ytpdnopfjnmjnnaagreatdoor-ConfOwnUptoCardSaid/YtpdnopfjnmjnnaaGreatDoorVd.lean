/- Package conf: Millis, Bytes. -/
import Derived.Test.YtpdnopfjnmjnnaaGreatDoorVc
import Derived.Maps.Views
set_option linter.unusedVariables false
set_option linter.unusedSimpArgs false
namespace Go.Proofs.YtpdnopfjnmjnnaaGreatDoor.Cn
open Go.Sort Go.RowKit Go.Proofs Go.Proofs.YtpdnopfjnmjnnaaGreatDoorW.PrintWords Go.Proofs.YtpdnopfjnmjnnaaGreatDoor.Bs Go.Proofs.YtpdnopfjnmjnnaaGreatDoor.Ir Go.Proofs.YtpdnopfjnmjnnaaGreatDoor.Cz

/-- A table of units, in memory. -/
def tabD (t : List (List UInt8 × Nat)) : DataW Unit := t.foldl (fun D p => D.put (.string p.1) (.lit (.int .u64 (p.2 : Int)))) (.map [])
def tabN (t : List (List UInt8 × Nat)) (r : List UInt8) : Nat := t.foldl (fun c p => if r = p.1 then p.2 else c) 0
theorem tab_fold (r : List UInt8) : ∀ (t : List (List UInt8 × Nat)) (D : DataW Unit) (c : Nat), Maps.IsMap D → D.atKey (.string r) (.lit (.int .u64 0)) = .lit (.int .u64 (c : Int)) →
    (t.foldl (fun D p => D.put (.string p.1) (.lit (.int .u64 (p.2 : Int)))) D).atKey (.string r) (.lit (.int .u64 0)) = .lit (.int .u64 ((t.foldl (fun c p => if r = p.1 then p.2 else c) c : Nat) : Int))
  | [], D, c, _, h => h
  | p :: t, D, c, hm, h => by
    refine tab_fold r t _ _ ?_ ?_
    · obtain ⟨es, rfl⟩ := hm
      exact ⟨_, rfl⟩
    · dsimp only
      by_cases e : r = p.1
      · rw [if_pos e, e]
        exact Maps.atKey_put_same hm (by trivial) _ _
      · rw [if_neg e, Maps.atKey_put_other (by
          intro h
          injection h with h
          exact e h)]
        exact h
theorem tab_at (t : List (List UInt8 × Nat)) (r : List UInt8) : (tabD t).atKey (.string r) (.lit (.int .u64 0)) = .lit (.int .u64 (tabN t r : Int)) :=
  tab_fold r t (.map []) 0 ⟨_, rfl⟩ rfl
theorem tab_put {w : World} {b n : Nat} {t : List (List UInt8 × Nat)} (h : w.ownsMap Tryz.prog 9 (plainElem Tryz.prog 22) b n (tabD t)) (hn : n < 100) (k : List UInt8) (c : Nat) (ci : Int) (hci : ci = (c : Int)) (hk : k.length ≤ 100) (hc : c ≤ 1073741824) :
    ∃ w', (Instr.mapUpdate 50 (.map (some b)) (.string (bsOf k)) (.int .u64 ci)).run Tryz.prog w = .ok () w' ∧ w'.ownsMap Tryz.prog 9 (plainElem Tryz.prog 22) b (n + 1) (tabD (t ++ [(k, c)])) ∧ w.grownBy w' (some b) := by
  subst hci
  obtain ⟨w', h1, h2, h3⟩ := h.update (Maps.string_keyed Tryz.underlying9) Tryz.underlying50 (by unfold maxLen; omega) (key := .string (bsOf k)) (val := .int .u64 (c : Int)) (kl := .string k) (WideMaps.keyOf_string_mk Tryz.underlying9 (by show k.length ≤ _; unfold maxLen; omega)) (plainElem_int Tryz.underlying22 (by simp [Lit.wf, IntKind.min, IntKind.max, IntKind.signed, IntKind.bits]; omega))
  refine ⟨w', h1, ?_, h3⟩
  unfold tabD
  rw [List.foldl_append]
  exact h2
theorem below_by {w W W' : World} {b : Nat} (h : Below w.heap.size w W) (hb : w.heap.size ≤ b) (hg : W.grownBy W' (some b)) : Below w.heap.size w W' :=
  ⟨hg.os.trans h.os, hg.tape.trans h.tape, hg.output.trans h.output, Nat.le_trans h.size hg.size, fun k hk => (hg.block k (Nat.lt_of_lt_of_le hk h.size) (fun e => by injection e with e; omega)).trans (h.block k hk)⟩
def millisT : List (List UInt8 × Nat) := [([109, 115], 1), ([115], 1000), ([109], 60000), ([104], 3600000)]
def bytesT : List (List UInt8 × Nat) := [([], 1), ([66], 1), ([75, 105, 66], 1024), ([77, 105, 66], 1048576), ([71, 105, 66], 1073741824)]
theorem tabN_le (t : List (List UInt8 × Nat)) (r : List UInt8) (h : ∀ p ∈ t, p.2 ≤ 1073741824) : tabN t r ≤ 1073741824 := by
  unfold tabN
  have : ∀ (t : List (List UInt8 × Nat)) (c : Nat), (∀ p ∈ t, p.2 ≤ 1073741824) → c ≤ 1073741824 → t.foldl (fun c p => if r = p.1 then p.2 else c) c ≤ 1073741824 := by
    intro t
    induction t with
    | nil => intro c _ h; exact h
    | cons p t ih =>
      intro c h hc
      refine ih _ (fun q hq => h q (List.mem_cons_of_mem _ hq)) ?_
      dsimp only
      split
      · exact h p List.mem_cons_self
      · exact hc
  exact this t 0 h (by decide)
def millisL (l : List UInt8) : Option Nat := unitL (tabN millisT (restS l)) l
def bytesL (l : List UInt8) : Option Nat := unitL (tabN bytesT (restS l)) l
set_option maxRecDepth 100000 in
theorem millis_any (w : World) (l : List UInt8) (hl : l.length ≤ 1073741824) (hv : Ev w) (hlow : 1 < w.heap.size) :
    Calls Tryz.prog 10 #[.string (bsOf l)] w fun e w' => e = .returned (unitV (millisL l)) ∧ Below w.heap.size w w' := by
  have hmk : ∀ W, (Instr.makeMap 50 none).run Tryz.prog W = .ok (.map (some W.heap.size)) (W.alloc (.map #[] 0)) := fun W => by rfl
  have o1 : (w.alloc (.map #[] 0)).ownsMap Tryz.prog 9 (plainElem Tryz.prog 22) w.heap.size 0 (tabD []) := World.ownsMap_made w _ _ _
  have hb1 : Below w.heap.size w (w.alloc (.map #[] 0)) := below_alloc (Below.refl _ _) _
  have hm1 := hmk w
  generalize hW1 : w.alloc (.map #[] 0) = w1 at *
  obtain ⟨w2, r2, o2, g2⟩ := tab_put o1 (by omega) [109, 115] 1 1 rfl (by decide) (by decide)
  obtain ⟨w3, r3, o3, g3⟩ := tab_put o2 (by omega) [115] 1000 1000 rfl (by decide) (by decide)
  obtain ⟨w4, r4, o4, g4⟩ := tab_put o3 (by omega) [109] 60000 60000 rfl (by decide) (by decide)
  obtain ⟨w5, r5, o5, g5⟩ := tab_put o4 (by omega) [104] 3600000 3600000 rfl (by decide) (by decide)
  have hb5 := below_by (below_by (below_by (below_by hb1 (Nat.le_refl _) g2) (Nat.le_refl _) g3) (Nat.le_refl _) g4) (Nat.le_refl _) g5
  have hu := unit_any w5 w.heap.size _ _ l (tabN millisT (restS l)) o5 hl (tab_at millisT _) (tabN_le _ _ (by decide)) (hv.below hb5 hlow) (by have := hb5.size; omega)
  clear hb1 o1 o2 o3 o4 o5 g2 g3 g4 g5 hmk hW1
  unfold millisL
  generalize hU : unitL (tabN millisT (restS l)) l = U at *
  unfold bsOf at r2 r3 r4 r5
  go_enter Tryz.func10, Tryz.ntmps10
  go_wp2_with (go_at_call 21; refine hu.mono ?_; rintro e w6 ⟨rfl, hb6⟩; cases U <;> unfold unitV)
  · refine bodyPost_ret (v := .tuple #[.int .u64 0, .int .i64 15]) (by simp [results, Tryz.results10, go_sem]) rfl ⟨rfl, hb5.trans (hb6.mono hb5.size)⟩
  · rename_i n6
    refine bodyPost_ret (v := .tuple #[.int .u64 (n6 : Int), .int .i64 0]) (by simp [results, Tryz.results10, go_sem]) rfl ⟨rfl, hb5.trans (hb6.mono hb5.size)⟩
set_option maxRecDepth 100000 in
theorem bytes_any (w : World) (l : List UInt8) (hl : l.length ≤ 1073741824) (hv : Ev w) (hlow : 1 < w.heap.size) :
    Calls Tryz.prog 12 #[.string (bsOf l)] w fun e w' => e = .returned (unitV (bytesL l)) ∧ Below w.heap.size w w' := by
  have hmk : ∀ W, (Instr.makeMap 50 none).run Tryz.prog W = .ok (.map (some W.heap.size)) (W.alloc (.map #[] 0)) := fun W => by rfl
  have o1 : (w.alloc (.map #[] 0)).ownsMap Tryz.prog 9 (plainElem Tryz.prog 22) w.heap.size 0 (tabD []) := World.ownsMap_made w _ _ _
  have hb1 : Below w.heap.size w (w.alloc (.map #[] 0)) := below_alloc (Below.refl _ _) _
  have hm1 := hmk w
  generalize hW1 : w.alloc (.map #[] 0) = w1 at *
  obtain ⟨w2, r2, o2, g2⟩ := tab_put o1 (by omega) [] 1 1 rfl (by decide) (by decide)
  obtain ⟨w3, r3, o3, g3⟩ := tab_put o2 (by omega) [66] 1 1 rfl (by decide) (by decide)
  obtain ⟨w4, r4, o4, g4⟩ := tab_put o3 (by omega) [75, 105, 66] 1024 1024 rfl (by decide) (by decide)
  obtain ⟨w5, r5, o5, g5⟩ := tab_put o4 (by omega) [77, 105, 66] 1048576 1048576 rfl (by decide) (by decide)
  obtain ⟨w6, r6, o6, g6⟩ := tab_put o5 (by omega) [71, 105, 66] 1073741824 1073741824 rfl (by decide) (by decide)
  have hb5 := below_by (below_by (below_by (below_by (below_by hb1 (Nat.le_refl _) g2) (Nat.le_refl _) g3) (Nat.le_refl _) g4) (Nat.le_refl _) g5) (Nat.le_refl _) g6
  have hu := unit_any w6 w.heap.size _ _ l (tabN bytesT (restS l)) o6 hl (tab_at bytesT _) (tabN_le _ _ (by decide)) (hv.below hb5 hlow) (by have := hb5.size; omega)
  clear hb1 o1 o2 o3 o4 o5 o6 g2 g3 g4 g5 g6 hmk hW1
  unfold bytesL
  generalize hU : unitL (tabN bytesT (restS l)) l = U at *
  unfold bsOf at r2 r3 r4 r5 r6
  go_enter Tryz.func12, Tryz.ntmps12
  go_wp2_with (go_at_call 21; refine hu.mono ?_; rintro e w7 ⟨rfl, hb6⟩; cases U <;> unfold unitV)
  · refine bodyPost_ret (v := .tuple #[.int .u64 0, .int .i64 15]) (by simp [results, Tryz.results12, go_sem]) rfl ⟨rfl, hb5.trans (hb6.mono hb5.size)⟩
  · rename_i n6
    refine bodyPost_ret (v := .tuple #[.int .u64 (n6 : Int), .int .i64 0]) (by simp [results, Tryz.results12, go_sem]) rfl ⟨rfl, hb5.trans (hb6.mono hb5.size)⟩
end Go.Proofs.YtpdnopfjnmjnnaaGreatDoor.Cn
