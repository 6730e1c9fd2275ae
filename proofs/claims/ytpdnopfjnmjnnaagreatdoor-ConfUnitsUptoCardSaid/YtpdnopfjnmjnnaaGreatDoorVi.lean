/- strings.Replacer: Replace of a text that stays; NewReplacer; conf.shown. -/
import Derived.Test.YtpdnopfjnmjnnaaGreatDoorVh
import Derived.Test.YtpdnopfjnmjnnaaGreatDoorNv
set_option linter.unusedVariables false
set_option linter.unusedSimpArgs false
namespace Go.Proofs.YtpdnopfjnmjnnaaGreatDoor.Cn
open Go.Sort Go.RowKit Go.Proofs Go.Proofs.YtpdnopfjnmjnnaaGreatDoorW.PrintWords Go.Proofs.YtpdnopfjnmjnnaaGreatDoor.Bs Go.Proofs.YtpdnopfjnmjnnaaGreatDoor.Ir Go.Proofs.YtpdnopfjnmjnnaaGreatDoor.Cz

theorem buildOnce_any (rp ab c base : Nat) (w : World) (h : w.heap[rp]? = some (.cells #[.int .u32 0, .int .i32 1, .int .u32 0, .nilIface, .slice (some ⟨ab, 0, none⟩) 8 c] 155 (0, 0))) (hC : Kd.string.C w (some ⟨ab, 0, none⟩) 8 rT) (hbase : base ≤ rp) :
    Calls Tryz.prog 97 #[.pointer (some ⟨rp, 0, none⟩)] w fun e w' => e = .returned (.tuple #[]) ∧ ∃ rb, w'.heap[rp]? = some (.cells #[.int .u32 0, .int .i32 1, .int .u32 0, .iface 190 (.pointer (some ⟨rb, 0, none⟩)), .slice none 0 0] 155 (0, 0)) ∧ RepB w' rb ∧ rp < rb ∧ Below base w w' := by
  have hb := build_any rp ab c w (blk_cell h 4) hC
  have hlt := blk_lt h
  have HH := Lib.hid h
  clear h hC
  go_enter Tryz.func97, Tryz.ntmps97
  go_wp2_with fail
  refine hb.mono ?_
  rintro e w1 ⟨rb, rfl, hge, hrb, hbel⟩
  have h1 := (hbel.block rp hlt).trans HH.out
  have q3 := blk_cell h1 3
  have z3 := blk_frozen h1 3
  have h2 := blk_set h1 3 (.iface 190 (.pointer (some ⟨rb, 0, none⟩)))
  have q4 := blk_cell h2 4
  have z4 := blk_frozen h2 4
  have HX := Lib.hid (And.intro h1 (And.intro hrb hbel))
  clear hb h1 h2 hrb hbel
  go_wp2_with fail
  go_end0
  obtain ⟨cs, X, c', t1, t2, t3⟩ := HX.out.2.1.tab
  have hne : rb ≠ rp := by omega
  exact ⟨rfl, rb, blk_set (blk_set HX.out.1 3 _) 4 _, ⟨cs, X, c', blk_far (blk_far t1 hne _) hne _, t2, t3⟩, by omega, ((HX.out.2.2.mono (by omega)).setCell (p := ⟨rp, 3, none⟩) hbase _).setCell (p := ⟨rp, 4, none⟩) hbase _⟩
theorem C_far {w : World} {ab rp : Nat} (h : Kd.string.C w (some ⟨ab, 0, none⟩) 8 rT) (hne : ab ≠ rp) (i : Nat) (u : Value) : Kd.string.C (w.setCell ⟨rp, i, none⟩ u) (some ⟨ab, 0, none⟩) 8 rT := by
  obtain ⟨a, b, f⟩ := h
  refine ⟨a, b, fun h0 => ?_⟩
  obtain ⟨ad, e, g⟩ := f h0
  refine ⟨ad, e, fun j p hp => ?_⟩
  obtain ⟨c, c1, c2, c3⟩ := g j p hp
  refine ⟨c, c1, c2, fun k v hk => ?_⟩
  injection e with e
  subst e
  have q := c3 k v hk
  rw [add_plain] at q ⊢
  rw [World.cell?_setCell_other _ _ _ _ (by
    intro h
    injection h with h
    exact hne h.symm)]
  exact q
set_option maxRecDepth 100000 in
theorem replace_same (rp ab c base : Nat) (s : ByteArray) (w : World) (h : w.heap[rp]? = some (.cells #[.int .u32 0, .int .i32 0, .int .u32 0, .nilIface, .slice (some ⟨ab, 0, none⟩) 8 c] 155 (0, 0))) (hC : Kd.string.C w (some ⟨ab, 0, none⟩) 8 rT) (hbase : base ≤ rp) (hne : ab ≠ rp) (hs : s.size < 32) (hb : ∀ b ∈ s.data.toList, spB b = false) :
    Calls Tryz.prog 66 #[.pointer (some ⟨rp, 0, none⟩), .string s] w fun e w' => e = .returned (.string s) ∧ Below base w w' := by
  have h1 := blk_set h 1 (.int .i32 1)
  have hB := buildOnce_any rp ab c base (w.setCell ⟨rp, 1, none⟩ (.int .i32 1)) h1 (C_far hC hne _ _) hbase
  have hdo := Oc.do_first rp 97 #[.pointer (some ⟨rp, 0, none⟩)] (fun w' => ∃ rb, w'.heap[rp]? = some (.cells #[.int .u32 0, .int .i32 1, .int .u32 0, .iface 190 (.pointer (some ⟨rb, 0, none⟩)), .slice none 0 0] 155 (0, 0)) ∧ RepB w' rb ∧ rp < rb ∧ Below base (w.setCell ⟨rp, 1, none⟩ (.int .i32 1)) w') w (blk_cell h 0) (blk_cell h 1) (blk_frozen h 0) (blk_frozen h 1) (fun args w => by kernel_rfl) (hB.mono (by
    rintro e w1 ⟨rfl, rb, g1, g2, g3, g4⟩
    exact ⟨rfl, ⟨blk_cell g1 0, blk_cell g1 1, blk_frozen g1 0, blk_frozen g1 1⟩, rb, g1, g2, g3, g4⟩))
  have HH := Lib.hid h
  have HS := Lib.hid (And.intro hs hb)
  clear h h1 hB hC hs hb
  go_enter Tryz.func66, Tryz.ntmps66
  go_wp2_with fail
  refine hdo.mono ?_
  rintro e w2 ⟨rfl, w1, ⟨rb, g1, g2, g3, g4⟩, -, hw2⟩
  have k1 : w2.heap[rp]? = some (.cells #[.int .u32 1, .int .i32 0, .int .u32 0, .iface 190 (.pointer (some ⟨rb, 0, none⟩)), .slice none 0 0] 155 (0, 0)) := by
    rw [hw2]
    exact blk_set (blk_set (w := w1.drew) g1 0 _) 1 _
  have hr2 : RepB w2 rb := by
    obtain ⟨cs, X, c', t1, t2, t3⟩ := g2.tab
    have hne : rb ≠ rp := by omega
    rw [hw2]
    exact ⟨cs, X, c', blk_far (blk_far (w := w1.drew) t1 hne _) hne _, t2, t3⟩
  have hb2 : Below base w w2 := by
    rw [hw2]
    exact ((below_drew (((Below.refl base w).setCell (p := ⟨rp, 1, none⟩) hbase _).trans g4)).setCell (p := ⟨rp, 0, none⟩) hbase _).setCell (p := ⟨rp, 1, none⟩) hbase _
  have q3 := blk_cell k1 3
  have hrp := replaceB_same rb s w2 hr2 HS.out.1 HS.out.2
  have hm : ∀ W, (method 362 190 (.pointer (some ⟨rb, 0, none⟩)) "Replace").run Tryz.prog W = .ok (198, .pointer (some ⟨rb, 0, none⟩)) W := fun W => by rfl
  have HB2 := Lib.hid hb2
  clear hdo g1 g2 g3 g4 k1 hr2 hb2 hw2
  go_wp2_with fail
  refine hrp.mono ?_
  rintro e w3 ⟨rfl, rfl⟩
  go_wp2_with fail
  go_ret
  exact ⟨rfl, HB2.out⟩
set_option maxRecDepth 100000 in
theorem newReplacer_any (a : Nat) (w : World) (hC : Kd.string.C w (some ⟨a, 0, none⟩) 8 rT) :
    Calls Tryz.prog 65 #[.slice (some ⟨a, 0, none⟩) 8 8] w fun e w' => ∃ rp ab c, e = .returned (.pointer (some ⟨rp, 0, none⟩)) ∧ w'.heap[rp]? = some (.cells #[.int .u32 0, .int .i32 0, .int .u32 0, .nilIface, .slice (some ⟨ab, 0, none⟩) 8 c] 155 (0, 0)) ∧ Kd.string.C w' (some ⟨ab, 0, none⟩) 8 rT ∧ ab ≠ rp ∧ w.heap.size ≤ rp ∧ Below w.heap.size w w' := by
  obtain ⟨inner, hr, hat⟩ := ReadsRow.inner_ (show ReadsRow (Kd.string.K w) 1 w (some ⟨a, 0, none⟩) rT.length rT from hC)
  have hone : ∀ u ∈ inner, u.oneCell' = true := reps_one (fun _ _ h => Kd.string.K_one h) (fun _ _ h => Kd.string.K_len h) hr
  have hlen : inner.length = rT.length * 1 := hr.1
  have HR := Lib.hid (And.intro hr (And.intro hat (And.intro hone hlen)))
  clear hC hr hat hone hlen
  obtain ⟨i0, hi, hz0, hz1, hz2⟩ := info_parts inS
  go_enter Tryz.func65, Tryz.ntmps65
  go_wp2_with (at_builtin; refine wpList_append_own _ rfl (.const (.slice none 0 0)) (.tmp 8) 29 rfl w.heap.size 9 i0 (.string ⟨#[]⟩) 1 16 Tu_texts hi hz0 hz1 hz2 rfl (by decide) (.slice none 0 0) 0 [] rfl ?c0 ⟨a, 0, none⟩ 8 8 inner rfl ?c6 ?c1 ?c2 ?c3 ?c4 ?c5 ?_)
  case c0 => exact own_nil _ _ _ _
  case c6 => exact HR.out.2.2.2
  case c1 => exact HR.out.2.1
  case c2 => exact HR.out.2.2.1
  case c3 => unfold maxLen; omega
  case c4 => omega
  case c5 => simp
  intro v' w1 hown hgrow _
  have hbel : Below w.heap.size w w1 := (Below.refl _ _).grown hgrow (Nat.le_refl _) (fun k hk => by simp [Value.ownBlock] at hk)
  have hown2 : w1.ownsRow w.heap.size 9 1 v' 8 inner := by simpa using hown
  obtain ⟨g, cap, rfl⟩ : ∃ g cap, v' = .slice (some ⟨g, 0, none⟩) 8 cap := by
    rcases hown2.2 with ⟨_, h, _⟩ | ⟨g, cap, cur, rfl, _⟩
    exact ⟨g, cap, rfl⟩
  obtain ⟨A, c, e1, _, hrd⟩ := OwnRow.reads (show OwnRow (Kd.string.K w) 9 1 w1 w.heap.size (.slice (some ⟨g, 0, none⟩) 8 cap) rT from ⟨inner, hown2, HR.out.1⟩)
  injection e1 with e1 e2 e3
  subst e1
  subst e3
  clear e2
  have hglt : g < w1.heap.size := by
    obtain ⟨cells, hc⟩ := own_typed hown2 g rfl
    exact blk_lt hc
  have HX := Lib.hid (And.intro hrd (And.intro hbel hglt))
  clear hown hgrow hown2 hbel hrd
  go_wp2_with fail
  go_ret
  refine ⟨w1.heap.size, g, cap, rfl, heap_alloc_new w1 _, ?_, by have := HX.out.2.2; omega, HX.out.2.1.size, below_alloc HX.out.2.1 _⟩
  have hb := below_alloc (Below.refl w1.heap.size w1) (.cells #[.int .u32 0, .int .i32 0, .int .u32 0, .nilIface, .slice (some ⟨g, 0, none⟩) 8 cap] 155)
  exact HX.out.1.imp_ hb (fun _ _ hp => hp)
end Go.Proofs.YtpdnopfjnmjnnaaGreatDoor.Cn
