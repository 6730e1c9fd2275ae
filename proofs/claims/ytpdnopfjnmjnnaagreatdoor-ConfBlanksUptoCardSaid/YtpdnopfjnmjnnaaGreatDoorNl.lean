/- Package conf: the reader's put. -/
import Derived.Test.YtpdnopfjnmjnnaaGreatDoorNm
set_option linter.unusedVariables false
set_option linter.unusedSimpArgs false
namespace Go.Proofs.YtpdnopfjnmjnnaaGreatDoor.Cn
open Go.Sort Go.RowKit Go.Proofs Go.Proofs.YtpdnopfjnmjnnaaGreatDoorW.PrintWords Go.Proofs.YtpdnopfjnmjnnaaGreatDoor.Bs Go.Proofs.YtpdnopfjnmjnnaaGreatDoor.Ir Go.Proofs.YtpdnopfjnmjnnaaGreatDoor.Cz

theorem listGo_len : ∀ (n : Nat) (out : List (List UInt8)) (l : List UInt8) (o : List (List UInt8)) (l' : List UInt8), listGo n out l = .ok (o, l') → o.length + l'.length ≤ out.length + l.length
  | 0, _, _, _, _, h => by cases h
  | n + 1, out, l, o, l', h => by
    rw [listGo_succ] at h
    have h0 := spacesL_len l
    cases hi : itemL (spacesL l) with
    | error y => rw [hi] at h; cases h
    | ok z =>
      obtain ⟨x, l1⟩ := z
      rw [hi] at h
      dsimp only at h
      have h1 := itemL_len hi
      have h2 := spacesL_len l1
      split at h
      · rename_i hp
        obtain ⟨r, hr⟩ := prefix_one _ _ hp
        have := listGo_len n _ _ _ _ h
        rw [hr] at this h2
        simp at this h2
        omega
      · split at h
        · rename_i hp
          obtain ⟨r, hr⟩ := prefix_one _ _ hp
          injection h with h
          injection h with h3 h4
          subst h3; subst h4
          rw [hr] at h2 ⊢
          simp at h2 ⊢
          omega
        · cases h
theorem listL_len {l l' : List UInt8} {o : List (List UInt8)} (h : listL l = .ok (o, l')) : o.length ≤ l.length := by
  unfold listL at h
  dsimp only at h
  have h0 : (Lib.trimPrefix l [91]).length ≤ l.length := by
    rw [trim_one]
    split <;> simp
  have h1 := spacesL_len (Lib.trimPrefix l [91])
  split at h
  · injection h with h
    injection h with h2 _
    subst h2
    simp
  · have := listGo_len _ _ _ _ _ h
    simp at this
    omega
theorem readL_list {l k : List UInt8} {v : Val} (h : readL l = .ok (k, v)) : (leaf k v).f3.length ≤ l.length := by
  unfold readL at h
  dsimp only at h
  split at h
  · cases hv : readVal (Lib.cut l [58]).2.1 with
    | error y => rw [hv] at h; cases h
    | ok u =>
      rw [hv] at h
      injection h with h
      injection h with h1 h2
      subst h2
      have hc := (cut_len l [58]).2
      generalize (Lib.cut l [58]).2.1 = r at *
      cases u with
      | none => simp [leaf]
      | text s => simp [leaf]
      | list o =>
        show (o.map bsOf).length ≤ _
        rw [List.length_map]
        unfold readVal at hv
        dsimp only at hv
        have hs := spacesL_len (r.drop 1)
        have hd : (r.drop 1).length ≤ r.length := by simp
        split at hv
        · cases hv
        · split at hv
          · cases hv
          · split at hv
            · cases hq : quotedL (spacesL (r.drop 1)) with
              | error y => rw [hq] at hv; cases hv
              | ok z => rw [hq] at hv; dsimp only at hv; split at hv <;> cases hv
            · split at hv
              · cases hq : listL (spacesL (r.drop 1)) with
                | error y => rw [hq] at hv; cases hv
                | ok z =>
                  obtain ⟨o', l'⟩ := z
                  rw [hq] at hv
                  dsimp only at hv
                  split at hv
                  · injection hv with hv
                    injection hv with hv
                    subst hv
                    have := listL_len hq
                    omega
                  · cases hv
              · split at hv <;> cases hv
  · cases h
/-- The keys' checks, behind the line's place. -/
def putC (path : List Lv) (cur : List Kn) (x : Kn) (has : Bool) : Except Int St :=
  if !(has || decide (path.length + 1 ≤ 8)) then .error 11
  else if !longK x then .error 4
  else if 256 < x.f3.length then .error 3
  else if cur.any (fun y => y.f0.data.toList == x.f0.data.toList) then .error 15
  else if 256 ≤ cur.length then .error 3
  else .ok ⟨path, cur ++ [x], !has⟩
theorem putL_err {i : Int} {l : List UInt8} {s : St} {y : Int} (h : readL l = .error y) : putL i l s = .error y := by rw [putL, h]
theorem putL_none {i : Int} {l k : List UInt8} {v : Val} {s : St} (h : readL l = .ok (k, v)) (hp : placeL i s = none) : putL i l s = .error 15 := by rw [putL, h]; dsimp only; rw [hp]
theorem putL_some {i : Int} {l k : List UInt8} {v : Val} {s : St} {path : List Lv} {cur : List Kn} (h : readL l = .ok (k, v)) (hp : placeL i s = some (path, cur)) : putL i l s = putC path cur (leaf k v) (hasV v) := by
  rw [putL, h]; dsimp only; rw [hp]
  cases v <;> rfl
theorem readV_node {base : Nat} {k : List UInt8} {v : Val} {w : World} {u : Value} (h : readV base (k, v) w u) : ∃ ls, u = .tuple #[.string (leaf k v).f0, .agg #[.int .u8 (leaf k v).f1, .string (leaf k v).f2, ls, .slice none 0 0], .bool (hasV v)] ∧ Kd.string.R 9 w base (fun k => base ≤ k) ls (leaf k v).f3 ∧ (leaf k v).f4 = [] ∧ (hasV v = false → (leaf k v) = shutK (bsOf k) [] ∧ ls = .slice none 0 0) := by
  obtain ⟨vl, rfl, hl⟩ := h
  cases v with
  | none => exact ⟨.slice none 0 0, rfl, Kd.R_nil _ _ _ _ _, rfl, fun _ => ⟨rfl, rfl⟩⟩
  | text t => exact ⟨.slice none 0 0, rfl, Kd.R_nil _ _ _ _ _, rfl, fun h => by cases h⟩
  | list l => exact ⟨vl, rfl, hl, rfl, fun h => by cases h⟩
theorem R_keepT {base : Nat} {ok : Nat → Prop} {w w' : World} {v : Value} {xs : List ByteArray} (h : Kd.string.R 9 w base ok v xs) (hk : KeepT w w') : Kd.string.R 9 w' base ok v xs :=
  Kd.R_mono (Kd.R_move (Kd.R_bound h) (fun k hb => by
    obtain ⟨_, _, _, q, hq, cells, hc⟩ := hb
    rcases List.mem_cons.1 hq with rfl | hq
    · exact (Keeps.cells hk (by decide) hc).trans hc.symm
    · cases hq)) (fun k hb => hb.1)
/-- The reader's state, with an open last key. -/
def ZsO (w : World) (base fl rt rb : Nat) (s : St) : Prop :=
  ∃ N bs ads v vL, Zs w base fl rt rb N bs ads v vL s.path s.cur s.opn ∧ (s.opn = true → ∃ xs k, s.cur = xs ++ [shutK k []] ∧ OpenRow w base N v xs k ∧ s.path.length + 1 ≤ 8)
theorem ZsO.keep {w w' : World} {base fl rt rb : Nat} {s : St} (h : ZsO w base fl rt rb s) (hb : Below w.heap.size w w') : ZsO w' base fl rt rb s := by
  obtain ⟨N, bs, ads, v, vL, hz, ho⟩ := h
  exact ⟨N, bs, ads, v, vL, hz.keep hb, fun e => by
    obtain ⟨xs, k, h1, h2, h3⟩ := ho e
    exact ⟨xs, k, h1, h2.keep hz.lo hb, h3⟩⟩
theorem RowN.reads {w : World} {base : Nat} {N : Nat → Prop} {v : Value} {xs : List Kn} (h : RowN w base N v xs) : ∃ A c, v = .slice A xs.length c ∧ xs.length ≤ c ∧ Kd.C kK w A xs.length xs := by
  obtain ⟨A, c, he, hl, hr⟩ := OwnRow.reads h
  exact ⟨A, c, he, hl, hr.imp_ (Below.refl _ _) (fun _ _ hp => kK.K_of_M hp)⟩
def PutQ (base fl rt rb : Nat) (w : World) (r : Except Int St) (e : Ending) (w' : World) : Prop :=
  BK base w w' ∧ match r with
    | .error y => e = pf y
    | .ok s => e = .returned (.tuple #[]) ∧ ZsO w' base fl rt rb s
theorem appended2 {w w1 : World} {base fl rt rb : Nat} {N : Nat → Prop} {bs : List Nat} {ab ao : Nat} {ads : List Addr} {v v1 vL : Value} {path : List Lv} {cur : List Kn} {f : Bool} (h : Zs w base fl rt rb N bs (⟨ab, ao, none⟩ :: ads) v vL path cur f) {g1 c1 : Nat} (hv1 : v1 = .slice (some ⟨g1, 0, none⟩) (cur.length + 1) c1)
    (hR : kK.R 44 w1 base (fun k => N k ∨ some k = v.ownBlock ∨ w.heap.size ≤ k) v1 (cur ++ [zKn])) (hg : w.drew.grownBy w1 v.ownBlock) (hat : v1.ownBlock = v.ownBlock ∨ ∃ b, v1.ownBlock = some b ∧ w.drew.heap.size ≤ b)
    (x : Kn) (hx4 : x.f4 = []) (ls : Value) {base0 : Nat} (hls : Kd.string.R 9 w base0 (fun k => base0 ≤ k) ls x.f3) (hb0 : base ≤ base0) (hmany : cur.length < 256) (hbase : base ≤ w.heap.size) (hfl : fl ≤ base0) (hlw : base0 ≤ w.heap.size) (hne : ab ≠ g1) (WF : World)
    (hWF : WF = (((((w1.setCell ⟨g1, cur.length * 5, none⟩ (.string x.f0)).setCell ⟨g1, cur.length * 5 + 1, none⟩ (.int .u8 x.f1)).setCell ⟨g1, cur.length * 5 + 2, none⟩ (.string x.f2)).setCell ⟨g1, cur.length * 5 + 3, none⟩ ls).setCell ⟨g1, cur.length * 5 + 4, none⟩ (.slice none 0 0)).setCell ⟨ab, ao + 3, none⟩ v1
      ∨ WF = (((((w1.setCell ⟨ab, ao + 3, none⟩ v1).setCell ⟨g1, cur.length * 5, none⟩ (.string x.f0)).setCell ⟨g1, cur.length * 5 + 1, none⟩ (.int .u8 x.f1)).setCell ⟨g1, cur.length * 5 + 2, none⟩ (.string x.f2)).setCell ⟨g1, cur.length * 5 + 3, none⟩ ls).setCell ⟨g1, cur.length * 5 + 4, none⟩ (.slice none 0 0)) :
    BK base w WF ∧ ∃ N', Zs WF base fl rt rb N' bs (⟨ab, ao, none⟩ :: ads) v1 vL path (cur ++ [x]) f ∧ ∀ key, x = shutK key [] → ls = .slice none 0 0 → OpenRow WF base N' v1 cur key := by
  refine h.appended hv1 hR hg hat x hx4 ls hls hb0 hmany hbase hfl hlw WF ?_
  rw [elem_set]
  rcases hWF with e | e
  · exact e
  · exact e.trans (elem_comm' _ _ _ _ _ _ _ _ _ _ _ hne)
end Go.Proofs.YtpdnopfjnmjnnaaGreatDoor.Cn
