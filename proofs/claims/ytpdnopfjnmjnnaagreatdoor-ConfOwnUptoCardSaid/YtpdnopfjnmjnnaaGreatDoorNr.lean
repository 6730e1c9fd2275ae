/- Package conf: lines' iterator. -/
import Derived.Test.YtpdnopfjnmjnnaaGreatDoorNf
import Derived.Test.YtpdnopfjnmjnnaaGreatDoorNn
import Derived.RangeFuncSeq
import Derived.RangeFuncNested
import Derived.Shelf.Abstract
import Derived.OwnWalkIn
import Derived.TacticsInMore
import Derived.LoopNIn
import Derived.LoopIn
set_option linter.unusedVariables false
set_option linter.unusedSimpArgs false
namespace Go.Proofs.YtpdnopfjnmjnnaaGreatDoor.Cn
open Go.Sort Go.RowKit Go.Proofs Go.Proofs.YtpdnopfjnmjnnaaGreatDoorW.PrintWords Go.Proofs.YtpdnopfjnmjnnaaGreatDoor.Bs Go.Proofs.YtpdnopfjnmjnnaaGreatDoor.Ir Go.Proofs.YtpdnopfjnmjnnaaGreatDoor.Cz

def restLen (sb : Nat) (w : World) : Nat := match w.cell? ⟨sb, 0, none⟩ with | some (.string b) => b.size | _ => 0
theorem foldL_app : ∀ (a b : List Ln) (s : St), foldL (a ++ b) s = match foldL a s with | .error y => .error y | .ok s' => foldL b s'
  | [], b, s => rfl
  | x :: a, b, s => by
    rw [List.cons_append, foldL, foldL]
    cases putL x.indent x.text s with
    | error y => rfl
    | ok s' => exact foldL_app a b s'
theorem linesGo_succ (f : Nat) (n : Int) (s : List UInt8) : linesGo (f + 1) n s = if s.isEmpty then [] else lineOf n (Lib.cut s [10]).1 ++ linesGo f (n + 1) (Lib.cut s [10]).2.1 := rfl
theorem cut_less (r : List UInt8) (h : r ≠ []) : (Lib.cut r [10]).2.1.length < r.length := by
  have : 0 < r.length := List.length_pos_iff.2 h
  unfold Lib.cut
  split <;> simp <;> omega
def IterQ (J : List UInt8 → St → World → Prop) (Er : Int → Int → World → Prop) (r : Except (Int × Int) St) (e : Ending) (w' : World) : Prop :=
  match r with
  | .ok st => e = .returned (.tuple #[]) ∧ ∃ r, J r st w'
  | .error y => e = pf y.1 ∧ Er y.1 y.2 w'
def RoundQ (J : List UInt8 → St → World → Prop) (Er : Int → Int → World → Prop) (r : List UInt8) (n : Int) (q : Except Int St) (e : Ending) (w' : World) : Prop :=
  match q with
  | .ok st => e = .returned (.bool true) ∧ J r st w'
  | .error y => e = pf y ∧ Er y n w'
set_option maxRecDepth 100000 in
set_option maxHeartbeats 2000000 in
theorem lines_iter (L sb m : Nat) (J : List UInt8 → St → World → Prop) (Er : Int → Int → World → Prop)
    (hsb : ∀ r st W, J r st W → W.heap[sb]? = some (.cells #[.string (bsOf r)] 9 (0, 0)))
    (hst : ∀ r r' st W, J r st W → J r' st (W.setCell ⟨sb, 0, none⟩ (.string (bsOf r'))))
    (hbl : ∀ r st W W', J r st W → Below W.heap.size W W' → J r st W')
    (hmx : ∀ r st W, J r st W → Mx W)
    (hY : ∀ r st (x : Ln) W, J r st W → 0 ≤ x.indent → x.indent ≤ 1073741824 → x.text.length ≤ 1073741824 → YieldAt Fence.wide m Tryz.prog L #[.agg #[.int .i64 x.indent, .int .i64 x.number, .string (bsOf x.text)]] W (RoundQ J Er r x.number (putL x.indent x.text st)))
    (tx : List UInt8) (htx : tx.length ≤ 16384) (st0 : St) (W : World) (h : J tx st0 W) :
    CallsIn Fence.wide (m + 1) Tryz.prog 43 #[.func (.yield L) #[] #[], .pointer (some ⟨sb, 0, none⟩)] W (IterQ J Er (foldL (linesL tx) st0)) := by
  refine callsIn_of_wp Tryz.func43 rfl trivial ?_ rfl
  simp only [Tryz.ntmps43, List.size_toArray, List.length_cons, List.length_nil, Nat.reduceAdd, Nat.reduceSub, Array.replicate_succ, Array.replicate_zero, List.push_toArray, List.append_toArray, List.nil_append, List.cons_append]
  gi_wp2
  gi_loopw [3] (fun nv wr => ∃ (r : List UInt8) (st : St) (nn : Int) (f : Nat), nv = .int .i64 nn ∧ J r st wr ∧ foldL (linesL tx) st0 = foldL (linesGo f nn r) st ∧ r.length < f ∧ 1 ≤ nn ∧ nn ≤ 1 + tx.length - r.length) (fun _ wr => restLen sb wr)
  case atStart => exact ⟨tx, st0, 1, tx.length + 1, rfl, h, rfl, by omega, by omega, by omega⟩
  case round =>
    obtain ⟨r, st, nn, f, rfl, hJ, hl, hf, hn0, hn1⟩ := hrel
    obtain ⟨f, rfl⟩ : ∃ k, f = k + 1 := ⟨f - 1, by omega⟩
    have c0 := blk_cell (hsb _ _ _ hJ) 0
    have cf := blk_frozen (hsb _ _ _ hJ) 0
    have hrl : r.length ≤ tx.length := by omega
    rw [linesGo_succ] at hl
    cases her : r.isEmpty
    · have hc := cut_any (bsOf r) ⟨#[10]⟩ wr (hmx _ _ _ hJ) (by show r.length ≤ _; omega)
      rw [show (bsOf r).data.toList = r from rfl, show ((⟨#[10]⟩ : ByteArray)).data.toList = [10] from rfl] at hc
      obtain ⟨ln, hln⟩ : ∃ ln, ln = (Lib.cut r [10]).1 := ⟨_, rfl⟩
      obtain ⟨rs, hrs⟩ : ∃ rs, rs = (Lib.cut r [10]).2.1 := ⟨_, rfl⟩
      have hll : ln.length ≤ r.length := by rw [hln]; exact (cut_len r [10]).1
      have hrr : rs.length < r.length := by rw [hrs]; exact cut_less r (by rintro rfl; cases her)
      rw [if_neg (by rw [her]; decide)] at hl
      rw [← hln, ← hrs] at hc hl
      have he2 : (bsOf r).toList.isEmpty = false := by rw [Lib.toList_data]; exact her
      have hm0 : restLen sb wr = r.length := by
        have c0' : wr.cell? ⟨sb, 0, none⟩ = some (.string (bsOf r)) := c0
        simp only [restLen, c0']
        rfl
      have hcT := fun W => Tryz.strings_TrimLeft_one (bsOf ln) 32 (by decide) W
      obtain ⟨t, ht⟩ : ∃ t : ByteArray, t = ⟨(Lib.trimLeftB (bsOf ln).data.toList 32).toArray⟩ := ⟨_, rfl⟩
      have hsl : spacesL ln = t.data.toList := by rw [ht]; rfl
      have htl : t.size ≤ ln.length := by
        have := spacesL_len ln
        rw [hsl] at this
        exact this
      rw [← ht] at hcT
      have hwr : IntKind.i64.wrap (nn + 1) = nn + 1 := IntWalk.i64_in _ (by omega)
      have hwl : IntKind.i64.wrap ((bsOf ln).size - (t.size : Int)) = (ln.length : Int) - t.size := IntWalk.i64_in _ (by show _ ≤ (ln.length : Int) - t.size ∧ (ln.length : Int) - t.size ≤ _; omega)
      have hlo : lineOf nn ln = if t.data.toList.isEmpty || t.data.toList.headD 0 == 35 then [] else [⟨(ln.length : Int) - t.size, nn, t.data.toList⟩] := by
        unfold lineOf
        rw [hsl]
        rfl
      rw [hlo] at hl
      clear ht hsl hlo hln hrs
      gi_wp2_with fail
      refine ⟨trivial, (callsIn_wide.2 hc).mono ?_⟩
      rintro e W1 ⟨rfl, hb1⟩
      have hJ1 := hbl _ _ _ _ hJ hb1
      have c1 := blk_cell (hsb _ _ _ hJ1) 0
      have f1 := blk_frozen (hsb _ _ _ hJ1) 0
      have hJ2 := hst r rs st W1 hJ1
      have HJ2 := Lib.hid hJ2
      have c2 := blk_cell (hsb _ _ _ hJ2) 0
      have hm2 : restLen sb (W1.setCell ⟨sb, 0, none⟩ (.string (bsOf rs))) = rs.length := by
        have c2' : (W1.setCell ⟨sb, 0, none⟩ (.string (bsOf rs))).cell? ⟨sb, 0, none⟩ = some (.string (bsOf rs)) := c2
        simp only [restLen, c2']
        rfl
      have hm3 : restLen sb (W1.setCell ⟨sb, 0, none⟩ (.string (bsOf rs))) < restLen sb wr := by omega
      have HM3 := Lib.hid hm3
      clear hb1 hJ1 hJ2 c0 cf hc hm2 hm3
      have HM0 := Lib.hid hm0
      clear hm0
      cases he : t.toList.isEmpty
      · have hpos : 0 < t.size := by
          rw [Lib.toList_data, List.isEmpty_eq_false_iff] at he
          exact List.length_pos_iff.2 he
        obtain ⟨x, hx⟩ : ∃ x : UInt8, t[0]'hpos = x := ⟨_, rfl⟩
        have hx0 : t.data.toList.headD 0 = x := by
          have := data_at t 0 hpos
          rw [hx] at this
          rw [List.headD_eq_head?_getD, List.head?_eq_getElem?, this]
          rfl
        have hee : t.data.toList.isEmpty = false := by rw [← Lib.toList_data]; exact he
        rw [hx0, hee] at hl
        by_cases h1 : x.toNat = 35
        · have hx35 : (x == 35) = true := by rw [beq_iff_eq]; exact UInt8.toNat_inj.1 h1
          have h2 : ((x.toNat : Int) != 35) = false := by simp; omega
          rw [hx35, if_pos (by simp)] at hl
          have HL := Lib.hid (show foldL (linesL tx) st0 = foldL (linesGo f (nn + 1) rs) st from hl)
          clear hx35 h1 hl
          gi_wp2_with (refine ⟨trivial, ?_⟩; gi_at_call 45; refine (callsIn_wide.2 (hcT _)).mono ?_; rintro e w1 ⟨rfl, rfl⟩)
          refine ⟨fun _ h => (by cases h), ?_⟩
          gi_wp2
          go_roundw
          case rel => exact ⟨rs, st, nn + 1, f, rfl, HJ2.out, HL.out, by omega, by omega, by omega⟩
          case measure => exact HM3.out
        · have hx35 : (x == 35) = false := by rw [beq_eq_false_iff_ne]; rintro rfl; exact h1 rfl
          have h2 : ((x.toNat : Int) != 35) = true := by rw [bne_iff_ne]; omega
          rw [hx35, if_neg (by simp)] at hl
          have HL := Lib.hid (show foldL (linesL tx) st0 = foldL (⟨(ln.length : Int) - t.size, nn, t.data.toList⟩ :: linesGo f (nn + 1) rs) st from hl)
          clear hx35 h1 hl
          obtain ⟨fn, tmps, assign, body, hy, hR⟩ := hY rs st ⟨(ln.length : Int) - t.size, nn, t.data.toList⟩ _ HJ2.out (by show (0 : Int) ≤ (ln.length : Int) - t.size; omega) (by show (ln.length : Int) - t.size ≤ _; omega) (by show t.size ≤ _; omega)
          dsimp only at hy hR
          rw [show bsOf t.data.toList = t from by simp [bsOf]] at hy
          gi_wp2_with (refine ⟨trivial, ?_⟩; gi_at_call 45; refine (callsIn_wide.2 (hcT _)).mono ?_; rintro e w1 ⟨rfl, rfl⟩)
          refine hR.mono ?_
          rintro e W3 hq
          cases hp : putL ((ln.length : Int) - t.size) t.data.toList st with
          | ok st' =>
            rw [hp] at hq
            obtain ⟨rfl, hJ3⟩ := hq
            have HL2 := Lib.hid (show foldL (linesL tx) st0 = foldL (linesGo f (nn + 1) rs) st' from by rw [HL.out, foldL]; dsimp only; rw [hp])
            have c3 := blk_cell (hsb _ _ _ hJ3) 0
            have hm2 : restLen sb W3 = rs.length := by
              have c3' : W3.cell? ⟨sb, 0, none⟩ = some (.string (bsOf rs)) := c3
              simp only [restLen, c3']
              rfl
            have HM4 := Lib.hid (show restLen sb W3 < restLen sb wr from by rw [hm2, HM0.out]; exact hrr)
            have HJ3 := Lib.hid hJ3
            clear hJ3 hm2 hR hy hp
            gi_wp2
            go_roundw
            case rel => exact ⟨rs, st', nn + 1, f, rfl, HJ3.out, HL2.out, by omega, by omega, by omega⟩
            case measure => exact HM4.out
          | error y =>
            rw [hp] at hq
            obtain ⟨rfl, hE⟩ := hq
            have HL2 := Lib.hid (show foldL (linesL tx) st0 = .error (y, nn) from by rw [HL.out, foldL]; dsimp only; rw [hp])
            unfold pf
            gi_wp2
            rw [HL2.out]
            exact ⟨rfl, rfl, hE⟩
      · have hee : t.data.toList.isEmpty = true := by rw [← Lib.toList_data]; exact he
        rw [hee, if_pos (by simp)] at hl
        have HL := Lib.hid (show foldL (linesL tx) st0 = foldL (linesGo f (nn + 1) rs) st from hl)
        clear hl
        gi_wp2_with (refine ⟨trivial, ?_⟩; gi_at_call 45; refine (callsIn_wide.2 (hcT _)).mono ?_; rintro e w1 ⟨rfl, rfl⟩)
        refine ⟨fun _ h => (by cases h), ?_⟩
        gi_wp2
        go_roundw
        case rel => exact ⟨rs, st, nn + 1, f, rfl, HJ2.out, HL.out, by omega, by omega, by omega⟩
        case measure => exact HM3.out
    · have he2 : (bsOf r).toList.isEmpty = true := by rw [Lib.toList_data]; exact her
      rw [if_pos her] at hl
      rw [hl]
      gi_wp2
      go_end0
      exact ⟨rfl, r, hJ⟩
end Go.Proofs.YtpdnopfjnmjnnaaGreatDoor.Cn
