/- Package conf: the printer's keys. -/
import Derived.Test.YtpdnopfjnmjnnaaGreatDoorVj
import Derived.Test.YtpdnopfjnmjnnaaGreatDoorVk
import Derived.Test.YtpdnopfjnmjnnaaGreatDoorQt
import Derived.Test.YtpdnopfjnmjnnaaGreatDoorNx
import Derived.Lib.QuietBelow
set_option linter.unusedVariables false
set_option linter.unusedSimpArgs false
namespace Go.Proofs.YtpdnopfjnmjnnaaGreatDoor.Cn
open Go.Sort Go.RowKit Go.Proofs Go.Proofs.YtpdnopfjnmjnnaaGreatDoorW.PrintWords Go.Proofs.YtpdnopfjnmjnnaaGreatDoor.Bs Go.Proofs.YtpdnopfjnmjnnaaGreatDoor.Ir Go.Proofs.YtpdnopfjnmjnnaaGreatDoor.Cz

def shB (p : List UInt8 → Bool) (s : ByteArray) : ByteArray := if p s.data.toList then s else quoB s
/-- May be shown: as it is, or quoted without any sign that turns. -/
def ShOK (p : List UInt8 → Bool) (s : ByteArray) : Prop := s.size ≤ 4096 ∧ (p s.data.toList = true ∨ s.size < 32 ∧ ∀ b ∈ s.data.toList, spB b = false)
def joB (l : List ByteArray) : ByteArray := ⟨(Lib.join (l.map (·.data.toList)) (⟨#[44, 32]⟩ : ByteArray).data.toList).toArray⟩
def valB (y : Kn) : ByteArray := if y.f1 = 1 then ⟨#[32]⟩ ++ shB plainL y.f2 else if y.f1 = 2 then ⟨#[32, 91]⟩ ++ joB (y.f3.map (shB wordL)) ++ ⟨#[93]⟩ else ⟨#[]⟩
def repB (d : Nat) : ByteArray := ⟨(Lib.repeatL (⟨#[32, 32]⟩ : ByteArray).data.toList d).toArray⟩
/-- A map's lines. -/
def linesB : Nat → Nat → Kn → List UInt8
  | 0, _, _ => []
  | n + 1, d, x => x.f4.flatMap fun y => (repB d ++ y.f0 ++ ⟨#[58]⟩).data.toList ++ ((valB y).data.toList ++ ((⟨#[10]⟩ : ByteArray).data.toList ++ linesB n (d + 1) y))
/-- A key's lines. -/
def lineB (n d : Nat) (y : Kn) : List UInt8 := (repB d ++ y.f0 ++ ⟨#[58]⟩).data.toList ++ ((valB y).data.toList ++ ((⟨#[10]⟩ : ByteArray).data.toList ++ linesB n (d + 1) y))
theorem linesB_succ (n d : Nat) (x : Kn) : linesB (n + 1) d x = x.f4.flatMap (lineB n d) := rfl
/-- May be printed. -/
def PrOK : Nat → Kn → Prop
  | 0, x => x.f4 = []
  | n + 1, x => ∀ y ∈ x.f4, y.f0.size ≤ 64 ∧ (y.f1 = 1 → ShOK plainL y.f2) ∧ (y.f1 = 2 → (∀ s ∈ y.f3, ShOK wordL s) ∧ (joB (y.f3.map (shB wordL))).size ≤ 1073741824) ∧ PrOK n y
/-- The printer's builder holds these bytes. -/
def Prn (B pb : Nat) (l : List UInt8) (w : World) : Prop := Lib.IsBuilder 58 5 B pb (Lib.byteCells l) w
theorem Prn.blk {B pb : Nat} {l : List UInt8} {w : World} (h : Prn B pb l w) : ∃ p v, w.heap[pb]? = some (.cells #[p, v] 58 (0, 0)) := by
  rcases h with ⟨_, v, h, _⟩ | ⟨_, v, h, _⟩
  · exact ⟨_, _, h⟩
  · exact ⟨_, _, h⟩
theorem Prn.ge {B pb : Nat} {l : List UInt8} {w : World} (h : Prn B pb l w) : B ≤ pb := by
  rcases h with ⟨h, _⟩ | ⟨h, _⟩ <;> exact h
theorem Prn.lt {B pb : Nat} {l : List UInt8} {w : World} (h : Prn B pb l w) : pb < w.heap.size := by
  obtain ⟨_, _, h⟩ := h.blk
  exact blk_lt h
theorem Prn.below {B pb : Nat} {l : List UInt8} {w W : World} (h : Prn B pb l w) (hb : Below w.heap.size w W) : Prn B pb l W := by
  have at' : ∀ p, Lib.BuilderAt 58 5 B pb p (Lib.byteCells l) w → Lib.BuilderAt 58 5 B pb p (Lib.byteCells l) W := by
    rintro p ⟨h1, v, h2, h3, h4⟩
    exact ⟨h1, v, (hb.block _ (blk_lt h2)).trans h2, own_move h3 (fun k hk => hb.block _ (by
      obtain ⟨cells, hc⟩ := own_typed h3 k hk
      exact blk_lt hc)), h4⟩
  rcases h with h | h
  · exact .inl (at' _ h)
  · exact .inr (at' _ h)
/-- What is kept of the call's own blocks. -/
def Oth (pb : Nat) (w w' : World) : Prop := Lib.OthersKept 5 (some pb) w w'
theorem Oth.of {pb : Nat} {w W : World} (h : Below w.heap.size w W) : Oth pb w W := fun k o ho _ _ => (h.block k (Array.getElem?_eq_some_iff.1 ho).1).trans ho
theorem Oth.trans {pb : Nat} {a b c : World} (h : Oth pb a b) (k : Oth pb b c) : Oth pb a c := Lib.OthersKept.trans h k
theorem Oth.blk {pb : Nat} {a b : World} (h : Oth pb a b) {k : Nat} {cs : Array Value} {T : TypeId} (hk : a.heap[k]? = some (.cells cs T (0, 0))) (hne : k ≠ pb) (hT : T ≠ 5) : b.heap[k]? = some (.cells cs T (0, 0)) :=
  h k _ hk (fun e => hne (Option.some.inj e)) (fun c fz e => by
    injection e with _ e
    exact hT e)
theorem Oth.R {α : Type} {d : Kd α} {e : Nat} {w w1 : World} {base : Nat} {ok : Nat → Prop} {v : Value} {xs : List α} (h : d.R e w base ok v xs) {pb : Nat} (hk : Oth pb w w1) (hlt : ∀ k, ok k → k ≠ pb) (h5 : ∀ q, q ∈ e :: d.E → q ≠ 5) : d.R e w1 base ok v xs :=
  Kd.R_mono (Kd.R_move (Kd.R_bound h) (fun k hk' => by
    obtain ⟨hok, _, _, q, hq, cells, hc⟩ := hk'
    rw [hc]
    exact hk.blk hc (hlt k hok) (h5 q hq))) (fun _ hk' => hk'.1)
theorem write_any (B pb : Nat) (l : List UInt8) (s : ByteArray) (w : World) (h : Prn B pb l w) (hl : l.length + s.size ≤ 140737488355328) (hB : B ≤ w.heap.size) :
    Calls Tryz.prog 37 #[.pointer (some ⟨pb, 0, none⟩), .string s] w fun e w' => e = .returned (.tuple #[.int .i64 s.size, .nilIface]) ∧ Prn B pb (l ++ s.data.toList) w' ∧ Below B w w' ∧ Oth pb w w' := by
  refine (Bq.WriteString B pb _ s w h (by rw [Lib.byteCells_length]; exact hl) hB).mono ?_
  rintro e w' ⟨rfl, h1, h2, h3⟩
  refine ⟨rfl, .inr ?_, h2, h3⟩
  have e : Lib.byteCells l ++ Lib.strCells s = Lib.byteCells (l ++ s.data.toList) := by
    unfold Lib.byteCells Lib.strCells
    rw [List.map_append]
  rw [← e]
  exact h1
/-- Behind i keys. -/
structure KeyP (B pb n d : Nat) (l : List UInt8) (x : Kn) (wa W : World) (i : Nat) : Prop where
  prn : Prn B pb (l ++ (x.f4.take i).flatMap (lineB n d)) W
  bel : Below B wa W
  oth : Oth pb wa W
theorem line_le (f : Kn → List UInt8) : ∀ (l : List Kn) (i : Nat) (y : Kn) (l' : List Kn), l.take (i + 1) = l' ++ [y] → (l'.flatMap f).length + (f y).length ≤ (l.flatMap f).length := by
  intro l i y l' h
  have e : l = l' ++ [y] ++ l.drop (i + 1) := by rw [← h, List.take_append_drop]
  rw [e, List.flatMap_append, List.flatMap_append]
  simp
theorem shB_size (p : List UInt8 → Bool) (s : ByteArray) : (shB p s).size ≤ s.size + 2 := by
  unfold shB
  split
  · omega
  · unfold quoB
    rw [ByteArray.size_append, ByteArray.size_append]
    show 1 + s.size + 1 ≤ _
    omega
theorem plain_below (s : ByteArray) (w : World) (hm : Mx w) (hs : s.size ≤ 4096) : Calls Tryz.prog 40 #[.string s] w fun e w' => e = .returned (.bool (plainL s.data.toList)) ∧ Below w.heap.size w w' := by
  refine (plain_any s w hm (by omega)).mono ?_
  rintro e w' ⟨rfl, rfl⟩
  exact ⟨rfl, Below.refl _ _⟩
theorem word_below (s : ByteArray) (w : World) (hm : Mx w) (hs : s.size ≤ 4096) : Calls Tryz.prog 41 #[.string s] w fun e w' => e = .returned (.bool (wordL s.data.toList)) ∧ Below w.heap.size w w' := word_any s w hm (by omega)
structure LstP (w5 W : World) (ls : List ByteArray) (j : Nat) (v : Value) : Prop where
  bel : Below w5.heap.size w5 W
  row : Kd.string.R 9 W w5.heap.size (fun k => w5.heap.size ≤ k) v ((ls.take j).map (shB wordL))
theorem join_any (v : Value) (xs : List ByteArray) (base : Nat) (ok : Nat → Prop) (W : World) (hR : Kd.string.R 9 W base ok v xs) (hlen : (joB xs).size ≤ 1073741824) (hN : xs.length ≤ 1073741824) :
    Calls Tryz.prog 42 #[v, .string ⟨#[44, 32]⟩] W fun e w' => e = .returned (.string (joB xs)) ∧ Below W.heap.size W w' := by
  by_cases hx : xs = []
  · subst hx
    obtain ⟨A, c, rfl⟩ := Kd.R_slice hR
    refine (Tryz.strings_Join_none A c ⟨#[44, 32]⟩ W).mono ?_
    rintro e w' ⟨rfl, rfl⟩
    exact ⟨rfl, Below.refl _ _⟩
  · obtain ⟨g, cap, rfl, _, hg, _⟩ := Kd.R_form hR (List.length_pos_iff.2 hx)
    obtain ⟨A, c, e1, hle, hC⟩ := Kd.R_reads hR
    injection e1 with e1 _ e3
    subst e1
    subst e3
    refine Tryz.strings_Join g 0 cap xs ⟨#[44, 32]⟩ W (fun j x hj => ?_) hg (by omega) hle (by have h : (joB xs).size = (Lib.join (xs.map (·.data.toList)) (⟨#[44, 32]⟩ : ByteArray).data.toList).length := rfl; omega)
    have hjl : j < xs.length := (List.getElem?_eq_some_iff.1 hj).1
    obtain ⟨ad, cc, e0, -, hK, hcc⟩ := Kd.C_get hC (⟨#[]⟩ : ByteArray) (j : Int) (by omega) (by omega)
    injection e0 with e0
    subst e0
    have hcs : cc = [Value.string (xs.getD (j : Int).toNat ⟨#[]⟩)] := hK
    rw [Int.toNat_natCast] at hcs
    have hsy : xs.getD j ⟨#[]⟩ = x := by simp [hj]
    rw [hsy] at hcs
    have qs := hcc 0 (.string x) (by rw [hcs]; rfl)
    rw [Int.toNat_natCast] at qs
    have ej : j * Kd.string.sz + 0 = j := Nat.mul_one j
    rw [ej, add_plain] at qs
    rw [Nat.zero_add]
    simpa using qs
theorem len1 {l pl sz : List UInt8} {kz vz : ByteArray} (h : l.length + pl.length + (kz.size + (vz.size + (1 + sz.length))) ≤ 1073741824) : (l ++ pl).length + kz.size ≤ 140737488355328 := by
  rw [List.length_append]; omega
theorem len2 {l pl sz : List UInt8} {kz vz : ByteArray} (h : l.length + pl.length + (kz.size + (vz.size + (1 + sz.length))) ≤ 1073741824) : (l ++ pl ++ kz.data.toList).length + vz.size ≤ 140737488355328 := by
  rw [List.length_append, List.length_append, show kz.data.toList.length = kz.size from rfl]; omega
theorem len3 {l pl sz : List UInt8} {kz vz : ByteArray} (h : l.length + pl.length + (kz.size + (vz.size + (1 + sz.length))) ≤ 1073741824) : (l ++ pl ++ kz.data.toList ++ vz.data.toList).length + (⟨#[10]⟩ : ByteArray).size ≤ 140737488355328 := by
  rw [List.length_append, List.length_append, List.length_append, show kz.data.toList.length = kz.size from rfl, show vz.data.toList.length = vz.size from rfl, show (⟨#[10]⟩ : ByteArray).size = 1 from rfl]; omega
theorem len4 {l pl sz : List UInt8} {kz vz : ByteArray} (h : l.length + pl.length + (kz.size + (vz.size + (1 + sz.length))) ≤ 1073741824) : (l ++ pl ++ kz.data.toList ++ vz.data.toList ++ (⟨#[10]⟩ : ByteArray).data.toList).length + sz.length ≤ 1073741824 := by
  rw [List.length_append, List.length_append, List.length_append, List.length_append, show kz.data.toList.length = kz.size from rfl, show vz.data.toList.length = vz.size from rfl, show (⟨#[10]⟩ : ByteArray).data.toList.length = 1 from rfl]; omega
theorem rep_size (d : Nat) : (repB d).size = d * 2 := by
  show (Lib.repeatL _ d).length = _
  rw [Lib.repeatL_length]
  rfl
set_option maxRecDepth 100000 in
set_option maxHeartbeats 8000000 in
theorem keys_any (n : Nat) : ∀ (x : Kn) (hx : Fit x) (ho : PrOK n x) (d : Nat) (hd : d + n ≤ 1000) (A3 : Option Addr) (c3 : Nat) (A4 : Option Addr) (c4 : Nat) (B pb : Nat) (l : List UInt8) (w0 w : World), Kd.string.C w0 A3 x.f3.length x.f3 → kK.C w0 A4 x.f4.length x.f4 → Below w0.heap.size w0 w → w0.heap.size ≤ B → B ≤ w.heap.size → Mx w0 → Prn B pb l w → l.length + (linesB n d x).length ≤ 1073741824 →
    Calls Tryz.prog 23 #[.pointer (some ⟨pb, 0, none⟩), .agg #[.int .u8 x.f1, .string x.f2, .slice A3 x.f3.length c3, .slice A4 x.f4.length c4], .int .i64 d] w fun e w' => e = .returned (.tuple #[]) ∧ Prn B pb (l ++ linesB n d x) w' ∧ Below B w w' ∧ Oth pb w w' := by
  induction n with
  | zero =>
    intro x hx ho d hd A3 c3 A4 c4 B pb l w0 w hC3 hC4 hb0 hB0 hBw hmx hprn hlen
    have h4 : x.f4 = [] := ho
    have hl0 : x.f4.length = 0 := by rw [h4]; rfl
    obtain ⟨wa, hwa⟩ : ∃ wa, wa = w.alloc (.cells #[.int .u8 x.f1, .string x.f2, .slice A3 x.f3.length c3, .slice A4 0 c4] 32) := ⟨_, rfl⟩
    have hba : Below w.heap.size w wa := by rw [hwa]; exact below_alloc (Below.refl _ _) _
    have hbox : wa.heap[w.heap.size]? = some (.cells #[.int .u8 x.f1, .string x.f2, .slice A3 x.f3.length c3, .slice A4 0 c4] 32 (0, 0)) := by rw [hwa]; exact heap_alloc_new w _
    have HW := Lib.hid hwa
    have b3 := blk_cell hbox 3
    have HP := Lib.hid (hprn.below hba)
    have HBA := Lib.hid (And.intro hba (hba.mono hBw))
    rw [hwa] at b3
    clear hC3 hC4 hwa hbox hb0 hB0 hBw hmx hprn hlen hx ho h4 hba
    go_enter Tryz.func23, Tryz.ntmps23
    go_wp2_with fail
    rw [← HW.out]
    clear b3
    go_loopw [14] (fun iv wr => iv = .int .i64 0 ∧ wa = wr) (fun _ _ => 0)
    case atStart => exact ⟨rfl, rfl⟩
    case round =>
      obtain ⟨rfl, rfl⟩ := hrel
      go_wp2_with fail
      refine bodyPost_end (results_none (fn := Tryz.f23) (by kernel_rfl) _ _ _) rfl ?_
      refine ⟨rfl, ?_, HBA.out.2, Oth.of HBA.out.1⟩
      have := HP.out
      unfold linesB
      rw [List.append_nil]
      exact this
  | succ n ih =>
    intro x hx ho d hd A3 c3 A4 c4 B pb l w0 w hC3 hC4 hb0 hB0 hBw hmx hprn hlen
    have HIH := Lib.hid ih
    have HC := Lib.hid (And.intro hC3 hC4)
    have HX := Lib.hid (And.intro hx ho)
    have HMX := Lib.hid hmx
    have HLN := Lib.hid hlen
    obtain ⟨wa, hwa⟩ : ∃ wa, wa = w.alloc (.cells #[.int .u8 x.f1, .string x.f2, .slice A3 x.f3.length c3, .slice A4 x.f4.length c4] 32) := ⟨_, rfl⟩
    have hba : Below w.heap.size w wa := by rw [hwa]; exact below_alloc (Below.refl _ _) _
    have hbox : wa.heap[w.heap.size]? = some (.cells #[.int .u8 x.f1, .string x.f2, .slice A3 x.f3.length c3, .slice A4 x.f4.length c4] 32 (0, 0)) := by rw [hwa]; exact heap_alloc_new w _
    have hks : x.f4.length ≤ 1073741824 := by cases hx; assumption
    have HB0 := Lib.hid (hb0.trans (hba.mono hb0.size))
    have HP := Lib.hid (show KeyP B pb n d l x wa wa 0 from ⟨by simpa using hprn.below hba, Below.refl _ _, Oth.of (Below.refl _ _)⟩)
    have HW := Lib.hid hwa
    have HBA := Lib.hid hba
    have hbaB : Below B w wa := hba.mono hBw
    have HPB := Lib.hid (show pb < w.heap.size from hprn.lt)
    have b3 := blk_cell hbox 3
    have HBX := Lib.hid hbox
    have HBS := Lib.hid (And.intro hB0 hBw)
    rw [hwa] at b3
    clear ih hC3 hC4 hx ho hmx hlen hwa hba hbox hb0 hprn hB0 hBw
    go_enter Tryz.func23, Tryz.ntmps23
    go_wp2_with fail
    rw [← HW.out]
    clear b3
    go_loopw [14] (fun iv wr => ∃ i : Nat, iv = .int .i64 i ∧ i ≤ x.f4.length ∧ Hid (KeyP B pb n d l x wa wr i)) (fun iv _ => x.f4.length - (intOf iv).toNat)
    case atStart => exact ⟨0, rfl, Nat.zero_le _, HP⟩
    case round =>
      obtain ⟨i, rfl, hi, HPi⟩ := hrel
      have hwr : IntKind.i64.wrap ((i : Int) + 1) = (i : Int) + 1 := IntWalk.i64_in _ (by omega)
      by_cases hlt : i < x.f4.length
      · obtain ⟨ad4, D3, e3, D4, e4, hB4, q0, q1, q2, q3, q4, -, g3, -, g4⟩ := at_K HC.out.2 (i : Int) (by omega) (by simpa using hlt)
        simp only [Int.toNat_natCast] at q0 q1 q2 q3 q4
        have hyy : rd_K x.f4 (i : Int) = x.f4[i] := by simp [rd_K, List.getElem?_eq_getElem hlt]
        subst hB4
        have hfy : Fit (rd_K x.f4 (i : Int)) := by
          rw [hyy]
          cases HX.out.1 with
          | mk _ _ _ hall => exact hall _ (List.getElem_mem hlt)
        have hoy := HX.out.2 (rd_K x.f4 (i : Int)) (by rw [hyy]; exact List.getElem_mem hlt)
        have htk : x.f4.take (i + 1) = x.f4.take i ++ [rd_K x.f4 (i : Int)] := by rw [hyy]; exact (List.take_append_getElem hlt).symm
        generalize rd_K x.f4 (i : Int) = y at *
        have hbw : Below w0.heap.size w0 wr := HB0.out.trans (HPi.out.bel.mono HBS.out.1)
        replace q0 := (hbw.cell (World.block_lt_of_cell? w0 _ q0)).trans q0
        replace q1 := (hbw.cell (World.block_lt_of_cell? w0 _ q1)).trans q1
        replace q2 := (hbw.cell (World.block_lt_of_cell? w0 _ q2)).trans q2
        replace q3 := (hbw.cell (World.block_lt_of_cell? w0 _ q3)).trans q3
        replace q4 := (hbw.cell (World.block_lt_of_cell? w0 _ q4)).trans q4
        obtain ⟨wp, hwp⟩ : ∃ wp, wp = wr.alloc (.cells #[.string y.f0, .int .u8 y.f1, .string y.f2, .slice D3 y.f3.length e3, .slice D4 y.f4.length e4] 44) := ⟨_, rfl⟩
        have hbp : Below wr.heap.size wr wp := by rw [hwp]; exact below_alloc (Below.refl _ _) _
        have hpk : wp.heap[wr.heap.size]? = some (.cells #[.string y.f0, .int .u8 y.f1, .string y.f2, .slice D3 y.f3.length e3, .slice D4 y.f4.length e4] 44 (0, 0)) := by rw [hwp]; exact heap_alloc_new wr _
        obtain ⟨pl, hpl⟩ : ∃ pl, pl = (x.f4.take i).flatMap (lineB n d) := ⟨_, rfl⟩
        obtain ⟨rp, hrp⟩ : ∃ rp, rp = repB d := ⟨_, rfl⟩
        obtain ⟨kz, hkz⟩ : ∃ kz, kz = rp ++ y.f0 ++ (⟨#[58]⟩ : ByteArray) := ⟨_, rfl⟩
        obtain ⟨vz, hvz⟩ : ∃ vz, vz = valB y := ⟨_, rfl⟩
        obtain ⟨sz, hsz⟩ : ∃ sz, sz = linesB n (d + 1) y := ⟨_, rfl⟩
        have hln : lineB n d y = kz.data.toList ++ (vz.data.toList ++ ((⟨#[10]⟩ : ByteArray).data.toList ++ sz)) := by
          rw [hkz, hvz, hsz, hrp]
          rfl
        have hL2 : l.length + pl.length + (kz.size + (vz.size + (1 + sz.length))) ≤ 1073741824 := by
          have h1 := line_le (lineB n d) x.f4 i y (x.f4.take i) htk
          rw [hln, ← hpl, List.length_append, List.length_append, List.length_append] at h1
          have h2 := HLN.out
          rw [linesB_succ] at h2
          have e1 : kz.data.toList.length = kz.size := rfl
          have e2 : vz.data.toList.length = vz.size := rfl
          have e3 : (⟨#[10]⟩ : ByteArray).data.toList.length = 1 := rfl
          rw [e1, e2, e3] at h1
          rw [Nat.add_assoc]
          exact Nat.le_trans (Nat.add_le_add_left h1 l.length) h2
        have HPr := Lib.hid (show Prn B pb (l ++ pl) wr by rw [hpl]; exact HPi.out.prn)
        have HWP := Lib.hid hwp
        have HBP := Lib.hid hbp
        have HPK := Lib.hid hpk
        have HG := Lib.hid (And.intro g3 g4)
        have HY := Lib.hid (And.intro hfy hoy)
        have HTK := Lib.hid htk
        have HL := Lib.hid hL2
        have HLE := Lib.hid hln
        have HPL := Lib.hid hpl
        have HVZ := Lib.hid hvz
        have HSZ := Lib.hid hsz
        have HKZ := Lib.hid hkz
        have k0 := cell_regrown (show wp.cell? ⟨wr.heap.size, 0, none⟩ = some (.string y.f0) from blk_cell hpk 0)
        have c4 := fun dd os => Calls.regrown_of (Tryz.strings_Repeat ⟨#[32, 32]⟩ d (grow (redrawn wp dd) os) (by omega) (by show 2 * d ≤ _; omega))
        have hrs := rep_size d
        have hy64 := hoy.1
        rw [show (⟨(Lib.repeatL (⟨#[32, 32]⟩ : ByteArray).data.toList d).toArray⟩ : ByteArray) = repB d from rfl, ← hrp] at c4
        rw [← hrp] at hrs
        have n1 : ¬ 9223372036854775807 < rp.size + y.f0.size := by omega
        have n2 : ¬ 9223372036854775807 < rp.size + y.f0.size + 1 := by omega
        clear hwp hbp hpk g3 g4 hfy hoy htk hyy hbw hL2 hrp hrs hln hpl hvz hsz hkz hy64
        go_wp2_with fail
        rw [← HWP.out]
        refine Qt.region_below_tail 9 (by kernel_rfl) (by kernel_rfl) ?_
        simp only [List.take_succ_cons, List.take_zero, List.drop_succ_cons, List.drop_zero]
        repeat (quiet_step (with_reducible exact c4 _ _))
        refine wpQuiet_nil ?_
        intro _ hw'
        obtain ⟨⟨dq, osq⟩, hw''⟩ := hw'
        subst hw''
        have hb4 := below_regrown (wp) dq osq
        generalize grow (redrawn (wp) dq) osq = W4 at *
        clear k0 c4
        go_wp2_with fail
        have hP4 := (HPr.out.below HBP.out).below hb4
        have hbx : Below wr.heap.size wr W4 := HBP.out.trans (hb4.mono HBP.out.size)
        have hba4 : Below B wa W4 := HPi.out.bel.trans (hbx.mono (Nat.le_trans HBS.out.2 (Nat.le_trans HBA.out.size HPi.out.bel.size)))
        have hoa4 : Oth pb wa W4 := HPi.out.oth.trans (Oth.of hbx)
        have hk4 := (hb4.block _ (blk_lt HPK.out)).trans HPK.out
        have hB4' : B ≤ W4.heap.size := Nat.le_trans HBS.out.2 (Nat.le_trans HBA.out.size hba4.size)
        have hw5 := write_any B pb _ kz W4 hP4 (len1 HL.out) hB4'
        rw [HKZ.out] at hw5
        refine hw5.mono ?_
        rintro e w5 ⟨rfl, hP5, hb5, ho5⟩
        rw [← HKZ.out] at hP5
        have HNE := Lib.hid (show wr.heap.size ≠ pb from Nat.ne_of_gt HPr.out.lt)
        have hk5 := ho5.blk hk4 HNE.out (by decide)
        have HP5 := Lib.hid hP5
        have HW5 := Lib.hid (And.intro (show B ≤ w5.heap.size from Nat.le_trans hB4' hb5.size) (And.intro (hba4.trans hb5) (And.intro (hoa4.trans ho5) hk5)))
        have v1 := blk_cell hk5 1
        clear hP4 hba4 hoa4 hk4 hB4' hP5 hb5 ho5 hk5 hb4 hw5 hbx n1 n2
        by_cases m1 : y.f1 = 1
        · have hok := HY.out.2.2.1 m1
          have hMx5 : Below w0.heap.size w0 w5 := HB0.out.trans (HW5.out.2.1.mono HBS.out.1)
          have c7 := fun dd os => Calls.regrown_of (shown_any 40 (fun args w => by kernel_rfl) (plainL y.f2.data.toList) y.f2 (grow (redrawn w5 dd) os) (plain_below y.f2 _ (HMX.out.below (hMx5.trans ((below_regrown w5 dd os).mono hMx5.size))) hok.1) hok.2)
          obtain ⟨sv, hsv⟩ : ∃ sv, sv = shB plainL y.f2 := ⟨_, rfl⟩
          rw [show (if plainL y.f2.data.toList = true then y.f2 else quoB y.f2) = shB plainL y.f2 from rfl, ← hsv] at c7
          have n3 : ¬ 9223372036854775807 < 1 + sv.size := by
            have := shB_size plainL y.f2
            rw [← hsv] at this
            have := hok.1
            omega
          have hvz : vz = ⟨#[32]⟩ ++ sv := by rw [HVZ.out, hsv]; unfold valB; rw [if_pos m1]
          have HV2 := Lib.hid hvz
          have k2 := cell_regrown (show w5.cell? ⟨wr.heap.size, 2, none⟩ = some (.string y.f2) from blk_cell HW5.out.2.2.2 2)
          clear hok hMx5 hsv hvz
          go_wp2_with fail
          refine Qt.region_below_tail 8 (by kernel_rfl) (by kernel_rfl) ?_
          simp only [List.take_succ_cons, List.take_zero, List.drop_succ_cons, List.drop_zero]
          repeat (quiet_step (with_reducible exact c7 _ _))
          refine wpQuiet_nil ?_
          intro _ hw'
          obtain ⟨⟨dq, osq⟩, hw''⟩ := hw'
          subst hw''
          have hb70 := below_regrown (w5) dq osq
          generalize grow (redrawn (w5) dq) osq = W70 at *
          clear k2 c7 n3 v1
          go_wp2_with fail
          have hbw : Below B wa W70 := HW5.out.2.1.trans (hb70.mono HW5.out.1)
          have how : Oth pb wa W70 := HW5.out.2.2.1.trans (Oth.of hb70)
          have hkw := (hb70.block _ (blk_lt HW5.out.2.2.2)).trans HW5.out.2.2.2
          have hBw : B ≤ W70.heap.size := Nat.le_trans HW5.out.1 hb70.size
          have hw6 := write_any B pb _ vz W70 (HP5.out.below hb70) (len2 HL.out) hBw
          rw [HV2.out] at hw6
          refine hw6.mono ?_
          rintro e w6 ⟨rfl, hP6, hb6, ho6⟩
          rw [← HV2.out] at hP6
          have HP6 := Lib.hid hP6
          have HW6 := Lib.hid (And.intro (show B ≤ w6.heap.size from Nat.le_trans hBw hb6.size) (And.intro (hbw.trans hb6) (And.intro (how.trans ho6) (ho6.blk hkw HNE.out (by decide)))))
          clear hP6 hb6 ho6 hw6 hbw how hkw hBw hb70 m1
          have hsz6 := HW6.out.1
          go_wp2_with fail
          refine (write_any B pb _ ⟨#[10]⟩ w6 HP6.out (len3 HL.out) (by omega)).mono ?_
          rintro e w7 ⟨rfl, hP7, hb7, ho7⟩
          have hW7 := HW6.out.2.1.trans hb7
          have hO7 := HW6.out.2.2.1.trans ho7
          have hk7 := ho7.blk HW6.out.2.2.2 HNE.out (by decide)
          have u1 := blk_cell hk7 1
          have u2 := blk_cell hk7 2
          have u3 := blk_cell hk7 3
          have u4 := blk_cell hk7 4
          have hkeys := HIH.out y HY.out.1 HY.out.2.2.2.2 (d + 1) (by omega) D3 e3 D4 e4 B pb _ w0 w7 HG.out.1 HG.out.2 (HB0.out.trans (hW7.mono HBS.out.1)) HBS.out.1 (Nat.le_trans HBS.out.2 (Nat.le_trans HBA.out.size hW7.size)) HMX.out hP7 (by rw [← HSZ.out]; exact len4 HL.out)
          rw [show ((d + 1 : Nat) : Int) = (d : Int) + 1 from rfl] at hkeys
          have hwd : IntKind.i64.wrap ((d : Int) + 1) = (d : Int) + 1 := IntWalk.i64_in _ (by omega)
          have HX7 := Lib.hid (And.intro hW7 hO7)
          clear hP7 hb7 ho7 hW7 hO7 hk7
          go_wp2_with fail
          refine hkeys.mono ?_
          rintro e w8 ⟨rfl, hP8, hb8, ho8⟩
          have HX8 := Lib.hid (And.intro hP8 (And.intro (HX7.out.1.trans hb8) (HX7.out.2.trans ho8)))
          clear hkeys hP8 hb8 ho8 u1 u2 u3 u4
          go_wp2_with fail
          go_roundw
          case rel => exact ⟨i + 1, by simp, by omega, Lib.hid ⟨by
            have h1 := HX8.out.1
            have e : (x.f4.take (i + 1)).flatMap (lineB n d) = pl ++ (kz.data.toList ++ (vz.data.toList ++ ((⟨#[10]⟩ : ByteArray).data.toList ++ sz))) := by
              rw [HTK.out, List.flatMap_append, ← HPL.out, List.flatMap_singleton, HLE.out]
            rw [e]
            rw [← HSZ.out] at h1
            simpa only [List.append_assoc] using h1, HX8.out.2.1, HX8.out.2.2⟩⟩
          case measure => simp [intOf]; omega
        by_cases m2 : y.f1 = 2
        · have hok := HY.out.2.2.2.1 m2
          have v3 := blk_cell HW5.out.2.2.2 3
          have hls : y.f3.length ≤ 1073741824 := by cases HY.out.1; assumption
          have HOK := Lib.hid hok
          clear hok
          go_wp2_with fail
          clear v1 v3
          have HLS := Lib.hid (show LstP w5 w5 y.f3 0 (.slice none 0 0) from ⟨Below.refl _ _, Kd.R_nil _ _ _ _ _⟩)
          have HM2 := Lib.hid m2
          clear m2
          go_loopw [8, 48] (fun v8 jv wl => ∃ j : Nat, jv = .int .i64 j ∧ j ≤ y.f3.length ∧ Hid (LstP w5 wl y.f3 j v8)) (fun _ jv _ => y.f3.length - (intOf jv).toNat)
          case atStart => exact ⟨0, rfl, Nat.zero_le _, HLS⟩
          case round =>
            obtain ⟨j, rfl, hj, HLj⟩ := hrel
            have hwj : IntKind.i64.wrap ((j : Int) + 1) = (j : Int) + 1 := IntWalk.i64_in _ (by omega)
            obtain ⟨xsj, hxsj⟩ : ∃ xs, xs = (y.f3.take j).map (shB wordL) := ⟨_, rfl⟩
            have hrow := HLj.out.row
            rw [← hxsj] at hrow
            obtain ⟨A8, c8, rfl⟩ := Kd.R_slice hrow
            have HXJ := Lib.hid hxsj
            have HRW := Lib.hid hrow
            have HXL := Lib.hid (show xsj.length ≤ 1073741824 by rw [hxsj, List.length_map, List.length_take]; omega)
            clear hrow hxsj
            by_cases hjl : j < y.f3.length
            · obtain ⟨ad, cc, e0, -, hK, hcc⟩ := Kd.C_get HG.out.1 (⟨#[]⟩ : ByteArray) (j : Int) (by omega) (by omega)
              subst e0
              have hcs : cc = [Value.string (y.f3.getD (j : Int).toNat ⟨#[]⟩)] := hK
              rw [Int.toNat_natCast] at hcs
              have hsy : y.f3.getD j ⟨#[]⟩ = y.f3[j] := by simp [List.getElem?_eq_getElem hjl]
              rw [hsy] at hcs
              have hjk : y.f3.take (j + 1) = y.f3.take j ++ [y.f3[j]] := (List.take_append_getElem hjl).symm
              have hos := HOK.out.1 _ (List.getElem_mem hjl)
              generalize y.f3[j] = s at *
              have qs := hcc 0 (.string s) (by rw [hcs]; rfl)
              rw [Int.toNat_natCast] at qs
              have ej : j * Kd.string.sz + 0 = j := Nat.mul_one j
              rw [ej] at qs
              have hw0 : Below w0.heap.size w0 _ := (HB0.out.trans (HW5.out.2.1.mono HBS.out.1)).trans (HLj.out.bel.mono (HB0.out.trans (HW5.out.2.1.mono HBS.out.1)).size)
              replace qs := (hw0.cell (World.block_lt_of_cell? w0 _ qs)).trans qs
              have hsh := shown_any 41 (fun args w => by kernel_rfl) (wordL s.data.toList) s _ (word_below s _ (HMX.out.below hw0) hos.1) hos.2
              obtain ⟨sv, hsv⟩ : ∃ sv, sv = shB wordL s := ⟨_, rfl⟩
              rw [show (if wordL s.data.toList = true then s else quoB s) = shB wordL s from rfl, ← hsv] at hsh
              have HSV := Lib.hid hsv
              have HJK := Lib.hid hjk
              clear hcc hcs hK hsy hjk hos ej hw0 hsv
              go_wp2_with fail
              refine hsh.mono ?_
              rintro e w6 ⟨rfl, hb6⟩
              have HB6 := Lib.hid (HLj.out.bel.trans (hb6.mono HLj.out.bel.size))
              have HR6 := Lib.hid (Kd.R_below HRW.out hb6)
              clear hsh hb6
              go_wp2_with (at_builtin; refine Kd.R_append Kd.string (w0 := w6) (W := w6) w5.heap.size rfl (.tmp 52) (.tmp 55) 29 9 (.string ⟨#[]⟩) 16 rfl Tu_strings inS rfl (by decide) (by decide) _ _ sv [.string sv] (fun k => w5.heap.size ≤ k) (fun _ => False) rfl rfl rfl (fun _ h => h.elim) (fun k hk => Nat.le_trans HB6.out.size hk) HR6.out (Below.refl _ _) HB6.out.size (by have := HXL.out; omega) ?_)
              intro v1 w7 hR7 hB7 _ _
              obtain ⟨A9, c9, rfl⟩ := Kd.R_slice hR7
              have HX9 := Lib.hid (show LstP w5 w7 y.f3 (j + 1) (.slice A9 (xsj ++ [sv]).length c9) from ⟨HB6.out.trans hB7, by
                rw [HJK.out, List.map_append, List.map_singleton, ← HSV.out, ← HXJ.out]
                exact hR7⟩)
              generalize (xsj ++ [sv]).length = nl at *
              clear hR7 hB7 qs
              go_wp2_with fail
              go_roundw
              case rel => exact ⟨j + 1, by simp, by omega, HX9⟩
              case measure => simp [intOf]; omega
            · have hjn : j = y.f3.length := by omega
              have hxa : xsj = y.f3.map (shB wordL) := by rw [HXJ.out, List.take_of_length_le (by omega)]
              have hjo : (joB xsj).size ≤ 1073741824 := by rw [hxa]; exact HOK.out.2
              have c15 := fun dd os => Calls.regrown_of (join_any _ xsj w5.heap.size _ (grow (redrawn wr dd) os) (Kd.R_below HRW.out (below_regrown _ _ _)) hjo HXL.out)
              obtain ⟨jz, hjz⟩ : ∃ jz, jz = joB xsj := ⟨_, rfl⟩
              rw [← hjz] at c15 hjo
              have n4 : ¬ 9223372036854775807 < 2 + jz.size := by omega
              have n5 : ¬ 9223372036854775807 < 2 + jz.size + 1 := by omega
              have hvz : vz = ⟨#[32, 91]⟩ ++ jz ++ ⟨#[93]⟩ := by
                rw [HVZ.out, hjz, hxa]
                unfold valB
                rw [if_neg (by rw [HM2.out]; decide), if_pos HM2.out]
              have HV2 := Lib.hid hvz
              have HBL := Lib.hid HLj.out.bel
              have HJN := Lib.hid hjn
              clear hjz hvz hxa
              go_wp2_with fail
              refine Qt.region_below_tail 7 (by kernel_rfl) (by kernel_rfl) ?_
              simp only [List.take_succ_cons, List.take_zero, List.drop_succ_cons, List.drop_zero]
              repeat (quiet_step (with_reducible exact c15 _ _))
              refine wpQuiet_nil ?_
              intro _ hw'
              obtain ⟨⟨dq, osq⟩, hw''⟩ := hw'
              subst hw''
              have hb71 := below_regrown (wr) dq osq
              generalize grow (redrawn (wr) dq) osq = W71 at *
              clear c15 n4 n5
              go_wp2_with fail
              have hb5l : Below w5.heap.size w5 W71 := HBL.out.trans (hb71.mono HBL.out.size)
              have hbw : Below B wa W71 := HW5.out.2.1.trans (hb5l.mono HW5.out.1)
              have how : Oth pb wa W71 := HW5.out.2.2.1.trans (Oth.of hb5l)
              have hkw := (hb5l.block _ (blk_lt HW5.out.2.2.2)).trans HW5.out.2.2.2
              have hBw : B ≤ W71.heap.size := Nat.le_trans HW5.out.1 hb5l.size
              have hw6 := write_any B pb _ vz W71 (HP5.out.below hb5l) (len2 HL.out) hBw
              rw [HV2.out] at hw6
              refine hw6.mono ?_
              rintro e w6 ⟨rfl, hP6, hb6, ho6⟩
              rw [← HV2.out] at hP6
              have HP6 := Lib.hid hP6
              have HW6 := Lib.hid (And.intro (show B ≤ w6.heap.size from Nat.le_trans hBw hb6.size) (And.intro (hbw.trans hb6) (And.intro (how.trans ho6) (ho6.blk hkw HNE.out (by decide)))))
              clear hP6 hb6 ho6 hw6 hbw how hkw hBw hb5l hb71 hjl hjn
              have hsz6 := HW6.out.1
              go_wp2_with fail
              refine (write_any B pb _ ⟨#[10]⟩ w6 HP6.out (len3 HL.out) (by omega)).mono ?_
              rintro e w7 ⟨rfl, hP7, hb7, ho7⟩
              have hW7 := HW6.out.2.1.trans hb7
              have hO7 := HW6.out.2.2.1.trans ho7
              have hk7 := ho7.blk HW6.out.2.2.2 HNE.out (by decide)
              have u1 := blk_cell hk7 1
              have u2 := blk_cell hk7 2
              have u3 := blk_cell hk7 3
              have u4 := blk_cell hk7 4
              have hkeys := HIH.out y HY.out.1 HY.out.2.2.2.2 (d + 1) (by omega) D3 e3 D4 e4 B pb _ w0 w7 HG.out.1 HG.out.2 (HB0.out.trans (hW7.mono HBS.out.1)) HBS.out.1 (Nat.le_trans HBS.out.2 (Nat.le_trans HBA.out.size hW7.size)) HMX.out hP7 (by rw [← HSZ.out]; exact len4 HL.out)
              rw [show ((d + 1 : Nat) : Int) = (d : Int) + 1 from rfl] at hkeys
              have hwd : IntKind.i64.wrap ((d : Int) + 1) = (d : Int) + 1 := IntWalk.i64_in _ (by omega)
              have HX7 := Lib.hid (And.intro hW7 hO7)
              clear hP7 hb7 ho7 hW7 hO7 hk7
              go_wp2_with fail
              refine hkeys.mono ?_
              rintro e w8 ⟨rfl, hP8, hb8, ho8⟩
              have HX8 := Lib.hid (And.intro hP8 (And.intro (HX7.out.1.trans hb8) (HX7.out.2.trans ho8)))
              clear hkeys hP8 hb8 ho8 u1 u2 u3 u4
              go_wp2_with fail
              go_roundw
              case rel => exact ⟨i + 1, by simp, by omega, Lib.hid ⟨by
                have h1 := HX8.out.1
                have e : (x.f4.take (i + 1)).flatMap (lineB n d) = pl ++ (kz.data.toList ++ (vz.data.toList ++ ((⟨#[10]⟩ : ByteArray).data.toList ++ sz))) := by
                  rw [HTK.out, List.flatMap_append, ← HPL.out, List.flatMap_singleton, HLE.out]
                rw [e]
                rw [← HSZ.out] at h1
                simpa only [List.append_assoc] using h1, HX8.out.2.1, HX8.out.2.2⟩⟩
              case measure => simp [intOf]; omega
        · have HP6 := Lib.hid (show Prn B pb (l ++ pl ++ kz.data.toList ++ vz.data.toList) w5 by
            have e : vz.data.toList = [] := by rw [HVZ.out]; unfold valB; rw [if_neg m1, if_neg m2]
            rw [e, List.append_nil]
            exact HP5.out)
          have HW6 := HW5
          generalize w5 = w6 at *
          have hsz6 := HW6.out.1
          go_wp2_with fail
          refine (write_any B pb _ ⟨#[10]⟩ w6 HP6.out (len3 HL.out) (by omega)).mono ?_
          rintro e w7 ⟨rfl, hP7, hb7, ho7⟩
          have hW7 := HW6.out.2.1.trans hb7
          have hO7 := HW6.out.2.2.1.trans ho7
          have hk7 := ho7.blk HW6.out.2.2.2 HNE.out (by decide)
          have u1 := blk_cell hk7 1
          have u2 := blk_cell hk7 2
          have u3 := blk_cell hk7 3
          have u4 := blk_cell hk7 4
          have hkeys := HIH.out y HY.out.1 HY.out.2.2.2.2 (d + 1) (by omega) D3 e3 D4 e4 B pb _ w0 w7 HG.out.1 HG.out.2 (HB0.out.trans (hW7.mono HBS.out.1)) HBS.out.1 (Nat.le_trans HBS.out.2 (Nat.le_trans HBA.out.size hW7.size)) HMX.out hP7 (by rw [← HSZ.out]; exact len4 HL.out)
          rw [show ((d + 1 : Nat) : Int) = (d : Int) + 1 from rfl] at hkeys
          have hwd : IntKind.i64.wrap ((d : Int) + 1) = (d : Int) + 1 := IntWalk.i64_in _ (by omega)
          have HX7 := Lib.hid (And.intro hW7 hO7)
          clear hP7 hb7 ho7 hW7 hO7 hk7
          go_wp2_with fail
          refine hkeys.mono ?_
          rintro e w8 ⟨rfl, hP8, hb8, ho8⟩
          have HX8 := Lib.hid (And.intro hP8 (And.intro (HX7.out.1.trans hb8) (HX7.out.2.trans ho8)))
          clear hkeys hP8 hb8 ho8 u1 u2 u3 u4
          go_wp2_with fail
          go_roundw
          case rel => exact ⟨i + 1, by simp, by omega, Lib.hid ⟨by
            have h1 := HX8.out.1
            have e : (x.f4.take (i + 1)).flatMap (lineB n d) = pl ++ (kz.data.toList ++ (vz.data.toList ++ ((⟨#[10]⟩ : ByteArray).data.toList ++ sz))) := by
              rw [HTK.out, List.flatMap_append, ← HPL.out, List.flatMap_singleton, HLE.out]
            rw [e]
            rw [← HSZ.out] at h1
            simpa only [List.append_assoc] using h1, HX8.out.2.1, HX8.out.2.2⟩⟩
          case measure => simp [intOf]; omega
      · have hin : i = x.f4.length := by omega
        subst hin
        go_wp2_with fail
        refine bodyPost_end (results_none (fn := Tryz.f23) (by kernel_rfl) _ _ _) rfl ?_
        refine ⟨rfl, ?_, (hbaB.trans HPi.out.bel), (Oth.of HBA.out).trans HPi.out.oth⟩
        have := HPi.out.prn
        rw [List.take_length] at this
        exact this
end Go.Proofs.YtpdnopfjnmjnnaaGreatDoor.Cn
