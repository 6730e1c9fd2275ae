/- Plain laws: what package conf does with texts, on lists of bytes. No program in sight. -/
import Derived.Test.YtpdnopfjnmjnnaaGreatDoorBs
import Derived.Lib.IndexMore
import Derived.Lib.TrimByte
import Derived.Lib.IndexAny
set_option linter.unusedVariables false
set_option linter.unusedSimpArgs false
namespace Go.Proofs.YtpdnopfjnmjnnaaGreatDoor.Cz
open Go.Proofs

def spc : List UInt8 := [34, 91, 93, 123, 125, 44, 38, 42, 33, 124, 62, 39, 37, 64, 96]
def keyedN (x : Nat) : Bool := (decide (97 ≤ x) && decide (x ≤ 122)) || (decide (65 ≤ x) && decide (x ≤ 90)) || (decide (48 ≤ x) && decide (x ≤ 57)) || x == 95 || x == 45 || x == 47 || x == 46
def keyL (l : List UInt8) : Bool := !l.isEmpty && decide (l.length ≤ 64) && l.all fun b => keyedN b.toNat
def ctlB (but : List UInt8) (b : UInt8) : Bool := (decide (b.toNat < 32) || decide (b.toNat = 127)) && !but.contains b
def controlL (l but : List UInt8) : Bool := l.any (ctlB but)
def plainL (l : List UInt8) : Bool := !l.isEmpty && !(spc ++ [35, 32]).contains (l.headD 0) && !(l.getLastD 0 == 32) && !Lib.contains l [32, 35] && !controlL l []
def wordL (l : List UInt8) : Bool := plainL l && !Lib.containsAny l (spc ++ [32, 58])
def textL (l : List UInt8) : Bool := decide (l.length ≤ 4096) && !controlL l [10, 9]

/-- What a scanner's reader does: an answer and what is left, or a fault. -/
abbrev Rd (α : Type) := Except Int (α × List UInt8)
def takeL (l b : List UInt8) : Bool × List UInt8 := (Lib.hasPrefix l b, Lib.trimPrefix l b)
def spacesL (l : List UInt8) : List UInt8 := Lib.trimLeftB l 32
def overL (l : List UInt8) : Bool := (spacesL l).isEmpty || ((spacesL l).headD 0 == 35 && decide ((spacesL l).length < l.length))
/-- The byte that a sign behind a backslash stands for. -/
def escB (c : UInt8) : UInt8 := if c == 110 then 10 else if c == 116 then 9 else c
def escs : List UInt8 := [110, 116, 34, 92]
/-- A quoted text, behind its first mark. -/
def quotedGo : Nat → List UInt8 → List UInt8 → Rd (List UInt8)
  | 0, _, _ => .error 15
  | n + 1, out, l =>
    match l with
    | [] => .error 15
    | b :: r =>
      if b == 34 then .ok (out, r)
      else if ctlB [] b then .error 15
      else if b == 92 then
        match r with
        | [] => .error 15
        | c :: r' => if escs.contains c then quotedGo n (out ++ [escB c]) r' else .error 15
      else quotedGo n (out ++ [b]) r
def quotedL (l : List UInt8) : Rd (List UInt8) :=
  match l with
  | [] => .error 15
  | b :: r => if b == 34 then quotedGo (r.length + 1) [] r else .error 15
/-- How many bytes of an item that is not quoted. -/
def itemEnd (l : List UInt8) : Nat := if Lib.indexAny l (spc ++ [32, 58]) < 0 then l.length else (Lib.indexAny l (spc ++ [32, 58])).toNat
def itemL (l : List UInt8) : Rd (List UInt8) :=
  if Lib.hasPrefix l [34] then quotedL l
  else if wordL (l.take (itemEnd l)) then .ok (l.take (itemEnd l), l.drop (itemEnd l)) else .error 15
def listGo : Nat → List (List UInt8) → List UInt8 → Rd (List (List UInt8))
  | 0, _, _ => .error 15
  | n + 1, out, l =>
    match itemL (spacesL l) with
    | .error y => .error y
    | .ok (x, l1) =>
      let l2 := spacesL l1
      if Lib.hasPrefix l2 [44] then listGo n (out ++ [x]) (l2.drop 1)
      else if Lib.hasPrefix l2 [93] then .ok (out ++ [x], l2.drop 1) else .error 15
/-- A list, its opening bracket ahead. -/
def listL (l : List UInt8) : Rd (List (List UInt8)) :=
  let l1 := spacesL (Lib.trimPrefix l [91])
  if Lib.hasPrefix l1 [93] then .ok ([], l1.drop 1) else listGo (l1.length + 1) [] l1
/-- What stands behind a key. -/
inductive Val where
  | none
  | text (s : List UInt8)
  | list (l : List (List UInt8))
def readVal (l : List UInt8) : Except Int Val :=
  if overL l then .ok .none
  else if !Lib.hasPrefix l [32] then .error 15
  else
    let l1 := spacesL (l.drop 1)
    if l1.headD 0 == 34 then
      match quotedL l1 with
      | .error y => .error y
      | .ok (t, r) => if overL r then .ok (.text t) else .error 15
    else if l1.headD 0 == 91 then
      match listL l1 with
      | .error y => .error y
      | .ok (t, r) => if overL r then .ok (.list t) else .error 15
    else
      let t := Lib.trimRightB (Lib.cut l1 [32, 35]).1 32
      if plainL t then .ok (.text t) else .error 15
def readL (l : List UInt8) : Except Int (List UInt8 × Val) :=
  let c := Lib.cut l [58]
  if c.2.2 && keyL c.1 then (match readVal c.2.1 with | .error y => .error y | .ok v => .ok (c.1, v)) else .error 15
end Go.Proofs.YtpdnopfjnmjnnaaGreatDoor.Cz
