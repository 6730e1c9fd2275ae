/- Plain laws: what a config's lines come to: a map that is built from its open ends. No program in sight. -/
import Derived.Test.YtpdnopfjnmjnnaaGreatDoorNz
import Derived.Test.YtpdnopfjnmjnnaaGreatDoorNk
set_option linter.unusedVariables false
set_option linter.unusedSimpArgs false
namespace Go.Proofs.YtpdnopfjnmjnnaaGreatDoor.Cz
open Go.Proofs Go.Proofs.YtpdnopfjnmjnnaaGreatDoor.Cn

def bsOf (l : List UInt8) : ByteArray := ⟨l.toArray⟩
/-- A key's node that a line says. -/
def leaf (k : List UInt8) : Val → Kn
  | .none => ⟨bsOf k, 0, ⟨#[]⟩, [], []⟩
  | .text s => ⟨bsOf k, 1, bsOf s, [], []⟩
  | .list l => ⟨bsOf k, 2, ⟨#[]⟩, l.map bsOf, []⟩
/-- An open map: the keys ahead of it, its key, how far it is indented. -/
structure Lv where
  sibs : List Kn
  key : ByteArray
  indent : Int
/-- The reader's state: the open maps, the innermost one first; the innermost one's keys; whether the last key has no value. -/
structure St where
  path : List Lv
  cur : List Kn
  opn : Bool
def shutK (key : ByteArray) (kids : List Kn) : Kn := ⟨key, 0, ⟨#[]⟩, [], kids⟩
def indentOf : List Lv → Int
  | [] => 0
  | x :: _ => x.indent
def popTo (indent : Int) : List Lv → List Kn → Option (List Lv × List Kn)
  | [], cur => if 0 = indent then some ([], cur) else none
  | x :: path, cur => if x.indent = indent then some (x :: path, cur) else popTo indent path (x.sibs ++ [shutK x.key cur])
def placeL (indent : Int) (s : St) : Option (List Lv × List Kn) :=
  if s.opn && decide (indentOf s.path < indent) then some (⟨s.cur.dropLast, (s.cur.getLastD zKn).f0, indent⟩ :: s.path, [])
  else popTo indent s.path s.cur
def longK (x : Kn) : Bool := decide (x.f2.size ≤ 4096) && !x.f3.any fun s => decide (4096 < s.size)
def putL (indent : Int) (line : List UInt8) (s : St) : Except Int St :=
  match readL line with
  | .error y => .error y
  | .ok (k, v) =>
    match placeL indent s with
    | none => .error 15
    | some (path, cur) =>
      let x := leaf k v
      let has := match v with | .none => false | _ => true
      if !(has || decide (path.length + 1 ≤ 8)) then .error 11
      else if !longK x then .error 4
      else if 256 < x.f3.length then .error 3
      else if cur.any (fun y => y.f0.data.toList == x.f0.data.toList) then .error 15
      else if 256 ≤ cur.length then .error 3
      else .ok ⟨path, cur ++ [x], !has⟩
/-- A line that says something: how far it is indented, its number, what it says. -/
structure Ln where
  indent : Int
  number : Int
  text : List UInt8
def lineOf (n : Int) (t : List UInt8) : List Ln :=
  if (spacesL t).isEmpty || (spacesL t).headD 0 == 35 then [] else [⟨(t.length : Int) - (spacesL t).length, n, spacesL t⟩]
def linesGo : Nat → Int → List UInt8 → List Ln
  | 0, _, _ => []
  | f + 1, n, s => if s.isEmpty then [] else lineOf n (Lib.cut s [10]).1 ++ linesGo f (n + 1) (Lib.cut s [10]).2.1
def linesL (s : List UInt8) : List Ln := linesGo (s.length + 1) 1 s
def foldL : List Ln → St → Except (Int × Int) St
  | [], s => .ok s
  | x :: l, s => match putL x.indent x.text s with
    | .error y => .error (y, x.number)
    | .ok s' => foldL l s'
def shutAll : List Lv → List Kn → List Kn
  | [], cur => cur
  | x :: path, cur => shutAll path (x.sibs ++ [shutK x.key cur])
/-- What Parse answers: the keys, or the error and its line. -/
def parseL (s : List UInt8) : Except (Int × Int) (List Kn) :=
  if 16384 < s.length then .error (4, 0)
  else match foldL (linesL s) ⟨[], [], false⟩ with
    | .error y => .error y
    | .ok s => .ok (shutAll s.path s.cur)
end Go.Proofs.YtpdnopfjnmjnnaaGreatDoor.Cz
