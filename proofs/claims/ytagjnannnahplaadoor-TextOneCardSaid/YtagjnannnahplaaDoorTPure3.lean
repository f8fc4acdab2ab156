/- What text.parse answers, in plain Lean. -/
import Derived.Test.YtagjnannnahplaaDoorTPure2
import Derived.Lib.IndexMore
import Derived.Lib.SlicesS
namespace Go.Proofs.YtagjnannnahplaaDoor
/-- The first place of a text in a list; -1: none. -/
def idxV (L : List (List UInt8)) (x : List UInt8) : Int := Lib.idxOfS (L.map fun l => ⟨l.toArray⟩) ⟨x.toArray⟩
def adjV (k : Nat) (first : List UInt8) (q : Int × Int × Int × Int) : Int × Int × Int × Int :=
  if k = 11 then (q.1, q.2.1, q.2.2.1, idxV alusL first) else if k = 18 then (idxV condsL first, q.2.1, q.2.2.1, q.2.2.2) else q
def finV (can : Nat → Int → Int → Int → Int → Bool) (k : Nat) (q : Int × Int × Int × Int) (l : List UInt8) : Option (Int × Int × Int × Int) :=
  if can k q.1 q.2.1 q.2.2.1 q.2.2.2 && (showB k q.1 q.2.1 q.2.2.1 q.2.2.2 == l) then some q else none
def attV (can : Nat → Int → Int → Int → Int → Bool) (k : Nat) (first rest l : List UInt8) : Option (Int × Int × Int × Int) :=
  if (fitsV (if shapesL.getD k [] = [45] then [] else shapesL.getD k []) (0, 0, 0, 0) rest).2 then
    finV can k (adjV k first (fitsV (if shapesL.getD k [] = [45] then [] else shapesL.getD k []) (0, 0, 0, 0) rest).1) l
  else none
/-- The first operation of which the text is one, from j on. -/
def tryV (can : Nat → Int → Int → Int → Int → Bool) (first rest l : List UInt8) : Nat → Nat → Option (Nat × Int × Int × Int × Int)
  | 0, _ => none
  | n + 1, j => match attV can j first rest l with
    | some q => some (j, q)
    | none => tryV can first rest l n (j + 1)
def parseV (can : Nat → Int → Int → Int → Int → Bool) (l : List UInt8) : Option (Nat × Int × Int × Int × Int) :=
  tryV can (Lib.cut l [32]).1 (Lib.cut l [32]).2.1 l 21 0
end Go.Proofs.YtagjnannnahplaaDoor
