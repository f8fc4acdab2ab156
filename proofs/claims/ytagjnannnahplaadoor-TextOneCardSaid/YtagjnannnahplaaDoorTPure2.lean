/- Reading an instruction's text, in plain Lean. -/
import Derived.Test.YtagjnannnahplaaDoorTPure
import Derived.Lib.AtoiAll
import Derived.Lib.Strings
import Derived.Lib.SlTrimSet
namespace Go.Proofs.YtagjnannnahplaaDoor
/-- register: the number, what is left, whether there is one. -/
def regV : List UInt8 → Int × List UInt8 × Bool
  | [] => (0, [], false)
  | [a] => (0, [a], false)
  | a :: c :: r => if a = 114 ∧ 48 ≤ c ∧ c ≤ 55 then ((c.toNat : Int) - 48, r, true) else (0, a :: c :: r, false)
def atoiV (l : List UInt8) : Int × Bool :=
  match Lib.atoiAll l with
  | .ok v => (v, true)
  | .range => (Lib.atoiSat l, false)
  | _ => (0, false)
def digitsL : List UInt8 := [45, 48, 49, 50, 51, 52, 53, 54, 55, 56, 57]
/-- number: so many times what is told. -/
def numV (s : List UInt8) (times : Int) : Int × List UInt8 × Bool :=
  let rest := Lib.trimPrefix s [35]
  let n := rest.length - (Lib.trimLeftS rest digitsL).length
  let v := atoiV (rest.take n)
  (v.1.tdiv times, rest.drop n, Lib.hasPrefix s [35] && (v.2 && (v.1.tmod times == 0)))
def stepV (c : UInt8) (q : Int × Int × Int × Int) (s : List UInt8) : (Int × Int × Int × Int) × List UInt8 × Bool :=
  if c = 100 then (((regV s).1, q.2.1, q.2.2.1, q.2.2.2), (regV s).2)
  else if c = 110 then ((q.1, (regV s).1, q.2.2.1, q.2.2.2), (regV s).2)
  else if c = 109 then ((q.1, q.2.1, (regV s).1, q.2.2.2), (regV s).2)
  else if c = 105 then ((q.1, q.2.1, q.2.2.1, (numV s 1).1), (numV s 1).2)
  else if c = 50 then ((q.1, q.2.1, q.2.2.1, (numV s 2).1), (numV s 2).2)
  else if c = 52 then ((q.1, q.2.1, q.2.2.1, (numV s 4).1), (numV s 4).2)
  else if c = 44 then (q, Lib.trimPrefix s [44, 32], Lib.hasPrefix s [44, 32])
  else (q, Lib.trimPrefix s [c], Lib.hasPrefix s [c])
def fitsV : List UInt8 → (Int × Int × Int × Int) → List UInt8 → (Int × Int × Int × Int) × Bool
  | [], q, s => (q, s == [])
  | c :: sh, q, s => if (stepV c q s).2.2 then fitsV sh (stepV c q s).1 (stepV c q s).2.1 else ((stepV c q s).1, false)
end Go.Proofs.YtagjnannnahplaaDoor
