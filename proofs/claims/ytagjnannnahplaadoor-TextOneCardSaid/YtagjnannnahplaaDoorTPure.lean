/- The texts of package text as lists of bytes: what an instruction's text is, in plain Lean. -/
import Derived.Lib.ItoaNum
import Derived.Lib.Fields
namespace Go.Proofs.YtagjnannnahplaaDoor
def wordsL : List (List UInt8) := [[109, 111, 118, 115], [99, 109, 112], [97, 100, 100, 115], [115, 117, 98, 115], [108, 115, 108, 115], [108, 115, 114, 115], [97, 115, 114, 115], [97, 100, 100, 115], [115, 117, 98, 115], [97, 100, 100, 115], [115, 117, 98, 115], [45], [108, 100, 114], [115, 116, 114], [108, 100, 114], [115, 116, 114], [108, 100, 114], [98], [45], [110, 111, 112], [98, 107, 112, 116]]
def alusL : List (List UInt8) := [[97, 110, 100, 115], [101, 111, 114, 115], [108, 115, 108, 115], [108, 115, 114, 115], [97, 115, 114, 115], [97, 100, 99, 115], [115, 98, 99, 115], [114, 111, 114, 115], [116, 115, 116], [114, 115, 98, 115], [99, 109, 112], [99, 109, 110], [111, 114, 114, 115], [109, 117, 108, 115], [98, 105, 99, 115], [109, 118, 110, 115]]
def condsL : List (List UInt8) := [[98, 101, 113], [98, 110, 101], [98, 99, 115], [98, 99, 99], [98, 109, 105], [98, 112, 108], [98, 118, 115], [98, 118, 99], [98, 104, 105], [98, 108, 115], [98, 103, 101], [98, 108, 116], [98, 103, 116], [98, 108, 101]]
def shapesL : List (List UInt8) := [[100, 44, 105], [100, 44, 105], [100, 44, 105], [100, 44, 105], [100, 44, 109, 44, 105], [100, 44, 109, 44, 105], [100, 44, 109, 44, 105], [100, 44, 110, 44, 109], [100, 44, 110, 44, 109], [100, 44, 110, 44, 105], [100, 44, 110, 44, 105], [100, 44, 109], [100, 44, 91, 110, 44, 52, 93], [100, 44, 91, 110, 44, 52, 93], [100, 44, 91, 110, 44, 109, 93], [100, 44, 91, 110, 44, 109, 93], [100, 44, 91, 112, 99, 44, 52, 93], [50], [50], [45], [105]]
def piece (c : UInt8) (d n m imm : Int) : List UInt8 :=
  if c = 100 then 114 :: Lib.itoa d else if c = 110 then 114 :: Lib.itoa n else if c = 109 then 114 :: Lib.itoa m else if c = 105 then 35 :: Lib.itoa imm
  else if c = 50 then 35 :: Lib.itoa (2 * imm) else if c = 52 then 35 :: Lib.itoa (4 * imm) else if c = 44 then [44, 32] else [c]
def wordB (k : Nat) (d imm : Int) : List UInt8 := if k = 11 then alusL.getD imm.toNat [] else if k = 18 then condsL.getD d.toNat [] else wordsL.getD k []
def showB (k : Nat) (d n m imm : Int) : List UInt8 :=
  if shapesL.getD k [] = [45] then wordB k d imm else wordB k d imm ++ [32] ++ (shapesL.getD k []).flatMap fun c => piece c d n m imm
end Go.Proofs.YtagjnannnahplaaDoor
