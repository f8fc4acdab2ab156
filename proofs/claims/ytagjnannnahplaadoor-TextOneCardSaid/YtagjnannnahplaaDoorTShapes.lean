/- What thumb.shapes returns, op by op. -/
import Derived.Test.YtagjnannnahplaaDoorProg
import Derived.WalkKit
import Derived.WalkLawsBesides
namespace Go.Proofs.YtagjnannnahplaaDoor
open Go.RowKit
set_option linter.unusedVariables false
structure Part where
  of : Int
  pos : Int
  wide : Int
structure Shape where
  bits : Int
  p0 : Part
  p1 : Part
  p2 : Part
  low : Int
  high : Int
def Part.vals (p : Part) : List Value := [.int .u8 p.of, .int .i64 p.pos, .int .i64 p.wide]
def Shape.val (s : Shape) : Value := .agg #[.int .u16 s.bits, .int .u8 s.p0.of, .int .i64 s.p0.pos, .int .i64 s.p0.wide, .int .u8 s.p1.of, .int .i64 s.p1.pos, .int .i64 s.p1.wide, .int .u8 s.p2.of, .int .i64 s.p2.pos, .int .i64 s.p2.wide, .int .i64 s.low, .int .i64 s.high]
/-- The shapes: d 100, n 110, m 109, i 105, c 99. -/
def shapeOf : Nat → Shape
  | 0 => ⟨8192, ⟨100, 8, 3⟩, ⟨105, 0, 8⟩, ⟨0, 0, 0⟩, 0, 255⟩
  | 1 => ⟨10240, ⟨100, 8, 3⟩, ⟨105, 0, 8⟩, ⟨0, 0, 0⟩, 0, 255⟩
  | 2 => ⟨12288, ⟨100, 8, 3⟩, ⟨105, 0, 8⟩, ⟨0, 0, 0⟩, 0, 255⟩
  | 3 => ⟨14336, ⟨100, 8, 3⟩, ⟨105, 0, 8⟩, ⟨0, 0, 0⟩, 0, 255⟩
  | 4 => ⟨0, ⟨105, 6, 5⟩, ⟨109, 3, 3⟩, ⟨100, 0, 3⟩, 0, 31⟩
  | 5 => ⟨2048, ⟨105, 6, 5⟩, ⟨109, 3, 3⟩, ⟨100, 0, 3⟩, 1, 32⟩
  | 6 => ⟨4096, ⟨105, 6, 5⟩, ⟨109, 3, 3⟩, ⟨100, 0, 3⟩, 1, 32⟩
  | 7 => ⟨6144, ⟨109, 6, 3⟩, ⟨110, 3, 3⟩, ⟨100, 0, 3⟩, 0, 0⟩
  | 8 => ⟨6656, ⟨109, 6, 3⟩, ⟨110, 3, 3⟩, ⟨100, 0, 3⟩, 0, 0⟩
  | 9 => ⟨7168, ⟨105, 6, 3⟩, ⟨110, 3, 3⟩, ⟨100, 0, 3⟩, 0, 7⟩
  | 10 => ⟨7680, ⟨105, 6, 3⟩, ⟨110, 3, 3⟩, ⟨100, 0, 3⟩, 0, 7⟩
  | 11 => ⟨16384, ⟨105, 6, 4⟩, ⟨109, 3, 3⟩, ⟨100, 0, 3⟩, 0, 15⟩
  | 12 => ⟨26624, ⟨105, 6, 5⟩, ⟨110, 3, 3⟩, ⟨100, 0, 3⟩, 0, 31⟩
  | 13 => ⟨24576, ⟨105, 6, 5⟩, ⟨110, 3, 3⟩, ⟨100, 0, 3⟩, 0, 31⟩
  | 14 => ⟨22528, ⟨109, 6, 3⟩, ⟨110, 3, 3⟩, ⟨100, 0, 3⟩, 0, 0⟩
  | 15 => ⟨20480, ⟨109, 6, 3⟩, ⟨110, 3, 3⟩, ⟨100, 0, 3⟩, 0, 0⟩
  | 16 => ⟨18432, ⟨100, 8, 3⟩, ⟨105, 0, 8⟩, ⟨0, 0, 0⟩, 0, 255⟩
  | 17 => ⟨57344, ⟨105, 0, 11⟩, ⟨0, 0, 0⟩, ⟨0, 0, 0⟩, -1024, 1023⟩
  | 18 => ⟨53248, ⟨99, 8, 4⟩, ⟨105, 0, 8⟩, ⟨0, 0, 0⟩, -128, 127⟩
  | 19 => ⟨48896, ⟨0, 0, 0⟩, ⟨0, 0, 0⟩, ⟨0, 0, 0⟩, 0, 0⟩
  | _ => ⟨48640, ⟨105, 0, 8⟩, ⟨0, 0, 0⟩, ⟨0, 0, 0⟩, 0, 255⟩
def ShapesAt (op : Nat) : Prop := ∀ w : World, Calls Tryd.prog 39 #[.int .i64 op] w fun e w' => e = .returned (shapeOf op).val ∧ Below w.heap.size w w'
end Go.Proofs.YtagjnannnahplaaDoor
