/- What thumb.can answers. -/
import Derived.Test.YtagjnannnahplaaDoorTField
import Derived.Handy
import Derived.BigQuiet
import Derived.Deep.QuietTactic
namespace Go.Proofs.YtagjnannnahplaaDoor
open Go.RowKit
set_option linter.unusedVariables false
def regB (x : Int) : Bool := decide (0 ≤ x) && decide (x < 8)
def inB (x lo hi : Int) : Bool := decide (lo ≤ x) && decide (x ≤ hi)
def canB : Nat → Int → Int → Int → Int → Bool
  | 0, d, n, m, imm => inB imm 0 255 && regB d && n == 0 && m == 0
  | 1, d, n, m, imm => inB imm 0 255 && regB d && n == 0 && m == 0
  | 2, d, n, m, imm => inB imm 0 255 && regB d && n == 0 && m == 0
  | 3, d, n, m, imm => inB imm 0 255 && regB d && n == 0 && m == 0
  | 4, d, n, m, imm => inB imm 0 31 && regB m && regB d && n == 0
  | 5, d, n, m, imm => inB imm 1 32 && regB m && regB d && n == 0
  | 6, d, n, m, imm => inB imm 1 32 && regB m && regB d && n == 0
  | 7, d, n, m, imm => imm == 0 && regB m && regB n && regB d
  | 8, d, n, m, imm => imm == 0 && regB m && regB n && regB d
  | 9, d, n, m, imm => inB imm 0 7 && regB n && regB d && m == 0
  | 10, d, n, m, imm => inB imm 0 7 && regB n && regB d && m == 0
  | 11, d, n, m, imm => inB imm 0 15 && regB m && regB d && n == 0
  | 12, d, n, m, imm => inB imm 0 31 && regB n && regB d && m == 0
  | 13, d, n, m, imm => inB imm 0 31 && regB n && regB d && m == 0
  | 14, d, n, m, imm => imm == 0 && regB m && regB n && regB d
  | 15, d, n, m, imm => imm == 0 && regB m && regB n && regB d
  | 16, d, n, m, imm => inB imm 0 255 && regB d && n == 0 && m == 0
  | 17, d, n, m, imm => inB imm (-1024) 1023 && d == 0 && n == 0 && m == 0
  | 18, d, n, m, imm => inB imm (-128) 127 && inB d 0 13 && n == 0 && m == 0
  | 19, d, n, m, imm => imm == 0 && d == 0 && n == 0 && m == 0
  | 20, d, n, m, imm => inB imm 0 255 && d == 0 && n == 0 && m == 0
  | _, _, _, _, _ => false
/-- An instruction as a value. -/
def insV (op d n m imm : Int) : Value := .agg #[.int .i64 op, .int .i64 d, .int .i64 n, .int .i64 m, .int .i64 imm]
theorem bcell {W w1 : World} (hb : Below W.heap.size W w1) : (∀ b o, b < W.heap.size → w1.cell? ⟨b, o, none⟩ = W.cell? ⟨b, o, none⟩) ∧ (∀ b o, b < W.heap.size → w1.frozen? ⟨b, o, none⟩ = W.frozen? ⟨b, o, none⟩) :=
  ⟨fun b o h => hb.cell (p := ⟨b, o, none⟩) h, fun b o h => hb.frozen (p := ⟨b, o, none⟩) h⟩
theorem zs {n a b : Nat} (h : a ≤ b) (h1 : n < a) : n < b ∧ n < b + 1 ∧ n < b + 1 + 1 ∧ n < b + 1 + 1 + 1 ∧ n < b + 1 + 1 + 1 + 1 := by omega
theorem idx_0 (a b c d e f g h i : Value) (w : World) : (Instr.index 67 (.agg #[a, b, c, d, e, f, g, h, i]) (.int .i64 0)).run Tryd.prog w = .ok (.agg #[a, b, c]) w := by kernel_rfl
theorem idx_1 (a b c d e f g h i : Value) (w : World) : (Instr.index 67 (.agg #[a, b, c, d, e, f, g, h, i]) (.int .i64 1)).run Tryd.prog w = .ok (.agg #[d, e, f]) w := by kernel_rfl
theorem idx_2 (a b c d e f g h i : Value) (w : World) : (Instr.index 67 (.agg #[a, b, c, d, e, f, g, h, i]) (.int .i64 2)).run Tryd.prog w = .ok (.agg #[g, h, i]) w := by kernel_rfl
def CanAt (k : Nat) : Prop := ∀ (d n m imm : Int) (w : World), Calls Tryd.prog 23 #[.agg #[.int .i64 k, .int .i64 d, .int .i64 n, .int .i64 m, .int .i64 imm]] w fun e w' => e = .returned (.bool (canB k d n m imm)) ∧ Below w.heap.size w w'
end Go.Proofs.YtagjnannnahplaaDoor
