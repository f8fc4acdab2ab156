/- thumb.put walked at the operations 12, 13, 14, 15, 16. -/
import Derived.Test.YtagjnannnahplaaDoorTPut
import Derived.Test.YtagjnannnahplaaDoorTShapesC
namespace Go.Proofs.YtagjnannnahplaaDoor
open Go.RowKit
set_option linter.unusedVariables false
set_option linter.unusedSimpArgs false
set_option maxRecDepth 100000 in
set_option maxHeartbeats 2000000 in
theorem put_12 : PutAt 12 := by
  intro d n m imm w hcan
  simp only [canB, inB, regB, Bool.and_eq_true, decide_eq_true_eq, beq_iff_eq] at hcan
  have HB : Hid (bits BinOp.or IntKind.u16 (bits BinOp.or IntKind.u16 (bits BinOp.or IntKind.u16 26624 (IntKind.u16.wrap ((IntKind.u16.wrap (bits BinOp.and IntKind.i64 imm 31)) * 64))) (IntKind.u16.wrap ((IntKind.u16.wrap (bits BinOp.and IntKind.i64 n 7)) * 8))) (IntKind.u16.wrap (IntKind.u16.wrap (bits BinOp.and IntKind.i64 d 7))) = 26624 + imm * 64 + n * 8 + d) := ?hb
  obtain rfl : m = 0 := by omega
  clear hcan
  have i0 := idx_0
  have i1 := idx_1
  have i2 := idx_2
  go_enter Tryd.func50, Tryd.ntmps50
  go_wp2_with (go_at_call 39; refine (shapes_12 _).mono ?_; rintro e w1 ⟨he, hb⟩; simp only [shapeOf, Shape.val] at he; subst he; obtain ⟨hc, hf⟩ := bcell hb; obtain ⟨z0, z1, z2, z3, z4⟩ := zs (n := w.heap.size) hb.size (by simp); have hB : Below w.heap.size w w1 := ((Below.refl _ _).alloc (Nat.le_refl _) _).trans (hb.mono (by simp)))
  refine wp_loop_rounds 4 ?_
  rw [rounds_succ]
  go_wp2
  go_quiet ((go_at_call 40; exact Calls.quiet_of_same (fq_i _ _)))
  go_wp2
  rw [rounds_succ]
  go_wp2
  go_quiet ((go_at_call 40; exact Calls.quiet_of_same (fq_n _ _)))
  go_wp2
  rw [rounds_succ]
  go_wp2
  go_quiet ((go_at_call 40; exact Calls.quiet_of_same (fq_d _ _)))
  go_wp2
  rw [rounds_succ]
  go_wp2
  go_ret
  refine ⟨congrArg (fun z => Ending.returned (.int .u16 z)) HB.out, ?_⟩
  repeat' first | exact hB | refine Below.alloc ?_ (by first | omega | (simp <;> omega)) _ | refine below_drewN ?_ _
  case hb => exact put_bits_12 imm n d (by omega) (by omega) (by omega) (by omega) (by omega) (by omega)
set_option maxRecDepth 100000 in
set_option maxHeartbeats 2000000 in
theorem put_13 : PutAt 13 := by
  intro d n m imm w hcan
  simp only [canB, inB, regB, Bool.and_eq_true, decide_eq_true_eq, beq_iff_eq] at hcan
  have HB : Hid (bits BinOp.or IntKind.u16 (bits BinOp.or IntKind.u16 (bits BinOp.or IntKind.u16 24576 (IntKind.u16.wrap ((IntKind.u16.wrap (bits BinOp.and IntKind.i64 imm 31)) * 64))) (IntKind.u16.wrap ((IntKind.u16.wrap (bits BinOp.and IntKind.i64 n 7)) * 8))) (IntKind.u16.wrap (IntKind.u16.wrap (bits BinOp.and IntKind.i64 d 7))) = 24576 + imm * 64 + n * 8 + d) := ?hb
  obtain rfl : m = 0 := by omega
  clear hcan
  have i0 := idx_0
  have i1 := idx_1
  have i2 := idx_2
  go_enter Tryd.func50, Tryd.ntmps50
  go_wp2_with (go_at_call 39; refine (shapes_13 _).mono ?_; rintro e w1 ⟨he, hb⟩; simp only [shapeOf, Shape.val] at he; subst he; obtain ⟨hc, hf⟩ := bcell hb; obtain ⟨z0, z1, z2, z3, z4⟩ := zs (n := w.heap.size) hb.size (by simp); have hB : Below w.heap.size w w1 := ((Below.refl _ _).alloc (Nat.le_refl _) _).trans (hb.mono (by simp)))
  refine wp_loop_rounds 4 ?_
  rw [rounds_succ]
  go_wp2
  go_quiet ((go_at_call 40; exact Calls.quiet_of_same (fq_i _ _)))
  go_wp2
  rw [rounds_succ]
  go_wp2
  go_quiet ((go_at_call 40; exact Calls.quiet_of_same (fq_n _ _)))
  go_wp2
  rw [rounds_succ]
  go_wp2
  go_quiet ((go_at_call 40; exact Calls.quiet_of_same (fq_d _ _)))
  go_wp2
  rw [rounds_succ]
  go_wp2
  go_ret
  refine ⟨congrArg (fun z => Ending.returned (.int .u16 z)) HB.out, ?_⟩
  repeat' first | exact hB | refine Below.alloc ?_ (by first | omega | (simp <;> omega)) _ | refine below_drewN ?_ _
  case hb => exact put_bits_13 imm n d (by omega) (by omega) (by omega) (by omega) (by omega) (by omega)
set_option maxRecDepth 100000 in
set_option maxHeartbeats 2000000 in
theorem put_14 : PutAt 14 := by
  intro d n m imm w hcan
  simp only [canB, inB, regB, Bool.and_eq_true, decide_eq_true_eq, beq_iff_eq] at hcan
  have HB : Hid (bits BinOp.or IntKind.u16 (bits BinOp.or IntKind.u16 (bits BinOp.or IntKind.u16 22528 (IntKind.u16.wrap ((IntKind.u16.wrap (bits BinOp.and IntKind.i64 m 7)) * 64))) (IntKind.u16.wrap ((IntKind.u16.wrap (bits BinOp.and IntKind.i64 n 7)) * 8))) (IntKind.u16.wrap (IntKind.u16.wrap (bits BinOp.and IntKind.i64 d 7))) = 22528 + m * 64 + n * 8 + d) := ?hb
  obtain rfl : imm = 0 := by omega
  clear hcan
  have i0 := idx_0
  have i1 := idx_1
  have i2 := idx_2
  go_enter Tryd.func50, Tryd.ntmps50
  go_wp2_with (go_at_call 39; refine (shapes_14 _).mono ?_; rintro e w1 ⟨he, hb⟩; simp only [shapeOf, Shape.val] at he; subst he; obtain ⟨hc, hf⟩ := bcell hb; obtain ⟨z0, z1, z2, z3, z4⟩ := zs (n := w.heap.size) hb.size (by simp); have hB : Below w.heap.size w w1 := ((Below.refl _ _).alloc (Nat.le_refl _) _).trans (hb.mono (by simp)))
  refine wp_loop_rounds 4 ?_
  rw [rounds_succ]
  go_wp2
  go_quiet ((go_at_call 40; exact Calls.quiet_of_same (fq_m _ _)))
  go_wp2
  rw [rounds_succ]
  go_wp2
  go_quiet ((go_at_call 40; exact Calls.quiet_of_same (fq_n _ _)))
  go_wp2
  rw [rounds_succ]
  go_wp2
  go_quiet ((go_at_call 40; exact Calls.quiet_of_same (fq_d _ _)))
  go_wp2
  rw [rounds_succ]
  go_wp2
  go_ret
  refine ⟨congrArg (fun z => Ending.returned (.int .u16 z)) HB.out, ?_⟩
  repeat' first | exact hB | refine Below.alloc ?_ (by first | omega | (simp <;> omega)) _ | refine below_drewN ?_ _
  case hb => exact put_bits_14 m n d (by omega) (by omega) (by omega) (by omega) (by omega) (by omega)
set_option maxRecDepth 100000 in
set_option maxHeartbeats 2000000 in
theorem put_15 : PutAt 15 := by
  intro d n m imm w hcan
  simp only [canB, inB, regB, Bool.and_eq_true, decide_eq_true_eq, beq_iff_eq] at hcan
  have HB : Hid (bits BinOp.or IntKind.u16 (bits BinOp.or IntKind.u16 (bits BinOp.or IntKind.u16 20480 (IntKind.u16.wrap ((IntKind.u16.wrap (bits BinOp.and IntKind.i64 m 7)) * 64))) (IntKind.u16.wrap ((IntKind.u16.wrap (bits BinOp.and IntKind.i64 n 7)) * 8))) (IntKind.u16.wrap (IntKind.u16.wrap (bits BinOp.and IntKind.i64 d 7))) = 20480 + m * 64 + n * 8 + d) := ?hb
  obtain rfl : imm = 0 := by omega
  clear hcan
  have i0 := idx_0
  have i1 := idx_1
  have i2 := idx_2
  go_enter Tryd.func50, Tryd.ntmps50
  go_wp2_with (go_at_call 39; refine (shapes_15 _).mono ?_; rintro e w1 ⟨he, hb⟩; simp only [shapeOf, Shape.val] at he; subst he; obtain ⟨hc, hf⟩ := bcell hb; obtain ⟨z0, z1, z2, z3, z4⟩ := zs (n := w.heap.size) hb.size (by simp); have hB : Below w.heap.size w w1 := ((Below.refl _ _).alloc (Nat.le_refl _) _).trans (hb.mono (by simp)))
  refine wp_loop_rounds 4 ?_
  rw [rounds_succ]
  go_wp2
  go_quiet ((go_at_call 40; exact Calls.quiet_of_same (fq_m _ _)))
  go_wp2
  rw [rounds_succ]
  go_wp2
  go_quiet ((go_at_call 40; exact Calls.quiet_of_same (fq_n _ _)))
  go_wp2
  rw [rounds_succ]
  go_wp2
  go_quiet ((go_at_call 40; exact Calls.quiet_of_same (fq_d _ _)))
  go_wp2
  rw [rounds_succ]
  go_wp2
  go_ret
  refine ⟨congrArg (fun z => Ending.returned (.int .u16 z)) HB.out, ?_⟩
  repeat' first | exact hB | refine Below.alloc ?_ (by first | omega | (simp <;> omega)) _ | refine below_drewN ?_ _
  case hb => exact put_bits_15 m n d (by omega) (by omega) (by omega) (by omega) (by omega) (by omega)
set_option maxRecDepth 100000 in
set_option maxHeartbeats 2000000 in
theorem put_16 : PutAt 16 := by
  intro d n m imm w hcan
  simp only [canB, inB, regB, Bool.and_eq_true, decide_eq_true_eq, beq_iff_eq] at hcan
  have HB : Hid (bits BinOp.or IntKind.u16 (bits BinOp.or IntKind.u16 18432 (IntKind.u16.wrap ((IntKind.u16.wrap (bits BinOp.and IntKind.i64 d 7)) * 256))) (IntKind.u16.wrap (IntKind.u16.wrap (bits BinOp.and IntKind.i64 imm 255))) = 18432 + d * 256 + imm) := ?hb
  obtain rfl : n = 0 := by omega
  obtain rfl : m = 0 := by omega
  clear hcan
  have i0 := idx_0
  have i1 := idx_1
  have i2 := idx_2
  go_enter Tryd.func50, Tryd.ntmps50
  go_wp2_with (go_at_call 39; refine (shapes_16 _).mono ?_; rintro e w1 ⟨he, hb⟩; simp only [shapeOf, Shape.val] at he; subst he; obtain ⟨hc, hf⟩ := bcell hb; obtain ⟨z0, z1, z2, z3, z4⟩ := zs (n := w.heap.size) hb.size (by simp); have hB : Below w.heap.size w w1 := ((Below.refl _ _).alloc (Nat.le_refl _) _).trans (hb.mono (by simp)))
  refine wp_loop_rounds 4 ?_
  rw [rounds_succ]
  go_wp2
  go_quiet ((go_at_call 40; exact Calls.quiet_of_same (fq_d _ _)))
  go_wp2
  rw [rounds_succ]
  go_wp2
  go_quiet ((go_at_call 40; exact Calls.quiet_of_same (fq_i _ _)))
  go_wp2
  rw [rounds_succ]
  go_wp2
  rw [rounds_succ]
  go_wp2
  go_ret
  refine ⟨congrArg (fun z => Ending.returned (.int .u16 z)) HB.out, ?_⟩
  repeat' first | exact hB | refine Below.alloc ?_ (by first | omega | (simp <;> omega)) _ | refine below_drewN ?_ _
  case hb => exact put_bits_16 d imm (by omega) (by omega) (by omega) (by omega)
end Go.Proofs.YtagjnannnahplaaDoor
