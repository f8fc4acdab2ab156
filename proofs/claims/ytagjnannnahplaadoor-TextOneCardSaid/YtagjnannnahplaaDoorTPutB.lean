/- thumb.put walked at the operations 6, 7, 8, 9, 10, 11. -/
import Derived.Test.YtagjnannnahplaaDoorTPut
import Derived.Test.YtagjnannnahplaaDoorTShapesB
namespace Go.Proofs.YtagjnannnahplaaDoor
open Go.RowKit
set_option linter.unusedVariables false
set_option linter.unusedSimpArgs false
set_option maxRecDepth 100000 in
set_option maxHeartbeats 2000000 in
theorem put_6 : PutAt 6 := by
  intro d n m imm w hcan
  simp only [canB, inB, regB, Bool.and_eq_true, decide_eq_true_eq, beq_iff_eq] at hcan
  have HB : Hid (bits BinOp.or IntKind.u16 (bits BinOp.or IntKind.u16 (bits BinOp.or IntKind.u16 4096 (IntKind.u16.wrap ((IntKind.u16.wrap (bits BinOp.and IntKind.i64 imm 31)) * 64))) (IntKind.u16.wrap ((IntKind.u16.wrap (bits BinOp.and IntKind.i64 m 7)) * 8))) (IntKind.u16.wrap (IntKind.u16.wrap (bits BinOp.and IntKind.i64 d 7))) = 4096 + (imm % 32) * 64 + m * 8 + d) := ?hb
  obtain rfl : n = 0 := by omega
  clear hcan
  have i0 := idx_0
  have i1 := idx_1
  have i2 := idx_2
  go_enter Tryd.func50, Tryd.ntmps50
  go_wp2_with (go_at_call 39; refine (shapes_6 _).mono ?_; rintro e w1 ⟨he, hb⟩; simp only [shapeOf, Shape.val] at he; subst he; obtain ⟨hc, hf⟩ := bcell hb; obtain ⟨z0, z1, z2, z3, z4⟩ := zs (n := w.heap.size) hb.size (by simp); have hB : Below w.heap.size w w1 := ((Below.refl _ _).alloc (Nat.le_refl _) _).trans (hb.mono (by simp)))
  refine wp_loop_rounds 4 ?_
  rw [rounds_succ]
  go_wp2
  go_quiet ((go_at_call 40; exact Calls.quiet_of_same (fq_i _ _)))
  go_wp2
  rw [rounds_succ]
  go_wp2
  go_quiet ((go_at_call 40; exact Calls.quiet_of_same (fq_m _ _)))
  go_wp2
  rw [rounds_succ]
  go_wp2
  go_quiet ((go_at_call 40; exact Calls.quiet_of_same (fq_d _ _)))
  go_wp2
  rw [rounds_succ]
  go_wp2
  go_ret
  refine ⟨congrArg (fun z => Ending.returned (.int .u16 z)) HB.out, ?_⟩
  repeat' first | exact hB | refine Below.alloc ?_ (by first | omega | (simp <;> omega)) _ | refine below_drewN ?_ _
  case hb => exact put_bits_6 imm m d (by omega) (by omega) (by omega) (by omega) (by omega) (by omega)
set_option maxRecDepth 100000 in
set_option maxHeartbeats 2000000 in
theorem put_7 : PutAt 7 := by
  intro d n m imm w hcan
  simp only [canB, inB, regB, Bool.and_eq_true, decide_eq_true_eq, beq_iff_eq] at hcan
  have HB : Hid (bits BinOp.or IntKind.u16 (bits BinOp.or IntKind.u16 (bits BinOp.or IntKind.u16 6144 (IntKind.u16.wrap ((IntKind.u16.wrap (bits BinOp.and IntKind.i64 m 7)) * 64))) (IntKind.u16.wrap ((IntKind.u16.wrap (bits BinOp.and IntKind.i64 n 7)) * 8))) (IntKind.u16.wrap (IntKind.u16.wrap (bits BinOp.and IntKind.i64 d 7))) = 6144 + m * 64 + n * 8 + d) := ?hb
  obtain rfl : imm = 0 := by omega
  clear hcan
  have i0 := idx_0
  have i1 := idx_1
  have i2 := idx_2
  go_enter Tryd.func50, Tryd.ntmps50
  go_wp2_with (go_at_call 39; refine (shapes_7 _).mono ?_; rintro e w1 ⟨he, hb⟩; simp only [shapeOf, Shape.val] at he; subst he; obtain ⟨hc, hf⟩ := bcell hb; obtain ⟨z0, z1, z2, z3, z4⟩ := zs (n := w.heap.size) hb.size (by simp); have hB : Below w.heap.size w w1 := ((Below.refl _ _).alloc (Nat.le_refl _) _).trans (hb.mono (by simp)))
  refine wp_loop_rounds 4 ?_
  rw [rounds_succ]
  go_wp2
  go_quiet ((go_at_call 40; exact Calls.quiet_of_same (fq_m _ _)))
  go_wp2
  rw [rounds_succ]
  go_wp2
  go_quiet ((go_at_call 40; exact Calls.quiet_of_same (fq_n _ _)))
  go_wp2
  rw [rounds_succ]
  go_wp2
  go_quiet ((go_at_call 40; exact Calls.quiet_of_same (fq_d _ _)))
  go_wp2
  rw [rounds_succ]
  go_wp2
  go_ret
  refine ⟨congrArg (fun z => Ending.returned (.int .u16 z)) HB.out, ?_⟩
  repeat' first | exact hB | refine Below.alloc ?_ (by first | omega | (simp <;> omega)) _ | refine below_drewN ?_ _
  case hb => exact put_bits_7 m n d (by omega) (by omega) (by omega) (by omega) (by omega) (by omega)
set_option maxRecDepth 100000 in
set_option maxHeartbeats 2000000 in
theorem put_8 : PutAt 8 := by
  intro d n m imm w hcan
  simp only [canB, inB, regB, Bool.and_eq_true, decide_eq_true_eq, beq_iff_eq] at hcan
  have HB : Hid (bits BinOp.or IntKind.u16 (bits BinOp.or IntKind.u16 (bits BinOp.or IntKind.u16 6656 (IntKind.u16.wrap ((IntKind.u16.wrap (bits BinOp.and IntKind.i64 m 7)) * 64))) (IntKind.u16.wrap ((IntKind.u16.wrap (bits BinOp.and IntKind.i64 n 7)) * 8))) (IntKind.u16.wrap (IntKind.u16.wrap (bits BinOp.and IntKind.i64 d 7))) = 6656 + m * 64 + n * 8 + d) := ?hb
  obtain rfl : imm = 0 := by omega
  clear hcan
  have i0 := idx_0
  have i1 := idx_1
  have i2 := idx_2
  go_enter Tryd.func50, Tryd.ntmps50
  go_wp2_with (go_at_call 39; refine (shapes_8 _).mono ?_; rintro e w1 ⟨he, hb⟩; simp only [shapeOf, Shape.val] at he; subst he; obtain ⟨hc, hf⟩ := bcell hb; obtain ⟨z0, z1, z2, z3, z4⟩ := zs (n := w.heap.size) hb.size (by simp); have hB : Below w.heap.size w w1 := ((Below.refl _ _).alloc (Nat.le_refl _) _).trans (hb.mono (by simp)))
  refine wp_loop_rounds 4 ?_
  rw [rounds_succ]
  go_wp2
  go_quiet ((go_at_call 40; exact Calls.quiet_of_same (fq_m _ _)))
  go_wp2
  rw [rounds_succ]
  go_wp2
  go_quiet ((go_at_call 40; exact Calls.quiet_of_same (fq_n _ _)))
  go_wp2
  rw [rounds_succ]
  go_wp2
  go_quiet ((go_at_call 40; exact Calls.quiet_of_same (fq_d _ _)))
  go_wp2
  rw [rounds_succ]
  go_wp2
  go_ret
  refine ⟨congrArg (fun z => Ending.returned (.int .u16 z)) HB.out, ?_⟩
  repeat' first | exact hB | refine Below.alloc ?_ (by first | omega | (simp <;> omega)) _ | refine below_drewN ?_ _
  case hb => exact put_bits_8 m n d (by omega) (by omega) (by omega) (by omega) (by omega) (by omega)
set_option maxRecDepth 100000 in
set_option maxHeartbeats 2000000 in
theorem put_9 : PutAt 9 := by
  intro d n m imm w hcan
  simp only [canB, inB, regB, Bool.and_eq_true, decide_eq_true_eq, beq_iff_eq] at hcan
  have HB : Hid (bits BinOp.or IntKind.u16 (bits BinOp.or IntKind.u16 (bits BinOp.or IntKind.u16 7168 (IntKind.u16.wrap ((IntKind.u16.wrap (bits BinOp.and IntKind.i64 imm 7)) * 64))) (IntKind.u16.wrap ((IntKind.u16.wrap (bits BinOp.and IntKind.i64 n 7)) * 8))) (IntKind.u16.wrap (IntKind.u16.wrap (bits BinOp.and IntKind.i64 d 7))) = 7168 + imm * 64 + n * 8 + d) := ?hb
  obtain rfl : m = 0 := by omega
  clear hcan
  have i0 := idx_0
  have i1 := idx_1
  have i2 := idx_2
  go_enter Tryd.func50, Tryd.ntmps50
  go_wp2_with (go_at_call 39; refine (shapes_9 _).mono ?_; rintro e w1 ⟨he, hb⟩; simp only [shapeOf, Shape.val] at he; subst he; obtain ⟨hc, hf⟩ := bcell hb; obtain ⟨z0, z1, z2, z3, z4⟩ := zs (n := w.heap.size) hb.size (by simp); have hB : Below w.heap.size w w1 := ((Below.refl _ _).alloc (Nat.le_refl _) _).trans (hb.mono (by simp)))
  refine wp_loop_rounds 4 ?_
  rw [rounds_succ]
  go_wp2
  go_quiet ((go_at_call 40; exact Calls.quiet_of_same (fq_i _ _)))
  go_wp2
  rw [rounds_succ]
  go_wp2
  go_quiet ((go_at_call 40; exact Calls.quiet_of_same (fq_n _ _)))
  go_wp2
  rw [rounds_succ]
  go_wp2
  go_quiet ((go_at_call 40; exact Calls.quiet_of_same (fq_d _ _)))
  go_wp2
  rw [rounds_succ]
  go_wp2
  go_ret
  refine ⟨congrArg (fun z => Ending.returned (.int .u16 z)) HB.out, ?_⟩
  repeat' first | exact hB | refine Below.alloc ?_ (by first | omega | (simp <;> omega)) _ | refine below_drewN ?_ _
  case hb => exact put_bits_9 imm n d (by omega) (by omega) (by omega) (by omega) (by omega) (by omega)
set_option maxRecDepth 100000 in
set_option maxHeartbeats 2000000 in
theorem put_10 : PutAt 10 := by
  intro d n m imm w hcan
  simp only [canB, inB, regB, Bool.and_eq_true, decide_eq_true_eq, beq_iff_eq] at hcan
  have HB : Hid (bits BinOp.or IntKind.u16 (bits BinOp.or IntKind.u16 (bits BinOp.or IntKind.u16 7680 (IntKind.u16.wrap ((IntKind.u16.wrap (bits BinOp.and IntKind.i64 imm 7)) * 64))) (IntKind.u16.wrap ((IntKind.u16.wrap (bits BinOp.and IntKind.i64 n 7)) * 8))) (IntKind.u16.wrap (IntKind.u16.wrap (bits BinOp.and IntKind.i64 d 7))) = 7680 + imm * 64 + n * 8 + d) := ?hb
  obtain rfl : m = 0 := by omega
  clear hcan
  have i0 := idx_0
  have i1 := idx_1
  have i2 := idx_2
  go_enter Tryd.func50, Tryd.ntmps50
  go_wp2_with (go_at_call 39; refine (shapes_10 _).mono ?_; rintro e w1 ⟨he, hb⟩; simp only [shapeOf, Shape.val] at he; subst he; obtain ⟨hc, hf⟩ := bcell hb; obtain ⟨z0, z1, z2, z3, z4⟩ := zs (n := w.heap.size) hb.size (by simp); have hB : Below w.heap.size w w1 := ((Below.refl _ _).alloc (Nat.le_refl _) _).trans (hb.mono (by simp)))
  refine wp_loop_rounds 4 ?_
  rw [rounds_succ]
  go_wp2
  go_quiet ((go_at_call 40; exact Calls.quiet_of_same (fq_i _ _)))
  go_wp2
  rw [rounds_succ]
  go_wp2
  go_quiet ((go_at_call 40; exact Calls.quiet_of_same (fq_n _ _)))
  go_wp2
  rw [rounds_succ]
  go_wp2
  go_quiet ((go_at_call 40; exact Calls.quiet_of_same (fq_d _ _)))
  go_wp2
  rw [rounds_succ]
  go_wp2
  go_ret
  refine ⟨congrArg (fun z => Ending.returned (.int .u16 z)) HB.out, ?_⟩
  repeat' first | exact hB | refine Below.alloc ?_ (by first | omega | (simp <;> omega)) _ | refine below_drewN ?_ _
  case hb => exact put_bits_10 imm n d (by omega) (by omega) (by omega) (by omega) (by omega) (by omega)
set_option maxRecDepth 100000 in
set_option maxHeartbeats 2000000 in
theorem put_11 : PutAt 11 := by
  intro d n m imm w hcan
  simp only [canB, inB, regB, Bool.and_eq_true, decide_eq_true_eq, beq_iff_eq] at hcan
  have HB : Hid (bits BinOp.or IntKind.u16 (bits BinOp.or IntKind.u16 (bits BinOp.or IntKind.u16 16384 (IntKind.u16.wrap ((IntKind.u16.wrap (bits BinOp.and IntKind.i64 imm 15)) * 64))) (IntKind.u16.wrap ((IntKind.u16.wrap (bits BinOp.and IntKind.i64 m 7)) * 8))) (IntKind.u16.wrap (IntKind.u16.wrap (bits BinOp.and IntKind.i64 d 7))) = 16384 + imm * 64 + m * 8 + d) := ?hb
  obtain rfl : n = 0 := by omega
  clear hcan
  have i0 := idx_0
  have i1 := idx_1
  have i2 := idx_2
  go_enter Tryd.func50, Tryd.ntmps50
  go_wp2_with (go_at_call 39; refine (shapes_11 _).mono ?_; rintro e w1 ⟨he, hb⟩; simp only [shapeOf, Shape.val] at he; subst he; obtain ⟨hc, hf⟩ := bcell hb; obtain ⟨z0, z1, z2, z3, z4⟩ := zs (n := w.heap.size) hb.size (by simp); have hB : Below w.heap.size w w1 := ((Below.refl _ _).alloc (Nat.le_refl _) _).trans (hb.mono (by simp)))
  refine wp_loop_rounds 4 ?_
  rw [rounds_succ]
  go_wp2
  go_quiet ((go_at_call 40; exact Calls.quiet_of_same (fq_i _ _)))
  go_wp2
  rw [rounds_succ]
  go_wp2
  go_quiet ((go_at_call 40; exact Calls.quiet_of_same (fq_m _ _)))
  go_wp2
  rw [rounds_succ]
  go_wp2
  go_quiet ((go_at_call 40; exact Calls.quiet_of_same (fq_d _ _)))
  go_wp2
  rw [rounds_succ]
  go_wp2
  go_ret
  refine ⟨congrArg (fun z => Ending.returned (.int .u16 z)) HB.out, ?_⟩
  repeat' first | exact hB | refine Below.alloc ?_ (by first | omega | (simp <;> omega)) _ | refine below_drewN ?_ _
  case hb => exact put_bits_11 imm m d (by omega) (by omega) (by omega) (by omega) (by omega) (by omega)
end Go.Proofs.YtagjnannnahplaaDoor
