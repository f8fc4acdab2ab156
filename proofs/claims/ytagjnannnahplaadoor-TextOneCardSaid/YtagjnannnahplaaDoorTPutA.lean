/- thumb.put walked at the operations 0, 1, 2, 3, 4, 5. -/
import Derived.Test.YtagjnannnahplaaDoorTPut
import Derived.Test.YtagjnannnahplaaDoorTShapesA
namespace Go.Proofs.YtagjnannnahplaaDoor
open Go.RowKit
set_option linter.unusedVariables false
set_option linter.unusedSimpArgs false
set_option maxRecDepth 100000 in
set_option maxHeartbeats 2000000 in
theorem put_0 : PutAt 0 := by
  intro d n m imm w hcan
  simp only [canB, inB, regB, Bool.and_eq_true, decide_eq_true_eq, beq_iff_eq] at hcan
  have HB : Hid (bits BinOp.or IntKind.u16 (bits BinOp.or IntKind.u16 8192 (IntKind.u16.wrap ((IntKind.u16.wrap (bits BinOp.and IntKind.i64 d 7)) * 256))) (IntKind.u16.wrap (IntKind.u16.wrap (bits BinOp.and IntKind.i64 imm 255))) = 8192 + d * 256 + imm) := ?hb
  obtain rfl : n = 0 := by omega
  obtain rfl : m = 0 := by omega
  clear hcan
  have i0 := idx_0
  have i1 := idx_1
  have i2 := idx_2
  go_enter Tryd.func50, Tryd.ntmps50
  go_wp2_with (go_at_call 39; refine (shapes_0 _).mono ?_; rintro e w1 ⟨he, hb⟩; simp only [shapeOf, Shape.val] at he; subst he; obtain ⟨hc, hf⟩ := bcell hb; obtain ⟨z0, z1, z2, z3, z4⟩ := zs (n := w.heap.size) hb.size (by simp); have hB : Below w.heap.size w w1 := ((Below.refl _ _).alloc (Nat.le_refl _) _).trans (hb.mono (by simp)))
  refine wp_loop_rounds 4 ?_
  rw [rounds_succ]
  go_wp2
  go_quiet ((go_at_call 40; exact Calls.quiet_of_same (fq_d _ _)))
  go_wp2
  rw [rounds_succ]
  go_wp2
  go_quiet ((go_at_call 40; exact Calls.quiet_of_same (fq_i _ _)))
  go_wp2
  rw [rounds_succ]
  go_wp2
  rw [rounds_succ]
  go_wp2
  go_ret
  refine ⟨congrArg (fun z => Ending.returned (.int .u16 z)) HB.out, ?_⟩
  repeat' first | exact hB | refine Below.alloc ?_ (by first | omega | (simp <;> omega)) _ | refine below_drewN ?_ _
  case hb => exact put_bits_0 d imm (by omega) (by omega) (by omega) (by omega)
set_option maxRecDepth 100000 in
set_option maxHeartbeats 2000000 in
theorem put_1 : PutAt 1 := by
  intro d n m imm w hcan
  simp only [canB, inB, regB, Bool.and_eq_true, decide_eq_true_eq, beq_iff_eq] at hcan
  have HB : Hid (bits BinOp.or IntKind.u16 (bits BinOp.or IntKind.u16 10240 (IntKind.u16.wrap ((IntKind.u16.wrap (bits BinOp.and IntKind.i64 d 7)) * 256))) (IntKind.u16.wrap (IntKind.u16.wrap (bits BinOp.and IntKind.i64 imm 255))) = 10240 + d * 256 + imm) := ?hb
  obtain rfl : n = 0 := by omega
  obtain rfl : m = 0 := by omega
  clear hcan
  have i0 := idx_0
  have i1 := idx_1
  have i2 := idx_2
  go_enter Tryd.func50, Tryd.ntmps50
  go_wp2_with (go_at_call 39; refine (shapes_1 _).mono ?_; rintro e w1 ⟨he, hb⟩; simp only [shapeOf, Shape.val] at he; subst he; obtain ⟨hc, hf⟩ := bcell hb; obtain ⟨z0, z1, z2, z3, z4⟩ := zs (n := w.heap.size) hb.size (by simp); have hB : Below w.heap.size w w1 := ((Below.refl _ _).alloc (Nat.le_refl _) _).trans (hb.mono (by simp)))
  refine wp_loop_rounds 4 ?_
  rw [rounds_succ]
  go_wp2
  go_quiet ((go_at_call 40; exact Calls.quiet_of_same (fq_d _ _)))
  go_wp2
  rw [rounds_succ]
  go_wp2
  go_quiet ((go_at_call 40; exact Calls.quiet_of_same (fq_i _ _)))
  go_wp2
  rw [rounds_succ]
  go_wp2
  rw [rounds_succ]
  go_wp2
  go_ret
  refine ⟨congrArg (fun z => Ending.returned (.int .u16 z)) HB.out, ?_⟩
  repeat' first | exact hB | refine Below.alloc ?_ (by first | omega | (simp <;> omega)) _ | refine below_drewN ?_ _
  case hb => exact put_bits_1 d imm (by omega) (by omega) (by omega) (by omega)
set_option maxRecDepth 100000 in
set_option maxHeartbeats 2000000 in
theorem put_2 : PutAt 2 := by
  intro d n m imm w hcan
  simp only [canB, inB, regB, Bool.and_eq_true, decide_eq_true_eq, beq_iff_eq] at hcan
  have HB : Hid (bits BinOp.or IntKind.u16 (bits BinOp.or IntKind.u16 12288 (IntKind.u16.wrap ((IntKind.u16.wrap (bits BinOp.and IntKind.i64 d 7)) * 256))) (IntKind.u16.wrap (IntKind.u16.wrap (bits BinOp.and IntKind.i64 imm 255))) = 12288 + d * 256 + imm) := ?hb
  obtain rfl : n = 0 := by omega
  obtain rfl : m = 0 := by omega
  clear hcan
  have i0 := idx_0
  have i1 := idx_1
  have i2 := idx_2
  go_enter Tryd.func50, Tryd.ntmps50
  go_wp2_with (go_at_call 39; refine (shapes_2 _).mono ?_; rintro e w1 ⟨he, hb⟩; simp only [shapeOf, Shape.val] at he; subst he; obtain ⟨hc, hf⟩ := bcell hb; obtain ⟨z0, z1, z2, z3, z4⟩ := zs (n := w.heap.size) hb.size (by simp); have hB : Below w.heap.size w w1 := ((Below.refl _ _).alloc (Nat.le_refl _) _).trans (hb.mono (by simp)))
  refine wp_loop_rounds 4 ?_
  rw [rounds_succ]
  go_wp2
  go_quiet ((go_at_call 40; exact Calls.quiet_of_same (fq_d _ _)))
  go_wp2
  rw [rounds_succ]
  go_wp2
  go_quiet ((go_at_call 40; exact Calls.quiet_of_same (fq_i _ _)))
  go_wp2
  rw [rounds_succ]
  go_wp2
  rw [rounds_succ]
  go_wp2
  go_ret
  refine ⟨congrArg (fun z => Ending.returned (.int .u16 z)) HB.out, ?_⟩
  repeat' first | exact hB | refine Below.alloc ?_ (by first | omega | (simp <;> omega)) _ | refine below_drewN ?_ _
  case hb => exact put_bits_2 d imm (by omega) (by omega) (by omega) (by omega)
set_option maxRecDepth 100000 in
set_option maxHeartbeats 2000000 in
theorem put_3 : PutAt 3 := by
  intro d n m imm w hcan
  simp only [canB, inB, regB, Bool.and_eq_true, decide_eq_true_eq, beq_iff_eq] at hcan
  have HB : Hid (bits BinOp.or IntKind.u16 (bits BinOp.or IntKind.u16 14336 (IntKind.u16.wrap ((IntKind.u16.wrap (bits BinOp.and IntKind.i64 d 7)) * 256))) (IntKind.u16.wrap (IntKind.u16.wrap (bits BinOp.and IntKind.i64 imm 255))) = 14336 + d * 256 + imm) := ?hb
  obtain rfl : n = 0 := by omega
  obtain rfl : m = 0 := by omega
  clear hcan
  have i0 := idx_0
  have i1 := idx_1
  have i2 := idx_2
  go_enter Tryd.func50, Tryd.ntmps50
  go_wp2_with (go_at_call 39; refine (shapes_3 _).mono ?_; rintro e w1 ⟨he, hb⟩; simp only [shapeOf, Shape.val] at he; subst he; obtain ⟨hc, hf⟩ := bcell hb; obtain ⟨z0, z1, z2, z3, z4⟩ := zs (n := w.heap.size) hb.size (by simp); have hB : Below w.heap.size w w1 := ((Below.refl _ _).alloc (Nat.le_refl _) _).trans (hb.mono (by simp)))
  refine wp_loop_rounds 4 ?_
  rw [rounds_succ]
  go_wp2
  go_quiet ((go_at_call 40; exact Calls.quiet_of_same (fq_d _ _)))
  go_wp2
  rw [rounds_succ]
  go_wp2
  go_quiet ((go_at_call 40; exact Calls.quiet_of_same (fq_i _ _)))
  go_wp2
  rw [rounds_succ]
  go_wp2
  rw [rounds_succ]
  go_wp2
  go_ret
  refine ⟨congrArg (fun z => Ending.returned (.int .u16 z)) HB.out, ?_⟩
  repeat' first | exact hB | refine Below.alloc ?_ (by first | omega | (simp <;> omega)) _ | refine below_drewN ?_ _
  case hb => exact put_bits_3 d imm (by omega) (by omega) (by omega) (by omega)
set_option maxRecDepth 100000 in
set_option maxHeartbeats 2000000 in
theorem put_4 : PutAt 4 := by
  intro d n m imm w hcan
  simp only [canB, inB, regB, Bool.and_eq_true, decide_eq_true_eq, beq_iff_eq] at hcan
  have HB : Hid (bits BinOp.or IntKind.u16 (bits BinOp.or IntKind.u16 (bits BinOp.or IntKind.u16 0 (IntKind.u16.wrap ((IntKind.u16.wrap (bits BinOp.and IntKind.i64 imm 31)) * 64))) (IntKind.u16.wrap ((IntKind.u16.wrap (bits BinOp.and IntKind.i64 m 7)) * 8))) (IntKind.u16.wrap (IntKind.u16.wrap (bits BinOp.and IntKind.i64 d 7))) = 0 + imm * 64 + m * 8 + d) := ?hb
  obtain rfl : n = 0 := by omega
  clear hcan
  have i0 := idx_0
  have i1 := idx_1
  have i2 := idx_2
  go_enter Tryd.func50, Tryd.ntmps50
  go_wp2_with (go_at_call 39; refine (shapes_4 _).mono ?_; rintro e w1 ⟨he, hb⟩; simp only [shapeOf, Shape.val] at he; subst he; obtain ⟨hc, hf⟩ := bcell hb; obtain ⟨z0, z1, z2, z3, z4⟩ := zs (n := w.heap.size) hb.size (by simp); have hB : Below w.heap.size w w1 := ((Below.refl _ _).alloc (Nat.le_refl _) _).trans (hb.mono (by simp)))
  refine wp_loop_rounds 4 ?_
  rw [rounds_succ]
  go_wp2
  go_quiet ((go_at_call 40; exact Calls.quiet_of_same (fq_i _ _)))
  go_wp2
  rw [rounds_succ]
  go_wp2
  go_quiet ((go_at_call 40; exact Calls.quiet_of_same (fq_m _ _)))
  go_wp2
  rw [rounds_succ]
  go_wp2
  go_quiet ((go_at_call 40; exact Calls.quiet_of_same (fq_d _ _)))
  go_wp2
  rw [rounds_succ]
  go_wp2
  go_ret
  refine ⟨congrArg (fun z => Ending.returned (.int .u16 z)) HB.out, ?_⟩
  repeat' first | exact hB | refine Below.alloc ?_ (by first | omega | (simp <;> omega)) _ | refine below_drewN ?_ _
  case hb => exact put_bits_4 imm m d (by omega) (by omega) (by omega) (by omega) (by omega) (by omega)
set_option maxRecDepth 100000 in
set_option maxHeartbeats 2000000 in
theorem put_5 : PutAt 5 := by
  intro d n m imm w hcan
  simp only [canB, inB, regB, Bool.and_eq_true, decide_eq_true_eq, beq_iff_eq] at hcan
  have HB : Hid (bits BinOp.or IntKind.u16 (bits BinOp.or IntKind.u16 (bits BinOp.or IntKind.u16 2048 (IntKind.u16.wrap ((IntKind.u16.wrap (bits BinOp.and IntKind.i64 imm 31)) * 64))) (IntKind.u16.wrap ((IntKind.u16.wrap (bits BinOp.and IntKind.i64 m 7)) * 8))) (IntKind.u16.wrap (IntKind.u16.wrap (bits BinOp.and IntKind.i64 d 7))) = 2048 + (imm % 32) * 64 + m * 8 + d) := ?hb
  obtain rfl : n = 0 := by omega
  clear hcan
  have i0 := idx_0
  have i1 := idx_1
  have i2 := idx_2
  go_enter Tryd.func50, Tryd.ntmps50
  go_wp2_with (go_at_call 39; refine (shapes_5 _).mono ?_; rintro e w1 ⟨he, hb⟩; simp only [shapeOf, Shape.val] at he; subst he; obtain ⟨hc, hf⟩ := bcell hb; obtain ⟨z0, z1, z2, z3, z4⟩ := zs (n := w.heap.size) hb.size (by simp); have hB : Below w.heap.size w w1 := ((Below.refl _ _).alloc (Nat.le_refl _) _).trans (hb.mono (by simp)))
  refine wp_loop_rounds 4 ?_
  rw [rounds_succ]
  go_wp2
  go_quiet ((go_at_call 40; exact Calls.quiet_of_same (fq_i _ _)))
  go_wp2
  rw [rounds_succ]
  go_wp2
  go_quiet ((go_at_call 40; exact Calls.quiet_of_same (fq_m _ _)))
  go_wp2
  rw [rounds_succ]
  go_wp2
  go_quiet ((go_at_call 40; exact Calls.quiet_of_same (fq_d _ _)))
  go_wp2
  rw [rounds_succ]
  go_wp2
  go_ret
  refine ⟨congrArg (fun z => Ending.returned (.int .u16 z)) HB.out, ?_⟩
  repeat' first | exact hB | refine Below.alloc ?_ (by first | omega | (simp <;> omega)) _ | refine below_drewN ?_ _
  case hb => exact put_bits_5 imm m d (by omega) (by omega) (by omega) (by omega) (by omega) (by omega)
end Go.Proofs.YtagjnannnahplaaDoor
