/- thumb.put walked at the operations 17, 18, 19, 20. -/
import Derived.Test.YtagjnannnahplaaDoorTPut
import Derived.Test.YtagjnannnahplaaDoorTShapesD
namespace Go.Proofs.YtagjnannnahplaaDoor
open Go.RowKit
set_option linter.unusedVariables false
set_option linter.unusedSimpArgs false
set_option maxRecDepth 100000 in
set_option maxHeartbeats 2000000 in
theorem put_17 : PutAt 17 := by
  intro d n m imm w hcan
  simp only [canB, inB, regB, Bool.and_eq_true, decide_eq_true_eq, beq_iff_eq] at hcan
  have HB : Hid (bits BinOp.or IntKind.u16 57344 (IntKind.u16.wrap (IntKind.u16.wrap (bits BinOp.and IntKind.i64 imm 2047))) = 57344 + (imm % 2048)) := ?hb
  obtain rfl : d = 0 := by omega
  obtain rfl : n = 0 := by omega
  obtain rfl : m = 0 := by omega
  clear hcan
  have i0 := idx_0
  have i1 := idx_1
  have i2 := idx_2
  go_enter Tryd.func50, Tryd.ntmps50
  go_wp2_with (go_at_call 39; refine (shapes_17 _).mono ?_; rintro e w1 ⟨he, hb⟩; simp only [shapeOf, Shape.val] at he; subst he; obtain ⟨hc, hf⟩ := bcell hb; obtain ⟨z0, z1, z2, z3, z4⟩ := zs (n := w.heap.size) hb.size (by simp); have hB : Below w.heap.size w w1 := ((Below.refl _ _).alloc (Nat.le_refl _) _).trans (hb.mono (by simp)))
  refine wp_loop_rounds 4 ?_
  rw [rounds_succ]
  go_wp2
  go_quiet ((go_at_call 40; exact Calls.quiet_of_same (fq_i _ _)))
  go_wp2
  rw [rounds_succ]
  go_wp2
  rw [rounds_succ]
  go_wp2
  rw [rounds_succ]
  go_wp2
  go_ret
  refine ⟨congrArg (fun z => Ending.returned (.int .u16 z)) HB.out, ?_⟩
  repeat' first | exact hB | refine Below.alloc ?_ (by first | omega | (simp <;> omega)) _ | refine below_drewN ?_ _
  case hb => exact put_bits_17 imm (by omega) (by omega)
set_option maxRecDepth 100000 in
set_option maxHeartbeats 2000000 in
theorem put_18 : PutAt 18 := by
  intro d n m imm w hcan
  simp only [canB, inB, regB, Bool.and_eq_true, decide_eq_true_eq, beq_iff_eq] at hcan
  have HB : Hid (bits BinOp.or IntKind.u16 (bits BinOp.or IntKind.u16 53248 (IntKind.u16.wrap ((IntKind.u16.wrap (bits BinOp.and IntKind.i64 d 15)) * 256))) (IntKind.u16.wrap (IntKind.u16.wrap (bits BinOp.and IntKind.i64 imm 255))) = 53248 + d * 256 + (imm % 256)) := ?hb
  obtain rfl : n = 0 := by omega
  obtain rfl : m = 0 := by omega
  clear hcan
  have i0 := idx_0
  have i1 := idx_1
  have i2 := idx_2
  go_enter Tryd.func50, Tryd.ntmps50
  go_wp2_with (go_at_call 39; refine (shapes_18 _).mono ?_; rintro e w1 ⟨he, hb⟩; simp only [shapeOf, Shape.val] at he; subst he; obtain ⟨hc, hf⟩ := bcell hb; obtain ⟨z0, z1, z2, z3, z4⟩ := zs (n := w.heap.size) hb.size (by simp); have hB : Below w.heap.size w w1 := ((Below.refl _ _).alloc (Nat.le_refl _) _).trans (hb.mono (by simp)))
  refine wp_loop_rounds 4 ?_
  rw [rounds_succ]
  go_wp2
  go_quiet ((go_at_call 40; exact Calls.quiet_of_same (fq_c _ _)))
  go_wp2
  rw [rounds_succ]
  go_wp2
  go_quiet ((go_at_call 40; exact Calls.quiet_of_same (fq_i _ _)))
  go_wp2
  rw [rounds_succ]
  go_wp2
  rw [rounds_succ]
  go_wp2
  go_ret
  refine ⟨congrArg (fun z => Ending.returned (.int .u16 z)) HB.out, ?_⟩
  repeat' first | exact hB | refine Below.alloc ?_ (by first | omega | (simp <;> omega)) _ | refine below_drewN ?_ _
  case hb => exact put_bits_18 d imm (by omega) (by omega) (by omega) (by omega)
set_option maxRecDepth 100000 in
set_option maxHeartbeats 2000000 in
theorem put_19 : PutAt 19 := by
  intro d n m imm w hcan
  simp only [canB, inB, regB, Bool.and_eq_true, decide_eq_true_eq, beq_iff_eq] at hcan
  obtain rfl : d = 0 := by omega
  obtain rfl : n = 0 := by omega
  obtain rfl : m = 0 := by omega
  obtain rfl : imm = 0 := by omega
  clear hcan
  have i0 := idx_0
  have i1 := idx_1
  have i2 := idx_2
  go_enter Tryd.func50, Tryd.ntmps50
  go_wp2_with (go_at_call 39; refine (shapes_19 _).mono ?_; rintro e w1 ⟨he, hb⟩; simp only [shapeOf, Shape.val] at he; subst he; obtain ⟨hc, hf⟩ := bcell hb; obtain ⟨z0, z1, z2, z3, z4⟩ := zs (n := w.heap.size) hb.size (by simp); have hB : Below w.heap.size w w1 := ((Below.refl _ _).alloc (Nat.le_refl _) _).trans (hb.mono (by simp)))
  refine wp_loop_rounds 4 ?_
  rw [rounds_succ]
  go_wp2
  rw [rounds_succ]
  go_wp2
  rw [rounds_succ]
  go_wp2
  rw [rounds_succ]
  go_wp2
  go_ret
  refine ⟨rfl, ?_⟩
  repeat' first | exact hB | refine Below.alloc ?_ (by first | omega | (simp <;> omega)) _ | refine below_drewN ?_ _
set_option maxRecDepth 100000 in
set_option maxHeartbeats 2000000 in
theorem put_20 : PutAt 20 := by
  intro d n m imm w hcan
  simp only [canB, inB, regB, Bool.and_eq_true, decide_eq_true_eq, beq_iff_eq] at hcan
  have HB : Hid (bits BinOp.or IntKind.u16 48640 (IntKind.u16.wrap (IntKind.u16.wrap (bits BinOp.and IntKind.i64 imm 255))) = 48640 + imm) := ?hb
  obtain rfl : d = 0 := by omega
  obtain rfl : n = 0 := by omega
  obtain rfl : m = 0 := by omega
  clear hcan
  have i0 := idx_0
  have i1 := idx_1
  have i2 := idx_2
  go_enter Tryd.func50, Tryd.ntmps50
  go_wp2_with (go_at_call 39; refine (shapes_20 _).mono ?_; rintro e w1 ⟨he, hb⟩; simp only [shapeOf, Shape.val] at he; subst he; obtain ⟨hc, hf⟩ := bcell hb; obtain ⟨z0, z1, z2, z3, z4⟩ := zs (n := w.heap.size) hb.size (by simp); have hB : Below w.heap.size w w1 := ((Below.refl _ _).alloc (Nat.le_refl _) _).trans (hb.mono (by simp)))
  refine wp_loop_rounds 4 ?_
  rw [rounds_succ]
  go_wp2
  go_quiet ((go_at_call 40; exact Calls.quiet_of_same (fq_i _ _)))
  go_wp2
  rw [rounds_succ]
  go_wp2
  rw [rounds_succ]
  go_wp2
  rw [rounds_succ]
  go_wp2
  go_ret
  refine ⟨congrArg (fun z => Ending.returned (.int .u16 z)) HB.out, ?_⟩
  repeat' first | exact hB | refine Below.alloc ?_ (by first | omega | (simp <;> omega)) _ | refine below_drewN ?_ _
  case hb => exact put_bits_20 imm (by omega) (by omega)
end Go.Proofs.YtagjnannnahplaaDoor
