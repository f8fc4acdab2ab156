/- thumb.can walked at the operations 12, 13, 14, 15, 16. -/
import Derived.Test.YtagjnannnahplaaDoorTCan
import Derived.Test.YtagjnannnahplaaDoorTShapesC
namespace Go.Proofs.YtagjnannnahplaaDoor
open Go.RowKit
set_option linter.unusedVariables false
set_option linter.unusedSimpArgs false
set_option maxRecDepth 100000 in
set_option maxHeartbeats 2000000 in
theorem can_12 : CanAt 12 := by
  intro d n m imm w
  have i0 := idx_0
  have i1 := idx_1
  have i2 := idx_2
  go_enter Tryd.func23, Tryd.ntmps23
  go_wp2_with (go_at_call 39; refine (shapes_12 _).mono ?_; rintro e w1 ⟨he, hb⟩; simp only [shapeOf, Shape.val] at he; subst he; obtain ⟨hc, hf⟩ := bcell hb; obtain ⟨z0, z1, z2, z3, z4⟩ := zs (n := w.heap.size) hb.size (by simp); have hB : Below w.heap.size w w1 := ((Below.refl _ _).alloc (Nat.le_refl _) _).trans (hb.mono (by simp)))
  any_goals (refine wp_loop_rounds 4 ?_; repeat any_goals (rw [rounds_succ]; go_wp2))
  all_goals go_ret
  all_goals refine ⟨?_, by go_grown⟩
  all_goals (refine congrArg (fun b => Ending.returned (.bool b)) ?_)
  all_goals (simp only [canB, inB, regB])
  all_goals (first | (simp_all; omega) | (simp_all; done) | (rw [Bool.eq_iff_iff]; simp; omega))
set_option maxRecDepth 100000 in
set_option maxHeartbeats 2000000 in
theorem can_13 : CanAt 13 := by
  intro d n m imm w
  have i0 := idx_0
  have i1 := idx_1
  have i2 := idx_2
  go_enter Tryd.func23, Tryd.ntmps23
  go_wp2_with (go_at_call 39; refine (shapes_13 _).mono ?_; rintro e w1 ⟨he, hb⟩; simp only [shapeOf, Shape.val] at he; subst he; obtain ⟨hc, hf⟩ := bcell hb; obtain ⟨z0, z1, z2, z3, z4⟩ := zs (n := w.heap.size) hb.size (by simp); have hB : Below w.heap.size w w1 := ((Below.refl _ _).alloc (Nat.le_refl _) _).trans (hb.mono (by simp)))
  any_goals (refine wp_loop_rounds 4 ?_; repeat any_goals (rw [rounds_succ]; go_wp2))
  all_goals go_ret
  all_goals refine ⟨?_, by go_grown⟩
  all_goals (refine congrArg (fun b => Ending.returned (.bool b)) ?_)
  all_goals (simp only [canB, inB, regB])
  all_goals (first | (simp_all; omega) | (simp_all; done) | (rw [Bool.eq_iff_iff]; simp; omega))
set_option maxRecDepth 100000 in
set_option maxHeartbeats 2000000 in
theorem can_14 : CanAt 14 := by
  intro d n m imm w
  have i0 := idx_0
  have i1 := idx_1
  have i2 := idx_2
  go_enter Tryd.func23, Tryd.ntmps23
  go_wp2_with (go_at_call 39; refine (shapes_14 _).mono ?_; rintro e w1 ⟨he, hb⟩; simp only [shapeOf, Shape.val] at he; subst he; obtain ⟨hc, hf⟩ := bcell hb; obtain ⟨z0, z1, z2, z3, z4⟩ := zs (n := w.heap.size) hb.size (by simp); have hB : Below w.heap.size w w1 := ((Below.refl _ _).alloc (Nat.le_refl _) _).trans (hb.mono (by simp)))
  any_goals (refine wp_loop_rounds 4 ?_; repeat any_goals (rw [rounds_succ]; go_wp2))
  all_goals go_ret
  all_goals refine ⟨?_, by go_grown⟩
  all_goals (refine congrArg (fun b => Ending.returned (.bool b)) ?_)
  all_goals (simp only [canB, inB, regB])
  all_goals (first | (simp_all; omega) | (simp_all; done) | (rw [Bool.eq_iff_iff]; simp; omega))
set_option maxRecDepth 100000 in
set_option maxHeartbeats 2000000 in
theorem can_15 : CanAt 15 := by
  intro d n m imm w
  have i0 := idx_0
  have i1 := idx_1
  have i2 := idx_2
  go_enter Tryd.func23, Tryd.ntmps23
  go_wp2_with (go_at_call 39; refine (shapes_15 _).mono ?_; rintro e w1 ⟨he, hb⟩; simp only [shapeOf, Shape.val] at he; subst he; obtain ⟨hc, hf⟩ := bcell hb; obtain ⟨z0, z1, z2, z3, z4⟩ := zs (n := w.heap.size) hb.size (by simp); have hB : Below w.heap.size w w1 := ((Below.refl _ _).alloc (Nat.le_refl _) _).trans (hb.mono (by simp)))
  any_goals (refine wp_loop_rounds 4 ?_; repeat any_goals (rw [rounds_succ]; go_wp2))
  all_goals go_ret
  all_goals refine ⟨?_, by go_grown⟩
  all_goals (refine congrArg (fun b => Ending.returned (.bool b)) ?_)
  all_goals (simp only [canB, inB, regB])
  all_goals (first | (simp_all; omega) | (simp_all; done) | (rw [Bool.eq_iff_iff]; simp; omega))
set_option maxRecDepth 100000 in
set_option maxHeartbeats 2000000 in
theorem can_16 : CanAt 16 := by
  intro d n m imm w
  have i0 := idx_0
  have i1 := idx_1
  have i2 := idx_2
  go_enter Tryd.func23, Tryd.ntmps23
  go_wp2_with (go_at_call 39; refine (shapes_16 _).mono ?_; rintro e w1 ⟨he, hb⟩; simp only [shapeOf, Shape.val] at he; subst he; obtain ⟨hc, hf⟩ := bcell hb; obtain ⟨z0, z1, z2, z3, z4⟩ := zs (n := w.heap.size) hb.size (by simp); have hB : Below w.heap.size w w1 := ((Below.refl _ _).alloc (Nat.le_refl _) _).trans (hb.mono (by simp)))
  any_goals (refine wp_loop_rounds 4 ?_; repeat any_goals (rw [rounds_succ]; go_wp2))
  all_goals go_ret
  all_goals refine ⟨?_, by go_grown⟩
  all_goals (refine congrArg (fun b => Ending.returned (.bool b)) ?_)
  all_goals (simp only [canB, inB, regB])
  all_goals (first | (simp_all; omega) | (simp_all; done) | (rw [Bool.eq_iff_iff]; simp; omega))
end Go.Proofs.YtagjnannnahplaaDoor
