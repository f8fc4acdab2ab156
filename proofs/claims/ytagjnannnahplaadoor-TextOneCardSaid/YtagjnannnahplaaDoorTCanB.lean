/- thumb.can walked at the operations 6, 7, 8, 9, 10, 11. -/
import Derived.Test.YtagjnannnahplaaDoorTCan
import Derived.Test.YtagjnannnahplaaDoorTShapesB
namespace Go.Proofs.YtagjnannnahplaaDoor
open Go.RowKit
set_option linter.unusedVariables false
set_option linter.unusedSimpArgs false
set_option maxRecDepth 100000 in
set_option maxHeartbeats 2000000 in
theorem can_6 : CanAt 6 := by
  intro d n m imm w
  have i0 := idx_0
  have i1 := idx_1
  have i2 := idx_2
  go_enter Tryd.func23, Tryd.ntmps23
  go_wp2_with (go_at_call 39; refine (shapes_6 _).mono ?_; rintro e w1 ⟨he, hb⟩; simp only [shapeOf, Shape.val] at he; subst he; obtain ⟨hc, hf⟩ := bcell hb; obtain ⟨z0, z1, z2, z3, z4⟩ := zs (n := w.heap.size) hb.size (by simp); have hB : Below w.heap.size w w1 := ((Below.refl _ _).alloc (Nat.le_refl _) _).trans (hb.mono (by simp)))
  any_goals (refine wp_loop_rounds 4 ?_; repeat any_goals (rw [rounds_succ]; go_wp2))
  all_goals go_ret
  all_goals refine ⟨?_, by go_grown⟩
  all_goals (refine congrArg (fun b => Ending.returned (.bool b)) ?_)
  all_goals (simp only [canB, inB, regB])
  all_goals (first | (simp_all; omega) | (simp_all; done) | (rw [Bool.eq_iff_iff]; simp; omega))
set_option maxRecDepth 100000 in
set_option maxHeartbeats 2000000 in
theorem can_7 : CanAt 7 := by
  intro d n m imm w
  have i0 := idx_0
  have i1 := idx_1
  have i2 := idx_2
  go_enter Tryd.func23, Tryd.ntmps23
  go_wp2_with (go_at_call 39; refine (shapes_7 _).mono ?_; rintro e w1 ⟨he, hb⟩; simp only [shapeOf, Shape.val] at he; subst he; obtain ⟨hc, hf⟩ := bcell hb; obtain ⟨z0, z1, z2, z3, z4⟩ := zs (n := w.heap.size) hb.size (by simp); have hB : Below w.heap.size w w1 := ((Below.refl _ _).alloc (Nat.le_refl _) _).trans (hb.mono (by simp)))
  any_goals (refine wp_loop_rounds 4 ?_; repeat any_goals (rw [rounds_succ]; go_wp2))
  all_goals go_ret
  all_goals refine ⟨?_, by go_grown⟩
  all_goals (refine congrArg (fun b => Ending.returned (.bool b)) ?_)
  all_goals (simp only [canB, inB, regB])
  all_goals (first | (simp_all; omega) | (simp_all; done) | (rw [Bool.eq_iff_iff]; simp; omega))
set_option maxRecDepth 100000 in
set_option maxHeartbeats 2000000 in
theorem can_8 : CanAt 8 := by
  intro d n m imm w
  have i0 := idx_0
  have i1 := idx_1
  have i2 := idx_2
  go_enter Tryd.func23, Tryd.ntmps23
  go_wp2_with (go_at_call 39; refine (shapes_8 _).mono ?_; rintro e w1 ⟨he, hb⟩; simp only [shapeOf, Shape.val] at he; subst he; obtain ⟨hc, hf⟩ := bcell hb; obtain ⟨z0, z1, z2, z3, z4⟩ := zs (n := w.heap.size) hb.size (by simp); have hB : Below w.heap.size w w1 := ((Below.refl _ _).alloc (Nat.le_refl _) _).trans (hb.mono (by simp)))
  any_goals (refine wp_loop_rounds 4 ?_; repeat any_goals (rw [rounds_succ]; go_wp2))
  all_goals go_ret
  all_goals refine ⟨?_, by go_grown⟩
  all_goals (refine congrArg (fun b => Ending.returned (.bool b)) ?_)
  all_goals (simp only [canB, inB, regB])
  all_goals (first | (simp_all; omega) | (simp_all; done) | (rw [Bool.eq_iff_iff]; simp; omega))
set_option maxRecDepth 100000 in
set_option maxHeartbeats 2000000 in
theorem can_9 : CanAt 9 := by
  intro d n m imm w
  have i0 := idx_0
  have i1 := idx_1
  have i2 := idx_2
  go_enter Tryd.func23, Tryd.ntmps23
  go_wp2_with (go_at_call 39; refine (shapes_9 _).mono ?_; rintro e w1 ⟨he, hb⟩; simp only [shapeOf, Shape.val] at he; subst he; obtain ⟨hc, hf⟩ := bcell hb; obtain ⟨z0, z1, z2, z3, z4⟩ := zs (n := w.heap.size) hb.size (by simp); have hB : Below w.heap.size w w1 := ((Below.refl _ _).alloc (Nat.le_refl _) _).trans (hb.mono (by simp)))
  any_goals (refine wp_loop_rounds 4 ?_; repeat any_goals (rw [rounds_succ]; go_wp2))
  all_goals go_ret
  all_goals refine ⟨?_, by go_grown⟩
  all_goals (refine congrArg (fun b => Ending.returned (.bool b)) ?_)
  all_goals (simp only [canB, inB, regB])
  all_goals (first | (simp_all; omega) | (simp_all; done) | (rw [Bool.eq_iff_iff]; simp; omega))
set_option maxRecDepth 100000 in
set_option maxHeartbeats 2000000 in
theorem can_10 : CanAt 10 := by
  intro d n m imm w
  have i0 := idx_0
  have i1 := idx_1
  have i2 := idx_2
  go_enter Tryd.func23, Tryd.ntmps23
  go_wp2_with (go_at_call 39; refine (shapes_10 _).mono ?_; rintro e w1 ⟨he, hb⟩; simp only [shapeOf, Shape.val] at he; subst he; obtain ⟨hc, hf⟩ := bcell hb; obtain ⟨z0, z1, z2, z3, z4⟩ := zs (n := w.heap.size) hb.size (by simp); have hB : Below w.heap.size w w1 := ((Below.refl _ _).alloc (Nat.le_refl _) _).trans (hb.mono (by simp)))
  any_goals (refine wp_loop_rounds 4 ?_; repeat any_goals (rw [rounds_succ]; go_wp2))
  all_goals go_ret
  all_goals refine ⟨?_, by go_grown⟩
  all_goals (refine congrArg (fun b => Ending.returned (.bool b)) ?_)
  all_goals (simp only [canB, inB, regB])
  all_goals (first | (simp_all; omega) | (simp_all; done) | (rw [Bool.eq_iff_iff]; simp; omega))
set_option maxRecDepth 100000 in
set_option maxHeartbeats 2000000 in
theorem can_11 : CanAt 11 := by
  intro d n m imm w
  have i0 := idx_0
  have i1 := idx_1
  have i2 := idx_2
  go_enter Tryd.func23, Tryd.ntmps23
  go_wp2_with (go_at_call 39; refine (shapes_11 _).mono ?_; rintro e w1 ⟨he, hb⟩; simp only [shapeOf, Shape.val] at he; subst he; obtain ⟨hc, hf⟩ := bcell hb; obtain ⟨z0, z1, z2, z3, z4⟩ := zs (n := w.heap.size) hb.size (by simp); have hB : Below w.heap.size w w1 := ((Below.refl _ _).alloc (Nat.le_refl _) _).trans (hb.mono (by simp)))
  any_goals (refine wp_loop_rounds 4 ?_; repeat any_goals (rw [rounds_succ]; go_wp2))
  all_goals go_ret
  all_goals refine ⟨?_, by go_grown⟩
  all_goals (refine congrArg (fun b => Ending.returned (.bool b)) ?_)
  all_goals (simp only [canB, inB, regB])
  all_goals (first | (simp_all; omega) | (simp_all; done) | (rw [Bool.eq_iff_iff]; simp; omega))
end Go.Proofs.YtagjnannnahplaaDoor
