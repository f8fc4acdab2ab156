/- thumb.can walked at the operations 0, 1, 2, 3, 4, 5. -/
import Derived.Test.YtagjnannnahplaaDoorTCan
import Derived.Test.YtagjnannnahplaaDoorTShapesA
namespace Go.Proofs.YtagjnannnahplaaDoor
open Go.RowKit
set_option linter.unusedVariables false
set_option linter.unusedSimpArgs false
set_option maxRecDepth 100000 in
set_option maxHeartbeats 2000000 in
theorem can_0 : CanAt 0 := by
  intro d n m imm w
  have i0 := idx_0
  have i1 := idx_1
  have i2 := idx_2
  go_enter Tryd.func23, Tryd.ntmps23
  go_wp2_with (go_at_call 39; refine (shapes_0 _).mono ?_; rintro e w1 ⟨he, hb⟩; simp only [shapeOf, Shape.val] at he; subst he; obtain ⟨hc, hf⟩ := bcell hb; obtain ⟨z0, z1, z2, z3, z4⟩ := zs (n := w.heap.size) hb.size (by simp); have hB : Below w.heap.size w w1 := ((Below.refl _ _).alloc (Nat.le_refl _) _).trans (hb.mono (by simp)))
  any_goals (refine wp_loop_rounds 4 ?_; repeat any_goals (rw [rounds_succ]; go_wp2))
  all_goals go_ret
  all_goals refine ⟨?_, by go_grown⟩
  all_goals (refine congrArg (fun b => Ending.returned (.bool b)) ?_)
  all_goals (simp only [canB, inB, regB])
  all_goals (first | (simp_all; omega) | (simp_all; done) | (rw [Bool.eq_iff_iff]; simp; omega))
set_option maxRecDepth 100000 in
set_option maxHeartbeats 2000000 in
theorem can_1 : CanAt 1 := by
  intro d n m imm w
  have i0 := idx_0
  have i1 := idx_1
  have i2 := idx_2
  go_enter Tryd.func23, Tryd.ntmps23
  go_wp2_with (go_at_call 39; refine (shapes_1 _).mono ?_; rintro e w1 ⟨he, hb⟩; simp only [shapeOf, Shape.val] at he; subst he; obtain ⟨hc, hf⟩ := bcell hb; obtain ⟨z0, z1, z2, z3, z4⟩ := zs (n := w.heap.size) hb.size (by simp); have hB : Below w.heap.size w w1 := ((Below.refl _ _).alloc (Nat.le_refl _) _).trans (hb.mono (by simp)))
  any_goals (refine wp_loop_rounds 4 ?_; repeat any_goals (rw [rounds_succ]; go_wp2))
  all_goals go_ret
  all_goals refine ⟨?_, by go_grown⟩
  all_goals (refine congrArg (fun b => Ending.returned (.bool b)) ?_)
  all_goals (simp only [canB, inB, regB])
  all_goals (first | (simp_all; omega) | (simp_all; done) | (rw [Bool.eq_iff_iff]; simp; omega))
set_option maxRecDepth 100000 in
set_option maxHeartbeats 2000000 in
theorem can_2 : CanAt 2 := by
  intro d n m imm w
  have i0 := idx_0
  have i1 := idx_1
  have i2 := idx_2
  go_enter Tryd.func23, Tryd.ntmps23
  go_wp2_with (go_at_call 39; refine (shapes_2 _).mono ?_; rintro e w1 ⟨he, hb⟩; simp only [shapeOf, Shape.val] at he; subst he; obtain ⟨hc, hf⟩ := bcell hb; obtain ⟨z0, z1, z2, z3, z4⟩ := zs (n := w.heap.size) hb.size (by simp); have hB : Below w.heap.size w w1 := ((Below.refl _ _).alloc (Nat.le_refl _) _).trans (hb.mono (by simp)))
  any_goals (refine wp_loop_rounds 4 ?_; repeat any_goals (rw [rounds_succ]; go_wp2))
  all_goals go_ret
  all_goals refine ⟨?_, by go_grown⟩
  all_goals (refine congrArg (fun b => Ending.returned (.bool b)) ?_)
  all_goals (simp only [canB, inB, regB])
  all_goals (first | (simp_all; omega) | (simp_all; done) | (rw [Bool.eq_iff_iff]; simp; omega))
set_option maxRecDepth 100000 in
set_option maxHeartbeats 2000000 in
theorem can_3 : CanAt 3 := by
  intro d n m imm w
  have i0 := idx_0
  have i1 := idx_1
  have i2 := idx_2
  go_enter Tryd.func23, Tryd.ntmps23
  go_wp2_with (go_at_call 39; refine (shapes_3 _).mono ?_; rintro e w1 ⟨he, hb⟩; simp only [shapeOf, Shape.val] at he; subst he; obtain ⟨hc, hf⟩ := bcell hb; obtain ⟨z0, z1, z2, z3, z4⟩ := zs (n := w.heap.size) hb.size (by simp); have hB : Below w.heap.size w w1 := ((Below.refl _ _).alloc (Nat.le_refl _) _).trans (hb.mono (by simp)))
  any_goals (refine wp_loop_rounds 4 ?_; repeat any_goals (rw [rounds_succ]; go_wp2))
  all_goals go_ret
  all_goals refine ⟨?_, by go_grown⟩
  all_goals (refine congrArg (fun b => Ending.returned (.bool b)) ?_)
  all_goals (simp only [canB, inB, regB])
  all_goals (first | (simp_all; omega) | (simp_all; done) | (rw [Bool.eq_iff_iff]; simp; omega))
set_option maxRecDepth 100000 in
set_option maxHeartbeats 2000000 in
theorem can_4 : CanAt 4 := by
  intro d n m imm w
  have i0 := idx_0
  have i1 := idx_1
  have i2 := idx_2
  go_enter Tryd.func23, Tryd.ntmps23
  go_wp2_with (go_at_call 39; refine (shapes_4 _).mono ?_; rintro e w1 ⟨he, hb⟩; simp only [shapeOf, Shape.val] at he; subst he; obtain ⟨hc, hf⟩ := bcell hb; obtain ⟨z0, z1, z2, z3, z4⟩ := zs (n := w.heap.size) hb.size (by simp); have hB : Below w.heap.size w w1 := ((Below.refl _ _).alloc (Nat.le_refl _) _).trans (hb.mono (by simp)))
  any_goals (refine wp_loop_rounds 4 ?_; repeat any_goals (rw [rounds_succ]; go_wp2))
  all_goals go_ret
  all_goals refine ⟨?_, by go_grown⟩
  all_goals (refine congrArg (fun b => Ending.returned (.bool b)) ?_)
  all_goals (simp only [canB, inB, regB])
  all_goals (first | (simp_all; omega) | (simp_all; done) | (rw [Bool.eq_iff_iff]; simp; omega))
set_option maxRecDepth 100000 in
set_option maxHeartbeats 2000000 in
theorem can_5 : CanAt 5 := by
  intro d n m imm w
  have i0 := idx_0
  have i1 := idx_1
  have i2 := idx_2
  go_enter Tryd.func23, Tryd.ntmps23
  go_wp2_with (go_at_call 39; refine (shapes_5 _).mono ?_; rintro e w1 ⟨he, hb⟩; simp only [shapeOf, Shape.val] at he; subst he; obtain ⟨hc, hf⟩ := bcell hb; obtain ⟨z0, z1, z2, z3, z4⟩ := zs (n := w.heap.size) hb.size (by simp); have hB : Below w.heap.size w w1 := ((Below.refl _ _).alloc (Nat.le_refl _) _).trans (hb.mono (by simp)))
  any_goals (refine wp_loop_rounds 4 ?_; repeat any_goals (rw [rounds_succ]; go_wp2))
  all_goals go_ret
  all_goals refine ⟨?_, by go_grown⟩
  all_goals (refine congrArg (fun b => Ending.returned (.bool b)) ?_)
  all_goals (simp only [canB, inB, regB])
  all_goals (first | (simp_all; omega) | (simp_all; done) | (rw [Bool.eq_iff_iff]; simp; omega))
end Go.Proofs.YtagjnannnahplaaDoor
