/- thumb.shapes walked at the operations 6 to 11. -/
import Derived.Test.YtagjnannnahplaaDoorTShapes
namespace Go.Proofs.YtagjnannnahplaaDoor
open Go.RowKit
set_option linter.unusedVariables false
set_option maxRecDepth 100000 in
set_option maxHeartbeats 1000000 in
theorem shapes_6 : ShapesAt 6 := by
  intro w
  go_enter Tryd.func39, Tryd.ntmps39
  go_wp2
  exact bodyPost_ret (v := (shapeOf 6).val) (by simp [results, Tryd.results39, go_sem, shapeOf, Shape.val]) rfl ⟨rfl, (((((((Below.refl _ _).alloc (by simp <;> omega) _).alloc (by simp <;> omega) _).alloc (by simp <;> omega) _).alloc (by simp <;> omega) _).alloc (by simp <;> omega) _).alloc (by simp <;> omega) _)⟩
set_option maxRecDepth 100000 in
set_option maxHeartbeats 1000000 in
theorem shapes_7 : ShapesAt 7 := by
  intro w
  go_enter Tryd.func39, Tryd.ntmps39
  go_wp2
  exact bodyPost_ret (v := (shapeOf 7).val) (by simp [results, Tryd.results39, go_sem, shapeOf, Shape.val]) rfl ⟨rfl, (((((((Below.refl _ _).alloc (by simp <;> omega) _).alloc (by simp <;> omega) _).alloc (by simp <;> omega) _).alloc (by simp <;> omega) _).alloc (by simp <;> omega) _).alloc (by simp <;> omega) _)⟩
set_option maxRecDepth 100000 in
set_option maxHeartbeats 1000000 in
theorem shapes_8 : ShapesAt 8 := by
  intro w
  go_enter Tryd.func39, Tryd.ntmps39
  go_wp2
  exact bodyPost_ret (v := (shapeOf 8).val) (by simp [results, Tryd.results39, go_sem, shapeOf, Shape.val]) rfl ⟨rfl, (((((((Below.refl _ _).alloc (by simp <;> omega) _).alloc (by simp <;> omega) _).alloc (by simp <;> omega) _).alloc (by simp <;> omega) _).alloc (by simp <;> omega) _).alloc (by simp <;> omega) _)⟩
set_option maxRecDepth 100000 in
set_option maxHeartbeats 1000000 in
theorem shapes_9 : ShapesAt 9 := by
  intro w
  go_enter Tryd.func39, Tryd.ntmps39
  go_wp2
  exact bodyPost_ret (v := (shapeOf 9).val) (by simp [results, Tryd.results39, go_sem, shapeOf, Shape.val]) rfl ⟨rfl, (((((((Below.refl _ _).alloc (by simp <;> omega) _).alloc (by simp <;> omega) _).alloc (by simp <;> omega) _).alloc (by simp <;> omega) _).alloc (by simp <;> omega) _).alloc (by simp <;> omega) _)⟩
set_option maxRecDepth 100000 in
set_option maxHeartbeats 1000000 in
theorem shapes_10 : ShapesAt 10 := by
  intro w
  go_enter Tryd.func39, Tryd.ntmps39
  go_wp2
  exact bodyPost_ret (v := (shapeOf 10).val) (by simp [results, Tryd.results39, go_sem, shapeOf, Shape.val]) rfl ⟨rfl, (((((((Below.refl _ _).alloc (by simp <;> omega) _).alloc (by simp <;> omega) _).alloc (by simp <;> omega) _).alloc (by simp <;> omega) _).alloc (by simp <;> omega) _).alloc (by simp <;> omega) _)⟩
set_option maxRecDepth 100000 in
set_option maxHeartbeats 1000000 in
theorem shapes_11 : ShapesAt 11 := by
  intro w
  go_enter Tryd.func39, Tryd.ntmps39
  go_wp2
  exact bodyPost_ret (v := (shapeOf 11).val) (by simp [results, Tryd.results39, go_sem, shapeOf, Shape.val]) rfl ⟨rfl, (((((((Below.refl _ _).alloc (by simp <;> omega) _).alloc (by simp <;> omega) _).alloc (by simp <;> omega) _).alloc (by simp <;> omega) _).alloc (by simp <;> omega) _).alloc (by simp <;> omega) _)⟩
end Go.Proofs.YtagjnannnahplaaDoor
