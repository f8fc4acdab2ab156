/- thumb.shapes walked at the operations 12 to 16. -/
import Derived.Test.YtagjnannnahplaaDoorTShapes
namespace Go.Proofs.YtagjnannnahplaaDoor
open Go.RowKit
set_option linter.unusedVariables false
set_option maxRecDepth 100000 in
set_option maxHeartbeats 1000000 in
theorem shapes_12 : ShapesAt 12 := by
  intro w
  go_enter Tryd.func39, Tryd.ntmps39
  go_wp2
  exact bodyPost_ret (v := (shapeOf 12).val) (by simp [results, Tryd.results39, go_sem, shapeOf, Shape.val]) rfl ⟨rfl, (((((((Below.refl _ _).alloc (by simp <;> omega) _).alloc (by simp <;> omega) _).alloc (by simp <;> omega) _).alloc (by simp <;> omega) _).alloc (by simp <;> omega) _).alloc (by simp <;> omega) _)⟩
set_option maxRecDepth 100000 in
set_option maxHeartbeats 1000000 in
theorem shapes_13 : ShapesAt 13 := by
  intro w
  go_enter Tryd.func39, Tryd.ntmps39
  go_wp2
  exact bodyPost_ret (v := (shapeOf 13).val) (by simp [results, Tryd.results39, go_sem, shapeOf, Shape.val]) rfl ⟨rfl, (((((((Below.refl _ _).alloc (by simp <;> omega) _).alloc (by simp <;> omega) _).alloc (by simp <;> omega) _).alloc (by simp <;> omega) _).alloc (by simp <;> omega) _).alloc (by simp <;> omega) _)⟩
set_option maxRecDepth 100000 in
set_option maxHeartbeats 1000000 in
theorem shapes_14 : ShapesAt 14 := by
  intro w
  go_enter Tryd.func39, Tryd.ntmps39
  go_wp2
  exact bodyPost_ret (v := (shapeOf 14).val) (by simp [results, Tryd.results39, go_sem, shapeOf, Shape.val]) rfl ⟨rfl, (((((((Below.refl _ _).alloc (by simp <;> omega) _).alloc (by simp <;> omega) _).alloc (by simp <;> omega) _).alloc (by simp <;> omega) _).alloc (by simp <;> omega) _).alloc (by simp <;> omega) _)⟩
set_option maxRecDepth 100000 in
set_option maxHeartbeats 1000000 in
theorem shapes_15 : ShapesAt 15 := by
  intro w
  go_enter Tryd.func39, Tryd.ntmps39
  go_wp2
  exact bodyPost_ret (v := (shapeOf 15).val) (by simp [results, Tryd.results39, go_sem, shapeOf, Shape.val]) rfl ⟨rfl, (((((((Below.refl _ _).alloc (by simp <;> omega) _).alloc (by simp <;> omega) _).alloc (by simp <;> omega) _).alloc (by simp <;> omega) _).alloc (by simp <;> omega) _).alloc (by simp <;> omega) _)⟩
set_option maxRecDepth 100000 in
set_option maxHeartbeats 1000000 in
theorem shapes_16 : ShapesAt 16 := by
  intro w
  go_enter Tryd.func39, Tryd.ntmps39
  go_wp2
  exact bodyPost_ret (v := (shapeOf 16).val) (by simp [results, Tryd.results39, go_sem, shapeOf, Shape.val]) rfl ⟨rfl, (((((((Below.refl _ _).alloc (by simp <;> omega) _).alloc (by simp <;> omega) _).alloc (by simp <;> omega) _).alloc (by simp <;> omega) _).alloc (by simp <;> omega) _).alloc (by simp <;> omega) _)⟩
end Go.Proofs.YtagjnannnahplaaDoor
