/- thumb.field: which field of an instruction a letter names. -/
import Derived.Test.YtagjnannnahplaaDoorTShapes
namespace Go.Proofs.YtagjnannnahplaaDoor
open Go.RowKit
set_option linter.unusedVariables false
def FieldAt (of : Int) (k : Nat) : Prop := ∀ (b : Nat) (w : World), Calls Tryd.prog 40 #[.pointer (some ⟨b, 0, none⟩), .int .u8 of] w fun e w' => e = .returned (.pointer (some ⟨b, k, none⟩)) ∧ w = w'
theorem field_d : FieldAt 100 1 := by
  intro b w
  go_enter Tryd.func40, Tryd.ntmps40
  go_wp2
  go_ret
  exact ⟨rfl, rfl⟩
theorem field_c : FieldAt 99 1 := by
  intro b w
  go_enter Tryd.func40, Tryd.ntmps40
  go_wp2
  go_ret
  exact ⟨rfl, rfl⟩
theorem field_n : FieldAt 110 2 := by
  intro b w
  go_enter Tryd.func40, Tryd.ntmps40
  go_wp2
  go_ret
  exact ⟨rfl, rfl⟩
theorem field_m : FieldAt 109 3 := by
  intro b w
  go_enter Tryd.func40, Tryd.ntmps40
  go_wp2
  go_ret
  exact ⟨rfl, rfl⟩
theorem field_i : FieldAt 105 4 := by
  intro b w
  go_enter Tryd.func40, Tryd.ntmps40
  go_wp2
  go_ret
  exact ⟨rfl, rfl⟩
theorem field_0 : FieldAt 0 4 := by
  intro b w
  go_enter Tryd.func40, Tryd.ntmps40
  go_wp2
  go_ret
  exact ⟨rfl, rfl⟩
end Go.Proofs.YtagjnannnahplaaDoor
