/- bautaref02: Shape, has, Low, High. -/
import Derived.Test.YtagjnannnahplaaDoorTRef0
namespace Go.Proofs.YtagjnannnahplaaDoor
open Go.RowKit
set_option linter.unusedVariables false
set_option linter.unusedSimpArgs false
set_option maxRecDepth 100000 in
set_option maxHeartbeats 4000000 in
theorem rlow_any (k : Nat) (hk : k < 21) (w : World) :
    Calls Tryd.prog 30 #[.int .i64 k] w fun e w' => e = .returned (.int .i64 (lowsL.getD k 0)) ∧ Below w.heap.size w w' := by
  match k, hk with
  | 0, _ | 1, _ | 2, _ | 3, _ | 4, _ | 5, _ | 6, _ | 7, _ | 8, _ | 9, _ | 10, _ | 11, _ | 12, _ | 13, _ | 14, _ | 15, _ | 16, _ | 17, _ | 18, _ | 19, _ | 20, _ =>
    go_enter Tryd.func30, Tryd.ntmps30
    go_wp2_with fail
    go_ret
    exact ⟨rfl, by repeat' first | exact Below.refl _ _ | refine Below.alloc ?_ (by first | omega | (simp <;> omega)) _⟩
  | k + 21, h => exact absurd h (by omega)
end Go.Proofs.YtagjnannnahplaaDoor
