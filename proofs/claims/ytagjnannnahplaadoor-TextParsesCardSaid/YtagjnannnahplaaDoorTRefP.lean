/- The reference's Can is ours; its Show at every instruction. -/
import Derived.Test.YtagjnannnahplaaDoorTTop
import Derived.Test.YtagjnannnahplaaDoorTRefG1
import Derived.Test.YtagjnannnahplaaDoorTRefG2
import Derived.Test.YtagjnannnahplaaDoorTRefG3
import Derived.Test.YtagjnannnahplaaDoorTRefG4
import Derived.Test.YtagjnannnahplaaDoorTRefG5
import Derived.Test.YtagjnannnahplaaDoorTRefG6
import Derived.Test.YtagjnannnahplaaDoorTRefG7
namespace Go.Proofs.YtagjnannnahplaaDoor
open Go.RowKit
set_option linter.unusedVariables false
set_option linter.unusedSimpArgs false
theorem rcan_eq (k : Nat) (hk : k < 21) (d n m imm : Int) : rcanB k d n m imm = canB k d n m imm := by
  match k, hk with
  | 0, _ | 1, _ | 2, _ | 3, _ | 4, _ | 5, _ | 6, _ | 7, _ | 8, _ | 9, _ | 10, _ | 11, _ | 12, _ | 13, _ | 14, _ | 15, _ | 16, _ | 17, _ | 18, _ | 19, _ | 20, _ =>
    simp only [rcanB, canB, inB, regB, rshapesL, lowsL, highsL, List.getD_cons_zero, List.getD_cons_succ]
    rw [Bool.eq_iff_iff]
    simp
    omega
  | k + 21, h' => exact absurd h' (by omega)
theorem rshow_at (k : Nat) (hk : k < 21) : RShowAt k := by
  match k, hk with
  | 0, _ => exact rshow_0
  | 1, _ => exact rshow_1
  | 2, _ => exact rshow_2
  | 3, _ => exact rshow_3
  | 4, _ => exact rshow_4
  | 5, _ => exact rshow_5
  | 6, _ => exact rshow_6
  | 7, _ => exact rshow_7
  | 8, _ => exact rshow_8
  | 9, _ => exact rshow_9
  | 10, _ => exact rshow_10
  | 11, _ => exact rshow_11
  | 12, _ => exact rshow_12
  | 13, _ => exact rshow_13
  | 14, _ => exact rshow_14
  | 15, _ => exact rshow_15
  | 16, _ => exact rshow_16
  | 17, _ => exact rshow_17
  | 18, _ => exact rshow_18
  | 19, _ => exact rshow_19
  | 20, _ => exact rshow_20
  | k + 21, h => exact absurd h (by omega)
set_option maxRecDepth 100000 in
set_option maxHeartbeats 2000000 in
theorem rcan_out (op d n m imm : Int) (w : World) (h : op < 0 ∨ 21 ≤ op) : Calls Tryd.prog 14 #[.agg #[.int .i64 op, .int .i64 d, .int .i64 n, .int .i64 m, .int .i64 imm]] w fun e w' => e = .returned (.bool false) ∧ Below w.heap.size w w' := by
  rcases h with h | h
  · go_enter Tryd.func14, Tryd.ntmps14
    go_wp2_with fail
    go_ret
    exact ⟨rfl, by go_grown⟩
  · have h0 : ¬ op < 0 := by omega
    have h1 : 20 < op := by omega
    go_enter Tryd.func14, Tryd.ntmps14
    go_wp2_with fail
    go_ret
    exact ⟨rfl, by go_grown⟩
theorem rcanI_call (op d n m imm : Int) (w : World) : Calls Tryd.prog 14 #[.agg #[.int .i64 op, .int .i64 d, .int .i64 n, .int .i64 m, .int .i64 imm]] w fun e w' => e = .returned (.bool (canI op d n m imm)) ∧ Below w.heap.size w w' := by
  by_cases h : 0 ≤ op ∧ op < 21
  · have := rcan_any op.toNat (by omega) d n m imm w
    rw [show ((op.toNat : Nat) : Int) = op from by omega, rcan_eq _ (by omega)] at this
    rw [show canI op d n m imm = canB op.toNat d n m imm from by unfold canI; simp [h]]
    exact this
  · rw [show canI op d n m imm = false from by unfold canI; simp [h]]
    exact rcan_out op d n m imm w (by omega)
set_option maxRecDepth 100000 in
set_option maxHeartbeats 2000000 in
theorem rShow_any (op d n m imm : Int) (w : World) : Calls Tryd.prog 7 #[.agg #[.int .i64 op, .int .i64 d, .int .i64 n, .int .i64 m, .int .i64 imm]] w fun e w' => e = .returned (.tuple #[.string ⟨(showI op d n m imm).toArray⟩, .bool (canI op d n m imm)]) ∧ Below w.heap.size w w' := by
  by_cases hc : canI op d n m imm = true
  · have hc2 := hc
    unfold canI at hc2
    simp only [Bool.and_eq_true, decide_eq_true_eq] at hc2
    have := rshow_at op.toNat (by omega) d n m imm w hc2.2 (by rw [rcan_eq _ (by omega)]; exact hc2.2)
    rw [show ((op.toNat : Nat) : Int) = op from by omega] at this
    rw [show showI op d n m imm = showB op.toNat d n m imm from by unfold showI; rw [if_pos hc], hc]
    exact this
  · have hcan := fun w => rcanI_call op d n m imm w
    rw [show showI op d n m imm = [] from by unfold showI; rw [if_neg hc]]
    rw [Bool.not_eq_true] at hc
    rw [hc] at hcan ⊢
    clear hc
    go_enter Tryd.func7, Tryd.ntmps7
    go_wp2_with fail
    refine (hcan _).mono ?_
    rintro e w1 ⟨rfl, hb⟩
    go_wp2_with fail
    go_ret2
    exact ⟨rfl, (Below.alloc (Below.refl _ _) (Nat.le_refl _) _).trans (hb.mono (by simp))⟩
end Go.Proofs.YtagjnannnahplaaDoor
