/- text.show at every instruction, and thumb.Can, text.Show. -/
import Derived.Test.YtagjnannnahplaaDoorTShow
import Derived.Test.YtagjnannnahplaaDoorTCanA
import Derived.Test.YtagjnannnahplaaDoorTCanB
import Derived.Test.YtagjnannnahplaaDoorTCanC
import Derived.Test.YtagjnannnahplaaDoorTCanD
namespace Go.Proofs.YtagjnannnahplaaDoor
open Go.RowKit
set_option linter.unusedVariables false
set_option linter.unusedSimpArgs false
theorem can_any (k : Nat) (hk : k < 21) : CanAt k := by
  match k, hk with
  | 0, _ => exact can_0
  | 1, _ => exact can_1
  | 2, _ => exact can_2
  | 3, _ => exact can_3
  | 4, _ => exact can_4
  | 5, _ => exact can_5
  | 6, _ => exact can_6
  | 7, _ => exact can_7
  | 8, _ => exact can_8
  | 9, _ => exact can_9
  | 10, _ => exact can_10
  | 11, _ => exact can_11
  | 12, _ => exact can_12
  | 13, _ => exact can_13
  | 14, _ => exact can_14
  | 15, _ => exact can_15
  | 16, _ => exact can_16
  | 17, _ => exact can_17
  | 18, _ => exact can_18
  | 19, _ => exact can_19
  | 20, _ => exact can_20
  | k + 21, h => exact absurd h (by omega)
theorem can_bounds (k : Nat) (d n m imm : Int) (hk : k < 21) (h : canB k d n m imm = true) : (-1024 ≤ d ∧ d ≤ 1024) ∧ (-1024 ≤ n ∧ n ≤ 1024) ∧ (-1024 ≤ m ∧ m ≤ 1024) ∧ (-1024 ≤ imm ∧ imm ≤ 1024) := by
  match k, hk with
  | 0, _ | 1, _ | 2, _ | 3, _ | 4, _ | 5, _ | 6, _ | 7, _ | 8, _ | 9, _ | 10, _ | 11, _ | 12, _ | 13, _ | 14, _ | 15, _ | 16, _ | 17, _ | 18, _ | 19, _ | 20, _ =>
    simp only [canB, inB, regB, Bool.and_eq_true, decide_eq_true_eq, beq_iff_eq] at h
    omega
  | k + 21, h' => exact absurd h' (by omega)
set_option maxRecDepth 100000 in
set_option maxHeartbeats 4000000 in
theorem show_dash (d n m imm : Int) (w : World) (ht : Tabs w) (hcan : canB 19 d n m imm = true) :
    Calls Tryd.prog 13 #[.agg #[.int .i64 19, .int .i64 d, .int .i64 n, .int .i64 m, .int .i64 imm]] w fun e w' => e = .returned (.string ⟨(showB 19 d n m imm).toArray⟩) ∧ Below w.heap.size w w' := by
  have HS : Hid (showB 19 d n m imm = wordB 19 d imm) := rfl
  go_enter Tryd.func13, Tryd.ntmps13
  go_upto_region 1 with fail
  go_cut [3] (fun s3 wx => s3 = .string ⟨#[45]⟩ ∧ Below w.heap.size w wx ∧ wx.heap[w.heap.size]? = some (.cells #[.int .i64 19, .int .i64 d, .int .i64 n, .int .i64 m, .int .i64 imm] 23 (0, 0)))
  case first =>
    have hc : (w.alloc (.cells #[.int .i64 19, .int .i64 d, .int .i64 n, .int .i64 m, .int .i64 imm] 23)).cell? ⟨w.heap.size, 0, none⟩ = some (.int .i64 19) := by simp [go_sem]
    have hbx : (w.alloc (.cells #[.int .i64 19, .int .i64 d, .int .i64 n, .int .i64 m, .int .i64 imm] 23)).heap[w.heap.size]? = some (.cells #[.int .i64 19, .int .i64 d, .int .i64 n, .int .i64 m, .int .i64 imm] 23 (0, 0)) := heap_alloc_new w _
    have hBW : Below w.heap.size w (w.alloc (.cells #[.int .i64 19, .int .i64 d, .int .i64 n, .int .i64 m, .int .i64 imm] 23)) := (Below.refl _ _).alloc (Nat.le_refl _) _
    have ht' := ht.below hBW
    have hsz : (w.alloc (.cells #[.int .i64 19, .int .i64 d, .int .i64 n, .int .i64 m, .int .i64 imm] 23)).heap.size = w.heap.size + 1 := by simp
    generalize w.alloc (.cells #[.int .i64 19, .int .i64 d, .int .i64 n, .int .i64 m, .int .i64 imm] 23) = W at *
    have hcell : (W.alloc (.cells (strCells shapesL) 9)).cell? ⟨w.heap.size + 1, 19, none⟩ = some (.string ⟨#[45]⟩) := by rw [← hsz]; exact strCells_at shapesL W 19 (by decide)
    have hx : (strCells shapesL)[19]? = some (.string ⟨#[45]⟩) := by rw [← hcell, ← hsz, Lib.cell_of_heap (heap_alloc_new W _) 19]
    have HB : Hid (W.heap[w.heap.size]? = some (.cells #[.int .i64 19, .int .i64 d, .int .i64 n, .int .i64 m, .int .i64 imm] 23 (0, 0))) := hbx
    clear hbx
    go_region_with (go_at_call 24; refine (fields_at _ shapesL 21 (by kernel_rfl) _ (ht'.below (Below.refl _ _).drew)).mono ?_; rintro e w1 ⟨rfl, rfl⟩)
    all_goals go_wp2
    all_goals go_meet
    all_goals exact ⟨rfl, by repeat' first | exact hBW | refine Below.alloc ?_ (by first | omega | (simp <;> omega)) _ | refine Below.drew ?_, heap_keep HB.out (by repeat' first | exact Below.refl _ _ | refine Below.alloc ?_ (by first | omega | (simp <;> omega)) _ | refine Below.drew ?_)⟩
  case rest =>
    obtain ⟨rfl, hBx, hbx⟩ := hcut
    have hc0 := fun j => Lib.cell_of_heap hbx j
    go_wp2_with (go_at_call 25; refine (word_any 19 d n m imm _ (ht.below hBx) (by omega) hcan).mono ?_; rintro e w1 ⟨rfl, hb1⟩)
    go_ret
    rw [HS.out]
    exact ⟨rfl, hBx.trans (hb1.mono hBx.size)⟩
theorem show_any (k : Nat) (d n m imm : Int) (w : World) (ht : Tabs w) (hk : k < 21) (hcan : canB k d n m imm = true) :
    Calls Tryd.prog 13 #[.agg #[.int .i64 k, .int .i64 d, .int .i64 n, .int .i64 m, .int .i64 imm]] w fun e w' => e = .returned (.string ⟨(showB k d n m imm).toArray⟩) ∧ Below w.heap.size w w' := by
  by_cases h19 : k = 19
  · subst h19
    exact show_dash d n m imm w ht hcan
  · have := can_bounds k d n m imm hk hcan
    exact show_go k d n m imm w ht hk h19 hcan (by omega) (by omega) (by omega) (by omega)
end Go.Proofs.YtagjnannnahplaaDoor
