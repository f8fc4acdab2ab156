/- The texts of instructions: fits reads the operands back. -/
import Derived.Test.YtagjnannnahplaaDoorTPure4
import Derived.Test.YtagjnannnahplaaDoorTCan
import Derived.Lib.IndexMore
namespace Go.Proofs.YtagjnannnahplaaDoor
set_option linter.unusedVariables false
set_option linter.unusedSimpArgs false
theorem noDig_nil : noDig [] := fun c h => by cases h
theorem noDig_93 (r : List UInt8) : noDig (93 :: r) := fun c h => by cases h; decide
theorem step_d (q : Int × Int × Int × Int) (d : Int) (r : List UInt8) (h0 : 0 ≤ d) (h1 : d < 8) : stepV 100 q (114 :: (Lib.itoa d ++ r)) = ((d, q.2.1, q.2.2.1, q.2.2.2), r, true) := by
  simp [stepV, regV_back d r h0 h1]
theorem step_n (q : Int × Int × Int × Int) (d : Int) (r : List UInt8) (h0 : 0 ≤ d) (h1 : d < 8) : stepV 110 q (114 :: (Lib.itoa d ++ r)) = ((q.1, d, q.2.2.1, q.2.2.2), r, true) := by
  simp [stepV, regV_back d r h0 h1]
theorem step_m (q : Int × Int × Int × Int) (d : Int) (r : List UInt8) (h0 : 0 ≤ d) (h1 : d < 8) : stepV 109 q (114 :: (Lib.itoa d ++ r)) = ((q.1, q.2.1, d, q.2.2.2), r, true) := by
  simp [stepV, regV_back d r h0 h1]
theorem step_i (q : Int × Int × Int × Int) (x : Int) (r : List UInt8) (h0 : -2100 ≤ x) (h1 : x ≤ 2100) (hr : noDig r) : stepV 105 q (35 :: (Lib.itoa x ++ r)) = ((q.1, q.2.1, q.2.2.1, x), r, true) := by
  simp [stepV, numV_back x 1 r h0 h1 hr, Int.tmod_one]
theorem step_2 (q : Int × Int × Int × Int) (x : Int) (r : List UInt8) (h0 : -1050 ≤ x) (h1 : x ≤ 1050) (hr : noDig r) : stepV 50 q (35 :: (Lib.itoa (2 * x) ++ r)) = ((q.1, q.2.1, q.2.2.1, x), r, true) := by
  simp [stepV, numV_back (2 * x) 2 r (by omega) (by omega) hr]
theorem step_4 (q : Int × Int × Int × Int) (x : Int) (r : List UInt8) (h0 : -525 ≤ x) (h1 : x ≤ 525) (hr : noDig r) : stepV 52 q (35 :: (Lib.itoa (4 * x) ++ r)) = ((q.1, q.2.1, q.2.2.1, x), r, true) := by
  simp [stepV, numV_back (4 * x) 4 r (by omega) (by omega) hr]
theorem step_c (q : Int × Int × Int × Int) (r : List UInt8) : stepV 44 q (44 :: 32 :: r) = (q, r, true) := by
  simp [stepV, Lib.trimPrefix, Lib.hasPrefix, List.isPrefixOf]
theorem step_o (c : UInt8) (q : Int × Int × Int × Int) (r : List UInt8) (h : (decide (c ≠ 100) && decide (c ≠ 110) && decide (c ≠ 109) && decide (c ≠ 105) && decide (c ≠ 50) && decide (c ≠ 52) && decide (c ≠ 44)) = true) : stepV c q (c :: r) = (q, r, true) := by
  simp only [Bool.and_eq_true, decide_eq_true_eq] at h
  simp [stepV, h, Lib.trimPrefix, Lib.hasPrefix, List.isPrefixOf]
theorem step_m_e (q : Int × Int × Int × Int) (d : Int) (h0 : 0 ≤ d) (h1 : d < 8) : stepV 109 q (114 :: Lib.itoa d) = ((q.1, q.2.1, d, q.2.2.2), [], true) := by
  have := step_m q d [] h0 h1; rwa [List.append_nil] at this
theorem step_i_e (q : Int × Int × Int × Int) (x : Int) (h0 : -2100 ≤ x) (h1 : x ≤ 2100) : stepV 105 q (35 :: Lib.itoa x) = ((q.1, q.2.1, q.2.2.1, x), [], true) := by
  have := step_i q x [] h0 h1 noDig_nil; rwa [List.append_nil] at this
theorem step_2_e (q : Int × Int × Int × Int) (x : Int) (h0 : -1050 ≤ x) (h1 : x ≤ 1050) : stepV 50 q (35 :: Lib.itoa (2 * x)) = ((q.1, q.2.1, q.2.2.1, x), [], true) := by
  have := step_2 q x [] h0 h1 noDig_nil; rwa [List.append_nil] at this
theorem fits_cons {c : UInt8} {sh : List UInt8} {q q' : Int × Int × Int × Int} {s r : List UInt8} (h : stepV c q s = (q', r, true)) : fitsV (c :: sh) q s = fitsV sh q' r := by
  simp [fitsV, h]
/-- The operands' text. -/
def opsB (k : Nat) (d n m imm : Int) : List UInt8 := if k = 19 then [] else (shapesL.getD k []).flatMap fun c => piece c d n m imm
def shapeV (k : Nat) : List UInt8 := if shapesL.getD k [] = [45] then [] else shapesL.getD k []
/-- What is left of the fields behind a reading: those that the shape holds. -/
def restV (k : Nat) (d n m imm : Int) : Int × Int × Int × Int := (if k = 18 then 0 else d, n, m, if k = 11 then 0 else imm)
theorem fits_back (k : Nat) (hk : k < 21) (d n m imm : Int) (h : canB k d n m imm = true) : fitsV (shapeV k) (0, 0, 0, 0) (opsB k d n m imm) = (restV k d n m imm, true) := by
  match k, hk with
  | 0, _ | 1, _ | 2, _ | 3, _ | 4, _ | 5, _ | 6, _ | 7, _ | 8, _ | 9, _ | 10, _ | 11, _ | 12, _ | 13, _ | 14, _ | 15, _ | 16, _ | 17, _ | 18, _ | 19, _ | 20, _ =>
    simp only [canB, inB, regB, Bool.and_eq_true, decide_eq_true_eq, beq_iff_eq] at h
    simp [shapeV, opsB, restV, shapesL, piece]
    repeat' first
      | rw [fits_cons (step_d _ _ _ (by omega) (by omega))]
      | rw [fits_cons (step_n _ _ _ (by omega) (by omega))]
      | rw [fits_cons (step_m _ _ _ (by omega) (by omega))]
      | rw [fits_cons (step_m_e _ _ (by omega) (by omega))]
      | rw [fits_cons (step_i _ _ _ (by omega) (by omega) (noDig_93 _))]
      | rw [fits_cons (step_i_e _ _ (by omega) (by omega))]
      | rw [fits_cons (step_2_e _ _ (by omega) (by omega))]
      | rw [fits_cons (step_4 _ _ _ (by omega) (by omega) (noDig_93 _))]
      | rw [fits_cons (step_c _ _)]
      | rw [fits_cons (step_o _ _ _ (by decide))]
    simp [fitsV]
    try omega
  | k + 21, h' => exact absurd h' (by omega)
end Go.Proofs.YtagjnannnahplaaDoor
