/- bautaref04.Show at the operations 16 to 20. -/
import Derived.Test.YtagjnannnahplaaDoorTRefF
import Derived.Test.YtagjnannnahplaaDoorTRefE
import Derived.Test.YtagjnannnahplaaDoorTRefG0
import Derived.Deep.RegionHeld3
import Derived.Laws.NewBlocks
namespace Go.Proofs.YtagjnannnahplaaDoor
open Go.RowKit
set_option linter.unusedVariables false
set_option linter.unusedSimpArgs false
set_option maxRecDepth 100000 in
set_option maxHeartbeats 8000000 in
theorem rshow_16 : RShowAt 16 := by
  intro d n m imm w hc hr
  have hb := can_bounds 16 d n m imm (by decide) hc
  have hcan : ∀ w, Calls Tryd.prog 14 #[.agg #[.int .i64 16, .int .i64 d, .int .i64 n, .int .i64 m, .int .i64 imm]] w fun e w' => e = .returned (.bool true) ∧ Below w.heap.size w w' := fun w => by have := rcan_any 16 (by decide) d n m imm w; rw [hr] at this; exact this
  clear hr hc
  have hw0 : IntKind.i64.wrap 0 = 0 := by rw [IntKind.wrap_i64]; omega
  have hw1 : IntKind.i64.wrap 1 = 1 := by rw [IntKind.wrap_i64]; omega
  have hw2 : IntKind.i64.wrap 2 = 2 := by rw [IntKind.wrap_i64]; omega
  obtain ⟨rd, hrd, hsrd, Hrd⟩ := reg_str d (by omega) (by omega)
  have hwr : IntKind.i64.wrap (4 * imm) = 4 * imm := by rw [IntKind.wrap_i64]; omega
  obtain ⟨ri, hri, hsri, Hri⟩ := imm_str (4 * imm) (by omega) (by omega)
  go_enter Tryd.func7, Tryd.ntmps7
  go_wp2_with fail
  refine (hcan _).mono ?_
  rintro e w1 ⟨rfl, hb1⟩
  have hbx1 := heap_keep (heap_alloc_new w _) hb1
  have hB1 : Below w.heap.size w w1 := (Below.alloc (Below.refl _ w) (Nat.le_refl _) _).trans (hb1.mono (by simp))
  have hc1 := fun j => Lib.cell_of_heap hbx1 j
  go_wp2_with fail
  refine (hrd _).mono ?_
  rintro e w2 ⟨rfl, m1, rfl⟩
  go_wp2_with fail
  refine (hri _).mono ?_
  rintro e w3 ⟨rfl, m2, rfl⟩
  go_wp2_with fail
  go_ret2
  refine ⟨congrArg (fun s => Ending.returned (.tuple #[.string s, .bool true])) ?_, by repeat' first | exact hB1 | refine below_drewN ?_ _⟩
  rw [Hrd.out, Hri.out]; apply ByteArray.ext; simp [showB, shapesL, wordB, wordsL, alusL, condsL, piece]
set_option maxRecDepth 100000 in
set_option maxHeartbeats 8000000 in
theorem rshow_17 : RShowAt 17 := by
  intro d n m imm w hc hr
  have hb := can_bounds 17 d n m imm (by decide) hc
  have hcan : ∀ w, Calls Tryd.prog 14 #[.agg #[.int .i64 17, .int .i64 d, .int .i64 n, .int .i64 m, .int .i64 imm]] w fun e w' => e = .returned (.bool true) ∧ Below w.heap.size w w' := fun w => by have := rcan_any 17 (by decide) d n m imm w; rw [hr] at this; exact this
  clear hr hc
  have hw0 : IntKind.i64.wrap 0 = 0 := by rw [IntKind.wrap_i64]; omega
  have hw1 : IntKind.i64.wrap 1 = 1 := by rw [IntKind.wrap_i64]; omega
  have hw2 : IntKind.i64.wrap 2 = 2 := by rw [IntKind.wrap_i64]; omega
  obtain ⟨rd, hrd, hsrd, Hrd⟩ := reg_str d (by omega) (by omega)
  have hwr : IntKind.i64.wrap (2 * imm) = 2 * imm := by rw [IntKind.wrap_i64]; omega
  obtain ⟨ri, hri, hsri, Hri⟩ := imm_str (2 * imm) (by omega) (by omega)
  go_enter Tryd.func7, Tryd.ntmps7
  go_wp2_with fail
  refine (hcan _).mono ?_
  rintro e w1 ⟨rfl, hb1⟩
  have hbx1 := heap_keep (heap_alloc_new w _) hb1
  have hB1 : Below w.heap.size w w1 := (Below.alloc (Below.refl _ w) (Nat.le_refl _) _).trans (hb1.mono (by simp))
  have hc1 := fun j => Lib.cell_of_heap hbx1 j
  go_wp2_with fail
  refine (hrd _).mono ?_
  rintro e w2 ⟨rfl, m1, rfl⟩
  go_wp2_with fail
  refine (hri _).mono ?_
  rintro e w3 ⟨rfl, m2, rfl⟩
  go_wp2_with fail
  go_ret2
  refine ⟨congrArg (fun s => Ending.returned (.tuple #[.string s, .bool true])) ?_, by repeat' first | exact hB1 | refine below_drewN ?_ _⟩
  rw [Hri.out]; apply ByteArray.ext; simp [showB, shapesL, wordB, wordsL, alusL, condsL, piece]
set_option maxRecDepth 100000 in
set_option maxHeartbeats 8000000 in
theorem rshow_19 : RShowAt 19 := by
  intro d n m imm w hc hr
  have hb := can_bounds 19 d n m imm (by decide) hc
  have hcan : ∀ w, Calls Tryd.prog 14 #[.agg #[.int .i64 19, .int .i64 d, .int .i64 n, .int .i64 m, .int .i64 imm]] w fun e w' => e = .returned (.bool true) ∧ Below w.heap.size w w' := fun w => by have := rcan_any 19 (by decide) d n m imm w; rw [hr] at this; exact this
  clear hr hc
  have hw0 : IntKind.i64.wrap 0 = 0 := by rw [IntKind.wrap_i64]; omega
  have hw1 : IntKind.i64.wrap 1 = 1 := by rw [IntKind.wrap_i64]; omega
  have hw2 : IntKind.i64.wrap 2 = 2 := by rw [IntKind.wrap_i64]; omega
  obtain ⟨rd, hrd, hsrd, Hrd⟩ := reg_str d (by omega) (by omega)
  go_enter Tryd.func7, Tryd.ntmps7
  go_wp2_with fail
  refine (hcan _).mono ?_
  rintro e w1 ⟨rfl, hb1⟩
  have hbx1 := heap_keep (heap_alloc_new w _) hb1
  have hB1 : Below w.heap.size w w1 := (Below.alloc (Below.refl _ w) (Nat.le_refl _) _).trans (hb1.mono (by simp))
  have hc1 := fun j => Lib.cell_of_heap hbx1 j
  go_wp2_with fail
  refine (hrd _).mono ?_
  rintro e w2 ⟨rfl, m1, rfl⟩
  go_wp2_with fail
  go_ret2
  refine ⟨congrArg (fun s => Ending.returned (.tuple #[.string s, .bool true])) ?_, by repeat' first | exact hB1 | refine below_drewN ?_ _⟩
  apply ByteArray.ext; simp [showB, shapesL, wordB, wordsL, alusL, condsL, piece]
set_option maxRecDepth 100000 in
set_option maxHeartbeats 8000000 in
theorem rshow_20 : RShowAt 20 := by
  intro d n m imm w hc hr
  have hb := can_bounds 20 d n m imm (by decide) hc
  have hcan : ∀ w, Calls Tryd.prog 14 #[.agg #[.int .i64 20, .int .i64 d, .int .i64 n, .int .i64 m, .int .i64 imm]] w fun e w' => e = .returned (.bool true) ∧ Below w.heap.size w w' := fun w => by have := rcan_any 20 (by decide) d n m imm w; rw [hr] at this; exact this
  clear hr hc
  have hw0 : IntKind.i64.wrap 0 = 0 := by rw [IntKind.wrap_i64]; omega
  have hw1 : IntKind.i64.wrap 1 = 1 := by rw [IntKind.wrap_i64]; omega
  have hw2 : IntKind.i64.wrap 2 = 2 := by rw [IntKind.wrap_i64]; omega
  obtain ⟨rd, hrd, hsrd, Hrd⟩ := reg_str d (by omega) (by omega)
  obtain ⟨ri, hri, hsri, Hri⟩ := imm_str imm (by omega) (by omega)
  go_enter Tryd.func7, Tryd.ntmps7
  go_wp2_with fail
  refine (hcan _).mono ?_
  rintro e w1 ⟨rfl, hb1⟩
  have hbx1 := heap_keep (heap_alloc_new w _) hb1
  have hB1 : Below w.heap.size w w1 := (Below.alloc (Below.refl _ w) (Nat.le_refl _) _).trans (hb1.mono (by simp))
  have hc1 := fun j => Lib.cell_of_heap hbx1 j
  go_wp2_with fail
  refine (hrd _).mono ?_
  rintro e w2 ⟨rfl, m1, rfl⟩
  go_wp2_with fail
  refine (hri _).mono ?_
  rintro e w3 ⟨rfl, m2, rfl⟩
  go_wp2_with fail
  go_ret2
  refine ⟨congrArg (fun s => Ending.returned (.tuple #[.string s, .bool true])) ?_, by repeat' first | exact hB1 | refine below_drewN ?_ _⟩
  rw [Hri.out]; apply ByteArray.ext; simp [showB, shapesL, wordB, wordsL, alusL, condsL, piece]
end Go.Proofs.YtagjnannnahplaaDoor
