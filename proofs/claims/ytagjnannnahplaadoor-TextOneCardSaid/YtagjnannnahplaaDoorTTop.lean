/- text.Show, text.Parse of whatever is handed; lives. -/
import Derived.Test.YtagjnannnahplaaDoorTParse
import Derived.Test.YtagjnannnahplaaDoorTPure6
namespace Go.Proofs.YtagjnannnahplaaDoor
open Go.RowKit
set_option linter.unusedVariables false
set_option linter.unusedSimpArgs false
def canI (op d n m imm : Int) : Bool := decide (0 ≤ op ∧ op < 21) && canB op.toNat d n m imm
set_option maxRecDepth 100000 in
set_option maxHeartbeats 2000000 in
theorem can_out (op d n m imm : Int) (w : World) (h : op < 0 ∨ 21 ≤ op) : Calls Tryd.prog 23 #[.agg #[.int .i64 op, .int .i64 d, .int .i64 n, .int .i64 m, .int .i64 imm]] w fun e w' => e = .returned (.bool false) ∧ Below w.heap.size w w' := by
  rcases h with h | h
  · go_enter Tryd.func23, Tryd.ntmps23
    go_wp2_with fail
    go_ret
    exact ⟨rfl, by go_grown⟩
  · have h0 : ¬ op < 0 := by omega
    go_enter Tryd.func23, Tryd.ntmps23
    go_wp2_with fail
    go_ret
    exact ⟨rfl, by go_grown⟩
theorem canI_call (op d n m imm : Int) (w : World) : Calls Tryd.prog 23 #[.agg #[.int .i64 op, .int .i64 d, .int .i64 n, .int .i64 m, .int .i64 imm]] w fun e w' => e = .returned (.bool (canI op d n m imm)) ∧ Below w.heap.size w w' := by
  by_cases h : 0 ≤ op ∧ op < 21
  · have := can_any op.toNat (by omega) d n m imm w
    rw [show ((op.toNat : Nat) : Int) = op from by omega] at this
    rw [show canI op d n m imm = canB op.toNat d n m imm from by unfold canI; simp [h]]
    exact this
  · rw [show canI op d n m imm = false from by unfold canI; simp [h]]
    exact can_out op d n m imm w (by omega)
set_option maxRecDepth 100000 in
set_option maxHeartbeats 2000000 in
theorem CanI_call (op d n m imm : Int) (w : World) : Calls Tryd.prog 12 #[.agg #[.int .i64 op, .int .i64 d, .int .i64 n, .int .i64 m, .int .i64 imm]] w fun e w' => e = .returned (.bool (canI op d n m imm)) ∧ Below w.heap.size w w' := by
  go_enter Tryd.func12, Tryd.ntmps12
  go_wp2_with fail
  refine (canI_call op d n m imm _).mono ?_
  rintro e w1 ⟨rfl, hb⟩
  go_wp2_with fail
  go_ret
  exact ⟨rfl, (Below.alloc (Below.refl _ _) (Nat.le_refl _) _).trans (hb.mono (by simp))⟩
/-- The text of whatever instruction; none's: empty. -/
def showI (op d n m imm : Int) : List UInt8 := if canI op d n m imm then showB op.toNat d n m imm else []
set_option maxRecDepth 100000 in
set_option maxHeartbeats 2000000 in
theorem Show_any (op d n m imm : Int) (w : World) (ht : Tabs w) : Calls Tryd.prog 6 #[.agg #[.int .i64 op, .int .i64 d, .int .i64 n, .int .i64 m, .int .i64 imm]] w fun e w' => e = .returned (.tuple #[.string ⟨(showI op d n m imm).toArray⟩, .bool (canI op d n m imm)]) ∧ Below w.heap.size w w' := by
  have HI : Hid (showI op d n m imm = if canI op d n m imm then showB op.toNat d n m imm else []) := rfl
  have hcan := fun w => CanI_call op d n m imm w
  have hsh : canI op d n m imm = true → ∀ w, Tabs w → Calls Tryd.prog 13 #[.agg #[.int .i64 op, .int .i64 d, .int .i64 n, .int .i64 m, .int .i64 imm]] w fun e w' => e = .returned (.string ⟨(showB op.toNat d n m imm).toArray⟩) ∧ Below w.heap.size w w' := by
    intro hc w ht
    unfold canI at hc
    simp only [Bool.and_eq_true, decide_eq_true_eq] at hc
    have := show_any op.toNat d n m imm w ht (by omega) hc.2
    rw [show ((op.toNat : Nat) : Int) = op from by omega] at this
    exact this
  generalize canI op d n m imm = C at *
  generalize showB op.toNat d n m imm = S at *
  cases C
  · go_enter Tryd.func6, Tryd.ntmps6
    go_wp2_with fail
    refine (hcan _).mono ?_
    rintro e w1 ⟨rfl, hb⟩
    go_wp2_with fail
    go_ret2
    exact ⟨by rw [HI.out]; rfl, (Below.alloc (Below.refl _ _) (Nat.le_refl _) _).trans (hb.mono (by simp))⟩
  · have hsh2 := fun w t => hsh rfl w t
    clear hsh
    have hB0 : Below w.heap.size w (w.alloc (.cells #[.int .i64 op, .int .i64 d, .int .i64 n, .int .i64 m, .int .i64 imm] 23)) := (Below.refl _ _).alloc (Nat.le_refl _) _
    have HB0 := Lib.hid hB0
    clear hB0
    go_enter Tryd.func6, Tryd.ntmps6
    go_wp2_with fail
    refine (hcan _).mono ?_
    rintro e w1 ⟨rfl, hb⟩
    have hbx1 := heap_keep (heap_alloc_new w _) hb
    have hB1 : Below w.heap.size w w1 := HB0.out.trans (hb.mono HB0.out.size)
    have hc1 := fun j => Lib.cell_of_heap hbx1 j
    go_wp2_with fail
    refine (hsh2 _ (ht.below hB1)).mono ?_
    rintro e w2 ⟨rfl, hb2⟩
    go_wp2_with fail
    go_ret2
    exact ⟨by rw [HI.out]; rfl, hB1.trans (hb2.mono hB1.size)⟩
theorem cell_alloc_old {X : World} {c : Obj} {b j : Nat} (h : b < X.heap.size) : (X.alloc c).cell? ⟨b, j, none⟩ = X.cell? ⟨b, j, none⟩ := ((Below.refl X.heap.size X).alloc (Nat.le_refl _) c).cell (p := ⟨b, j, none⟩) h
/-- Parse's answer as a value. -/
def parOpt : Option (Nat × Int × Int × Int × Int) → Value
  | some (k, d, n, m, imm) => .tuple #[.agg #[.int .i64 k, .int .i64 d, .int .i64 n, .int .i64 m, .int .i64 imm], .int .i64 0]
  | none => .tuple #[.agg #[.int .i64 0, .int .i64 0, .int .i64 0, .int .i64 0, .int .i64 0], .int .i64 4]
set_option maxRecDepth 100000 in
set_option maxHeartbeats 2000000 in
theorem Parse_any (l : List UInt8) (w : World) (ht : Tabs w) (hl : l.length < 4294967281) :
    Calls Tryd.prog 9 #[.string ⟨l.toArray⟩] w fun e w' => e = .returned (parOpt (parseV canB l)) ∧ Below w.heap.size w w' := by
  have hp := fun w t => parse_any l w t hl
  generalize parseV canB l = R at *
  have hB0 : Below w.heap.size w (w.alloc (.cells #[.int .i64 0, .int .i64 0, .int .i64 0, .int .i64 0, .int .i64 0] 23)) := (Below.refl _ _).alloc (Nat.le_refl _) _
  have HB0 := Lib.hid hB0
  clear hB0
  cases R with
  | none =>
    go_enter Tryd.func9, Tryd.ntmps9
    go_wp2_with fail
    refine (hp _ (ht.below HB0.out)).mono ?_
    rintro e w1 ⟨rfl, hb⟩
    have hbx1 := heap_keep (heap_alloc_new w _) hb
    have hB1 : Below w.heap.size w w1 := HB0.out.trans (hb.mono HB0.out.size)
    have hc1 := fun j => Lib.cell_of_heap hbx1 j
    have hf1 := fun j => Lib.frozen_of_heap hbx1 j
    have hlt := (Array.getElem?_eq_some_iff.1 hbx1).1
    unfold insOpt
    go_wp2_with fail
    refine bodyPost_ret (v := parOpt none) (by simp [results, Tryd.results9, go_sem, parOpt, hc1, cell_alloc_old, hlt]) rfl ?_
    refine ⟨rfl, ?_⟩
    have hle := hB1.size
    exact (((((hB1.setCell (p := ⟨w.heap.size, 0, none⟩) (Nat.le_refl _) _).setCell (p := ⟨w.heap.size, 1, none⟩) (Nat.le_refl _) _).setCell (p := ⟨w.heap.size, 2, none⟩) (Nat.le_refl _) _).setCell (p := ⟨w.heap.size, 3, none⟩) (Nat.le_refl _) _).setCell (p := ⟨w.heap.size, 4, none⟩) (Nat.le_refl _) _).alloc (by simpa using hle) _
  | some r =>
    obtain ⟨k, d, n, m, imm⟩ := r
    go_enter Tryd.func9, Tryd.ntmps9
    go_wp2_with fail
    refine (hp _ (ht.below HB0.out)).mono ?_
    rintro e w1 ⟨rfl, hb⟩
    have hbx1 := heap_keep (heap_alloc_new w _) hb
    have hB1 : Below w.heap.size w w1 := HB0.out.trans (hb.mono HB0.out.size)
    have hc1 := fun j => Lib.cell_of_heap hbx1 j
    have hf1 := fun j => Lib.frozen_of_heap hbx1 j
    have hlt := (Array.getElem?_eq_some_iff.1 hbx1).1
    unfold insOpt
    go_wp2_with fail
    refine bodyPost_ret (v := parOpt (some (k, d, n, m, imm))) (by simp [results, Tryd.results9, go_sem, parOpt, hc1, cell_alloc_old, hlt]) rfl ?_
    refine ⟨rfl, ?_⟩
    have hle := hB1.size
    exact (((((hB1.setCell (p := ⟨w.heap.size, 0, none⟩) (Nat.le_refl _) _).setCell (p := ⟨w.heap.size, 1, none⟩) (Nat.le_refl _) _).setCell (p := ⟨w.heap.size, 2, none⟩) (Nat.le_refl _) _).setCell (p := ⟨w.heap.size, 3, none⟩) (Nat.le_refl _) _).setCell (p := ⟨w.heap.size, 4, none⟩) (Nat.le_refl _) _).alloc (by simpa using hle) _
end Go.Proofs.YtagjnannnahplaaDoor
