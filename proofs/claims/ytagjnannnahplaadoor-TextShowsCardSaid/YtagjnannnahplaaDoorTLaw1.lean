/- TextShows: the walk. -/
import Derived.Test.YtagjnannnahplaaDoorTLaw0
import Derived.Test.YtagjnannnahplaaDoorTRefP
namespace Go.Proofs.YtagjnannnahplaaDoor
open Go.RowKit
set_option linter.unusedVariables false
set_option linter.unusedSimpArgs false
theorem showB_len (k : Nat) (hk : k < 21) (d n m imm : Int) (h : canB k d n m imm = true) : (showB k d n m imm).length ≤ 400 := by
  have hb := can_bounds k d n m imm hk h
  have hp : ∀ c, (piece c d n m imm).length ≤ 22 := by
    intro c
    have l1 := Lib.itoa_length_le d (by omega) (by omega)
    have l2 := Lib.itoa_length_le n (by omega) (by omega)
    have l3 := Lib.itoa_length_le m (by omega) (by omega)
    have l4 := Lib.itoa_length_le imm (by omega) (by omega)
    have l5 := Lib.itoa_length_le (2 * imm) (by omega) (by omega)
    have l6 := Lib.itoa_length_le (4 * imm) (by omega) (by omega)
    unfold piece
    repeat' split
    all_goals (simp; try omega)
  have hf : ∀ L : List UInt8, (L.flatMap fun c => piece c d n m imm).length ≤ 22 * L.length := by
    intro L
    induction L with
    | nil => simp
    | cons c t ih => rw [List.flatMap_cons, List.length_append, List.length_cons]; have := hp c; omega
  have hw := wordB_len k d imm
  have hs := (shapes_ascii k hk).2
  have := hf (shapesL.getD k [])
  unfold showB
  split
  · omega
  · simp only [List.length_append, List.length_cons, List.length_nil]; omega
theorem showI_len (op d n m imm : Int) : (showI op d n m imm).length ≤ 400 := by
  unfold showI
  split
  · rename_i h
    unfold canI at h
    simp only [Bool.and_eq_true, decide_eq_true_eq] at h
    exact showB_len _ (by omega) d n m imm h.2
  · simp
theorem parseV_showI (op d n m imm : Int) (h : canI op d n m imm = true) : parOpt (parseV canB (showI op d n m imm)) = .tuple #[.agg #[.int .i64 op, .int .i64 d, .int .i64 n, .int .i64 m, .int .i64 imm], .int .i64 0] := by
  unfold showI
  rw [if_pos h]
  unfold canI at h
  simp only [Bool.and_eq_true, decide_eq_true_eq] at h
  rw [parseV_show _ (by omega) d n m imm h.2]
  have : ((op.toNat : Nat) : Int) = op := by omega
  unfold parOpt
  simp only [this]
set_option maxRecDepth 100000 in
set_option maxHeartbeats 8000000 in
theorem textShows_any (op d n m imm : Int) (w : World) (ht : Tabs w) : Calls Tryd.prog 3 #[.agg #[.int .i64 op, .int .i64 d, .int .i64 n, .int .i64 m, .int .i64 imm]] w fun e w' => e = .returned (.bool true) ∧ Below w.heap.size w w' := by
  have hs := fun w t => Show_any op d n m imm w t
  have hr := fun w => rShow_any op d n m imm w
  have hlen := showI_len op d n m imm
  have hp : canI op d n m imm = true → ∀ w, Tabs w → Calls Tryd.prog 9 #[.string ⟨(showI op d n m imm).toArray⟩] w fun e w' => e = .returned (.tuple #[.agg #[.int .i64 op, .int .i64 d, .int .i64 n, .int .i64 m, .int .i64 imm], .int .i64 0]) ∧ Below w.heap.size w w' := fun h w t => by
    have := Parse_any (showI op d n m imm) w t (by omega)
    rw [parseV_showI op d n m imm h] at this
    exact this
  generalize showI op d n m imm = S at *
  generalize canI op d n m imm = C at *
  clear hlen
  obtain ⟨B, hB⟩ : ∃ B : ByteArray, B = ⟨S.toArray⟩ := ⟨_, rfl⟩
  rw [← hB] at hs hr hp
  clear hB
  have hB0 : Below w.heap.size w (w.alloc (.cells #[.int .i64 op, .int .i64 d, .int .i64 n, .int .i64 m, .int .i64 imm] 23)) := (Below.refl _ _).alloc (Nat.le_refl _) _
  have HB0 := Lib.hid hB0
  clear hB0
  go_enter Tryd.func3, Tryd.ntmps3
  go_wp2_with fail
  refine (hs _ (ht.below HB0.out)).mono ?_
  rintro e w1 ⟨rfl, hb1⟩
  have hbx1 := heap_keep (heap_alloc_new w _) hb1
  have hB1 : Below w.heap.size w w1 := HB0.out.trans (hb1.mono HB0.out.size)
  have hc1 := fun j => Lib.cell_of_heap hbx1 j
  go_wp2_with fail
  refine (hr _).mono ?_
  rintro e w2 ⟨rfl, hb2⟩
  have hbx2 := heap_keep hbx1 hb2
  have hB2 : Below w.heap.size w w2 := hB1.trans (hb2.mono hB1.size)
  have hc2 := fun j => Lib.cell_of_heap hbx2 j
  clear hc1 hbx1 hB1
  cases C
  · go_wp2_with fail
    refine (lives_any _ (ht.below hB2)).mono ?_
    rintro e w3 ⟨rfl, hb3⟩
    go_wp2_with fail
    go_ret
    exact ⟨rfl, hB2.trans (hb3.mono hB2.size)⟩
  · have hp2 := fun w t => hp rfl w t
    clear hp
    go_wp2_with fail
    refine (hp2 _ (ht.below hB2)).mono ?_
    rintro e w3 ⟨rfl, hb3⟩
    have hbx3 := heap_keep hbx2 hb3
    have hB3 : Below w.heap.size w w3 := hB2.trans (hb3.mono hB2.size)
    have hc3 := fun j => Lib.cell_of_heap hbx3 j
    have hlt3 := (Array.getElem?_eq_some_iff.1 hbx3).1
    clear hc2 hbx2
    go_wp2_with fail
    refine (lives_any _ (ht.below (by repeat' first | exact hB3 | refine Below.alloc ?_ (by first | exact hB3.size | (have := hB3.size; simp <;> omega)) _))).mono ?_
    rintro e w4 ⟨rfl, hb4⟩
    go_wp2_with fail
    go_ret
    exact ⟨rfl, (hB3.alloc hB3.size _).trans (hb4.mono (by have := hB3.size; simp; omega))⟩
end Go.Proofs.YtagjnannnahplaaDoor
