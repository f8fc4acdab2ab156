/- bautaref04.Show at the operations 18. -/
import Derived.Test.YtagjnannnahplaaDoorTRefF
import Derived.Test.YtagjnannnahplaaDoorTRefE
import Derived.Test.YtagjnannnahplaaDoorTRefG0
import Derived.Deep.RegionHeld3
import Derived.Laws.NewBlocks
namespace Go.Proofs.YtagjnannnahplaaDoor
open Go.RowKit
set_option linter.unusedVariables false
set_option linter.unusedSimpArgs false
set_option maxRecDepth 100000 in
set_option maxHeartbeats 8000000 in
theorem rshow_18_0 (d n m imm : Int) (w : World) (hlit : d = 0) (hc : canB 18 d n m imm = true) (hr : rcanB 18 d n m imm = true) : Calls Tryd.prog 7 #[.agg #[.int .i64 18, .int .i64 d, .int .i64 n, .int .i64 m, .int .i64 imm]] w fun e w' => e = .returned (.tuple #[.string ⟨(showB 18 d n m imm).toArray⟩, .bool true]) ∧ Below w.heap.size w w' := by
  subst hlit
  have hb := can_bounds 18 0 n m imm (by decide) hc
  have hcan : ∀ w, Calls Tryd.prog 14 #[.agg #[.int .i64 18, .int .i64 0, .int .i64 n, .int .i64 m, .int .i64 imm]] w fun e w' => e = .returned (.bool true) ∧ Below w.heap.size w w' := fun w => by have := rcan_any 18 (by decide) 0 n m imm w; rw [hr] at this; exact this
  clear hr hc
  obtain ⟨rd, hrd, hsrd, Hrd⟩ := reg_str 0 (by omega) (by omega)
  have hwr : IntKind.i64.wrap (2 * imm) = 2 * imm := by rw [IntKind.wrap_i64]; omega
  obtain ⟨ri, hri, hsri, Hri⟩ := imm_str (2 * imm) (by omega) (by omega)
  go_enter Tryd.func7, Tryd.ntmps7
  go_wp2_with fail
  refine (hcan _).mono ?_
  rintro e w1 ⟨rfl, hb1⟩
  have hbx1 := heap_keep (heap_alloc_new w _) hb1
  have hB1 : Below w.heap.size w w1 := (Below.alloc (Below.refl _ w) (Nat.le_refl _) _).trans (hb1.mono (by simp))
  have hc1 := fun j => Lib.cell_of_heap hbx1 j
  go_wp2_with fail
  refine (hrd _).mono ?_
  rintro e w2 ⟨rfl, m1, rfl⟩
  go_wp2_with fail
  have hS0 : (fun w' => w'.cell? ⟨w.heap.size, 0, none⟩ = some (.int .i64 18) ∧ w'.cell? ⟨w.heap.size, 1, none⟩ = some (.int .i64 0) ∧ w'.cell? ⟨w.heap.size, 2, none⟩ = some (.int .i64 n) ∧ w'.cell? ⟨w.heap.size, 3, none⟩ = some (.int .i64 m) ∧ w'.cell? ⟨w.heap.size, 4, none⟩ = some (.int .i64 imm) ∧ w.heap.size < w'.heap.size ∧ Below w.heap.size w w') (w1.drewN m1) := ⟨hc1 0, hc1 1, hc1 2, hc1 3, hc1 4, (Array.getElem?_eq_some_iff.1 hbx1).1, below_drewN hB1 m1⟩
  generalize w1.drewN m1 = W at *


  have HS := Lib.hid hS0

  obtain ⟨k0, k1, k2, k3, k4, hlt, -⟩ := hS0
  refine wp_region_held_drew (S := fun w' => w'.cell? ⟨w.heap.size, 0, none⟩ = some (.int .i64 18) ∧ w'.cell? ⟨w.heap.size, 1, none⟩ = some (.int .i64 0) ∧ w'.cell? ⟨w.heap.size, 2, none⟩ = some (.int .i64 n) ∧ w'.cell? ⟨w.heap.size, 3, none⟩ = some (.int .i64 m) ∧ w'.cell? ⟨w.heap.size, 4, none⟩ = some (.int .i64 imm) ∧ w.heap.size < w'.heap.size ∧ Below w.heap.size w w') (by kernel_rfl) (held5_keep HS.out ((Below.refl _ _).drew)) (fun hHeld2 => ?_)
  refine wpAnyH_any hHeld2 (fun Y hHeld => ?_)
  clear hHeld2
  refine wpAnyH_take (i := 1) (v := ?v1) rfl (by kernel_rfl) (by kernel_rfl) (by kernel_rfl) (fun _ _ _ h => h) (Or.inl ⟨by rfl, ?y1⟩) (by assumption) ?_
  case y1 => intro w hSw; (try dsimp only at hSw); go_simp; all_goals first | with_reducible rfl | rw [if_neg (by omega)]
  try simp only [Act.put, List.getElem_toArray, List.getElem_cons_succ, List.getElem_cons_zero, List.getElem?_toArray, List.getElem?_cons_succ, List.getElem?_cons_zero, List.setIfInBounds_toArray, List.set_cons_zero, List.set_cons_succ]
  refine wpAnyH_take (i := 2) (v := ?v2) rfl (by kernel_rfl) (by kernel_rfl) (by kernel_rfl) (fun _ _ _ h => h) (Or.inl ⟨by rfl, ?y2⟩) (by assumption) ?_
  case y2 => intro w hSw; (try dsimp only at hSw); go_simp; all_goals first | with_reducible rfl | rw [if_neg (by omega)]
  try simp only [Act.put, List.getElem_toArray, List.getElem_cons_succ, List.getElem_cons_zero, List.getElem?_toArray, List.getElem?_cons_succ, List.getElem?_cons_zero, List.setIfInBounds_toArray, List.set_cons_zero, List.set_cons_succ]
  refine wpAnyH_take (i := 6) (v := ?v3) rfl (by kernel_rfl) (by kernel_rfl) (by kernel_rfl) (fun _ _ _ h => h) (Or.inl ⟨by rfl, ?y3⟩) (by assumption) ?_
  case y3 => intro w hSw; (try dsimp only at hSw); go_simp; all_goals first | with_reducible rfl | rw [if_neg (by omega)]
  try simp only [Act.put, List.getElem_toArray, List.getElem_cons_succ, List.getElem_cons_zero, List.getElem?_toArray, List.getElem?_cons_succ, List.getElem?_cons_zero, List.setIfInBounds_toArray, List.set_cons_zero, List.set_cons_succ]
  refine wpAnyH_take (i := 7) (v := ?v4) rfl (by kernel_rfl) (by kernel_rfl) (by kernel_rfl) (fun _ _ _ h => h) (Or.inl ⟨by rfl, ?y4⟩) (by assumption) ?_
  case y4 => intro w hSw; (try dsimp only at hSw); go_simp; all_goals first | with_reducible rfl | rw [if_neg (by omega)]
  try simp only [Act.put, List.getElem_toArray, List.getElem_cons_succ, List.getElem_cons_zero, List.getElem?_toArray, List.getElem?_cons_succ, List.getElem?_cons_zero, List.setIfInBounds_toArray, List.set_cons_zero, List.set_cons_succ]
  refine wpAnyH_take (i := 8) (v := ?v5) rfl (by kernel_rfl) (by kernel_rfl) (by kernel_rfl) (fun _ _ _ h => h) (Or.inl ⟨by rfl, ?y5⟩) (by assumption) ?_
  case y5 => intro w hSw; (try dsimp only at hSw); go_simp; all_goals first | with_reducible rfl | rw [if_neg (by omega)]
  try simp only [Act.put, List.getElem_toArray, List.getElem_cons_succ, List.getElem_cons_zero, List.getElem?_toArray, List.getElem?_cons_succ, List.getElem?_cons_zero, List.setIfInBounds_toArray, List.set_cons_zero, List.set_cons_succ]
  refine wpAnyH_ready (rs := [0, 9]) (by kernel_rfl) (by simp) ?_
  refine AllReadyH.cons rfl (fun K hK => ?_) ?_
  · skip
    go_simp
    refine hK.out _ _ ?_ (fun hHeld2 => ?_)
    · exact held5_keep hHeld (by repeat' first | exact Below.refl _ _ | refine below_drewN ?_ _ | refine Below.drew ?_ | refine Below.alloc ?_ (by first | exact Nat.le_refl _ | (simp <;> omega)) _)
    clear hK K hHeld
    try simp only [Act.put, List.getElem_toArray, List.getElem_cons_succ, List.getElem_cons_zero, List.getElem?_toArray, List.getElem?_cons_succ, List.getElem?_cons_zero, List.setIfInBounds_toArray, List.set_cons_zero, List.set_cons_succ]
    refine wpAnyH_mono (S' := fun w' => w'.cell? ⟨w.heap.size, 0, none⟩ = some (.int .i64 18) ∧ w'.cell? ⟨w.heap.size, 1, none⟩ = some (.int .i64 0) ∧ w'.cell? ⟨w.heap.size, 2, none⟩ = some (.int .i64 n) ∧ w'.cell? ⟨w.heap.size, 3, none⟩ = some (.int .i64 m) ∧ w'.cell? ⟨w.heap.size, 4, none⟩ = some (.int .i64 imm) ∧ w.heap.size < w'.heap.size ∧ Below w.heap.size w w' ∧ w'.cell? ⟨Y.heap.size, 0, none⟩ = some (.string ⟨#[98, 101, 113]⟩) ∧ Y.heap.size < w'.heap.size) (fun _ h => ⟨h.1, h.2.1, h.2.2.1, h.2.2.2.1, h.2.2.2.2.1, h.2.2.2.2.2.1, h.2.2.2.2.2.2.1⟩) ?_
    refine wpAnyH_any (⟨hHeld2.1, hHeld2.2.1, hHeld2.2.2.1, hHeld2.2.2.2.1, hHeld2.2.2.2.2.1, hHeld2.2.2.2.2.2.1, hHeld2.2.2.2.2.2.2, by go_simp, by simp⟩) (fun Z hHeld => ?_)
    clear hHeld2
    refine wpAnyH_take (i := 3) (v := ?v6) rfl (by kernel_rfl) (by kernel_rfl) (by kernel_rfl) (fun _ _ _ h => h) (Or.inl ⟨by rfl, ?y6⟩) (by assumption) ?_
    case y6 => intro w hSw; (try dsimp only at hSw); go_simp; all_goals first | with_reducible rfl | rw [if_neg (by omega)]
    try simp only [Act.put, List.getElem_toArray, List.getElem_cons_succ, List.getElem_cons_zero, List.getElem?_toArray, List.getElem?_cons_succ, List.getElem?_cons_zero, List.setIfInBounds_toArray, List.set_cons_zero, List.set_cons_succ]
    refine wpAnyH_take (i := 4) (v := ?v7) rfl (by kernel_rfl) (by kernel_rfl) (by kernel_rfl) (fun _ _ _ h => h) (Or.inl ⟨by rfl, ?y7⟩) (by assumption) ?_
    case y7 => intro w hSw; (try dsimp only at hSw); go_simp; all_goals first | with_reducible rfl | rw [if_neg (by omega)]
    try simp only [Act.put, List.getElem_toArray, List.getElem_cons_succ, List.getElem_cons_zero, List.getElem?_toArray, List.getElem?_cons_succ, List.getElem?_cons_zero, List.setIfInBounds_toArray, List.set_cons_zero, List.set_cons_succ]
    refine wpAnyH_take (i := 5) (v := ?v8) rfl (by kernel_rfl) (by kernel_rfl) (by kernel_rfl) (fun _ _ _ h => h) (Or.inl ⟨by rfl, ?y8⟩) (by assumption) ?_
    case y8 => intro w hSw; (try dsimp only at hSw); go_simp; all_goals first | with_reducible rfl | rw [if_neg (by omega)]
    try simp only [Act.put, List.getElem_toArray, List.getElem_cons_succ, List.getElem_cons_zero, List.getElem?_toArray, List.getElem?_cons_succ, List.getElem?_cons_zero, List.setIfInBounds_toArray, List.set_cons_zero, List.set_cons_succ]
    refine wpAnyH_ready (rs := [9]) (by kernel_rfl) (by simp) ?_
    refine AllReadyH.cons rfl (fun K hK => ?_) AllReadyH.nil
    go_simp
    (go_at_call 16; with_reducible refine (hri _).mono ?_; rintro e w2 ⟨rfl, m2, rfl⟩)
    go_wp2_with fail
    refine hK.out _ _ ?_ (fun hHeld2 => ?_)
    · exact held5_litk hHeld (by repeat' first | exact Below.refl _ _ | refine below_drewN ?_ _ | refine Below.drew ?_ | refine Below.alloc ?_ (by first | exact Nat.le_refl _ | (simp <;> omega)) _)
    clear hK K hHeld
    try simp only [Act.put, List.getElem_toArray, List.getElem_cons_succ, List.getElem_cons_zero, List.getElem?_toArray, List.getElem?_cons_succ, List.getElem?_cons_zero, List.setIfInBounds_toArray, List.set_cons_zero, List.set_cons_succ]
    refine wpAnyH_any hHeld2 (fun Z hHeld => ?_)
    clear hHeld2
    refine wpAnyH_take (i := 10) (v := ?v9) rfl (by kernel_rfl) (by kernel_rfl) (by kernel_rfl) (fun _ _ _ h => h) (Or.inl ⟨by rfl, ?y9⟩) (by assumption) ?_
    case y9 => intro w hSw; (try dsimp only at hSw); go_simp; all_goals first | with_reducible rfl | rw [if_neg (by omega)]
    try simp only [Act.put, List.getElem_toArray, List.getElem_cons_succ, List.getElem_cons_zero, List.getElem?_toArray, List.getElem?_cons_succ, List.getElem?_cons_zero, List.setIfInBounds_toArray, List.set_cons_zero, List.set_cons_succ]
    refine wpAnyH_take (i := 11) (v := ?v10) rfl (by kernel_rfl) (by kernel_rfl) (by kernel_rfl) (fun _ _ _ h => h) (Or.inl ⟨by rfl, ?y10⟩) (by assumption) ?_
    case y10 => intro w hSw; (try dsimp only at hSw); go_simp; all_goals first | with_reducible rfl | rw [if_neg (by omega)]
    try simp only [Act.put, List.getElem_toArray, List.getElem_cons_succ, List.getElem_cons_zero, List.getElem?_toArray, List.getElem?_cons_succ, List.getElem?_cons_zero, List.setIfInBounds_toArray, List.set_cons_zero, List.set_cons_succ]
    refine wpAnyH_take (i := 12) (v := ?v11) rfl (by kernel_rfl) (by kernel_rfl) (by kernel_rfl) (fun _ _ _ h => h) (Or.inl ⟨by rfl, ?y11⟩) (by assumption) ?_
    case y11 => intro w hSw; (try dsimp only at hSw); go_simp; all_goals first | with_reducible rfl | rw [if_neg (by omega)]
    try simp only [Act.put, List.getElem_toArray, List.getElem_cons_succ, List.getElem_cons_zero, List.getElem?_toArray, List.getElem?_cons_succ, List.getElem?_cons_zero, List.setIfInBounds_toArray, List.set_cons_zero, List.set_cons_succ]
    refine wpAnyH_done (by kernel_rfl) ?_ _
    (go_wp2_with fail; go_ret2; refine ⟨congrArg (fun s => Ending.returned (.tuple #[.string s, .bool true])) ?_, hHeld.2.2.2.2.2.2.1⟩; rw [Hri.out]; apply ByteArray.ext; simp [showB, shapesL, wordB, wordsL, alusL, condsL, piece])
  refine AllReadyH.cons rfl (fun K hK => ?_) AllReadyH.nil
  go_simp
  (go_at_call 16; with_reducible refine (hri _).mono ?_; rintro e w2 ⟨rfl, m2, rfl⟩)
  go_wp2_with fail
  refine hK.out _ _ ?_ (fun hHeld2 => ?_)
  · exact held5_keep hHeld (by repeat' first | exact Below.refl _ _ | refine below_drewN ?_ _ | refine Below.drew ?_ | refine Below.alloc ?_ (by first | exact Nat.le_refl _ | (simp <;> omega)) _)
  clear hK K hHeld
  try simp only [Act.put, List.getElem_toArray, List.getElem_cons_succ, List.getElem_cons_zero, List.getElem?_toArray, List.getElem?_cons_succ, List.getElem?_cons_zero, List.setIfInBounds_toArray, List.set_cons_zero, List.set_cons_succ]
  refine wpAnyH_any hHeld2 (fun Y hHeld => ?_)
  clear hHeld2
  refine wpAnyH_ready (rs := [0]) (by kernel_rfl) (by simp) ?_
  refine AllReadyH.cons rfl (fun K hK => ?_) AllReadyH.nil
  go_simp
  refine hK.out _ _ ?_ (fun hHeld2 => ?_)
  · exact held5_keep hHeld (by repeat' first | exact Below.refl _ _ | refine below_drewN ?_ _ | refine Below.drew ?_ | refine Below.alloc ?_ (by first | exact Nat.le_refl _ | (simp <;> omega)) _)
  clear hK K hHeld
  try simp only [Act.put, List.getElem_toArray, List.getElem_cons_succ, List.getElem_cons_zero, List.getElem?_toArray, List.getElem?_cons_succ, List.getElem?_cons_zero, List.setIfInBounds_toArray, List.set_cons_zero, List.set_cons_succ]
  refine wpAnyH_mono (S' := fun w' => w'.cell? ⟨w.heap.size, 0, none⟩ = some (.int .i64 18) ∧ w'.cell? ⟨w.heap.size, 1, none⟩ = some (.int .i64 0) ∧ w'.cell? ⟨w.heap.size, 2, none⟩ = some (.int .i64 n) ∧ w'.cell? ⟨w.heap.size, 3, none⟩ = some (.int .i64 m) ∧ w'.cell? ⟨w.heap.size, 4, none⟩ = some (.int .i64 imm) ∧ w.heap.size < w'.heap.size ∧ Below w.heap.size w w' ∧ w'.cell? ⟨Y.heap.size, 0, none⟩ = some (.string ⟨#[98, 101, 113]⟩) ∧ Y.heap.size < w'.heap.size) (fun _ h => ⟨h.1, h.2.1, h.2.2.1, h.2.2.2.1, h.2.2.2.2.1, h.2.2.2.2.2.1, h.2.2.2.2.2.2.1⟩) ?_
  refine wpAnyH_any (⟨hHeld2.1, hHeld2.2.1, hHeld2.2.2.1, hHeld2.2.2.2.1, hHeld2.2.2.2.2.1, hHeld2.2.2.2.2.2.1, hHeld2.2.2.2.2.2.2, by go_simp, by simp⟩) (fun Z hHeld => ?_)
  clear hHeld2
  refine wpAnyH_take (i := 3) (v := ?v12) rfl (by kernel_rfl) (by kernel_rfl) (by kernel_rfl) (fun _ _ _ h => h) (Or.inl ⟨by rfl, ?y12⟩) (by assumption) ?_
  case y12 => intro w hSw; (try dsimp only at hSw); go_simp; all_goals first | with_reducible rfl | rw [if_neg (by omega)]
  try simp only [Act.put, List.getElem_toArray, List.getElem_cons_succ, List.getElem_cons_zero, List.getElem?_toArray, List.getElem?_cons_succ, List.getElem?_cons_zero, List.setIfInBounds_toArray, List.set_cons_zero, List.set_cons_succ]
  refine wpAnyH_take (i := 4) (v := ?v13) rfl (by kernel_rfl) (by kernel_rfl) (by kernel_rfl) (fun _ _ _ h => h) (Or.inl ⟨by rfl, ?y13⟩) (by assumption) ?_
  case y13 => intro w hSw; (try dsimp only at hSw); go_simp; all_goals first | with_reducible rfl | rw [if_neg (by omega)]
  try simp only [Act.put, List.getElem_toArray, List.getElem_cons_succ, List.getElem_cons_zero, List.getElem?_toArray, List.getElem?_cons_succ, List.getElem?_cons_zero, List.setIfInBounds_toArray, List.set_cons_zero, List.set_cons_succ]
  refine wpAnyH_take (i := 5) (v := ?v14) rfl (by kernel_rfl) (by kernel_rfl) (by kernel_rfl) (fun _ _ _ h => h) (Or.inl ⟨by rfl, ?y14⟩) (by assumption) ?_
  case y14 => intro w hSw; (try dsimp only at hSw); go_simp; all_goals first | with_reducible rfl | rw [if_neg (by omega)]
  try simp only [Act.put, List.getElem_toArray, List.getElem_cons_succ, List.getElem_cons_zero, List.getElem?_toArray, List.getElem?_cons_succ, List.getElem?_cons_zero, List.setIfInBounds_toArray, List.set_cons_zero, List.set_cons_succ]
  refine wpAnyH_take (i := 10) (v := ?v15) rfl (by kernel_rfl) (by kernel_rfl) (by kernel_rfl) (fun _ _ _ h => h) (Or.inl ⟨by rfl, ?y15⟩) (by assumption) ?_
  case y15 => intro w hSw; (try dsimp only at hSw); go_simp; all_goals first | with_reducible rfl | rw [if_neg (by omega)]
  try simp only [Act.put, List.getElem_toArray, List.getElem_cons_succ, List.getElem_cons_zero, List.getElem?_toArray, List.getElem?_cons_succ, List.getElem?_cons_zero, List.setIfInBounds_toArray, List.set_cons_zero, List.set_cons_succ]
  refine wpAnyH_take (i := 11) (v := ?v16) rfl (by kernel_rfl) (by kernel_rfl) (by kernel_rfl) (fun _ _ _ h => h) (Or.inl ⟨by rfl, ?y16⟩) (by assumption) ?_
  case y16 => intro w hSw; (try dsimp only at hSw); go_simp; all_goals first | with_reducible rfl | rw [if_neg (by omega)]
  try simp only [Act.put, List.getElem_toArray, List.getElem_cons_succ, List.getElem_cons_zero, List.getElem?_toArray, List.getElem?_cons_succ, List.getElem?_cons_zero, List.setIfInBounds_toArray, List.set_cons_zero, List.set_cons_succ]
  refine wpAnyH_take (i := 12) (v := ?v17) rfl (by kernel_rfl) (by kernel_rfl) (by kernel_rfl) (fun _ _ _ h => h) (Or.inl ⟨by rfl, ?y17⟩) (by assumption) ?_
  case y17 => intro w hSw; (try dsimp only at hSw); go_simp; all_goals first | with_reducible rfl | rw [if_neg (by omega)]
  try simp only [Act.put, List.getElem_toArray, List.getElem_cons_succ, List.getElem_cons_zero, List.getElem?_toArray, List.getElem?_cons_succ, List.getElem?_cons_zero, List.setIfInBounds_toArray, List.set_cons_zero, List.set_cons_succ]
  refine wpAnyH_done (by kernel_rfl) ?_ _
  (go_wp2_with fail; go_ret2; refine ⟨congrArg (fun s => Ending.returned (.tuple #[.string s, .bool true])) ?_, hHeld.2.2.2.2.2.2.1⟩; rw [Hri.out]; apply ByteArray.ext; simp [showB, shapesL, wordB, wordsL, alusL, condsL, piece])
set_option maxRecDepth 100000 in
set_option maxHeartbeats 8000000 in
theorem rshow_18_1 (d n m imm : Int) (w : World) (hlit : d = 1) (hc : canB 18 d n m imm = true) (hr : rcanB 18 d n m imm = true) : Calls Tryd.prog 7 #[.agg #[.int .i64 18, .int .i64 d, .int .i64 n, .int .i64 m, .int .i64 imm]] w fun e w' => e = .returned (.tuple #[.string ⟨(showB 18 d n m imm).toArray⟩, .bool true]) ∧ Below w.heap.size w w' := by
  subst hlit
  have hb := can_bounds 18 1 n m imm (by decide) hc
  have hcan : ∀ w, Calls Tryd.prog 14 #[.agg #[.int .i64 18, .int .i64 1, .int .i64 n, .int .i64 m, .int .i64 imm]] w fun e w' => e = .returned (.bool true) ∧ Below w.heap.size w w' := fun w => by have := rcan_any 18 (by decide) 1 n m imm w; rw [hr] at this; exact this
  clear hr hc
  obtain ⟨rd, hrd, hsrd, Hrd⟩ := reg_str 1 (by omega) (by omega)
  have hwr : IntKind.i64.wrap (2 * imm) = 2 * imm := by rw [IntKind.wrap_i64]; omega
  obtain ⟨ri, hri, hsri, Hri⟩ := imm_str (2 * imm) (by omega) (by omega)
  go_enter Tryd.func7, Tryd.ntmps7
  go_wp2_with fail
  refine (hcan _).mono ?_
  rintro e w1 ⟨rfl, hb1⟩
  have hbx1 := heap_keep (heap_alloc_new w _) hb1
  have hB1 : Below w.heap.size w w1 := (Below.alloc (Below.refl _ w) (Nat.le_refl _) _).trans (hb1.mono (by simp))
  have hc1 := fun j => Lib.cell_of_heap hbx1 j
  go_wp2_with fail
  refine (hrd _).mono ?_
  rintro e w2 ⟨rfl, m1, rfl⟩
  go_wp2_with fail
  have hS0 : (fun w' => w'.cell? ⟨w.heap.size, 0, none⟩ = some (.int .i64 18) ∧ w'.cell? ⟨w.heap.size, 1, none⟩ = some (.int .i64 1) ∧ w'.cell? ⟨w.heap.size, 2, none⟩ = some (.int .i64 n) ∧ w'.cell? ⟨w.heap.size, 3, none⟩ = some (.int .i64 m) ∧ w'.cell? ⟨w.heap.size, 4, none⟩ = some (.int .i64 imm) ∧ w.heap.size < w'.heap.size ∧ Below w.heap.size w w') (w1.drewN m1) := ⟨hc1 0, hc1 1, hc1 2, hc1 3, hc1 4, (Array.getElem?_eq_some_iff.1 hbx1).1, below_drewN hB1 m1⟩
  generalize w1.drewN m1 = W at *


  have HS := Lib.hid hS0

  obtain ⟨k0, k1, k2, k3, k4, hlt, -⟩ := hS0
  refine wp_region_held_drew (S := fun w' => w'.cell? ⟨w.heap.size, 0, none⟩ = some (.int .i64 18) ∧ w'.cell? ⟨w.heap.size, 1, none⟩ = some (.int .i64 1) ∧ w'.cell? ⟨w.heap.size, 2, none⟩ = some (.int .i64 n) ∧ w'.cell? ⟨w.heap.size, 3, none⟩ = some (.int .i64 m) ∧ w'.cell? ⟨w.heap.size, 4, none⟩ = some (.int .i64 imm) ∧ w.heap.size < w'.heap.size ∧ Below w.heap.size w w') (by kernel_rfl) (held5_keep HS.out ((Below.refl _ _).drew)) (fun hHeld2 => ?_)
  refine wpAnyH_any hHeld2 (fun Y hHeld => ?_)
  clear hHeld2
  refine wpAnyH_take (i := 1) (v := ?v1) rfl (by kernel_rfl) (by kernel_rfl) (by kernel_rfl) (fun _ _ _ h => h) (Or.inl ⟨by rfl, ?y1⟩) (by assumption) ?_
  case y1 => intro w hSw; (try dsimp only at hSw); go_simp; all_goals first | with_reducible rfl | rw [if_neg (by omega)]
  try simp only [Act.put, List.getElem_toArray, List.getElem_cons_succ, List.getElem_cons_zero, List.getElem?_toArray, List.getElem?_cons_succ, List.getElem?_cons_zero, List.setIfInBounds_toArray, List.set_cons_zero, List.set_cons_succ]
  refine wpAnyH_take (i := 2) (v := ?v2) rfl (by kernel_rfl) (by kernel_rfl) (by kernel_rfl) (fun _ _ _ h => h) (Or.inl ⟨by rfl, ?y2⟩) (by assumption) ?_
  case y2 => intro w hSw; (try dsimp only at hSw); go_simp; all_goals first | with_reducible rfl | rw [if_neg (by omega)]
  try simp only [Act.put, List.getElem_toArray, List.getElem_cons_succ, List.getElem_cons_zero, List.getElem?_toArray, List.getElem?_cons_succ, List.getElem?_cons_zero, List.setIfInBounds_toArray, List.set_cons_zero, List.set_cons_succ]
  refine wpAnyH_take (i := 6) (v := ?v3) rfl (by kernel_rfl) (by kernel_rfl) (by kernel_rfl) (fun _ _ _ h => h) (Or.inl ⟨by rfl, ?y3⟩) (by assumption) ?_
  case y3 => intro w hSw; (try dsimp only at hSw); go_simp; all_goals first | with_reducible rfl | rw [if_neg (by omega)]
  try simp only [Act.put, List.getElem_toArray, List.getElem_cons_succ, List.getElem_cons_zero, List.getElem?_toArray, List.getElem?_cons_succ, List.getElem?_cons_zero, List.setIfInBounds_toArray, List.set_cons_zero, List.set_cons_succ]
  refine wpAnyH_take (i := 7) (v := ?v4) rfl (by kernel_rfl) (by kernel_rfl) (by kernel_rfl) (fun _ _ _ h => h) (Or.inl ⟨by rfl, ?y4⟩) (by assumption) ?_
  case y4 => intro w hSw; (try dsimp only at hSw); go_simp; all_goals first | with_reducible rfl | rw [if_neg (by omega)]
  try simp only [Act.put, List.getElem_toArray, List.getElem_cons_succ, List.getElem_cons_zero, List.getElem?_toArray, List.getElem?_cons_succ, List.getElem?_cons_zero, List.setIfInBounds_toArray, List.set_cons_zero, List.set_cons_succ]
  refine wpAnyH_take (i := 8) (v := ?v5) rfl (by kernel_rfl) (by kernel_rfl) (by kernel_rfl) (fun _ _ _ h => h) (Or.inl ⟨by rfl, ?y5⟩) (by assumption) ?_
  case y5 => intro w hSw; (try dsimp only at hSw); go_simp; all_goals first | with_reducible rfl | rw [if_neg (by omega)]
  try simp only [Act.put, List.getElem_toArray, List.getElem_cons_succ, List.getElem_cons_zero, List.getElem?_toArray, List.getElem?_cons_succ, List.getElem?_cons_zero, List.setIfInBounds_toArray, List.set_cons_zero, List.set_cons_succ]
  refine wpAnyH_ready (rs := [0, 9]) (by kernel_rfl) (by simp) ?_
  refine AllReadyH.cons rfl (fun K hK => ?_) ?_
  · skip
    go_simp
    refine hK.out _ _ ?_ (fun hHeld2 => ?_)
    · exact held5_keep hHeld (by repeat' first | exact Below.refl _ _ | refine below_drewN ?_ _ | refine Below.drew ?_ | refine Below.alloc ?_ (by first | exact Nat.le_refl _ | (simp <;> omega)) _)
    clear hK K hHeld
    try simp only [Act.put, List.getElem_toArray, List.getElem_cons_succ, List.getElem_cons_zero, List.getElem?_toArray, List.getElem?_cons_succ, List.getElem?_cons_zero, List.setIfInBounds_toArray, List.set_cons_zero, List.set_cons_succ]
    refine wpAnyH_mono (S' := fun w' => w'.cell? ⟨w.heap.size, 0, none⟩ = some (.int .i64 18) ∧ w'.cell? ⟨w.heap.size, 1, none⟩ = some (.int .i64 1) ∧ w'.cell? ⟨w.heap.size, 2, none⟩ = some (.int .i64 n) ∧ w'.cell? ⟨w.heap.size, 3, none⟩ = some (.int .i64 m) ∧ w'.cell? ⟨w.heap.size, 4, none⟩ = some (.int .i64 imm) ∧ w.heap.size < w'.heap.size ∧ Below w.heap.size w w' ∧ w'.cell? ⟨Y.heap.size, 1, none⟩ = some (.string ⟨#[98, 110, 101]⟩) ∧ Y.heap.size < w'.heap.size) (fun _ h => ⟨h.1, h.2.1, h.2.2.1, h.2.2.2.1, h.2.2.2.2.1, h.2.2.2.2.2.1, h.2.2.2.2.2.2.1⟩) ?_
    refine wpAnyH_any (⟨hHeld2.1, hHeld2.2.1, hHeld2.2.2.1, hHeld2.2.2.2.1, hHeld2.2.2.2.2.1, hHeld2.2.2.2.2.2.1, hHeld2.2.2.2.2.2.2, by go_simp, by simp⟩) (fun Z hHeld => ?_)
    clear hHeld2
    refine wpAnyH_take (i := 3) (v := ?v6) rfl (by kernel_rfl) (by kernel_rfl) (by kernel_rfl) (fun _ _ _ h => h) (Or.inl ⟨by rfl, ?y6⟩) (by assumption) ?_
    case y6 => intro w hSw; (try dsimp only at hSw); go_simp; all_goals first | with_reducible rfl | rw [if_neg (by omega)]
    try simp only [Act.put, List.getElem_toArray, List.getElem_cons_succ, List.getElem_cons_zero, List.getElem?_toArray, List.getElem?_cons_succ, List.getElem?_cons_zero, List.setIfInBounds_toArray, List.set_cons_zero, List.set_cons_succ]
    refine wpAnyH_take (i := 4) (v := ?v7) rfl (by kernel_rfl) (by kernel_rfl) (by kernel_rfl) (fun _ _ _ h => h) (Or.inl ⟨by rfl, ?y7⟩) (by assumption) ?_
    case y7 => intro w hSw; (try dsimp only at hSw); go_simp; all_goals first | with_reducible rfl | rw [if_neg (by omega)]
    try simp only [Act.put, List.getElem_toArray, List.getElem_cons_succ, List.getElem_cons_zero, List.getElem?_toArray, List.getElem?_cons_succ, List.getElem?_cons_zero, List.setIfInBounds_toArray, List.set_cons_zero, List.set_cons_succ]
    refine wpAnyH_take (i := 5) (v := ?v8) rfl (by kernel_rfl) (by kernel_rfl) (by kernel_rfl) (fun _ _ _ h => h) (Or.inl ⟨by rfl, ?y8⟩) (by assumption) ?_
    case y8 => intro w hSw; (try dsimp only at hSw); go_simp; all_goals first | with_reducible rfl | rw [if_neg (by omega)]
    try simp only [Act.put, List.getElem_toArray, List.getElem_cons_succ, List.getElem_cons_zero, List.getElem?_toArray, List.getElem?_cons_succ, List.getElem?_cons_zero, List.setIfInBounds_toArray, List.set_cons_zero, List.set_cons_succ]
    refine wpAnyH_ready (rs := [9]) (by kernel_rfl) (by simp) ?_
    refine AllReadyH.cons rfl (fun K hK => ?_) AllReadyH.nil
    go_simp
    (go_at_call 16; with_reducible refine (hri _).mono ?_; rintro e w2 ⟨rfl, m2, rfl⟩)
    go_wp2_with fail
    refine hK.out _ _ ?_ (fun hHeld2 => ?_)
    · exact held5_litk hHeld (by repeat' first | exact Below.refl _ _ | refine below_drewN ?_ _ | refine Below.drew ?_ | refine Below.alloc ?_ (by first | exact Nat.le_refl _ | (simp <;> omega)) _)
    clear hK K hHeld
    try simp only [Act.put, List.getElem_toArray, List.getElem_cons_succ, List.getElem_cons_zero, List.getElem?_toArray, List.getElem?_cons_succ, List.getElem?_cons_zero, List.setIfInBounds_toArray, List.set_cons_zero, List.set_cons_succ]
    refine wpAnyH_any hHeld2 (fun Z hHeld => ?_)
    clear hHeld2
    refine wpAnyH_take (i := 10) (v := ?v9) rfl (by kernel_rfl) (by kernel_rfl) (by kernel_rfl) (fun _ _ _ h => h) (Or.inl ⟨by rfl, ?y9⟩) (by assumption) ?_
    case y9 => intro w hSw; (try dsimp only at hSw); go_simp; all_goals first | with_reducible rfl | rw [if_neg (by omega)]
    try simp only [Act.put, List.getElem_toArray, List.getElem_cons_succ, List.getElem_cons_zero, List.getElem?_toArray, List.getElem?_cons_succ, List.getElem?_cons_zero, List.setIfInBounds_toArray, List.set_cons_zero, List.set_cons_succ]
    refine wpAnyH_take (i := 11) (v := ?v10) rfl (by kernel_rfl) (by kernel_rfl) (by kernel_rfl) (fun _ _ _ h => h) (Or.inl ⟨by rfl, ?y10⟩) (by assumption) ?_
    case y10 => intro w hSw; (try dsimp only at hSw); go_simp; all_goals first | with_reducible rfl | rw [if_neg (by omega)]
    try simp only [Act.put, List.getElem_toArray, List.getElem_cons_succ, List.getElem_cons_zero, List.getElem?_toArray, List.getElem?_cons_succ, List.getElem?_cons_zero, List.setIfInBounds_toArray, List.set_cons_zero, List.set_cons_succ]
    refine wpAnyH_take (i := 12) (v := ?v11) rfl (by kernel_rfl) (by kernel_rfl) (by kernel_rfl) (fun _ _ _ h => h) (Or.inl ⟨by rfl, ?y11⟩) (by assumption) ?_
    case y11 => intro w hSw; (try dsimp only at hSw); go_simp; all_goals first | with_reducible rfl | rw [if_neg (by omega)]
    try simp only [Act.put, List.getElem_toArray, List.getElem_cons_succ, List.getElem_cons_zero, List.getElem?_toArray, List.getElem?_cons_succ, List.getElem?_cons_zero, List.setIfInBounds_toArray, List.set_cons_zero, List.set_cons_succ]
    refine wpAnyH_done (by kernel_rfl) ?_ _
    (go_wp2_with fail; go_ret2; refine ⟨congrArg (fun s => Ending.returned (.tuple #[.string s, .bool true])) ?_, hHeld.2.2.2.2.2.2.1⟩; rw [Hri.out]; apply ByteArray.ext; simp [showB, shapesL, wordB, wordsL, alusL, condsL, piece])
  refine AllReadyH.cons rfl (fun K hK => ?_) AllReadyH.nil
  go_simp
  (go_at_call 16; with_reducible refine (hri _).mono ?_; rintro e w2 ⟨rfl, m2, rfl⟩)
  go_wp2_with fail
  refine hK.out _ _ ?_ (fun hHeld2 => ?_)
  · exact held5_keep hHeld (by repeat' first | exact Below.refl _ _ | refine below_drewN ?_ _ | refine Below.drew ?_ | refine Below.alloc ?_ (by first | exact Nat.le_refl _ | (simp <;> omega)) _)
  clear hK K hHeld
  try simp only [Act.put, List.getElem_toArray, List.getElem_cons_succ, List.getElem_cons_zero, List.getElem?_toArray, List.getElem?_cons_succ, List.getElem?_cons_zero, List.setIfInBounds_toArray, List.set_cons_zero, List.set_cons_succ]
  refine wpAnyH_any hHeld2 (fun Y hHeld => ?_)
  clear hHeld2
  refine wpAnyH_ready (rs := [0]) (by kernel_rfl) (by simp) ?_
  refine AllReadyH.cons rfl (fun K hK => ?_) AllReadyH.nil
  go_simp
  refine hK.out _ _ ?_ (fun hHeld2 => ?_)
  · exact held5_keep hHeld (by repeat' first | exact Below.refl _ _ | refine below_drewN ?_ _ | refine Below.drew ?_ | refine Below.alloc ?_ (by first | exact Nat.le_refl _ | (simp <;> omega)) _)
  clear hK K hHeld
  try simp only [Act.put, List.getElem_toArray, List.getElem_cons_succ, List.getElem_cons_zero, List.getElem?_toArray, List.getElem?_cons_succ, List.getElem?_cons_zero, List.setIfInBounds_toArray, List.set_cons_zero, List.set_cons_succ]
  refine wpAnyH_mono (S' := fun w' => w'.cell? ⟨w.heap.size, 0, none⟩ = some (.int .i64 18) ∧ w'.cell? ⟨w.heap.size, 1, none⟩ = some (.int .i64 1) ∧ w'.cell? ⟨w.heap.size, 2, none⟩ = some (.int .i64 n) ∧ w'.cell? ⟨w.heap.size, 3, none⟩ = some (.int .i64 m) ∧ w'.cell? ⟨w.heap.size, 4, none⟩ = some (.int .i64 imm) ∧ w.heap.size < w'.heap.size ∧ Below w.heap.size w w' ∧ w'.cell? ⟨Y.heap.size, 1, none⟩ = some (.string ⟨#[98, 110, 101]⟩) ∧ Y.heap.size < w'.heap.size) (fun _ h => ⟨h.1, h.2.1, h.2.2.1, h.2.2.2.1, h.2.2.2.2.1, h.2.2.2.2.2.1, h.2.2.2.2.2.2.1⟩) ?_
  refine wpAnyH_any (⟨hHeld2.1, hHeld2.2.1, hHeld2.2.2.1, hHeld2.2.2.2.1, hHeld2.2.2.2.2.1, hHeld2.2.2.2.2.2.1, hHeld2.2.2.2.2.2.2, by go_simp, by simp⟩) (fun Z hHeld => ?_)
  clear hHeld2
  refine wpAnyH_take (i := 3) (v := ?v12) rfl (by kernel_rfl) (by kernel_rfl) (by kernel_rfl) (fun _ _ _ h => h) (Or.inl ⟨by rfl, ?y12⟩) (by assumption) ?_
  case y12 => intro w hSw; (try dsimp only at hSw); go_simp; all_goals first | with_reducible rfl | rw [if_neg (by omega)]
  try simp only [Act.put, List.getElem_toArray, List.getElem_cons_succ, List.getElem_cons_zero, List.getElem?_toArray, List.getElem?_cons_succ, List.getElem?_cons_zero, List.setIfInBounds_toArray, List.set_cons_zero, List.set_cons_succ]
  refine wpAnyH_take (i := 4) (v := ?v13) rfl (by kernel_rfl) (by kernel_rfl) (by kernel_rfl) (fun _ _ _ h => h) (Or.inl ⟨by rfl, ?y13⟩) (by assumption) ?_
  case y13 => intro w hSw; (try dsimp only at hSw); go_simp; all_goals first | with_reducible rfl | rw [if_neg (by omega)]
  try simp only [Act.put, List.getElem_toArray, List.getElem_cons_succ, List.getElem_cons_zero, List.getElem?_toArray, List.getElem?_cons_succ, List.getElem?_cons_zero, List.setIfInBounds_toArray, List.set_cons_zero, List.set_cons_succ]
  refine wpAnyH_take (i := 5) (v := ?v14) rfl (by kernel_rfl) (by kernel_rfl) (by kernel_rfl) (fun _ _ _ h => h) (Or.inl ⟨by rfl, ?y14⟩) (by assumption) ?_
  case y14 => intro w hSw; (try dsimp only at hSw); go_simp; all_goals first | with_reducible rfl | rw [if_neg (by omega)]
  try simp only [Act.put, List.getElem_toArray, List.getElem_cons_succ, List.getElem_cons_zero, List.getElem?_toArray, List.getElem?_cons_succ, List.getElem?_cons_zero, List.setIfInBounds_toArray, List.set_cons_zero, List.set_cons_succ]
  refine wpAnyH_take (i := 10) (v := ?v15) rfl (by kernel_rfl) (by kernel_rfl) (by kernel_rfl) (fun _ _ _ h => h) (Or.inl ⟨by rfl, ?y15⟩) (by assumption) ?_
  case y15 => intro w hSw; (try dsimp only at hSw); go_simp; all_goals first | with_reducible rfl | rw [if_neg (by omega)]
  try simp only [Act.put, List.getElem_toArray, List.getElem_cons_succ, List.getElem_cons_zero, List.getElem?_toArray, List.getElem?_cons_succ, List.getElem?_cons_zero, List.setIfInBounds_toArray, List.set_cons_zero, List.set_cons_succ]
  refine wpAnyH_take (i := 11) (v := ?v16) rfl (by kernel_rfl) (by kernel_rfl) (by kernel_rfl) (fun _ _ _ h => h) (Or.inl ⟨by rfl, ?y16⟩) (by assumption) ?_
  case y16 => intro w hSw; (try dsimp only at hSw); go_simp; all_goals first | with_reducible rfl | rw [if_neg (by omega)]
  try simp only [Act.put, List.getElem_toArray, List.getElem_cons_succ, List.getElem_cons_zero, List.getElem?_toArray, List.getElem?_cons_succ, List.getElem?_cons_zero, List.setIfInBounds_toArray, List.set_cons_zero, List.set_cons_succ]
  refine wpAnyH_take (i := 12) (v := ?v17) rfl (by kernel_rfl) (by kernel_rfl) (by kernel_rfl) (fun _ _ _ h => h) (Or.inl ⟨by rfl, ?y17⟩) (by assumption) ?_
  case y17 => intro w hSw; (try dsimp only at hSw); go_simp; all_goals first | with_reducible rfl | rw [if_neg (by omega)]
  try simp only [Act.put, List.getElem_toArray, List.getElem_cons_succ, List.getElem_cons_zero, List.getElem?_toArray, List.getElem?_cons_succ, List.getElem?_cons_zero, List.setIfInBounds_toArray, List.set_cons_zero, List.set_cons_succ]
  refine wpAnyH_done (by kernel_rfl) ?_ _
  (go_wp2_with fail; go_ret2; refine ⟨congrArg (fun s => Ending.returned (.tuple #[.string s, .bool true])) ?_, hHeld.2.2.2.2.2.2.1⟩; rw [Hri.out]; apply ByteArray.ext; simp [showB, shapesL, wordB, wordsL, alusL, condsL, piece])
set_option maxRecDepth 100000 in
set_option maxHeartbeats 8000000 in
theorem rshow_18_2 (d n m imm : Int) (w : World) (hlit : d = 2) (hc : canB 18 d n m imm = true) (hr : rcanB 18 d n m imm = true) : Calls Tryd.prog 7 #[.agg #[.int .i64 18, .int .i64 d, .int .i64 n, .int .i64 m, .int .i64 imm]] w fun e w' => e = .returned (.tuple #[.string ⟨(showB 18 d n m imm).toArray⟩, .bool true]) ∧ Below w.heap.size w w' := by
  subst hlit
  have hb := can_bounds 18 2 n m imm (by decide) hc
  have hcan : ∀ w, Calls Tryd.prog 14 #[.agg #[.int .i64 18, .int .i64 2, .int .i64 n, .int .i64 m, .int .i64 imm]] w fun e w' => e = .returned (.bool true) ∧ Below w.heap.size w w' := fun w => by have := rcan_any 18 (by decide) 2 n m imm w; rw [hr] at this; exact this
  clear hr hc
  obtain ⟨rd, hrd, hsrd, Hrd⟩ := reg_str 2 (by omega) (by omega)
  have hwr : IntKind.i64.wrap (2 * imm) = 2 * imm := by rw [IntKind.wrap_i64]; omega
  obtain ⟨ri, hri, hsri, Hri⟩ := imm_str (2 * imm) (by omega) (by omega)
  go_enter Tryd.func7, Tryd.ntmps7
  go_wp2_with fail
  refine (hcan _).mono ?_
  rintro e w1 ⟨rfl, hb1⟩
  have hbx1 := heap_keep (heap_alloc_new w _) hb1
  have hB1 : Below w.heap.size w w1 := (Below.alloc (Below.refl _ w) (Nat.le_refl _) _).trans (hb1.mono (by simp))
  have hc1 := fun j => Lib.cell_of_heap hbx1 j
  go_wp2_with fail
  refine (hrd _).mono ?_
  rintro e w2 ⟨rfl, m1, rfl⟩
  go_wp2_with fail
  have hS0 : (fun w' => w'.cell? ⟨w.heap.size, 0, none⟩ = some (.int .i64 18) ∧ w'.cell? ⟨w.heap.size, 1, none⟩ = some (.int .i64 2) ∧ w'.cell? ⟨w.heap.size, 2, none⟩ = some (.int .i64 n) ∧ w'.cell? ⟨w.heap.size, 3, none⟩ = some (.int .i64 m) ∧ w'.cell? ⟨w.heap.size, 4, none⟩ = some (.int .i64 imm) ∧ w.heap.size < w'.heap.size ∧ Below w.heap.size w w') (w1.drewN m1) := ⟨hc1 0, hc1 1, hc1 2, hc1 3, hc1 4, (Array.getElem?_eq_some_iff.1 hbx1).1, below_drewN hB1 m1⟩
  generalize w1.drewN m1 = W at *


  have HS := Lib.hid hS0

  obtain ⟨k0, k1, k2, k3, k4, hlt, -⟩ := hS0
  refine wp_region_held_drew (S := fun w' => w'.cell? ⟨w.heap.size, 0, none⟩ = some (.int .i64 18) ∧ w'.cell? ⟨w.heap.size, 1, none⟩ = some (.int .i64 2) ∧ w'.cell? ⟨w.heap.size, 2, none⟩ = some (.int .i64 n) ∧ w'.cell? ⟨w.heap.size, 3, none⟩ = some (.int .i64 m) ∧ w'.cell? ⟨w.heap.size, 4, none⟩ = some (.int .i64 imm) ∧ w.heap.size < w'.heap.size ∧ Below w.heap.size w w') (by kernel_rfl) (held5_keep HS.out ((Below.refl _ _).drew)) (fun hHeld2 => ?_)
  refine wpAnyH_any hHeld2 (fun Y hHeld => ?_)
  clear hHeld2
  refine wpAnyH_take (i := 1) (v := ?v1) rfl (by kernel_rfl) (by kernel_rfl) (by kernel_rfl) (fun _ _ _ h => h) (Or.inl ⟨by rfl, ?y1⟩) (by assumption) ?_
  case y1 => intro w hSw; (try dsimp only at hSw); go_simp; all_goals first | with_reducible rfl | rw [if_neg (by omega)]
  try simp only [Act.put, List.getElem_toArray, List.getElem_cons_succ, List.getElem_cons_zero, List.getElem?_toArray, List.getElem?_cons_succ, List.getElem?_cons_zero, List.setIfInBounds_toArray, List.set_cons_zero, List.set_cons_succ]
  refine wpAnyH_take (i := 2) (v := ?v2) rfl (by kernel_rfl) (by kernel_rfl) (by kernel_rfl) (fun _ _ _ h => h) (Or.inl ⟨by rfl, ?y2⟩) (by assumption) ?_
  case y2 => intro w hSw; (try dsimp only at hSw); go_simp; all_goals first | with_reducible rfl | rw [if_neg (by omega)]
  try simp only [Act.put, List.getElem_toArray, List.getElem_cons_succ, List.getElem_cons_zero, List.getElem?_toArray, List.getElem?_cons_succ, List.getElem?_cons_zero, List.setIfInBounds_toArray, List.set_cons_zero, List.set_cons_succ]
  refine wpAnyH_take (i := 6) (v := ?v3) rfl (by kernel_rfl) (by kernel_rfl) (by kernel_rfl) (fun _ _ _ h => h) (Or.inl ⟨by rfl, ?y3⟩) (by assumption) ?_
  case y3 => intro w hSw; (try dsimp only at hSw); go_simp; all_goals first | with_reducible rfl | rw [if_neg (by omega)]
  try simp only [Act.put, List.getElem_toArray, List.getElem_cons_succ, List.getElem_cons_zero, List.getElem?_toArray, List.getElem?_cons_succ, List.getElem?_cons_zero, List.setIfInBounds_toArray, List.set_cons_zero, List.set_cons_succ]
  refine wpAnyH_take (i := 7) (v := ?v4) rfl (by kernel_rfl) (by kernel_rfl) (by kernel_rfl) (fun _ _ _ h => h) (Or.inl ⟨by rfl, ?y4⟩) (by assumption) ?_
  case y4 => intro w hSw; (try dsimp only at hSw); go_simp; all_goals first | with_reducible rfl | rw [if_neg (by omega)]
  try simp only [Act.put, List.getElem_toArray, List.getElem_cons_succ, List.getElem_cons_zero, List.getElem?_toArray, List.getElem?_cons_succ, List.getElem?_cons_zero, List.setIfInBounds_toArray, List.set_cons_zero, List.set_cons_succ]
  refine wpAnyH_take (i := 8) (v := ?v5) rfl (by kernel_rfl) (by kernel_rfl) (by kernel_rfl) (fun _ _ _ h => h) (Or.inl ⟨by rfl, ?y5⟩) (by assumption) ?_
  case y5 => intro w hSw; (try dsimp only at hSw); go_simp; all_goals first | with_reducible rfl | rw [if_neg (by omega)]
  try simp only [Act.put, List.getElem_toArray, List.getElem_cons_succ, List.getElem_cons_zero, List.getElem?_toArray, List.getElem?_cons_succ, List.getElem?_cons_zero, List.setIfInBounds_toArray, List.set_cons_zero, List.set_cons_succ]
  refine wpAnyH_ready (rs := [0, 9]) (by kernel_rfl) (by simp) ?_
  refine AllReadyH.cons rfl (fun K hK => ?_) ?_
  · skip
    go_simp
    refine hK.out _ _ ?_ (fun hHeld2 => ?_)
    · exact held5_keep hHeld (by repeat' first | exact Below.refl _ _ | refine below_drewN ?_ _ | refine Below.drew ?_ | refine Below.alloc ?_ (by first | exact Nat.le_refl _ | (simp <;> omega)) _)
    clear hK K hHeld
    try simp only [Act.put, List.getElem_toArray, List.getElem_cons_succ, List.getElem_cons_zero, List.getElem?_toArray, List.getElem?_cons_succ, List.getElem?_cons_zero, List.setIfInBounds_toArray, List.set_cons_zero, List.set_cons_succ]
    refine wpAnyH_mono (S' := fun w' => w'.cell? ⟨w.heap.size, 0, none⟩ = some (.int .i64 18) ∧ w'.cell? ⟨w.heap.size, 1, none⟩ = some (.int .i64 2) ∧ w'.cell? ⟨w.heap.size, 2, none⟩ = some (.int .i64 n) ∧ w'.cell? ⟨w.heap.size, 3, none⟩ = some (.int .i64 m) ∧ w'.cell? ⟨w.heap.size, 4, none⟩ = some (.int .i64 imm) ∧ w.heap.size < w'.heap.size ∧ Below w.heap.size w w' ∧ w'.cell? ⟨Y.heap.size, 2, none⟩ = some (.string ⟨#[98, 99, 115]⟩) ∧ Y.heap.size < w'.heap.size) (fun _ h => ⟨h.1, h.2.1, h.2.2.1, h.2.2.2.1, h.2.2.2.2.1, h.2.2.2.2.2.1, h.2.2.2.2.2.2.1⟩) ?_
    refine wpAnyH_any (⟨hHeld2.1, hHeld2.2.1, hHeld2.2.2.1, hHeld2.2.2.2.1, hHeld2.2.2.2.2.1, hHeld2.2.2.2.2.2.1, hHeld2.2.2.2.2.2.2, by go_simp, by simp⟩) (fun Z hHeld => ?_)
    clear hHeld2
    refine wpAnyH_take (i := 3) (v := ?v6) rfl (by kernel_rfl) (by kernel_rfl) (by kernel_rfl) (fun _ _ _ h => h) (Or.inl ⟨by rfl, ?y6⟩) (by assumption) ?_
    case y6 => intro w hSw; (try dsimp only at hSw); go_simp; all_goals first | with_reducible rfl | rw [if_neg (by omega)]
    try simp only [Act.put, List.getElem_toArray, List.getElem_cons_succ, List.getElem_cons_zero, List.getElem?_toArray, List.getElem?_cons_succ, List.getElem?_cons_zero, List.setIfInBounds_toArray, List.set_cons_zero, List.set_cons_succ]
    refine wpAnyH_take (i := 4) (v := ?v7) rfl (by kernel_rfl) (by kernel_rfl) (by kernel_rfl) (fun _ _ _ h => h) (Or.inl ⟨by rfl, ?y7⟩) (by assumption) ?_
    case y7 => intro w hSw; (try dsimp only at hSw); go_simp; all_goals first | with_reducible rfl | rw [if_neg (by omega)]
    try simp only [Act.put, List.getElem_toArray, List.getElem_cons_succ, List.getElem_cons_zero, List.getElem?_toArray, List.getElem?_cons_succ, List.getElem?_cons_zero, List.setIfInBounds_toArray, List.set_cons_zero, List.set_cons_succ]
    refine wpAnyH_take (i := 5) (v := ?v8) rfl (by kernel_rfl) (by kernel_rfl) (by kernel_rfl) (fun _ _ _ h => h) (Or.inl ⟨by rfl, ?y8⟩) (by assumption) ?_
    case y8 => intro w hSw; (try dsimp only at hSw); go_simp; all_goals first | with_reducible rfl | rw [if_neg (by omega)]
    try simp only [Act.put, List.getElem_toArray, List.getElem_cons_succ, List.getElem_cons_zero, List.getElem?_toArray, List.getElem?_cons_succ, List.getElem?_cons_zero, List.setIfInBounds_toArray, List.set_cons_zero, List.set_cons_succ]
    refine wpAnyH_ready (rs := [9]) (by kernel_rfl) (by simp) ?_
    refine AllReadyH.cons rfl (fun K hK => ?_) AllReadyH.nil
    go_simp
    (go_at_call 16; with_reducible refine (hri _).mono ?_; rintro e w2 ⟨rfl, m2, rfl⟩)
    go_wp2_with fail
    refine hK.out _ _ ?_ (fun hHeld2 => ?_)
    · exact held5_litk hHeld (by repeat' first | exact Below.refl _ _ | refine below_drewN ?_ _ | refine Below.drew ?_ | refine Below.alloc ?_ (by first | exact Nat.le_refl _ | (simp <;> omega)) _)
    clear hK K hHeld
    try simp only [Act.put, List.getElem_toArray, List.getElem_cons_succ, List.getElem_cons_zero, List.getElem?_toArray, List.getElem?_cons_succ, List.getElem?_cons_zero, List.setIfInBounds_toArray, List.set_cons_zero, List.set_cons_succ]
    refine wpAnyH_any hHeld2 (fun Z hHeld => ?_)
    clear hHeld2
    refine wpAnyH_take (i := 10) (v := ?v9) rfl (by kernel_rfl) (by kernel_rfl) (by kernel_rfl) (fun _ _ _ h => h) (Or.inl ⟨by rfl, ?y9⟩) (by assumption) ?_
    case y9 => intro w hSw; (try dsimp only at hSw); go_simp; all_goals first | with_reducible rfl | rw [if_neg (by omega)]
    try simp only [Act.put, List.getElem_toArray, List.getElem_cons_succ, List.getElem_cons_zero, List.getElem?_toArray, List.getElem?_cons_succ, List.getElem?_cons_zero, List.setIfInBounds_toArray, List.set_cons_zero, List.set_cons_succ]
    refine wpAnyH_take (i := 11) (v := ?v10) rfl (by kernel_rfl) (by kernel_rfl) (by kernel_rfl) (fun _ _ _ h => h) (Or.inl ⟨by rfl, ?y10⟩) (by assumption) ?_
    case y10 => intro w hSw; (try dsimp only at hSw); go_simp; all_goals first | with_reducible rfl | rw [if_neg (by omega)]
    try simp only [Act.put, List.getElem_toArray, List.getElem_cons_succ, List.getElem_cons_zero, List.getElem?_toArray, List.getElem?_cons_succ, List.getElem?_cons_zero, List.setIfInBounds_toArray, List.set_cons_zero, List.set_cons_succ]
    refine wpAnyH_take (i := 12) (v := ?v11) rfl (by kernel_rfl) (by kernel_rfl) (by kernel_rfl) (fun _ _ _ h => h) (Or.inl ⟨by rfl, ?y11⟩) (by assumption) ?_
    case y11 => intro w hSw; (try dsimp only at hSw); go_simp; all_goals first | with_reducible rfl | rw [if_neg (by omega)]
    try simp only [Act.put, List.getElem_toArray, List.getElem_cons_succ, List.getElem_cons_zero, List.getElem?_toArray, List.getElem?_cons_succ, List.getElem?_cons_zero, List.setIfInBounds_toArray, List.set_cons_zero, List.set_cons_succ]
    refine wpAnyH_done (by kernel_rfl) ?_ _
    (go_wp2_with fail; go_ret2; refine ⟨congrArg (fun s => Ending.returned (.tuple #[.string s, .bool true])) ?_, hHeld.2.2.2.2.2.2.1⟩; rw [Hri.out]; apply ByteArray.ext; simp [showB, shapesL, wordB, wordsL, alusL, condsL, piece])
  refine AllReadyH.cons rfl (fun K hK => ?_) AllReadyH.nil
  go_simp
  (go_at_call 16; with_reducible refine (hri _).mono ?_; rintro e w2 ⟨rfl, m2, rfl⟩)
  go_wp2_with fail
  refine hK.out _ _ ?_ (fun hHeld2 => ?_)
  · exact held5_keep hHeld (by repeat' first | exact Below.refl _ _ | refine below_drewN ?_ _ | refine Below.drew ?_ | refine Below.alloc ?_ (by first | exact Nat.le_refl _ | (simp <;> omega)) _)
  clear hK K hHeld
  try simp only [Act.put, List.getElem_toArray, List.getElem_cons_succ, List.getElem_cons_zero, List.getElem?_toArray, List.getElem?_cons_succ, List.getElem?_cons_zero, List.setIfInBounds_toArray, List.set_cons_zero, List.set_cons_succ]
  refine wpAnyH_any hHeld2 (fun Y hHeld => ?_)
  clear hHeld2
  refine wpAnyH_ready (rs := [0]) (by kernel_rfl) (by simp) ?_
  refine AllReadyH.cons rfl (fun K hK => ?_) AllReadyH.nil
  go_simp
  refine hK.out _ _ ?_ (fun hHeld2 => ?_)
  · exact held5_keep hHeld (by repeat' first | exact Below.refl _ _ | refine below_drewN ?_ _ | refine Below.drew ?_ | refine Below.alloc ?_ (by first | exact Nat.le_refl _ | (simp <;> omega)) _)
  clear hK K hHeld
  try simp only [Act.put, List.getElem_toArray, List.getElem_cons_succ, List.getElem_cons_zero, List.getElem?_toArray, List.getElem?_cons_succ, List.getElem?_cons_zero, List.setIfInBounds_toArray, List.set_cons_zero, List.set_cons_succ]
  refine wpAnyH_mono (S' := fun w' => w'.cell? ⟨w.heap.size, 0, none⟩ = some (.int .i64 18) ∧ w'.cell? ⟨w.heap.size, 1, none⟩ = some (.int .i64 2) ∧ w'.cell? ⟨w.heap.size, 2, none⟩ = some (.int .i64 n) ∧ w'.cell? ⟨w.heap.size, 3, none⟩ = some (.int .i64 m) ∧ w'.cell? ⟨w.heap.size, 4, none⟩ = some (.int .i64 imm) ∧ w.heap.size < w'.heap.size ∧ Below w.heap.size w w' ∧ w'.cell? ⟨Y.heap.size, 2, none⟩ = some (.string ⟨#[98, 99, 115]⟩) ∧ Y.heap.size < w'.heap.size) (fun _ h => ⟨h.1, h.2.1, h.2.2.1, h.2.2.2.1, h.2.2.2.2.1, h.2.2.2.2.2.1, h.2.2.2.2.2.2.1⟩) ?_
  refine wpAnyH_any (⟨hHeld2.1, hHeld2.2.1, hHeld2.2.2.1, hHeld2.2.2.2.1, hHeld2.2.2.2.2.1, hHeld2.2.2.2.2.2.1, hHeld2.2.2.2.2.2.2, by go_simp, by simp⟩) (fun Z hHeld => ?_)
  clear hHeld2
  refine wpAnyH_take (i := 3) (v := ?v12) rfl (by kernel_rfl) (by kernel_rfl) (by kernel_rfl) (fun _ _ _ h => h) (Or.inl ⟨by rfl, ?y12⟩) (by assumption) ?_
  case y12 => intro w hSw; (try dsimp only at hSw); go_simp; all_goals first | with_reducible rfl | rw [if_neg (by omega)]
  try simp only [Act.put, List.getElem_toArray, List.getElem_cons_succ, List.getElem_cons_zero, List.getElem?_toArray, List.getElem?_cons_succ, List.getElem?_cons_zero, List.setIfInBounds_toArray, List.set_cons_zero, List.set_cons_succ]
  refine wpAnyH_take (i := 4) (v := ?v13) rfl (by kernel_rfl) (by kernel_rfl) (by kernel_rfl) (fun _ _ _ h => h) (Or.inl ⟨by rfl, ?y13⟩) (by assumption) ?_
  case y13 => intro w hSw; (try dsimp only at hSw); go_simp; all_goals first | with_reducible rfl | rw [if_neg (by omega)]
  try simp only [Act.put, List.getElem_toArray, List.getElem_cons_succ, List.getElem_cons_zero, List.getElem?_toArray, List.getElem?_cons_succ, List.getElem?_cons_zero, List.setIfInBounds_toArray, List.set_cons_zero, List.set_cons_succ]
  refine wpAnyH_take (i := 5) (v := ?v14) rfl (by kernel_rfl) (by kernel_rfl) (by kernel_rfl) (fun _ _ _ h => h) (Or.inl ⟨by rfl, ?y14⟩) (by assumption) ?_
  case y14 => intro w hSw; (try dsimp only at hSw); go_simp; all_goals first | with_reducible rfl | rw [if_neg (by omega)]
  try simp only [Act.put, List.getElem_toArray, List.getElem_cons_succ, List.getElem_cons_zero, List.getElem?_toArray, List.getElem?_cons_succ, List.getElem?_cons_zero, List.setIfInBounds_toArray, List.set_cons_zero, List.set_cons_succ]
  refine wpAnyH_take (i := 10) (v := ?v15) rfl (by kernel_rfl) (by kernel_rfl) (by kernel_rfl) (fun _ _ _ h => h) (Or.inl ⟨by rfl, ?y15⟩) (by assumption) ?_
  case y15 => intro w hSw; (try dsimp only at hSw); go_simp; all_goals first | with_reducible rfl | rw [if_neg (by omega)]
  try simp only [Act.put, List.getElem_toArray, List.getElem_cons_succ, List.getElem_cons_zero, List.getElem?_toArray, List.getElem?_cons_succ, List.getElem?_cons_zero, List.setIfInBounds_toArray, List.set_cons_zero, List.set_cons_succ]
  refine wpAnyH_take (i := 11) (v := ?v16) rfl (by kernel_rfl) (by kernel_rfl) (by kernel_rfl) (fun _ _ _ h => h) (Or.inl ⟨by rfl, ?y16⟩) (by assumption) ?_
  case y16 => intro w hSw; (try dsimp only at hSw); go_simp; all_goals first | with_reducible rfl | rw [if_neg (by omega)]
  try simp only [Act.put, List.getElem_toArray, List.getElem_cons_succ, List.getElem_cons_zero, List.getElem?_toArray, List.getElem?_cons_succ, List.getElem?_cons_zero, List.setIfInBounds_toArray, List.set_cons_zero, List.set_cons_succ]
  refine wpAnyH_take (i := 12) (v := ?v17) rfl (by kernel_rfl) (by kernel_rfl) (by kernel_rfl) (fun _ _ _ h => h) (Or.inl ⟨by rfl, ?y17⟩) (by assumption) ?_
  case y17 => intro w hSw; (try dsimp only at hSw); go_simp; all_goals first | with_reducible rfl | rw [if_neg (by omega)]
  try simp only [Act.put, List.getElem_toArray, List.getElem_cons_succ, List.getElem_cons_zero, List.getElem?_toArray, List.getElem?_cons_succ, List.getElem?_cons_zero, List.setIfInBounds_toArray, List.set_cons_zero, List.set_cons_succ]
  refine wpAnyH_done (by kernel_rfl) ?_ _
  (go_wp2_with fail; go_ret2; refine ⟨congrArg (fun s => Ending.returned (.tuple #[.string s, .bool true])) ?_, hHeld.2.2.2.2.2.2.1⟩; rw [Hri.out]; apply ByteArray.ext; simp [showB, shapesL, wordB, wordsL, alusL, condsL, piece])
set_option maxRecDepth 100000 in
set_option maxHeartbeats 8000000 in
theorem rshow_18_3 (d n m imm : Int) (w : World) (hlit : d = 3) (hc : canB 18 d n m imm = true) (hr : rcanB 18 d n m imm = true) : Calls Tryd.prog 7 #[.agg #[.int .i64 18, .int .i64 d, .int .i64 n, .int .i64 m, .int .i64 imm]] w fun e w' => e = .returned (.tuple #[.string ⟨(showB 18 d n m imm).toArray⟩, .bool true]) ∧ Below w.heap.size w w' := by
  subst hlit
  have hb := can_bounds 18 3 n m imm (by decide) hc
  have hcan : ∀ w, Calls Tryd.prog 14 #[.agg #[.int .i64 18, .int .i64 3, .int .i64 n, .int .i64 m, .int .i64 imm]] w fun e w' => e = .returned (.bool true) ∧ Below w.heap.size w w' := fun w => by have := rcan_any 18 (by decide) 3 n m imm w; rw [hr] at this; exact this
  clear hr hc
  obtain ⟨rd, hrd, hsrd, Hrd⟩ := reg_str 3 (by omega) (by omega)
  have hwr : IntKind.i64.wrap (2 * imm) = 2 * imm := by rw [IntKind.wrap_i64]; omega
  obtain ⟨ri, hri, hsri, Hri⟩ := imm_str (2 * imm) (by omega) (by omega)
  go_enter Tryd.func7, Tryd.ntmps7
  go_wp2_with fail
  refine (hcan _).mono ?_
  rintro e w1 ⟨rfl, hb1⟩
  have hbx1 := heap_keep (heap_alloc_new w _) hb1
  have hB1 : Below w.heap.size w w1 := (Below.alloc (Below.refl _ w) (Nat.le_refl _) _).trans (hb1.mono (by simp))
  have hc1 := fun j => Lib.cell_of_heap hbx1 j
  go_wp2_with fail
  refine (hrd _).mono ?_
  rintro e w2 ⟨rfl, m1, rfl⟩
  go_wp2_with fail
  have hS0 : (fun w' => w'.cell? ⟨w.heap.size, 0, none⟩ = some (.int .i64 18) ∧ w'.cell? ⟨w.heap.size, 1, none⟩ = some (.int .i64 3) ∧ w'.cell? ⟨w.heap.size, 2, none⟩ = some (.int .i64 n) ∧ w'.cell? ⟨w.heap.size, 3, none⟩ = some (.int .i64 m) ∧ w'.cell? ⟨w.heap.size, 4, none⟩ = some (.int .i64 imm) ∧ w.heap.size < w'.heap.size ∧ Below w.heap.size w w') (w1.drewN m1) := ⟨hc1 0, hc1 1, hc1 2, hc1 3, hc1 4, (Array.getElem?_eq_some_iff.1 hbx1).1, below_drewN hB1 m1⟩
  generalize w1.drewN m1 = W at *


  have HS := Lib.hid hS0

  obtain ⟨k0, k1, k2, k3, k4, hlt, -⟩ := hS0
  refine wp_region_held_drew (S := fun w' => w'.cell? ⟨w.heap.size, 0, none⟩ = some (.int .i64 18) ∧ w'.cell? ⟨w.heap.size, 1, none⟩ = some (.int .i64 3) ∧ w'.cell? ⟨w.heap.size, 2, none⟩ = some (.int .i64 n) ∧ w'.cell? ⟨w.heap.size, 3, none⟩ = some (.int .i64 m) ∧ w'.cell? ⟨w.heap.size, 4, none⟩ = some (.int .i64 imm) ∧ w.heap.size < w'.heap.size ∧ Below w.heap.size w w') (by kernel_rfl) (held5_keep HS.out ((Below.refl _ _).drew)) (fun hHeld2 => ?_)
  refine wpAnyH_any hHeld2 (fun Y hHeld => ?_)
  clear hHeld2
  refine wpAnyH_take (i := 1) (v := ?v1) rfl (by kernel_rfl) (by kernel_rfl) (by kernel_rfl) (fun _ _ _ h => h) (Or.inl ⟨by rfl, ?y1⟩) (by assumption) ?_
  case y1 => intro w hSw; (try dsimp only at hSw); go_simp; all_goals first | with_reducible rfl | rw [if_neg (by omega)]
  try simp only [Act.put, List.getElem_toArray, List.getElem_cons_succ, List.getElem_cons_zero, List.getElem?_toArray, List.getElem?_cons_succ, List.getElem?_cons_zero, List.setIfInBounds_toArray, List.set_cons_zero, List.set_cons_succ]
  refine wpAnyH_take (i := 2) (v := ?v2) rfl (by kernel_rfl) (by kernel_rfl) (by kernel_rfl) (fun _ _ _ h => h) (Or.inl ⟨by rfl, ?y2⟩) (by assumption) ?_
  case y2 => intro w hSw; (try dsimp only at hSw); go_simp; all_goals first | with_reducible rfl | rw [if_neg (by omega)]
  try simp only [Act.put, List.getElem_toArray, List.getElem_cons_succ, List.getElem_cons_zero, List.getElem?_toArray, List.getElem?_cons_succ, List.getElem?_cons_zero, List.setIfInBounds_toArray, List.set_cons_zero, List.set_cons_succ]
  refine wpAnyH_take (i := 6) (v := ?v3) rfl (by kernel_rfl) (by kernel_rfl) (by kernel_rfl) (fun _ _ _ h => h) (Or.inl ⟨by rfl, ?y3⟩) (by assumption) ?_
  case y3 => intro w hSw; (try dsimp only at hSw); go_simp; all_goals first | with_reducible rfl | rw [if_neg (by omega)]
  try simp only [Act.put, List.getElem_toArray, List.getElem_cons_succ, List.getElem_cons_zero, List.getElem?_toArray, List.getElem?_cons_succ, List.getElem?_cons_zero, List.setIfInBounds_toArray, List.set_cons_zero, List.set_cons_succ]
  refine wpAnyH_take (i := 7) (v := ?v4) rfl (by kernel_rfl) (by kernel_rfl) (by kernel_rfl) (fun _ _ _ h => h) (Or.inl ⟨by rfl, ?y4⟩) (by assumption) ?_
  case y4 => intro w hSw; (try dsimp only at hSw); go_simp; all_goals first | with_reducible rfl | rw [if_neg (by omega)]
  try simp only [Act.put, List.getElem_toArray, List.getElem_cons_succ, List.getElem_cons_zero, List.getElem?_toArray, List.getElem?_cons_succ, List.getElem?_cons_zero, List.setIfInBounds_toArray, List.set_cons_zero, List.set_cons_succ]
  refine wpAnyH_take (i := 8) (v := ?v5) rfl (by kernel_rfl) (by kernel_rfl) (by kernel_rfl) (fun _ _ _ h => h) (Or.inl ⟨by rfl, ?y5⟩) (by assumption) ?_
  case y5 => intro w hSw; (try dsimp only at hSw); go_simp; all_goals first | with_reducible rfl | rw [if_neg (by omega)]
  try simp only [Act.put, List.getElem_toArray, List.getElem_cons_succ, List.getElem_cons_zero, List.getElem?_toArray, List.getElem?_cons_succ, List.getElem?_cons_zero, List.setIfInBounds_toArray, List.set_cons_zero, List.set_cons_succ]
  refine wpAnyH_ready (rs := [0, 9]) (by kernel_rfl) (by simp) ?_
  refine AllReadyH.cons rfl (fun K hK => ?_) ?_
  · skip
    go_simp
    refine hK.out _ _ ?_ (fun hHeld2 => ?_)
    · exact held5_keep hHeld (by repeat' first | exact Below.refl _ _ | refine below_drewN ?_ _ | refine Below.drew ?_ | refine Below.alloc ?_ (by first | exact Nat.le_refl _ | (simp <;> omega)) _)
    clear hK K hHeld
    try simp only [Act.put, List.getElem_toArray, List.getElem_cons_succ, List.getElem_cons_zero, List.getElem?_toArray, List.getElem?_cons_succ, List.getElem?_cons_zero, List.setIfInBounds_toArray, List.set_cons_zero, List.set_cons_succ]
    refine wpAnyH_mono (S' := fun w' => w'.cell? ⟨w.heap.size, 0, none⟩ = some (.int .i64 18) ∧ w'.cell? ⟨w.heap.size, 1, none⟩ = some (.int .i64 3) ∧ w'.cell? ⟨w.heap.size, 2, none⟩ = some (.int .i64 n) ∧ w'.cell? ⟨w.heap.size, 3, none⟩ = some (.int .i64 m) ∧ w'.cell? ⟨w.heap.size, 4, none⟩ = some (.int .i64 imm) ∧ w.heap.size < w'.heap.size ∧ Below w.heap.size w w' ∧ w'.cell? ⟨Y.heap.size, 3, none⟩ = some (.string ⟨#[98, 99, 99]⟩) ∧ Y.heap.size < w'.heap.size) (fun _ h => ⟨h.1, h.2.1, h.2.2.1, h.2.2.2.1, h.2.2.2.2.1, h.2.2.2.2.2.1, h.2.2.2.2.2.2.1⟩) ?_
    refine wpAnyH_any (⟨hHeld2.1, hHeld2.2.1, hHeld2.2.2.1, hHeld2.2.2.2.1, hHeld2.2.2.2.2.1, hHeld2.2.2.2.2.2.1, hHeld2.2.2.2.2.2.2, by go_simp, by simp⟩) (fun Z hHeld => ?_)
    clear hHeld2
    refine wpAnyH_take (i := 3) (v := ?v6) rfl (by kernel_rfl) (by kernel_rfl) (by kernel_rfl) (fun _ _ _ h => h) (Or.inl ⟨by rfl, ?y6⟩) (by assumption) ?_
    case y6 => intro w hSw; (try dsimp only at hSw); go_simp; all_goals first | with_reducible rfl | rw [if_neg (by omega)]
    try simp only [Act.put, List.getElem_toArray, List.getElem_cons_succ, List.getElem_cons_zero, List.getElem?_toArray, List.getElem?_cons_succ, List.getElem?_cons_zero, List.setIfInBounds_toArray, List.set_cons_zero, List.set_cons_succ]
    refine wpAnyH_take (i := 4) (v := ?v7) rfl (by kernel_rfl) (by kernel_rfl) (by kernel_rfl) (fun _ _ _ h => h) (Or.inl ⟨by rfl, ?y7⟩) (by assumption) ?_
    case y7 => intro w hSw; (try dsimp only at hSw); go_simp; all_goals first | with_reducible rfl | rw [if_neg (by omega)]
    try simp only [Act.put, List.getElem_toArray, List.getElem_cons_succ, List.getElem_cons_zero, List.getElem?_toArray, List.getElem?_cons_succ, List.getElem?_cons_zero, List.setIfInBounds_toArray, List.set_cons_zero, List.set_cons_succ]
    refine wpAnyH_take (i := 5) (v := ?v8) rfl (by kernel_rfl) (by kernel_rfl) (by kernel_rfl) (fun _ _ _ h => h) (Or.inl ⟨by rfl, ?y8⟩) (by assumption) ?_
    case y8 => intro w hSw; (try dsimp only at hSw); go_simp; all_goals first | with_reducible rfl | rw [if_neg (by omega)]
    try simp only [Act.put, List.getElem_toArray, List.getElem_cons_succ, List.getElem_cons_zero, List.getElem?_toArray, List.getElem?_cons_succ, List.getElem?_cons_zero, List.setIfInBounds_toArray, List.set_cons_zero, List.set_cons_succ]
    refine wpAnyH_ready (rs := [9]) (by kernel_rfl) (by simp) ?_
    refine AllReadyH.cons rfl (fun K hK => ?_) AllReadyH.nil
    go_simp
    (go_at_call 16; with_reducible refine (hri _).mono ?_; rintro e w2 ⟨rfl, m2, rfl⟩)
    go_wp2_with fail
    refine hK.out _ _ ?_ (fun hHeld2 => ?_)
    · exact held5_litk hHeld (by repeat' first | exact Below.refl _ _ | refine below_drewN ?_ _ | refine Below.drew ?_ | refine Below.alloc ?_ (by first | exact Nat.le_refl _ | (simp <;> omega)) _)
    clear hK K hHeld
    try simp only [Act.put, List.getElem_toArray, List.getElem_cons_succ, List.getElem_cons_zero, List.getElem?_toArray, List.getElem?_cons_succ, List.getElem?_cons_zero, List.setIfInBounds_toArray, List.set_cons_zero, List.set_cons_succ]
    refine wpAnyH_any hHeld2 (fun Z hHeld => ?_)
    clear hHeld2
    refine wpAnyH_take (i := 10) (v := ?v9) rfl (by kernel_rfl) (by kernel_rfl) (by kernel_rfl) (fun _ _ _ h => h) (Or.inl ⟨by rfl, ?y9⟩) (by assumption) ?_
    case y9 => intro w hSw; (try dsimp only at hSw); go_simp; all_goals first | with_reducible rfl | rw [if_neg (by omega)]
    try simp only [Act.put, List.getElem_toArray, List.getElem_cons_succ, List.getElem_cons_zero, List.getElem?_toArray, List.getElem?_cons_succ, List.getElem?_cons_zero, List.setIfInBounds_toArray, List.set_cons_zero, List.set_cons_succ]
    refine wpAnyH_take (i := 11) (v := ?v10) rfl (by kernel_rfl) (by kernel_rfl) (by kernel_rfl) (fun _ _ _ h => h) (Or.inl ⟨by rfl, ?y10⟩) (by assumption) ?_
    case y10 => intro w hSw; (try dsimp only at hSw); go_simp; all_goals first | with_reducible rfl | rw [if_neg (by omega)]
    try simp only [Act.put, List.getElem_toArray, List.getElem_cons_succ, List.getElem_cons_zero, List.getElem?_toArray, List.getElem?_cons_succ, List.getElem?_cons_zero, List.setIfInBounds_toArray, List.set_cons_zero, List.set_cons_succ]
    refine wpAnyH_take (i := 12) (v := ?v11) rfl (by kernel_rfl) (by kernel_rfl) (by kernel_rfl) (fun _ _ _ h => h) (Or.inl ⟨by rfl, ?y11⟩) (by assumption) ?_
    case y11 => intro w hSw; (try dsimp only at hSw); go_simp; all_goals first | with_reducible rfl | rw [if_neg (by omega)]
    try simp only [Act.put, List.getElem_toArray, List.getElem_cons_succ, List.getElem_cons_zero, List.getElem?_toArray, List.getElem?_cons_succ, List.getElem?_cons_zero, List.setIfInBounds_toArray, List.set_cons_zero, List.set_cons_succ]
    refine wpAnyH_done (by kernel_rfl) ?_ _
    (go_wp2_with fail; go_ret2; refine ⟨congrArg (fun s => Ending.returned (.tuple #[.string s, .bool true])) ?_, hHeld.2.2.2.2.2.2.1⟩; rw [Hri.out]; apply ByteArray.ext; simp [showB, shapesL, wordB, wordsL, alusL, condsL, piece])
  refine AllReadyH.cons rfl (fun K hK => ?_) AllReadyH.nil
  go_simp
  (go_at_call 16; with_reducible refine (hri _).mono ?_; rintro e w2 ⟨rfl, m2, rfl⟩)
  go_wp2_with fail
  refine hK.out _ _ ?_ (fun hHeld2 => ?_)
  · exact held5_keep hHeld (by repeat' first | exact Below.refl _ _ | refine below_drewN ?_ _ | refine Below.drew ?_ | refine Below.alloc ?_ (by first | exact Nat.le_refl _ | (simp <;> omega)) _)
  clear hK K hHeld
  try simp only [Act.put, List.getElem_toArray, List.getElem_cons_succ, List.getElem_cons_zero, List.getElem?_toArray, List.getElem?_cons_succ, List.getElem?_cons_zero, List.setIfInBounds_toArray, List.set_cons_zero, List.set_cons_succ]
  refine wpAnyH_any hHeld2 (fun Y hHeld => ?_)
  clear hHeld2
  refine wpAnyH_ready (rs := [0]) (by kernel_rfl) (by simp) ?_
  refine AllReadyH.cons rfl (fun K hK => ?_) AllReadyH.nil
  go_simp
  refine hK.out _ _ ?_ (fun hHeld2 => ?_)
  · exact held5_keep hHeld (by repeat' first | exact Below.refl _ _ | refine below_drewN ?_ _ | refine Below.drew ?_ | refine Below.alloc ?_ (by first | exact Nat.le_refl _ | (simp <;> omega)) _)
  clear hK K hHeld
  try simp only [Act.put, List.getElem_toArray, List.getElem_cons_succ, List.getElem_cons_zero, List.getElem?_toArray, List.getElem?_cons_succ, List.getElem?_cons_zero, List.setIfInBounds_toArray, List.set_cons_zero, List.set_cons_succ]
  refine wpAnyH_mono (S' := fun w' => w'.cell? ⟨w.heap.size, 0, none⟩ = some (.int .i64 18) ∧ w'.cell? ⟨w.heap.size, 1, none⟩ = some (.int .i64 3) ∧ w'.cell? ⟨w.heap.size, 2, none⟩ = some (.int .i64 n) ∧ w'.cell? ⟨w.heap.size, 3, none⟩ = some (.int .i64 m) ∧ w'.cell? ⟨w.heap.size, 4, none⟩ = some (.int .i64 imm) ∧ w.heap.size < w'.heap.size ∧ Below w.heap.size w w' ∧ w'.cell? ⟨Y.heap.size, 3, none⟩ = some (.string ⟨#[98, 99, 99]⟩) ∧ Y.heap.size < w'.heap.size) (fun _ h => ⟨h.1, h.2.1, h.2.2.1, h.2.2.2.1, h.2.2.2.2.1, h.2.2.2.2.2.1, h.2.2.2.2.2.2.1⟩) ?_
  refine wpAnyH_any (⟨hHeld2.1, hHeld2.2.1, hHeld2.2.2.1, hHeld2.2.2.2.1, hHeld2.2.2.2.2.1, hHeld2.2.2.2.2.2.1, hHeld2.2.2.2.2.2.2, by go_simp, by simp⟩) (fun Z hHeld => ?_)
  clear hHeld2
  refine wpAnyH_take (i := 3) (v := ?v12) rfl (by kernel_rfl) (by kernel_rfl) (by kernel_rfl) (fun _ _ _ h => h) (Or.inl ⟨by rfl, ?y12⟩) (by assumption) ?_
  case y12 => intro w hSw; (try dsimp only at hSw); go_simp; all_goals first | with_reducible rfl | rw [if_neg (by omega)]
  try simp only [Act.put, List.getElem_toArray, List.getElem_cons_succ, List.getElem_cons_zero, List.getElem?_toArray, List.getElem?_cons_succ, List.getElem?_cons_zero, List.setIfInBounds_toArray, List.set_cons_zero, List.set_cons_succ]
  refine wpAnyH_take (i := 4) (v := ?v13) rfl (by kernel_rfl) (by kernel_rfl) (by kernel_rfl) (fun _ _ _ h => h) (Or.inl ⟨by rfl, ?y13⟩) (by assumption) ?_
  case y13 => intro w hSw; (try dsimp only at hSw); go_simp; all_goals first | with_reducible rfl | rw [if_neg (by omega)]
  try simp only [Act.put, List.getElem_toArray, List.getElem_cons_succ, List.getElem_cons_zero, List.getElem?_toArray, List.getElem?_cons_succ, List.getElem?_cons_zero, List.setIfInBounds_toArray, List.set_cons_zero, List.set_cons_succ]
  refine wpAnyH_take (i := 5) (v := ?v14) rfl (by kernel_rfl) (by kernel_rfl) (by kernel_rfl) (fun _ _ _ h => h) (Or.inl ⟨by rfl, ?y14⟩) (by assumption) ?_
  case y14 => intro w hSw; (try dsimp only at hSw); go_simp; all_goals first | with_reducible rfl | rw [if_neg (by omega)]
  try simp only [Act.put, List.getElem_toArray, List.getElem_cons_succ, List.getElem_cons_zero, List.getElem?_toArray, List.getElem?_cons_succ, List.getElem?_cons_zero, List.setIfInBounds_toArray, List.set_cons_zero, List.set_cons_succ]
  refine wpAnyH_take (i := 10) (v := ?v15) rfl (by kernel_rfl) (by kernel_rfl) (by kernel_rfl) (fun _ _ _ h => h) (Or.inl ⟨by rfl, ?y15⟩) (by assumption) ?_
  case y15 => intro w hSw; (try dsimp only at hSw); go_simp; all_goals first | with_reducible rfl | rw [if_neg (by omega)]
  try simp only [Act.put, List.getElem_toArray, List.getElem_cons_succ, List.getElem_cons_zero, List.getElem?_toArray, List.getElem?_cons_succ, List.getElem?_cons_zero, List.setIfInBounds_toArray, List.set_cons_zero, List.set_cons_succ]
  refine wpAnyH_take (i := 11) (v := ?v16) rfl (by kernel_rfl) (by kernel_rfl) (by kernel_rfl) (fun _ _ _ h => h) (Or.inl ⟨by rfl, ?y16⟩) (by assumption) ?_
  case y16 => intro w hSw; (try dsimp only at hSw); go_simp; all_goals first | with_reducible rfl | rw [if_neg (by omega)]
  try simp only [Act.put, List.getElem_toArray, List.getElem_cons_succ, List.getElem_cons_zero, List.getElem?_toArray, List.getElem?_cons_succ, List.getElem?_cons_zero, List.setIfInBounds_toArray, List.set_cons_zero, List.set_cons_succ]
  refine wpAnyH_take (i := 12) (v := ?v17) rfl (by kernel_rfl) (by kernel_rfl) (by kernel_rfl) (fun _ _ _ h => h) (Or.inl ⟨by rfl, ?y17⟩) (by assumption) ?_
  case y17 => intro w hSw; (try dsimp only at hSw); go_simp; all_goals first | with_reducible rfl | rw [if_neg (by omega)]
  try simp only [Act.put, List.getElem_toArray, List.getElem_cons_succ, List.getElem_cons_zero, List.getElem?_toArray, List.getElem?_cons_succ, List.getElem?_cons_zero, List.setIfInBounds_toArray, List.set_cons_zero, List.set_cons_succ]
  refine wpAnyH_done (by kernel_rfl) ?_ _
  (go_wp2_with fail; go_ret2; refine ⟨congrArg (fun s => Ending.returned (.tuple #[.string s, .bool true])) ?_, hHeld.2.2.2.2.2.2.1⟩; rw [Hri.out]; apply ByteArray.ext; simp [showB, shapesL, wordB, wordsL, alusL, condsL, piece])
set_option maxRecDepth 100000 in
set_option maxHeartbeats 8000000 in
theorem rshow_18_4 (d n m imm : Int) (w : World) (hlit : d = 4) (hc : canB 18 d n m imm = true) (hr : rcanB 18 d n m imm = true) : Calls Tryd.prog 7 #[.agg #[.int .i64 18, .int .i64 d, .int .i64 n, .int .i64 m, .int .i64 imm]] w fun e w' => e = .returned (.tuple #[.string ⟨(showB 18 d n m imm).toArray⟩, .bool true]) ∧ Below w.heap.size w w' := by
  subst hlit
  have hb := can_bounds 18 4 n m imm (by decide) hc
  have hcan : ∀ w, Calls Tryd.prog 14 #[.agg #[.int .i64 18, .int .i64 4, .int .i64 n, .int .i64 m, .int .i64 imm]] w fun e w' => e = .returned (.bool true) ∧ Below w.heap.size w w' := fun w => by have := rcan_any 18 (by decide) 4 n m imm w; rw [hr] at this; exact this
  clear hr hc
  obtain ⟨rd, hrd, hsrd, Hrd⟩ := reg_str 4 (by omega) (by omega)
  have hwr : IntKind.i64.wrap (2 * imm) = 2 * imm := by rw [IntKind.wrap_i64]; omega
  obtain ⟨ri, hri, hsri, Hri⟩ := imm_str (2 * imm) (by omega) (by omega)
  go_enter Tryd.func7, Tryd.ntmps7
  go_wp2_with fail
  refine (hcan _).mono ?_
  rintro e w1 ⟨rfl, hb1⟩
  have hbx1 := heap_keep (heap_alloc_new w _) hb1
  have hB1 : Below w.heap.size w w1 := (Below.alloc (Below.refl _ w) (Nat.le_refl _) _).trans (hb1.mono (by simp))
  have hc1 := fun j => Lib.cell_of_heap hbx1 j
  go_wp2_with fail
  refine (hrd _).mono ?_
  rintro e w2 ⟨rfl, m1, rfl⟩
  go_wp2_with fail
  have hS0 : (fun w' => w'.cell? ⟨w.heap.size, 0, none⟩ = some (.int .i64 18) ∧ w'.cell? ⟨w.heap.size, 1, none⟩ = some (.int .i64 4) ∧ w'.cell? ⟨w.heap.size, 2, none⟩ = some (.int .i64 n) ∧ w'.cell? ⟨w.heap.size, 3, none⟩ = some (.int .i64 m) ∧ w'.cell? ⟨w.heap.size, 4, none⟩ = some (.int .i64 imm) ∧ w.heap.size < w'.heap.size ∧ Below w.heap.size w w') (w1.drewN m1) := ⟨hc1 0, hc1 1, hc1 2, hc1 3, hc1 4, (Array.getElem?_eq_some_iff.1 hbx1).1, below_drewN hB1 m1⟩
  generalize w1.drewN m1 = W at *


  have HS := Lib.hid hS0

  obtain ⟨k0, k1, k2, k3, k4, hlt, -⟩ := hS0
  refine wp_region_held_drew (S := fun w' => w'.cell? ⟨w.heap.size, 0, none⟩ = some (.int .i64 18) ∧ w'.cell? ⟨w.heap.size, 1, none⟩ = some (.int .i64 4) ∧ w'.cell? ⟨w.heap.size, 2, none⟩ = some (.int .i64 n) ∧ w'.cell? ⟨w.heap.size, 3, none⟩ = some (.int .i64 m) ∧ w'.cell? ⟨w.heap.size, 4, none⟩ = some (.int .i64 imm) ∧ w.heap.size < w'.heap.size ∧ Below w.heap.size w w') (by kernel_rfl) (held5_keep HS.out ((Below.refl _ _).drew)) (fun hHeld2 => ?_)
  refine wpAnyH_any hHeld2 (fun Y hHeld => ?_)
  clear hHeld2
  refine wpAnyH_take (i := 1) (v := ?v1) rfl (by kernel_rfl) (by kernel_rfl) (by kernel_rfl) (fun _ _ _ h => h) (Or.inl ⟨by rfl, ?y1⟩) (by assumption) ?_
  case y1 => intro w hSw; (try dsimp only at hSw); go_simp; all_goals first | with_reducible rfl | rw [if_neg (by omega)]
  try simp only [Act.put, List.getElem_toArray, List.getElem_cons_succ, List.getElem_cons_zero, List.getElem?_toArray, List.getElem?_cons_succ, List.getElem?_cons_zero, List.setIfInBounds_toArray, List.set_cons_zero, List.set_cons_succ]
  refine wpAnyH_take (i := 2) (v := ?v2) rfl (by kernel_rfl) (by kernel_rfl) (by kernel_rfl) (fun _ _ _ h => h) (Or.inl ⟨by rfl, ?y2⟩) (by assumption) ?_
  case y2 => intro w hSw; (try dsimp only at hSw); go_simp; all_goals first | with_reducible rfl | rw [if_neg (by omega)]
  try simp only [Act.put, List.getElem_toArray, List.getElem_cons_succ, List.getElem_cons_zero, List.getElem?_toArray, List.getElem?_cons_succ, List.getElem?_cons_zero, List.setIfInBounds_toArray, List.set_cons_zero, List.set_cons_succ]
  refine wpAnyH_take (i := 6) (v := ?v3) rfl (by kernel_rfl) (by kernel_rfl) (by kernel_rfl) (fun _ _ _ h => h) (Or.inl ⟨by rfl, ?y3⟩) (by assumption) ?_
  case y3 => intro w hSw; (try dsimp only at hSw); go_simp; all_goals first | with_reducible rfl | rw [if_neg (by omega)]
  try simp only [Act.put, List.getElem_toArray, List.getElem_cons_succ, List.getElem_cons_zero, List.getElem?_toArray, List.getElem?_cons_succ, List.getElem?_cons_zero, List.setIfInBounds_toArray, List.set_cons_zero, List.set_cons_succ]
  refine wpAnyH_take (i := 7) (v := ?v4) rfl (by kernel_rfl) (by kernel_rfl) (by kernel_rfl) (fun _ _ _ h => h) (Or.inl ⟨by rfl, ?y4⟩) (by assumption) ?_
  case y4 => intro w hSw; (try dsimp only at hSw); go_simp; all_goals first | with_reducible rfl | rw [if_neg (by omega)]
  try simp only [Act.put, List.getElem_toArray, List.getElem_cons_succ, List.getElem_cons_zero, List.getElem?_toArray, List.getElem?_cons_succ, List.getElem?_cons_zero, List.setIfInBounds_toArray, List.set_cons_zero, List.set_cons_succ]
  refine wpAnyH_take (i := 8) (v := ?v5) rfl (by kernel_rfl) (by kernel_rfl) (by kernel_rfl) (fun _ _ _ h => h) (Or.inl ⟨by rfl, ?y5⟩) (by assumption) ?_
  case y5 => intro w hSw; (try dsimp only at hSw); go_simp; all_goals first | with_reducible rfl | rw [if_neg (by omega)]
  try simp only [Act.put, List.getElem_toArray, List.getElem_cons_succ, List.getElem_cons_zero, List.getElem?_toArray, List.getElem?_cons_succ, List.getElem?_cons_zero, List.setIfInBounds_toArray, List.set_cons_zero, List.set_cons_succ]
  refine wpAnyH_ready (rs := [0, 9]) (by kernel_rfl) (by simp) ?_
  refine AllReadyH.cons rfl (fun K hK => ?_) ?_
  · skip
    go_simp
    refine hK.out _ _ ?_ (fun hHeld2 => ?_)
    · exact held5_keep hHeld (by repeat' first | exact Below.refl _ _ | refine below_drewN ?_ _ | refine Below.drew ?_ | refine Below.alloc ?_ (by first | exact Nat.le_refl _ | (simp <;> omega)) _)
    clear hK K hHeld
    try simp only [Act.put, List.getElem_toArray, List.getElem_cons_succ, List.getElem_cons_zero, List.getElem?_toArray, List.getElem?_cons_succ, List.getElem?_cons_zero, List.setIfInBounds_toArray, List.set_cons_zero, List.set_cons_succ]
    refine wpAnyH_mono (S' := fun w' => w'.cell? ⟨w.heap.size, 0, none⟩ = some (.int .i64 18) ∧ w'.cell? ⟨w.heap.size, 1, none⟩ = some (.int .i64 4) ∧ w'.cell? ⟨w.heap.size, 2, none⟩ = some (.int .i64 n) ∧ w'.cell? ⟨w.heap.size, 3, none⟩ = some (.int .i64 m) ∧ w'.cell? ⟨w.heap.size, 4, none⟩ = some (.int .i64 imm) ∧ w.heap.size < w'.heap.size ∧ Below w.heap.size w w' ∧ w'.cell? ⟨Y.heap.size, 4, none⟩ = some (.string ⟨#[98, 109, 105]⟩) ∧ Y.heap.size < w'.heap.size) (fun _ h => ⟨h.1, h.2.1, h.2.2.1, h.2.2.2.1, h.2.2.2.2.1, h.2.2.2.2.2.1, h.2.2.2.2.2.2.1⟩) ?_
    refine wpAnyH_any (⟨hHeld2.1, hHeld2.2.1, hHeld2.2.2.1, hHeld2.2.2.2.1, hHeld2.2.2.2.2.1, hHeld2.2.2.2.2.2.1, hHeld2.2.2.2.2.2.2, by go_simp, by simp⟩) (fun Z hHeld => ?_)
    clear hHeld2
    refine wpAnyH_take (i := 3) (v := ?v6) rfl (by kernel_rfl) (by kernel_rfl) (by kernel_rfl) (fun _ _ _ h => h) (Or.inl ⟨by rfl, ?y6⟩) (by assumption) ?_
    case y6 => intro w hSw; (try dsimp only at hSw); go_simp; all_goals first | with_reducible rfl | rw [if_neg (by omega)]
    try simp only [Act.put, List.getElem_toArray, List.getElem_cons_succ, List.getElem_cons_zero, List.getElem?_toArray, List.getElem?_cons_succ, List.getElem?_cons_zero, List.setIfInBounds_toArray, List.set_cons_zero, List.set_cons_succ]
    refine wpAnyH_take (i := 4) (v := ?v7) rfl (by kernel_rfl) (by kernel_rfl) (by kernel_rfl) (fun _ _ _ h => h) (Or.inl ⟨by rfl, ?y7⟩) (by assumption) ?_
    case y7 => intro w hSw; (try dsimp only at hSw); go_simp; all_goals first | with_reducible rfl | rw [if_neg (by omega)]
    try simp only [Act.put, List.getElem_toArray, List.getElem_cons_succ, List.getElem_cons_zero, List.getElem?_toArray, List.getElem?_cons_succ, List.getElem?_cons_zero, List.setIfInBounds_toArray, List.set_cons_zero, List.set_cons_succ]
    refine wpAnyH_take (i := 5) (v := ?v8) rfl (by kernel_rfl) (by kernel_rfl) (by kernel_rfl) (fun _ _ _ h => h) (Or.inl ⟨by rfl, ?y8⟩) (by assumption) ?_
    case y8 => intro w hSw; (try dsimp only at hSw); go_simp; all_goals first | with_reducible rfl | rw [if_neg (by omega)]
    try simp only [Act.put, List.getElem_toArray, List.getElem_cons_succ, List.getElem_cons_zero, List.getElem?_toArray, List.getElem?_cons_succ, List.getElem?_cons_zero, List.setIfInBounds_toArray, List.set_cons_zero, List.set_cons_succ]
    refine wpAnyH_ready (rs := [9]) (by kernel_rfl) (by simp) ?_
    refine AllReadyH.cons rfl (fun K hK => ?_) AllReadyH.nil
    go_simp
    (go_at_call 16; with_reducible refine (hri _).mono ?_; rintro e w2 ⟨rfl, m2, rfl⟩)
    go_wp2_with fail
    refine hK.out _ _ ?_ (fun hHeld2 => ?_)
    · exact held5_litk hHeld (by repeat' first | exact Below.refl _ _ | refine below_drewN ?_ _ | refine Below.drew ?_ | refine Below.alloc ?_ (by first | exact Nat.le_refl _ | (simp <;> omega)) _)
    clear hK K hHeld
    try simp only [Act.put, List.getElem_toArray, List.getElem_cons_succ, List.getElem_cons_zero, List.getElem?_toArray, List.getElem?_cons_succ, List.getElem?_cons_zero, List.setIfInBounds_toArray, List.set_cons_zero, List.set_cons_succ]
    refine wpAnyH_any hHeld2 (fun Z hHeld => ?_)
    clear hHeld2
    refine wpAnyH_take (i := 10) (v := ?v9) rfl (by kernel_rfl) (by kernel_rfl) (by kernel_rfl) (fun _ _ _ h => h) (Or.inl ⟨by rfl, ?y9⟩) (by assumption) ?_
    case y9 => intro w hSw; (try dsimp only at hSw); go_simp; all_goals first | with_reducible rfl | rw [if_neg (by omega)]
    try simp only [Act.put, List.getElem_toArray, List.getElem_cons_succ, List.getElem_cons_zero, List.getElem?_toArray, List.getElem?_cons_succ, List.getElem?_cons_zero, List.setIfInBounds_toArray, List.set_cons_zero, List.set_cons_succ]
    refine wpAnyH_take (i := 11) (v := ?v10) rfl (by kernel_rfl) (by kernel_rfl) (by kernel_rfl) (fun _ _ _ h => h) (Or.inl ⟨by rfl, ?y10⟩) (by assumption) ?_
    case y10 => intro w hSw; (try dsimp only at hSw); go_simp; all_goals first | with_reducible rfl | rw [if_neg (by omega)]
    try simp only [Act.put, List.getElem_toArray, List.getElem_cons_succ, List.getElem_cons_zero, List.getElem?_toArray, List.getElem?_cons_succ, List.getElem?_cons_zero, List.setIfInBounds_toArray, List.set_cons_zero, List.set_cons_succ]
    refine wpAnyH_take (i := 12) (v := ?v11) rfl (by kernel_rfl) (by kernel_rfl) (by kernel_rfl) (fun _ _ _ h => h) (Or.inl ⟨by rfl, ?y11⟩) (by assumption) ?_
    case y11 => intro w hSw; (try dsimp only at hSw); go_simp; all_goals first | with_reducible rfl | rw [if_neg (by omega)]
    try simp only [Act.put, List.getElem_toArray, List.getElem_cons_succ, List.getElem_cons_zero, List.getElem?_toArray, List.getElem?_cons_succ, List.getElem?_cons_zero, List.setIfInBounds_toArray, List.set_cons_zero, List.set_cons_succ]
    refine wpAnyH_done (by kernel_rfl) ?_ _
    (go_wp2_with fail; go_ret2; refine ⟨congrArg (fun s => Ending.returned (.tuple #[.string s, .bool true])) ?_, hHeld.2.2.2.2.2.2.1⟩; rw [Hri.out]; apply ByteArray.ext; simp [showB, shapesL, wordB, wordsL, alusL, condsL, piece])
  refine AllReadyH.cons rfl (fun K hK => ?_) AllReadyH.nil
  go_simp
  (go_at_call 16; with_reducible refine (hri _).mono ?_; rintro e w2 ⟨rfl, m2, rfl⟩)
  go_wp2_with fail
  refine hK.out _ _ ?_ (fun hHeld2 => ?_)
  · exact held5_keep hHeld (by repeat' first | exact Below.refl _ _ | refine below_drewN ?_ _ | refine Below.drew ?_ | refine Below.alloc ?_ (by first | exact Nat.le_refl _ | (simp <;> omega)) _)
  clear hK K hHeld
  try simp only [Act.put, List.getElem_toArray, List.getElem_cons_succ, List.getElem_cons_zero, List.getElem?_toArray, List.getElem?_cons_succ, List.getElem?_cons_zero, List.setIfInBounds_toArray, List.set_cons_zero, List.set_cons_succ]
  refine wpAnyH_any hHeld2 (fun Y hHeld => ?_)
  clear hHeld2
  refine wpAnyH_ready (rs := [0]) (by kernel_rfl) (by simp) ?_
  refine AllReadyH.cons rfl (fun K hK => ?_) AllReadyH.nil
  go_simp
  refine hK.out _ _ ?_ (fun hHeld2 => ?_)
  · exact held5_keep hHeld (by repeat' first | exact Below.refl _ _ | refine below_drewN ?_ _ | refine Below.drew ?_ | refine Below.alloc ?_ (by first | exact Nat.le_refl _ | (simp <;> omega)) _)
  clear hK K hHeld
  try simp only [Act.put, List.getElem_toArray, List.getElem_cons_succ, List.getElem_cons_zero, List.getElem?_toArray, List.getElem?_cons_succ, List.getElem?_cons_zero, List.setIfInBounds_toArray, List.set_cons_zero, List.set_cons_succ]
  refine wpAnyH_mono (S' := fun w' => w'.cell? ⟨w.heap.size, 0, none⟩ = some (.int .i64 18) ∧ w'.cell? ⟨w.heap.size, 1, none⟩ = some (.int .i64 4) ∧ w'.cell? ⟨w.heap.size, 2, none⟩ = some (.int .i64 n) ∧ w'.cell? ⟨w.heap.size, 3, none⟩ = some (.int .i64 m) ∧ w'.cell? ⟨w.heap.size, 4, none⟩ = some (.int .i64 imm) ∧ w.heap.size < w'.heap.size ∧ Below w.heap.size w w' ∧ w'.cell? ⟨Y.heap.size, 4, none⟩ = some (.string ⟨#[98, 109, 105]⟩) ∧ Y.heap.size < w'.heap.size) (fun _ h => ⟨h.1, h.2.1, h.2.2.1, h.2.2.2.1, h.2.2.2.2.1, h.2.2.2.2.2.1, h.2.2.2.2.2.2.1⟩) ?_
  refine wpAnyH_any (⟨hHeld2.1, hHeld2.2.1, hHeld2.2.2.1, hHeld2.2.2.2.1, hHeld2.2.2.2.2.1, hHeld2.2.2.2.2.2.1, hHeld2.2.2.2.2.2.2, by go_simp, by simp⟩) (fun Z hHeld => ?_)
  clear hHeld2
  refine wpAnyH_take (i := 3) (v := ?v12) rfl (by kernel_rfl) (by kernel_rfl) (by kernel_rfl) (fun _ _ _ h => h) (Or.inl ⟨by rfl, ?y12⟩) (by assumption) ?_
  case y12 => intro w hSw; (try dsimp only at hSw); go_simp; all_goals first | with_reducible rfl | rw [if_neg (by omega)]
  try simp only [Act.put, List.getElem_toArray, List.getElem_cons_succ, List.getElem_cons_zero, List.getElem?_toArray, List.getElem?_cons_succ, List.getElem?_cons_zero, List.setIfInBounds_toArray, List.set_cons_zero, List.set_cons_succ]
  refine wpAnyH_take (i := 4) (v := ?v13) rfl (by kernel_rfl) (by kernel_rfl) (by kernel_rfl) (fun _ _ _ h => h) (Or.inl ⟨by rfl, ?y13⟩) (by assumption) ?_
  case y13 => intro w hSw; (try dsimp only at hSw); go_simp; all_goals first | with_reducible rfl | rw [if_neg (by omega)]
  try simp only [Act.put, List.getElem_toArray, List.getElem_cons_succ, List.getElem_cons_zero, List.getElem?_toArray, List.getElem?_cons_succ, List.getElem?_cons_zero, List.setIfInBounds_toArray, List.set_cons_zero, List.set_cons_succ]
  refine wpAnyH_take (i := 5) (v := ?v14) rfl (by kernel_rfl) (by kernel_rfl) (by kernel_rfl) (fun _ _ _ h => h) (Or.inl ⟨by rfl, ?y14⟩) (by assumption) ?_
  case y14 => intro w hSw; (try dsimp only at hSw); go_simp; all_goals first | with_reducible rfl | rw [if_neg (by omega)]
  try simp only [Act.put, List.getElem_toArray, List.getElem_cons_succ, List.getElem_cons_zero, List.getElem?_toArray, List.getElem?_cons_succ, List.getElem?_cons_zero, List.setIfInBounds_toArray, List.set_cons_zero, List.set_cons_succ]
  refine wpAnyH_take (i := 10) (v := ?v15) rfl (by kernel_rfl) (by kernel_rfl) (by kernel_rfl) (fun _ _ _ h => h) (Or.inl ⟨by rfl, ?y15⟩) (by assumption) ?_
  case y15 => intro w hSw; (try dsimp only at hSw); go_simp; all_goals first | with_reducible rfl | rw [if_neg (by omega)]
  try simp only [Act.put, List.getElem_toArray, List.getElem_cons_succ, List.getElem_cons_zero, List.getElem?_toArray, List.getElem?_cons_succ, List.getElem?_cons_zero, List.setIfInBounds_toArray, List.set_cons_zero, List.set_cons_succ]
  refine wpAnyH_take (i := 11) (v := ?v16) rfl (by kernel_rfl) (by kernel_rfl) (by kernel_rfl) (fun _ _ _ h => h) (Or.inl ⟨by rfl, ?y16⟩) (by assumption) ?_
  case y16 => intro w hSw; (try dsimp only at hSw); go_simp; all_goals first | with_reducible rfl | rw [if_neg (by omega)]
  try simp only [Act.put, List.getElem_toArray, List.getElem_cons_succ, List.getElem_cons_zero, List.getElem?_toArray, List.getElem?_cons_succ, List.getElem?_cons_zero, List.setIfInBounds_toArray, List.set_cons_zero, List.set_cons_succ]
  refine wpAnyH_take (i := 12) (v := ?v17) rfl (by kernel_rfl) (by kernel_rfl) (by kernel_rfl) (fun _ _ _ h => h) (Or.inl ⟨by rfl, ?y17⟩) (by assumption) ?_
  case y17 => intro w hSw; (try dsimp only at hSw); go_simp; all_goals first | with_reducible rfl | rw [if_neg (by omega)]
  try simp only [Act.put, List.getElem_toArray, List.getElem_cons_succ, List.getElem_cons_zero, List.getElem?_toArray, List.getElem?_cons_succ, List.getElem?_cons_zero, List.setIfInBounds_toArray, List.set_cons_zero, List.set_cons_succ]
  refine wpAnyH_done (by kernel_rfl) ?_ _
  (go_wp2_with fail; go_ret2; refine ⟨congrArg (fun s => Ending.returned (.tuple #[.string s, .bool true])) ?_, hHeld.2.2.2.2.2.2.1⟩; rw [Hri.out]; apply ByteArray.ext; simp [showB, shapesL, wordB, wordsL, alusL, condsL, piece])
set_option maxRecDepth 100000 in
set_option maxHeartbeats 8000000 in
theorem rshow_18_5 (d n m imm : Int) (w : World) (hlit : d = 5) (hc : canB 18 d n m imm = true) (hr : rcanB 18 d n m imm = true) : Calls Tryd.prog 7 #[.agg #[.int .i64 18, .int .i64 d, .int .i64 n, .int .i64 m, .int .i64 imm]] w fun e w' => e = .returned (.tuple #[.string ⟨(showB 18 d n m imm).toArray⟩, .bool true]) ∧ Below w.heap.size w w' := by
  subst hlit
  have hb := can_bounds 18 5 n m imm (by decide) hc
  have hcan : ∀ w, Calls Tryd.prog 14 #[.agg #[.int .i64 18, .int .i64 5, .int .i64 n, .int .i64 m, .int .i64 imm]] w fun e w' => e = .returned (.bool true) ∧ Below w.heap.size w w' := fun w => by have := rcan_any 18 (by decide) 5 n m imm w; rw [hr] at this; exact this
  clear hr hc
  obtain ⟨rd, hrd, hsrd, Hrd⟩ := reg_str 5 (by omega) (by omega)
  have hwr : IntKind.i64.wrap (2 * imm) = 2 * imm := by rw [IntKind.wrap_i64]; omega
  obtain ⟨ri, hri, hsri, Hri⟩ := imm_str (2 * imm) (by omega) (by omega)
  go_enter Tryd.func7, Tryd.ntmps7
  go_wp2_with fail
  refine (hcan _).mono ?_
  rintro e w1 ⟨rfl, hb1⟩
  have hbx1 := heap_keep (heap_alloc_new w _) hb1
  have hB1 : Below w.heap.size w w1 := (Below.alloc (Below.refl _ w) (Nat.le_refl _) _).trans (hb1.mono (by simp))
  have hc1 := fun j => Lib.cell_of_heap hbx1 j
  go_wp2_with fail
  refine (hrd _).mono ?_
  rintro e w2 ⟨rfl, m1, rfl⟩
  go_wp2_with fail
  have hS0 : (fun w' => w'.cell? ⟨w.heap.size, 0, none⟩ = some (.int .i64 18) ∧ w'.cell? ⟨w.heap.size, 1, none⟩ = some (.int .i64 5) ∧ w'.cell? ⟨w.heap.size, 2, none⟩ = some (.int .i64 n) ∧ w'.cell? ⟨w.heap.size, 3, none⟩ = some (.int .i64 m) ∧ w'.cell? ⟨w.heap.size, 4, none⟩ = some (.int .i64 imm) ∧ w.heap.size < w'.heap.size ∧ Below w.heap.size w w') (w1.drewN m1) := ⟨hc1 0, hc1 1, hc1 2, hc1 3, hc1 4, (Array.getElem?_eq_some_iff.1 hbx1).1, below_drewN hB1 m1⟩
  generalize w1.drewN m1 = W at *


  have HS := Lib.hid hS0

  obtain ⟨k0, k1, k2, k3, k4, hlt, -⟩ := hS0
  refine wp_region_held_drew (S := fun w' => w'.cell? ⟨w.heap.size, 0, none⟩ = some (.int .i64 18) ∧ w'.cell? ⟨w.heap.size, 1, none⟩ = some (.int .i64 5) ∧ w'.cell? ⟨w.heap.size, 2, none⟩ = some (.int .i64 n) ∧ w'.cell? ⟨w.heap.size, 3, none⟩ = some (.int .i64 m) ∧ w'.cell? ⟨w.heap.size, 4, none⟩ = some (.int .i64 imm) ∧ w.heap.size < w'.heap.size ∧ Below w.heap.size w w') (by kernel_rfl) (held5_keep HS.out ((Below.refl _ _).drew)) (fun hHeld2 => ?_)
  refine wpAnyH_any hHeld2 (fun Y hHeld => ?_)
  clear hHeld2
  refine wpAnyH_take (i := 1) (v := ?v1) rfl (by kernel_rfl) (by kernel_rfl) (by kernel_rfl) (fun _ _ _ h => h) (Or.inl ⟨by rfl, ?y1⟩) (by assumption) ?_
  case y1 => intro w hSw; (try dsimp only at hSw); go_simp; all_goals first | with_reducible rfl | rw [if_neg (by omega)]
  try simp only [Act.put, List.getElem_toArray, List.getElem_cons_succ, List.getElem_cons_zero, List.getElem?_toArray, List.getElem?_cons_succ, List.getElem?_cons_zero, List.setIfInBounds_toArray, List.set_cons_zero, List.set_cons_succ]
  refine wpAnyH_take (i := 2) (v := ?v2) rfl (by kernel_rfl) (by kernel_rfl) (by kernel_rfl) (fun _ _ _ h => h) (Or.inl ⟨by rfl, ?y2⟩) (by assumption) ?_
  case y2 => intro w hSw; (try dsimp only at hSw); go_simp; all_goals first | with_reducible rfl | rw [if_neg (by omega)]
  try simp only [Act.put, List.getElem_toArray, List.getElem_cons_succ, List.getElem_cons_zero, List.getElem?_toArray, List.getElem?_cons_succ, List.getElem?_cons_zero, List.setIfInBounds_toArray, List.set_cons_zero, List.set_cons_succ]
  refine wpAnyH_take (i := 6) (v := ?v3) rfl (by kernel_rfl) (by kernel_rfl) (by kernel_rfl) (fun _ _ _ h => h) (Or.inl ⟨by rfl, ?y3⟩) (by assumption) ?_
  case y3 => intro w hSw; (try dsimp only at hSw); go_simp; all_goals first | with_reducible rfl | rw [if_neg (by omega)]
  try simp only [Act.put, List.getElem_toArray, List.getElem_cons_succ, List.getElem_cons_zero, List.getElem?_toArray, List.getElem?_cons_succ, List.getElem?_cons_zero, List.setIfInBounds_toArray, List.set_cons_zero, List.set_cons_succ]
  refine wpAnyH_take (i := 7) (v := ?v4) rfl (by kernel_rfl) (by kernel_rfl) (by kernel_rfl) (fun _ _ _ h => h) (Or.inl ⟨by rfl, ?y4⟩) (by assumption) ?_
  case y4 => intro w hSw; (try dsimp only at hSw); go_simp; all_goals first | with_reducible rfl | rw [if_neg (by omega)]
  try simp only [Act.put, List.getElem_toArray, List.getElem_cons_succ, List.getElem_cons_zero, List.getElem?_toArray, List.getElem?_cons_succ, List.getElem?_cons_zero, List.setIfInBounds_toArray, List.set_cons_zero, List.set_cons_succ]
  refine wpAnyH_take (i := 8) (v := ?v5) rfl (by kernel_rfl) (by kernel_rfl) (by kernel_rfl) (fun _ _ _ h => h) (Or.inl ⟨by rfl, ?y5⟩) (by assumption) ?_
  case y5 => intro w hSw; (try dsimp only at hSw); go_simp; all_goals first | with_reducible rfl | rw [if_neg (by omega)]
  try simp only [Act.put, List.getElem_toArray, List.getElem_cons_succ, List.getElem_cons_zero, List.getElem?_toArray, List.getElem?_cons_succ, List.getElem?_cons_zero, List.setIfInBounds_toArray, List.set_cons_zero, List.set_cons_succ]
  refine wpAnyH_ready (rs := [0, 9]) (by kernel_rfl) (by simp) ?_
  refine AllReadyH.cons rfl (fun K hK => ?_) ?_
  · skip
    go_simp
    refine hK.out _ _ ?_ (fun hHeld2 => ?_)
    · exact held5_keep hHeld (by repeat' first | exact Below.refl _ _ | refine below_drewN ?_ _ | refine Below.drew ?_ | refine Below.alloc ?_ (by first | exact Nat.le_refl _ | (simp <;> omega)) _)
    clear hK K hHeld
    try simp only [Act.put, List.getElem_toArray, List.getElem_cons_succ, List.getElem_cons_zero, List.getElem?_toArray, List.getElem?_cons_succ, List.getElem?_cons_zero, List.setIfInBounds_toArray, List.set_cons_zero, List.set_cons_succ]
    refine wpAnyH_mono (S' := fun w' => w'.cell? ⟨w.heap.size, 0, none⟩ = some (.int .i64 18) ∧ w'.cell? ⟨w.heap.size, 1, none⟩ = some (.int .i64 5) ∧ w'.cell? ⟨w.heap.size, 2, none⟩ = some (.int .i64 n) ∧ w'.cell? ⟨w.heap.size, 3, none⟩ = some (.int .i64 m) ∧ w'.cell? ⟨w.heap.size, 4, none⟩ = some (.int .i64 imm) ∧ w.heap.size < w'.heap.size ∧ Below w.heap.size w w' ∧ w'.cell? ⟨Y.heap.size, 5, none⟩ = some (.string ⟨#[98, 112, 108]⟩) ∧ Y.heap.size < w'.heap.size) (fun _ h => ⟨h.1, h.2.1, h.2.2.1, h.2.2.2.1, h.2.2.2.2.1, h.2.2.2.2.2.1, h.2.2.2.2.2.2.1⟩) ?_
    refine wpAnyH_any (⟨hHeld2.1, hHeld2.2.1, hHeld2.2.2.1, hHeld2.2.2.2.1, hHeld2.2.2.2.2.1, hHeld2.2.2.2.2.2.1, hHeld2.2.2.2.2.2.2, by go_simp, by simp⟩) (fun Z hHeld => ?_)
    clear hHeld2
    refine wpAnyH_take (i := 3) (v := ?v6) rfl (by kernel_rfl) (by kernel_rfl) (by kernel_rfl) (fun _ _ _ h => h) (Or.inl ⟨by rfl, ?y6⟩) (by assumption) ?_
    case y6 => intro w hSw; (try dsimp only at hSw); go_simp; all_goals first | with_reducible rfl | rw [if_neg (by omega)]
    try simp only [Act.put, List.getElem_toArray, List.getElem_cons_succ, List.getElem_cons_zero, List.getElem?_toArray, List.getElem?_cons_succ, List.getElem?_cons_zero, List.setIfInBounds_toArray, List.set_cons_zero, List.set_cons_succ]
    refine wpAnyH_take (i := 4) (v := ?v7) rfl (by kernel_rfl) (by kernel_rfl) (by kernel_rfl) (fun _ _ _ h => h) (Or.inl ⟨by rfl, ?y7⟩) (by assumption) ?_
    case y7 => intro w hSw; (try dsimp only at hSw); go_simp; all_goals first | with_reducible rfl | rw [if_neg (by omega)]
    try simp only [Act.put, List.getElem_toArray, List.getElem_cons_succ, List.getElem_cons_zero, List.getElem?_toArray, List.getElem?_cons_succ, List.getElem?_cons_zero, List.setIfInBounds_toArray, List.set_cons_zero, List.set_cons_succ]
    refine wpAnyH_take (i := 5) (v := ?v8) rfl (by kernel_rfl) (by kernel_rfl) (by kernel_rfl) (fun _ _ _ h => h) (Or.inl ⟨by rfl, ?y8⟩) (by assumption) ?_
    case y8 => intro w hSw; (try dsimp only at hSw); go_simp; all_goals first | with_reducible rfl | rw [if_neg (by omega)]
    try simp only [Act.put, List.getElem_toArray, List.getElem_cons_succ, List.getElem_cons_zero, List.getElem?_toArray, List.getElem?_cons_succ, List.getElem?_cons_zero, List.setIfInBounds_toArray, List.set_cons_zero, List.set_cons_succ]
    refine wpAnyH_ready (rs := [9]) (by kernel_rfl) (by simp) ?_
    refine AllReadyH.cons rfl (fun K hK => ?_) AllReadyH.nil
    go_simp
    (go_at_call 16; with_reducible refine (hri _).mono ?_; rintro e w2 ⟨rfl, m2, rfl⟩)
    go_wp2_with fail
    refine hK.out _ _ ?_ (fun hHeld2 => ?_)
    · exact held5_litk hHeld (by repeat' first | exact Below.refl _ _ | refine below_drewN ?_ _ | refine Below.drew ?_ | refine Below.alloc ?_ (by first | exact Nat.le_refl _ | (simp <;> omega)) _)
    clear hK K hHeld
    try simp only [Act.put, List.getElem_toArray, List.getElem_cons_succ, List.getElem_cons_zero, List.getElem?_toArray, List.getElem?_cons_succ, List.getElem?_cons_zero, List.setIfInBounds_toArray, List.set_cons_zero, List.set_cons_succ]
    refine wpAnyH_any hHeld2 (fun Z hHeld => ?_)
    clear hHeld2
    refine wpAnyH_take (i := 10) (v := ?v9) rfl (by kernel_rfl) (by kernel_rfl) (by kernel_rfl) (fun _ _ _ h => h) (Or.inl ⟨by rfl, ?y9⟩) (by assumption) ?_
    case y9 => intro w hSw; (try dsimp only at hSw); go_simp; all_goals first | with_reducible rfl | rw [if_neg (by omega)]
    try simp only [Act.put, List.getElem_toArray, List.getElem_cons_succ, List.getElem_cons_zero, List.getElem?_toArray, List.getElem?_cons_succ, List.getElem?_cons_zero, List.setIfInBounds_toArray, List.set_cons_zero, List.set_cons_succ]
    refine wpAnyH_take (i := 11) (v := ?v10) rfl (by kernel_rfl) (by kernel_rfl) (by kernel_rfl) (fun _ _ _ h => h) (Or.inl ⟨by rfl, ?y10⟩) (by assumption) ?_
    case y10 => intro w hSw; (try dsimp only at hSw); go_simp; all_goals first | with_reducible rfl | rw [if_neg (by omega)]
    try simp only [Act.put, List.getElem_toArray, List.getElem_cons_succ, List.getElem_cons_zero, List.getElem?_toArray, List.getElem?_cons_succ, List.getElem?_cons_zero, List.setIfInBounds_toArray, List.set_cons_zero, List.set_cons_succ]
    refine wpAnyH_take (i := 12) (v := ?v11) rfl (by kernel_rfl) (by kernel_rfl) (by kernel_rfl) (fun _ _ _ h => h) (Or.inl ⟨by rfl, ?y11⟩) (by assumption) ?_
    case y11 => intro w hSw; (try dsimp only at hSw); go_simp; all_goals first | with_reducible rfl | rw [if_neg (by omega)]
    try simp only [Act.put, List.getElem_toArray, List.getElem_cons_succ, List.getElem_cons_zero, List.getElem?_toArray, List.getElem?_cons_succ, List.getElem?_cons_zero, List.setIfInBounds_toArray, List.set_cons_zero, List.set_cons_succ]
    refine wpAnyH_done (by kernel_rfl) ?_ _
    (go_wp2_with fail; go_ret2; refine ⟨congrArg (fun s => Ending.returned (.tuple #[.string s, .bool true])) ?_, hHeld.2.2.2.2.2.2.1⟩; rw [Hri.out]; apply ByteArray.ext; simp [showB, shapesL, wordB, wordsL, alusL, condsL, piece])
  refine AllReadyH.cons rfl (fun K hK => ?_) AllReadyH.nil
  go_simp
  (go_at_call 16; with_reducible refine (hri _).mono ?_; rintro e w2 ⟨rfl, m2, rfl⟩)
  go_wp2_with fail
  refine hK.out _ _ ?_ (fun hHeld2 => ?_)
  · exact held5_keep hHeld (by repeat' first | exact Below.refl _ _ | refine below_drewN ?_ _ | refine Below.drew ?_ | refine Below.alloc ?_ (by first | exact Nat.le_refl _ | (simp <;> omega)) _)
  clear hK K hHeld
  try simp only [Act.put, List.getElem_toArray, List.getElem_cons_succ, List.getElem_cons_zero, List.getElem?_toArray, List.getElem?_cons_succ, List.getElem?_cons_zero, List.setIfInBounds_toArray, List.set_cons_zero, List.set_cons_succ]
  refine wpAnyH_any hHeld2 (fun Y hHeld => ?_)
  clear hHeld2
  refine wpAnyH_ready (rs := [0]) (by kernel_rfl) (by simp) ?_
  refine AllReadyH.cons rfl (fun K hK => ?_) AllReadyH.nil
  go_simp
  refine hK.out _ _ ?_ (fun hHeld2 => ?_)
  · exact held5_keep hHeld (by repeat' first | exact Below.refl _ _ | refine below_drewN ?_ _ | refine Below.drew ?_ | refine Below.alloc ?_ (by first | exact Nat.le_refl _ | (simp <;> omega)) _)
  clear hK K hHeld
  try simp only [Act.put, List.getElem_toArray, List.getElem_cons_succ, List.getElem_cons_zero, List.getElem?_toArray, List.getElem?_cons_succ, List.getElem?_cons_zero, List.setIfInBounds_toArray, List.set_cons_zero, List.set_cons_succ]
  refine wpAnyH_mono (S' := fun w' => w'.cell? ⟨w.heap.size, 0, none⟩ = some (.int .i64 18) ∧ w'.cell? ⟨w.heap.size, 1, none⟩ = some (.int .i64 5) ∧ w'.cell? ⟨w.heap.size, 2, none⟩ = some (.int .i64 n) ∧ w'.cell? ⟨w.heap.size, 3, none⟩ = some (.int .i64 m) ∧ w'.cell? ⟨w.heap.size, 4, none⟩ = some (.int .i64 imm) ∧ w.heap.size < w'.heap.size ∧ Below w.heap.size w w' ∧ w'.cell? ⟨Y.heap.size, 5, none⟩ = some (.string ⟨#[98, 112, 108]⟩) ∧ Y.heap.size < w'.heap.size) (fun _ h => ⟨h.1, h.2.1, h.2.2.1, h.2.2.2.1, h.2.2.2.2.1, h.2.2.2.2.2.1, h.2.2.2.2.2.2.1⟩) ?_
  refine wpAnyH_any (⟨hHeld2.1, hHeld2.2.1, hHeld2.2.2.1, hHeld2.2.2.2.1, hHeld2.2.2.2.2.1, hHeld2.2.2.2.2.2.1, hHeld2.2.2.2.2.2.2, by go_simp, by simp⟩) (fun Z hHeld => ?_)
  clear hHeld2
  refine wpAnyH_take (i := 3) (v := ?v12) rfl (by kernel_rfl) (by kernel_rfl) (by kernel_rfl) (fun _ _ _ h => h) (Or.inl ⟨by rfl, ?y12⟩) (by assumption) ?_
  case y12 => intro w hSw; (try dsimp only at hSw); go_simp; all_goals first | with_reducible rfl | rw [if_neg (by omega)]
  try simp only [Act.put, List.getElem_toArray, List.getElem_cons_succ, List.getElem_cons_zero, List.getElem?_toArray, List.getElem?_cons_succ, List.getElem?_cons_zero, List.setIfInBounds_toArray, List.set_cons_zero, List.set_cons_succ]
  refine wpAnyH_take (i := 4) (v := ?v13) rfl (by kernel_rfl) (by kernel_rfl) (by kernel_rfl) (fun _ _ _ h => h) (Or.inl ⟨by rfl, ?y13⟩) (by assumption) ?_
  case y13 => intro w hSw; (try dsimp only at hSw); go_simp; all_goals first | with_reducible rfl | rw [if_neg (by omega)]
  try simp only [Act.put, List.getElem_toArray, List.getElem_cons_succ, List.getElem_cons_zero, List.getElem?_toArray, List.getElem?_cons_succ, List.getElem?_cons_zero, List.setIfInBounds_toArray, List.set_cons_zero, List.set_cons_succ]
  refine wpAnyH_take (i := 5) (v := ?v14) rfl (by kernel_rfl) (by kernel_rfl) (by kernel_rfl) (fun _ _ _ h => h) (Or.inl ⟨by rfl, ?y14⟩) (by assumption) ?_
  case y14 => intro w hSw; (try dsimp only at hSw); go_simp; all_goals first | with_reducible rfl | rw [if_neg (by omega)]
  try simp only [Act.put, List.getElem_toArray, List.getElem_cons_succ, List.getElem_cons_zero, List.getElem?_toArray, List.getElem?_cons_succ, List.getElem?_cons_zero, List.setIfInBounds_toArray, List.set_cons_zero, List.set_cons_succ]
  refine wpAnyH_take (i := 10) (v := ?v15) rfl (by kernel_rfl) (by kernel_rfl) (by kernel_rfl) (fun _ _ _ h => h) (Or.inl ⟨by rfl, ?y15⟩) (by assumption) ?_
  case y15 => intro w hSw; (try dsimp only at hSw); go_simp; all_goals first | with_reducible rfl | rw [if_neg (by omega)]
  try simp only [Act.put, List.getElem_toArray, List.getElem_cons_succ, List.getElem_cons_zero, List.getElem?_toArray, List.getElem?_cons_succ, List.getElem?_cons_zero, List.setIfInBounds_toArray, List.set_cons_zero, List.set_cons_succ]
  refine wpAnyH_take (i := 11) (v := ?v16) rfl (by kernel_rfl) (by kernel_rfl) (by kernel_rfl) (fun _ _ _ h => h) (Or.inl ⟨by rfl, ?y16⟩) (by assumption) ?_
  case y16 => intro w hSw; (try dsimp only at hSw); go_simp; all_goals first | with_reducible rfl | rw [if_neg (by omega)]
  try simp only [Act.put, List.getElem_toArray, List.getElem_cons_succ, List.getElem_cons_zero, List.getElem?_toArray, List.getElem?_cons_succ, List.getElem?_cons_zero, List.setIfInBounds_toArray, List.set_cons_zero, List.set_cons_succ]
  refine wpAnyH_take (i := 12) (v := ?v17) rfl (by kernel_rfl) (by kernel_rfl) (by kernel_rfl) (fun _ _ _ h => h) (Or.inl ⟨by rfl, ?y17⟩) (by assumption) ?_
  case y17 => intro w hSw; (try dsimp only at hSw); go_simp; all_goals first | with_reducible rfl | rw [if_neg (by omega)]
  try simp only [Act.put, List.getElem_toArray, List.getElem_cons_succ, List.getElem_cons_zero, List.getElem?_toArray, List.getElem?_cons_succ, List.getElem?_cons_zero, List.setIfInBounds_toArray, List.set_cons_zero, List.set_cons_succ]
  refine wpAnyH_done (by kernel_rfl) ?_ _
  (go_wp2_with fail; go_ret2; refine ⟨congrArg (fun s => Ending.returned (.tuple #[.string s, .bool true])) ?_, hHeld.2.2.2.2.2.2.1⟩; rw [Hri.out]; apply ByteArray.ext; simp [showB, shapesL, wordB, wordsL, alusL, condsL, piece])
set_option maxRecDepth 100000 in
set_option maxHeartbeats 8000000 in
theorem rshow_18_6 (d n m imm : Int) (w : World) (hlit : d = 6) (hc : canB 18 d n m imm = true) (hr : rcanB 18 d n m imm = true) : Calls Tryd.prog 7 #[.agg #[.int .i64 18, .int .i64 d, .int .i64 n, .int .i64 m, .int .i64 imm]] w fun e w' => e = .returned (.tuple #[.string ⟨(showB 18 d n m imm).toArray⟩, .bool true]) ∧ Below w.heap.size w w' := by
  subst hlit
  have hb := can_bounds 18 6 n m imm (by decide) hc
  have hcan : ∀ w, Calls Tryd.prog 14 #[.agg #[.int .i64 18, .int .i64 6, .int .i64 n, .int .i64 m, .int .i64 imm]] w fun e w' => e = .returned (.bool true) ∧ Below w.heap.size w w' := fun w => by have := rcan_any 18 (by decide) 6 n m imm w; rw [hr] at this; exact this
  clear hr hc
  obtain ⟨rd, hrd, hsrd, Hrd⟩ := reg_str 6 (by omega) (by omega)
  have hwr : IntKind.i64.wrap (2 * imm) = 2 * imm := by rw [IntKind.wrap_i64]; omega
  obtain ⟨ri, hri, hsri, Hri⟩ := imm_str (2 * imm) (by omega) (by omega)
  go_enter Tryd.func7, Tryd.ntmps7
  go_wp2_with fail
  refine (hcan _).mono ?_
  rintro e w1 ⟨rfl, hb1⟩
  have hbx1 := heap_keep (heap_alloc_new w _) hb1
  have hB1 : Below w.heap.size w w1 := (Below.alloc (Below.refl _ w) (Nat.le_refl _) _).trans (hb1.mono (by simp))
  have hc1 := fun j => Lib.cell_of_heap hbx1 j
  go_wp2_with fail
  refine (hrd _).mono ?_
  rintro e w2 ⟨rfl, m1, rfl⟩
  go_wp2_with fail
  have hS0 : (fun w' => w'.cell? ⟨w.heap.size, 0, none⟩ = some (.int .i64 18) ∧ w'.cell? ⟨w.heap.size, 1, none⟩ = some (.int .i64 6) ∧ w'.cell? ⟨w.heap.size, 2, none⟩ = some (.int .i64 n) ∧ w'.cell? ⟨w.heap.size, 3, none⟩ = some (.int .i64 m) ∧ w'.cell? ⟨w.heap.size, 4, none⟩ = some (.int .i64 imm) ∧ w.heap.size < w'.heap.size ∧ Below w.heap.size w w') (w1.drewN m1) := ⟨hc1 0, hc1 1, hc1 2, hc1 3, hc1 4, (Array.getElem?_eq_some_iff.1 hbx1).1, below_drewN hB1 m1⟩
  generalize w1.drewN m1 = W at *


  have HS := Lib.hid hS0

  obtain ⟨k0, k1, k2, k3, k4, hlt, -⟩ := hS0
  refine wp_region_held_drew (S := fun w' => w'.cell? ⟨w.heap.size, 0, none⟩ = some (.int .i64 18) ∧ w'.cell? ⟨w.heap.size, 1, none⟩ = some (.int .i64 6) ∧ w'.cell? ⟨w.heap.size, 2, none⟩ = some (.int .i64 n) ∧ w'.cell? ⟨w.heap.size, 3, none⟩ = some (.int .i64 m) ∧ w'.cell? ⟨w.heap.size, 4, none⟩ = some (.int .i64 imm) ∧ w.heap.size < w'.heap.size ∧ Below w.heap.size w w') (by kernel_rfl) (held5_keep HS.out ((Below.refl _ _).drew)) (fun hHeld2 => ?_)
  refine wpAnyH_any hHeld2 (fun Y hHeld => ?_)
  clear hHeld2
  refine wpAnyH_take (i := 1) (v := ?v1) rfl (by kernel_rfl) (by kernel_rfl) (by kernel_rfl) (fun _ _ _ h => h) (Or.inl ⟨by rfl, ?y1⟩) (by assumption) ?_
  case y1 => intro w hSw; (try dsimp only at hSw); go_simp; all_goals first | with_reducible rfl | rw [if_neg (by omega)]
  try simp only [Act.put, List.getElem_toArray, List.getElem_cons_succ, List.getElem_cons_zero, List.getElem?_toArray, List.getElem?_cons_succ, List.getElem?_cons_zero, List.setIfInBounds_toArray, List.set_cons_zero, List.set_cons_succ]
  refine wpAnyH_take (i := 2) (v := ?v2) rfl (by kernel_rfl) (by kernel_rfl) (by kernel_rfl) (fun _ _ _ h => h) (Or.inl ⟨by rfl, ?y2⟩) (by assumption) ?_
  case y2 => intro w hSw; (try dsimp only at hSw); go_simp; all_goals first | with_reducible rfl | rw [if_neg (by omega)]
  try simp only [Act.put, List.getElem_toArray, List.getElem_cons_succ, List.getElem_cons_zero, List.getElem?_toArray, List.getElem?_cons_succ, List.getElem?_cons_zero, List.setIfInBounds_toArray, List.set_cons_zero, List.set_cons_succ]
  refine wpAnyH_take (i := 6) (v := ?v3) rfl (by kernel_rfl) (by kernel_rfl) (by kernel_rfl) (fun _ _ _ h => h) (Or.inl ⟨by rfl, ?y3⟩) (by assumption) ?_
  case y3 => intro w hSw; (try dsimp only at hSw); go_simp; all_goals first | with_reducible rfl | rw [if_neg (by omega)]
  try simp only [Act.put, List.getElem_toArray, List.getElem_cons_succ, List.getElem_cons_zero, List.getElem?_toArray, List.getElem?_cons_succ, List.getElem?_cons_zero, List.setIfInBounds_toArray, List.set_cons_zero, List.set_cons_succ]
  refine wpAnyH_take (i := 7) (v := ?v4) rfl (by kernel_rfl) (by kernel_rfl) (by kernel_rfl) (fun _ _ _ h => h) (Or.inl ⟨by rfl, ?y4⟩) (by assumption) ?_
  case y4 => intro w hSw; (try dsimp only at hSw); go_simp; all_goals first | with_reducible rfl | rw [if_neg (by omega)]
  try simp only [Act.put, List.getElem_toArray, List.getElem_cons_succ, List.getElem_cons_zero, List.getElem?_toArray, List.getElem?_cons_succ, List.getElem?_cons_zero, List.setIfInBounds_toArray, List.set_cons_zero, List.set_cons_succ]
  refine wpAnyH_take (i := 8) (v := ?v5) rfl (by kernel_rfl) (by kernel_rfl) (by kernel_rfl) (fun _ _ _ h => h) (Or.inl ⟨by rfl, ?y5⟩) (by assumption) ?_
  case y5 => intro w hSw; (try dsimp only at hSw); go_simp; all_goals first | with_reducible rfl | rw [if_neg (by omega)]
  try simp only [Act.put, List.getElem_toArray, List.getElem_cons_succ, List.getElem_cons_zero, List.getElem?_toArray, List.getElem?_cons_succ, List.getElem?_cons_zero, List.setIfInBounds_toArray, List.set_cons_zero, List.set_cons_succ]
  refine wpAnyH_ready (rs := [0, 9]) (by kernel_rfl) (by simp) ?_
  refine AllReadyH.cons rfl (fun K hK => ?_) ?_
  · skip
    go_simp
    refine hK.out _ _ ?_ (fun hHeld2 => ?_)
    · exact held5_keep hHeld (by repeat' first | exact Below.refl _ _ | refine below_drewN ?_ _ | refine Below.drew ?_ | refine Below.alloc ?_ (by first | exact Nat.le_refl _ | (simp <;> omega)) _)
    clear hK K hHeld
    try simp only [Act.put, List.getElem_toArray, List.getElem_cons_succ, List.getElem_cons_zero, List.getElem?_toArray, List.getElem?_cons_succ, List.getElem?_cons_zero, List.setIfInBounds_toArray, List.set_cons_zero, List.set_cons_succ]
    refine wpAnyH_mono (S' := fun w' => w'.cell? ⟨w.heap.size, 0, none⟩ = some (.int .i64 18) ∧ w'.cell? ⟨w.heap.size, 1, none⟩ = some (.int .i64 6) ∧ w'.cell? ⟨w.heap.size, 2, none⟩ = some (.int .i64 n) ∧ w'.cell? ⟨w.heap.size, 3, none⟩ = some (.int .i64 m) ∧ w'.cell? ⟨w.heap.size, 4, none⟩ = some (.int .i64 imm) ∧ w.heap.size < w'.heap.size ∧ Below w.heap.size w w' ∧ w'.cell? ⟨Y.heap.size, 6, none⟩ = some (.string ⟨#[98, 118, 115]⟩) ∧ Y.heap.size < w'.heap.size) (fun _ h => ⟨h.1, h.2.1, h.2.2.1, h.2.2.2.1, h.2.2.2.2.1, h.2.2.2.2.2.1, h.2.2.2.2.2.2.1⟩) ?_
    refine wpAnyH_any (⟨hHeld2.1, hHeld2.2.1, hHeld2.2.2.1, hHeld2.2.2.2.1, hHeld2.2.2.2.2.1, hHeld2.2.2.2.2.2.1, hHeld2.2.2.2.2.2.2, by go_simp, by simp⟩) (fun Z hHeld => ?_)
    clear hHeld2
    refine wpAnyH_take (i := 3) (v := ?v6) rfl (by kernel_rfl) (by kernel_rfl) (by kernel_rfl) (fun _ _ _ h => h) (Or.inl ⟨by rfl, ?y6⟩) (by assumption) ?_
    case y6 => intro w hSw; (try dsimp only at hSw); go_simp; all_goals first | with_reducible rfl | rw [if_neg (by omega)]
    try simp only [Act.put, List.getElem_toArray, List.getElem_cons_succ, List.getElem_cons_zero, List.getElem?_toArray, List.getElem?_cons_succ, List.getElem?_cons_zero, List.setIfInBounds_toArray, List.set_cons_zero, List.set_cons_succ]
    refine wpAnyH_take (i := 4) (v := ?v7) rfl (by kernel_rfl) (by kernel_rfl) (by kernel_rfl) (fun _ _ _ h => h) (Or.inl ⟨by rfl, ?y7⟩) (by assumption) ?_
    case y7 => intro w hSw; (try dsimp only at hSw); go_simp; all_goals first | with_reducible rfl | rw [if_neg (by omega)]
    try simp only [Act.put, List.getElem_toArray, List.getElem_cons_succ, List.getElem_cons_zero, List.getElem?_toArray, List.getElem?_cons_succ, List.getElem?_cons_zero, List.setIfInBounds_toArray, List.set_cons_zero, List.set_cons_succ]
    refine wpAnyH_take (i := 5) (v := ?v8) rfl (by kernel_rfl) (by kernel_rfl) (by kernel_rfl) (fun _ _ _ h => h) (Or.inl ⟨by rfl, ?y8⟩) (by assumption) ?_
    case y8 => intro w hSw; (try dsimp only at hSw); go_simp; all_goals first | with_reducible rfl | rw [if_neg (by omega)]
    try simp only [Act.put, List.getElem_toArray, List.getElem_cons_succ, List.getElem_cons_zero, List.getElem?_toArray, List.getElem?_cons_succ, List.getElem?_cons_zero, List.setIfInBounds_toArray, List.set_cons_zero, List.set_cons_succ]
    refine wpAnyH_ready (rs := [9]) (by kernel_rfl) (by simp) ?_
    refine AllReadyH.cons rfl (fun K hK => ?_) AllReadyH.nil
    go_simp
    (go_at_call 16; with_reducible refine (hri _).mono ?_; rintro e w2 ⟨rfl, m2, rfl⟩)
    go_wp2_with fail
    refine hK.out _ _ ?_ (fun hHeld2 => ?_)
    · exact held5_litk hHeld (by repeat' first | exact Below.refl _ _ | refine below_drewN ?_ _ | refine Below.drew ?_ | refine Below.alloc ?_ (by first | exact Nat.le_refl _ | (simp <;> omega)) _)
    clear hK K hHeld
    try simp only [Act.put, List.getElem_toArray, List.getElem_cons_succ, List.getElem_cons_zero, List.getElem?_toArray, List.getElem?_cons_succ, List.getElem?_cons_zero, List.setIfInBounds_toArray, List.set_cons_zero, List.set_cons_succ]
    refine wpAnyH_any hHeld2 (fun Z hHeld => ?_)
    clear hHeld2
    refine wpAnyH_take (i := 10) (v := ?v9) rfl (by kernel_rfl) (by kernel_rfl) (by kernel_rfl) (fun _ _ _ h => h) (Or.inl ⟨by rfl, ?y9⟩) (by assumption) ?_
    case y9 => intro w hSw; (try dsimp only at hSw); go_simp; all_goals first | with_reducible rfl | rw [if_neg (by omega)]
    try simp only [Act.put, List.getElem_toArray, List.getElem_cons_succ, List.getElem_cons_zero, List.getElem?_toArray, List.getElem?_cons_succ, List.getElem?_cons_zero, List.setIfInBounds_toArray, List.set_cons_zero, List.set_cons_succ]
    refine wpAnyH_take (i := 11) (v := ?v10) rfl (by kernel_rfl) (by kernel_rfl) (by kernel_rfl) (fun _ _ _ h => h) (Or.inl ⟨by rfl, ?y10⟩) (by assumption) ?_
    case y10 => intro w hSw; (try dsimp only at hSw); go_simp; all_goals first | with_reducible rfl | rw [if_neg (by omega)]
    try simp only [Act.put, List.getElem_toArray, List.getElem_cons_succ, List.getElem_cons_zero, List.getElem?_toArray, List.getElem?_cons_succ, List.getElem?_cons_zero, List.setIfInBounds_toArray, List.set_cons_zero, List.set_cons_succ]
    refine wpAnyH_take (i := 12) (v := ?v11) rfl (by kernel_rfl) (by kernel_rfl) (by kernel_rfl) (fun _ _ _ h => h) (Or.inl ⟨by rfl, ?y11⟩) (by assumption) ?_
    case y11 => intro w hSw; (try dsimp only at hSw); go_simp; all_goals first | with_reducible rfl | rw [if_neg (by omega)]
    try simp only [Act.put, List.getElem_toArray, List.getElem_cons_succ, List.getElem_cons_zero, List.getElem?_toArray, List.getElem?_cons_succ, List.getElem?_cons_zero, List.setIfInBounds_toArray, List.set_cons_zero, List.set_cons_succ]
    refine wpAnyH_done (by kernel_rfl) ?_ _
    (go_wp2_with fail; go_ret2; refine ⟨congrArg (fun s => Ending.returned (.tuple #[.string s, .bool true])) ?_, hHeld.2.2.2.2.2.2.1⟩; rw [Hri.out]; apply ByteArray.ext; simp [showB, shapesL, wordB, wordsL, alusL, condsL, piece])
  refine AllReadyH.cons rfl (fun K hK => ?_) AllReadyH.nil
  go_simp
  (go_at_call 16; with_reducible refine (hri _).mono ?_; rintro e w2 ⟨rfl, m2, rfl⟩)
  go_wp2_with fail
  refine hK.out _ _ ?_ (fun hHeld2 => ?_)
  · exact held5_keep hHeld (by repeat' first | exact Below.refl _ _ | refine below_drewN ?_ _ | refine Below.drew ?_ | refine Below.alloc ?_ (by first | exact Nat.le_refl _ | (simp <;> omega)) _)
  clear hK K hHeld
  try simp only [Act.put, List.getElem_toArray, List.getElem_cons_succ, List.getElem_cons_zero, List.getElem?_toArray, List.getElem?_cons_succ, List.getElem?_cons_zero, List.setIfInBounds_toArray, List.set_cons_zero, List.set_cons_succ]
  refine wpAnyH_any hHeld2 (fun Y hHeld => ?_)
  clear hHeld2
  refine wpAnyH_ready (rs := [0]) (by kernel_rfl) (by simp) ?_
  refine AllReadyH.cons rfl (fun K hK => ?_) AllReadyH.nil
  go_simp
  refine hK.out _ _ ?_ (fun hHeld2 => ?_)
  · exact held5_keep hHeld (by repeat' first | exact Below.refl _ _ | refine below_drewN ?_ _ | refine Below.drew ?_ | refine Below.alloc ?_ (by first | exact Nat.le_refl _ | (simp <;> omega)) _)
  clear hK K hHeld
  try simp only [Act.put, List.getElem_toArray, List.getElem_cons_succ, List.getElem_cons_zero, List.getElem?_toArray, List.getElem?_cons_succ, List.getElem?_cons_zero, List.setIfInBounds_toArray, List.set_cons_zero, List.set_cons_succ]
  refine wpAnyH_mono (S' := fun w' => w'.cell? ⟨w.heap.size, 0, none⟩ = some (.int .i64 18) ∧ w'.cell? ⟨w.heap.size, 1, none⟩ = some (.int .i64 6) ∧ w'.cell? ⟨w.heap.size, 2, none⟩ = some (.int .i64 n) ∧ w'.cell? ⟨w.heap.size, 3, none⟩ = some (.int .i64 m) ∧ w'.cell? ⟨w.heap.size, 4, none⟩ = some (.int .i64 imm) ∧ w.heap.size < w'.heap.size ∧ Below w.heap.size w w' ∧ w'.cell? ⟨Y.heap.size, 6, none⟩ = some (.string ⟨#[98, 118, 115]⟩) ∧ Y.heap.size < w'.heap.size) (fun _ h => ⟨h.1, h.2.1, h.2.2.1, h.2.2.2.1, h.2.2.2.2.1, h.2.2.2.2.2.1, h.2.2.2.2.2.2.1⟩) ?_
  refine wpAnyH_any (⟨hHeld2.1, hHeld2.2.1, hHeld2.2.2.1, hHeld2.2.2.2.1, hHeld2.2.2.2.2.1, hHeld2.2.2.2.2.2.1, hHeld2.2.2.2.2.2.2, by go_simp, by simp⟩) (fun Z hHeld => ?_)
  clear hHeld2
  refine wpAnyH_take (i := 3) (v := ?v12) rfl (by kernel_rfl) (by kernel_rfl) (by kernel_rfl) (fun _ _ _ h => h) (Or.inl ⟨by rfl, ?y12⟩) (by assumption) ?_
  case y12 => intro w hSw; (try dsimp only at hSw); go_simp; all_goals first | with_reducible rfl | rw [if_neg (by omega)]
  try simp only [Act.put, List.getElem_toArray, List.getElem_cons_succ, List.getElem_cons_zero, List.getElem?_toArray, List.getElem?_cons_succ, List.getElem?_cons_zero, List.setIfInBounds_toArray, List.set_cons_zero, List.set_cons_succ]
  refine wpAnyH_take (i := 4) (v := ?v13) rfl (by kernel_rfl) (by kernel_rfl) (by kernel_rfl) (fun _ _ _ h => h) (Or.inl ⟨by rfl, ?y13⟩) (by assumption) ?_
  case y13 => intro w hSw; (try dsimp only at hSw); go_simp; all_goals first | with_reducible rfl | rw [if_neg (by omega)]
  try simp only [Act.put, List.getElem_toArray, List.getElem_cons_succ, List.getElem_cons_zero, List.getElem?_toArray, List.getElem?_cons_succ, List.getElem?_cons_zero, List.setIfInBounds_toArray, List.set_cons_zero, List.set_cons_succ]
  refine wpAnyH_take (i := 5) (v := ?v14) rfl (by kernel_rfl) (by kernel_rfl) (by kernel_rfl) (fun _ _ _ h => h) (Or.inl ⟨by rfl, ?y14⟩) (by assumption) ?_
  case y14 => intro w hSw; (try dsimp only at hSw); go_simp; all_goals first | with_reducible rfl | rw [if_neg (by omega)]
  try simp only [Act.put, List.getElem_toArray, List.getElem_cons_succ, List.getElem_cons_zero, List.getElem?_toArray, List.getElem?_cons_succ, List.getElem?_cons_zero, List.setIfInBounds_toArray, List.set_cons_zero, List.set_cons_succ]
  refine wpAnyH_take (i := 10) (v := ?v15) rfl (by kernel_rfl) (by kernel_rfl) (by kernel_rfl) (fun _ _ _ h => h) (Or.inl ⟨by rfl, ?y15⟩) (by assumption) ?_
  case y15 => intro w hSw; (try dsimp only at hSw); go_simp; all_goals first | with_reducible rfl | rw [if_neg (by omega)]
  try simp only [Act.put, List.getElem_toArray, List.getElem_cons_succ, List.getElem_cons_zero, List.getElem?_toArray, List.getElem?_cons_succ, List.getElem?_cons_zero, List.setIfInBounds_toArray, List.set_cons_zero, List.set_cons_succ]
  refine wpAnyH_take (i := 11) (v := ?v16) rfl (by kernel_rfl) (by kernel_rfl) (by kernel_rfl) (fun _ _ _ h => h) (Or.inl ⟨by rfl, ?y16⟩) (by assumption) ?_
  case y16 => intro w hSw; (try dsimp only at hSw); go_simp; all_goals first | with_reducible rfl | rw [if_neg (by omega)]
  try simp only [Act.put, List.getElem_toArray, List.getElem_cons_succ, List.getElem_cons_zero, List.getElem?_toArray, List.getElem?_cons_succ, List.getElem?_cons_zero, List.setIfInBounds_toArray, List.set_cons_zero, List.set_cons_succ]
  refine wpAnyH_take (i := 12) (v := ?v17) rfl (by kernel_rfl) (by kernel_rfl) (by kernel_rfl) (fun _ _ _ h => h) (Or.inl ⟨by rfl, ?y17⟩) (by assumption) ?_
  case y17 => intro w hSw; (try dsimp only at hSw); go_simp; all_goals first | with_reducible rfl | rw [if_neg (by omega)]
  try simp only [Act.put, List.getElem_toArray, List.getElem_cons_succ, List.getElem_cons_zero, List.getElem?_toArray, List.getElem?_cons_succ, List.getElem?_cons_zero, List.setIfInBounds_toArray, List.set_cons_zero, List.set_cons_succ]
  refine wpAnyH_done (by kernel_rfl) ?_ _
  (go_wp2_with fail; go_ret2; refine ⟨congrArg (fun s => Ending.returned (.tuple #[.string s, .bool true])) ?_, hHeld.2.2.2.2.2.2.1⟩; rw [Hri.out]; apply ByteArray.ext; simp [showB, shapesL, wordB, wordsL, alusL, condsL, piece])
set_option maxRecDepth 100000 in
set_option maxHeartbeats 8000000 in
theorem rshow_18_7 (d n m imm : Int) (w : World) (hlit : d = 7) (hc : canB 18 d n m imm = true) (hr : rcanB 18 d n m imm = true) : Calls Tryd.prog 7 #[.agg #[.int .i64 18, .int .i64 d, .int .i64 n, .int .i64 m, .int .i64 imm]] w fun e w' => e = .returned (.tuple #[.string ⟨(showB 18 d n m imm).toArray⟩, .bool true]) ∧ Below w.heap.size w w' := by
  subst hlit
  have hb := can_bounds 18 7 n m imm (by decide) hc
  have hcan : ∀ w, Calls Tryd.prog 14 #[.agg #[.int .i64 18, .int .i64 7, .int .i64 n, .int .i64 m, .int .i64 imm]] w fun e w' => e = .returned (.bool true) ∧ Below w.heap.size w w' := fun w => by have := rcan_any 18 (by decide) 7 n m imm w; rw [hr] at this; exact this
  clear hr hc
  obtain ⟨rd, hrd, hsrd, Hrd⟩ := reg_str 7 (by omega) (by omega)
  have hwr : IntKind.i64.wrap (2 * imm) = 2 * imm := by rw [IntKind.wrap_i64]; omega
  obtain ⟨ri, hri, hsri, Hri⟩ := imm_str (2 * imm) (by omega) (by omega)
  go_enter Tryd.func7, Tryd.ntmps7
  go_wp2_with fail
  refine (hcan _).mono ?_
  rintro e w1 ⟨rfl, hb1⟩
  have hbx1 := heap_keep (heap_alloc_new w _) hb1
  have hB1 : Below w.heap.size w w1 := (Below.alloc (Below.refl _ w) (Nat.le_refl _) _).trans (hb1.mono (by simp))
  have hc1 := fun j => Lib.cell_of_heap hbx1 j
  go_wp2_with fail
  refine (hrd _).mono ?_
  rintro e w2 ⟨rfl, m1, rfl⟩
  go_wp2_with fail
  have hS0 : (fun w' => w'.cell? ⟨w.heap.size, 0, none⟩ = some (.int .i64 18) ∧ w'.cell? ⟨w.heap.size, 1, none⟩ = some (.int .i64 7) ∧ w'.cell? ⟨w.heap.size, 2, none⟩ = some (.int .i64 n) ∧ w'.cell? ⟨w.heap.size, 3, none⟩ = some (.int .i64 m) ∧ w'.cell? ⟨w.heap.size, 4, none⟩ = some (.int .i64 imm) ∧ w.heap.size < w'.heap.size ∧ Below w.heap.size w w') (w1.drewN m1) := ⟨hc1 0, hc1 1, hc1 2, hc1 3, hc1 4, (Array.getElem?_eq_some_iff.1 hbx1).1, below_drewN hB1 m1⟩
  generalize w1.drewN m1 = W at *


  have HS := Lib.hid hS0

  obtain ⟨k0, k1, k2, k3, k4, hlt, -⟩ := hS0
  refine wp_region_held_drew (S := fun w' => w'.cell? ⟨w.heap.size, 0, none⟩ = some (.int .i64 18) ∧ w'.cell? ⟨w.heap.size, 1, none⟩ = some (.int .i64 7) ∧ w'.cell? ⟨w.heap.size, 2, none⟩ = some (.int .i64 n) ∧ w'.cell? ⟨w.heap.size, 3, none⟩ = some (.int .i64 m) ∧ w'.cell? ⟨w.heap.size, 4, none⟩ = some (.int .i64 imm) ∧ w.heap.size < w'.heap.size ∧ Below w.heap.size w w') (by kernel_rfl) (held5_keep HS.out ((Below.refl _ _).drew)) (fun hHeld2 => ?_)
  refine wpAnyH_any hHeld2 (fun Y hHeld => ?_)
  clear hHeld2
  refine wpAnyH_take (i := 1) (v := ?v1) rfl (by kernel_rfl) (by kernel_rfl) (by kernel_rfl) (fun _ _ _ h => h) (Or.inl ⟨by rfl, ?y1⟩) (by assumption) ?_
  case y1 => intro w hSw; (try dsimp only at hSw); go_simp; all_goals first | with_reducible rfl | rw [if_neg (by omega)]
  try simp only [Act.put, List.getElem_toArray, List.getElem_cons_succ, List.getElem_cons_zero, List.getElem?_toArray, List.getElem?_cons_succ, List.getElem?_cons_zero, List.setIfInBounds_toArray, List.set_cons_zero, List.set_cons_succ]
  refine wpAnyH_take (i := 2) (v := ?v2) rfl (by kernel_rfl) (by kernel_rfl) (by kernel_rfl) (fun _ _ _ h => h) (Or.inl ⟨by rfl, ?y2⟩) (by assumption) ?_
  case y2 => intro w hSw; (try dsimp only at hSw); go_simp; all_goals first | with_reducible rfl | rw [if_neg (by omega)]
  try simp only [Act.put, List.getElem_toArray, List.getElem_cons_succ, List.getElem_cons_zero, List.getElem?_toArray, List.getElem?_cons_succ, List.getElem?_cons_zero, List.setIfInBounds_toArray, List.set_cons_zero, List.set_cons_succ]
  refine wpAnyH_take (i := 6) (v := ?v3) rfl (by kernel_rfl) (by kernel_rfl) (by kernel_rfl) (fun _ _ _ h => h) (Or.inl ⟨by rfl, ?y3⟩) (by assumption) ?_
  case y3 => intro w hSw; (try dsimp only at hSw); go_simp; all_goals first | with_reducible rfl | rw [if_neg (by omega)]
  try simp only [Act.put, List.getElem_toArray, List.getElem_cons_succ, List.getElem_cons_zero, List.getElem?_toArray, List.getElem?_cons_succ, List.getElem?_cons_zero, List.setIfInBounds_toArray, List.set_cons_zero, List.set_cons_succ]
  refine wpAnyH_take (i := 7) (v := ?v4) rfl (by kernel_rfl) (by kernel_rfl) (by kernel_rfl) (fun _ _ _ h => h) (Or.inl ⟨by rfl, ?y4⟩) (by assumption) ?_
  case y4 => intro w hSw; (try dsimp only at hSw); go_simp; all_goals first | with_reducible rfl | rw [if_neg (by omega)]
  try simp only [Act.put, List.getElem_toArray, List.getElem_cons_succ, List.getElem_cons_zero, List.getElem?_toArray, List.getElem?_cons_succ, List.getElem?_cons_zero, List.setIfInBounds_toArray, List.set_cons_zero, List.set_cons_succ]
  refine wpAnyH_take (i := 8) (v := ?v5) rfl (by kernel_rfl) (by kernel_rfl) (by kernel_rfl) (fun _ _ _ h => h) (Or.inl ⟨by rfl, ?y5⟩) (by assumption) ?_
  case y5 => intro w hSw; (try dsimp only at hSw); go_simp; all_goals first | with_reducible rfl | rw [if_neg (by omega)]
  try simp only [Act.put, List.getElem_toArray, List.getElem_cons_succ, List.getElem_cons_zero, List.getElem?_toArray, List.getElem?_cons_succ, List.getElem?_cons_zero, List.setIfInBounds_toArray, List.set_cons_zero, List.set_cons_succ]
  refine wpAnyH_ready (rs := [0, 9]) (by kernel_rfl) (by simp) ?_
  refine AllReadyH.cons rfl (fun K hK => ?_) ?_
  · skip
    go_simp
    refine hK.out _ _ ?_ (fun hHeld2 => ?_)
    · exact held5_keep hHeld (by repeat' first | exact Below.refl _ _ | refine below_drewN ?_ _ | refine Below.drew ?_ | refine Below.alloc ?_ (by first | exact Nat.le_refl _ | (simp <;> omega)) _)
    clear hK K hHeld
    try simp only [Act.put, List.getElem_toArray, List.getElem_cons_succ, List.getElem_cons_zero, List.getElem?_toArray, List.getElem?_cons_succ, List.getElem?_cons_zero, List.setIfInBounds_toArray, List.set_cons_zero, List.set_cons_succ]
    refine wpAnyH_mono (S' := fun w' => w'.cell? ⟨w.heap.size, 0, none⟩ = some (.int .i64 18) ∧ w'.cell? ⟨w.heap.size, 1, none⟩ = some (.int .i64 7) ∧ w'.cell? ⟨w.heap.size, 2, none⟩ = some (.int .i64 n) ∧ w'.cell? ⟨w.heap.size, 3, none⟩ = some (.int .i64 m) ∧ w'.cell? ⟨w.heap.size, 4, none⟩ = some (.int .i64 imm) ∧ w.heap.size < w'.heap.size ∧ Below w.heap.size w w' ∧ w'.cell? ⟨Y.heap.size, 7, none⟩ = some (.string ⟨#[98, 118, 99]⟩) ∧ Y.heap.size < w'.heap.size) (fun _ h => ⟨h.1, h.2.1, h.2.2.1, h.2.2.2.1, h.2.2.2.2.1, h.2.2.2.2.2.1, h.2.2.2.2.2.2.1⟩) ?_
    refine wpAnyH_any (⟨hHeld2.1, hHeld2.2.1, hHeld2.2.2.1, hHeld2.2.2.2.1, hHeld2.2.2.2.2.1, hHeld2.2.2.2.2.2.1, hHeld2.2.2.2.2.2.2, by go_simp, by simp⟩) (fun Z hHeld => ?_)
    clear hHeld2
    refine wpAnyH_take (i := 3) (v := ?v6) rfl (by kernel_rfl) (by kernel_rfl) (by kernel_rfl) (fun _ _ _ h => h) (Or.inl ⟨by rfl, ?y6⟩) (by assumption) ?_
    case y6 => intro w hSw; (try dsimp only at hSw); go_simp; all_goals first | with_reducible rfl | rw [if_neg (by omega)]
    try simp only [Act.put, List.getElem_toArray, List.getElem_cons_succ, List.getElem_cons_zero, List.getElem?_toArray, List.getElem?_cons_succ, List.getElem?_cons_zero, List.setIfInBounds_toArray, List.set_cons_zero, List.set_cons_succ]
    refine wpAnyH_take (i := 4) (v := ?v7) rfl (by kernel_rfl) (by kernel_rfl) (by kernel_rfl) (fun _ _ _ h => h) (Or.inl ⟨by rfl, ?y7⟩) (by assumption) ?_
    case y7 => intro w hSw; (try dsimp only at hSw); go_simp; all_goals first | with_reducible rfl | rw [if_neg (by omega)]
    try simp only [Act.put, List.getElem_toArray, List.getElem_cons_succ, List.getElem_cons_zero, List.getElem?_toArray, List.getElem?_cons_succ, List.getElem?_cons_zero, List.setIfInBounds_toArray, List.set_cons_zero, List.set_cons_succ]
    refine wpAnyH_take (i := 5) (v := ?v8) rfl (by kernel_rfl) (by kernel_rfl) (by kernel_rfl) (fun _ _ _ h => h) (Or.inl ⟨by rfl, ?y8⟩) (by assumption) ?_
    case y8 => intro w hSw; (try dsimp only at hSw); go_simp; all_goals first | with_reducible rfl | rw [if_neg (by omega)]
    try simp only [Act.put, List.getElem_toArray, List.getElem_cons_succ, List.getElem_cons_zero, List.getElem?_toArray, List.getElem?_cons_succ, List.getElem?_cons_zero, List.setIfInBounds_toArray, List.set_cons_zero, List.set_cons_succ]
    refine wpAnyH_ready (rs := [9]) (by kernel_rfl) (by simp) ?_
    refine AllReadyH.cons rfl (fun K hK => ?_) AllReadyH.nil
    go_simp
    (go_at_call 16; with_reducible refine (hri _).mono ?_; rintro e w2 ⟨rfl, m2, rfl⟩)
    go_wp2_with fail
    refine hK.out _ _ ?_ (fun hHeld2 => ?_)
    · exact held5_litk hHeld (by repeat' first | exact Below.refl _ _ | refine below_drewN ?_ _ | refine Below.drew ?_ | refine Below.alloc ?_ (by first | exact Nat.le_refl _ | (simp <;> omega)) _)
    clear hK K hHeld
    try simp only [Act.put, List.getElem_toArray, List.getElem_cons_succ, List.getElem_cons_zero, List.getElem?_toArray, List.getElem?_cons_succ, List.getElem?_cons_zero, List.setIfInBounds_toArray, List.set_cons_zero, List.set_cons_succ]
    refine wpAnyH_any hHeld2 (fun Z hHeld => ?_)
    clear hHeld2
    refine wpAnyH_take (i := 10) (v := ?v9) rfl (by kernel_rfl) (by kernel_rfl) (by kernel_rfl) (fun _ _ _ h => h) (Or.inl ⟨by rfl, ?y9⟩) (by assumption) ?_
    case y9 => intro w hSw; (try dsimp only at hSw); go_simp; all_goals first | with_reducible rfl | rw [if_neg (by omega)]
    try simp only [Act.put, List.getElem_toArray, List.getElem_cons_succ, List.getElem_cons_zero, List.getElem?_toArray, List.getElem?_cons_succ, List.getElem?_cons_zero, List.setIfInBounds_toArray, List.set_cons_zero, List.set_cons_succ]
    refine wpAnyH_take (i := 11) (v := ?v10) rfl (by kernel_rfl) (by kernel_rfl) (by kernel_rfl) (fun _ _ _ h => h) (Or.inl ⟨by rfl, ?y10⟩) (by assumption) ?_
    case y10 => intro w hSw; (try dsimp only at hSw); go_simp; all_goals first | with_reducible rfl | rw [if_neg (by omega)]
    try simp only [Act.put, List.getElem_toArray, List.getElem_cons_succ, List.getElem_cons_zero, List.getElem?_toArray, List.getElem?_cons_succ, List.getElem?_cons_zero, List.setIfInBounds_toArray, List.set_cons_zero, List.set_cons_succ]
    refine wpAnyH_take (i := 12) (v := ?v11) rfl (by kernel_rfl) (by kernel_rfl) (by kernel_rfl) (fun _ _ _ h => h) (Or.inl ⟨by rfl, ?y11⟩) (by assumption) ?_
    case y11 => intro w hSw; (try dsimp only at hSw); go_simp; all_goals first | with_reducible rfl | rw [if_neg (by omega)]
    try simp only [Act.put, List.getElem_toArray, List.getElem_cons_succ, List.getElem_cons_zero, List.getElem?_toArray, List.getElem?_cons_succ, List.getElem?_cons_zero, List.setIfInBounds_toArray, List.set_cons_zero, List.set_cons_succ]
    refine wpAnyH_done (by kernel_rfl) ?_ _
    (go_wp2_with fail; go_ret2; refine ⟨congrArg (fun s => Ending.returned (.tuple #[.string s, .bool true])) ?_, hHeld.2.2.2.2.2.2.1⟩; rw [Hri.out]; apply ByteArray.ext; simp [showB, shapesL, wordB, wordsL, alusL, condsL, piece])
  refine AllReadyH.cons rfl (fun K hK => ?_) AllReadyH.nil
  go_simp
  (go_at_call 16; with_reducible refine (hri _).mono ?_; rintro e w2 ⟨rfl, m2, rfl⟩)
  go_wp2_with fail
  refine hK.out _ _ ?_ (fun hHeld2 => ?_)
  · exact held5_keep hHeld (by repeat' first | exact Below.refl _ _ | refine below_drewN ?_ _ | refine Below.drew ?_ | refine Below.alloc ?_ (by first | exact Nat.le_refl _ | (simp <;> omega)) _)
  clear hK K hHeld
  try simp only [Act.put, List.getElem_toArray, List.getElem_cons_succ, List.getElem_cons_zero, List.getElem?_toArray, List.getElem?_cons_succ, List.getElem?_cons_zero, List.setIfInBounds_toArray, List.set_cons_zero, List.set_cons_succ]
  refine wpAnyH_any hHeld2 (fun Y hHeld => ?_)
  clear hHeld2
  refine wpAnyH_ready (rs := [0]) (by kernel_rfl) (by simp) ?_
  refine AllReadyH.cons rfl (fun K hK => ?_) AllReadyH.nil
  go_simp
  refine hK.out _ _ ?_ (fun hHeld2 => ?_)
  · exact held5_keep hHeld (by repeat' first | exact Below.refl _ _ | refine below_drewN ?_ _ | refine Below.drew ?_ | refine Below.alloc ?_ (by first | exact Nat.le_refl _ | (simp <;> omega)) _)
  clear hK K hHeld
  try simp only [Act.put, List.getElem_toArray, List.getElem_cons_succ, List.getElem_cons_zero, List.getElem?_toArray, List.getElem?_cons_succ, List.getElem?_cons_zero, List.setIfInBounds_toArray, List.set_cons_zero, List.set_cons_succ]
  refine wpAnyH_mono (S' := fun w' => w'.cell? ⟨w.heap.size, 0, none⟩ = some (.int .i64 18) ∧ w'.cell? ⟨w.heap.size, 1, none⟩ = some (.int .i64 7) ∧ w'.cell? ⟨w.heap.size, 2, none⟩ = some (.int .i64 n) ∧ w'.cell? ⟨w.heap.size, 3, none⟩ = some (.int .i64 m) ∧ w'.cell? ⟨w.heap.size, 4, none⟩ = some (.int .i64 imm) ∧ w.heap.size < w'.heap.size ∧ Below w.heap.size w w' ∧ w'.cell? ⟨Y.heap.size, 7, none⟩ = some (.string ⟨#[98, 118, 99]⟩) ∧ Y.heap.size < w'.heap.size) (fun _ h => ⟨h.1, h.2.1, h.2.2.1, h.2.2.2.1, h.2.2.2.2.1, h.2.2.2.2.2.1, h.2.2.2.2.2.2.1⟩) ?_
  refine wpAnyH_any (⟨hHeld2.1, hHeld2.2.1, hHeld2.2.2.1, hHeld2.2.2.2.1, hHeld2.2.2.2.2.1, hHeld2.2.2.2.2.2.1, hHeld2.2.2.2.2.2.2, by go_simp, by simp⟩) (fun Z hHeld => ?_)
  clear hHeld2
  refine wpAnyH_take (i := 3) (v := ?v12) rfl (by kernel_rfl) (by kernel_rfl) (by kernel_rfl) (fun _ _ _ h => h) (Or.inl ⟨by rfl, ?y12⟩) (by assumption) ?_
  case y12 => intro w hSw; (try dsimp only at hSw); go_simp; all_goals first | with_reducible rfl | rw [if_neg (by omega)]
  try simp only [Act.put, List.getElem_toArray, List.getElem_cons_succ, List.getElem_cons_zero, List.getElem?_toArray, List.getElem?_cons_succ, List.getElem?_cons_zero, List.setIfInBounds_toArray, List.set_cons_zero, List.set_cons_succ]
  refine wpAnyH_take (i := 4) (v := ?v13) rfl (by kernel_rfl) (by kernel_rfl) (by kernel_rfl) (fun _ _ _ h => h) (Or.inl ⟨by rfl, ?y13⟩) (by assumption) ?_
  case y13 => intro w hSw; (try dsimp only at hSw); go_simp; all_goals first | with_reducible rfl | rw [if_neg (by omega)]
  try simp only [Act.put, List.getElem_toArray, List.getElem_cons_succ, List.getElem_cons_zero, List.getElem?_toArray, List.getElem?_cons_succ, List.getElem?_cons_zero, List.setIfInBounds_toArray, List.set_cons_zero, List.set_cons_succ]
  refine wpAnyH_take (i := 5) (v := ?v14) rfl (by kernel_rfl) (by kernel_rfl) (by kernel_rfl) (fun _ _ _ h => h) (Or.inl ⟨by rfl, ?y14⟩) (by assumption) ?_
  case y14 => intro w hSw; (try dsimp only at hSw); go_simp; all_goals first | with_reducible rfl | rw [if_neg (by omega)]
  try simp only [Act.put, List.getElem_toArray, List.getElem_cons_succ, List.getElem_cons_zero, List.getElem?_toArray, List.getElem?_cons_succ, List.getElem?_cons_zero, List.setIfInBounds_toArray, List.set_cons_zero, List.set_cons_succ]
  refine wpAnyH_take (i := 10) (v := ?v15) rfl (by kernel_rfl) (by kernel_rfl) (by kernel_rfl) (fun _ _ _ h => h) (Or.inl ⟨by rfl, ?y15⟩) (by assumption) ?_
  case y15 => intro w hSw; (try dsimp only at hSw); go_simp; all_goals first | with_reducible rfl | rw [if_neg (by omega)]
  try simp only [Act.put, List.getElem_toArray, List.getElem_cons_succ, List.getElem_cons_zero, List.getElem?_toArray, List.getElem?_cons_succ, List.getElem?_cons_zero, List.setIfInBounds_toArray, List.set_cons_zero, List.set_cons_succ]
  refine wpAnyH_take (i := 11) (v := ?v16) rfl (by kernel_rfl) (by kernel_rfl) (by kernel_rfl) (fun _ _ _ h => h) (Or.inl ⟨by rfl, ?y16⟩) (by assumption) ?_
  case y16 => intro w hSw; (try dsimp only at hSw); go_simp; all_goals first | with_reducible rfl | rw [if_neg (by omega)]
  try simp only [Act.put, List.getElem_toArray, List.getElem_cons_succ, List.getElem_cons_zero, List.getElem?_toArray, List.getElem?_cons_succ, List.getElem?_cons_zero, List.setIfInBounds_toArray, List.set_cons_zero, List.set_cons_succ]
  refine wpAnyH_take (i := 12) (v := ?v17) rfl (by kernel_rfl) (by kernel_rfl) (by kernel_rfl) (fun _ _ _ h => h) (Or.inl ⟨by rfl, ?y17⟩) (by assumption) ?_
  case y17 => intro w hSw; (try dsimp only at hSw); go_simp; all_goals first | with_reducible rfl | rw [if_neg (by omega)]
  try simp only [Act.put, List.getElem_toArray, List.getElem_cons_succ, List.getElem_cons_zero, List.getElem?_toArray, List.getElem?_cons_succ, List.getElem?_cons_zero, List.setIfInBounds_toArray, List.set_cons_zero, List.set_cons_succ]
  refine wpAnyH_done (by kernel_rfl) ?_ _
  (go_wp2_with fail; go_ret2; refine ⟨congrArg (fun s => Ending.returned (.tuple #[.string s, .bool true])) ?_, hHeld.2.2.2.2.2.2.1⟩; rw [Hri.out]; apply ByteArray.ext; simp [showB, shapesL, wordB, wordsL, alusL, condsL, piece])
set_option maxRecDepth 100000 in
set_option maxHeartbeats 8000000 in
theorem rshow_18_8 (d n m imm : Int) (w : World) (hlit : d = 8) (hc : canB 18 d n m imm = true) (hr : rcanB 18 d n m imm = true) : Calls Tryd.prog 7 #[.agg #[.int .i64 18, .int .i64 d, .int .i64 n, .int .i64 m, .int .i64 imm]] w fun e w' => e = .returned (.tuple #[.string ⟨(showB 18 d n m imm).toArray⟩, .bool true]) ∧ Below w.heap.size w w' := by
  subst hlit
  have hb := can_bounds 18 8 n m imm (by decide) hc
  have hcan : ∀ w, Calls Tryd.prog 14 #[.agg #[.int .i64 18, .int .i64 8, .int .i64 n, .int .i64 m, .int .i64 imm]] w fun e w' => e = .returned (.bool true) ∧ Below w.heap.size w w' := fun w => by have := rcan_any 18 (by decide) 8 n m imm w; rw [hr] at this; exact this
  clear hr hc
  obtain ⟨rd, hrd, hsrd, Hrd⟩ := reg_str 8 (by omega) (by omega)
  have hwr : IntKind.i64.wrap (2 * imm) = 2 * imm := by rw [IntKind.wrap_i64]; omega
  obtain ⟨ri, hri, hsri, Hri⟩ := imm_str (2 * imm) (by omega) (by omega)
  go_enter Tryd.func7, Tryd.ntmps7
  go_wp2_with fail
  refine (hcan _).mono ?_
  rintro e w1 ⟨rfl, hb1⟩
  have hbx1 := heap_keep (heap_alloc_new w _) hb1
  have hB1 : Below w.heap.size w w1 := (Below.alloc (Below.refl _ w) (Nat.le_refl _) _).trans (hb1.mono (by simp))
  have hc1 := fun j => Lib.cell_of_heap hbx1 j
  go_wp2_with fail
  refine (hrd _).mono ?_
  rintro e w2 ⟨rfl, m1, rfl⟩
  go_wp2_with fail
  have hS0 : (fun w' => w'.cell? ⟨w.heap.size, 0, none⟩ = some (.int .i64 18) ∧ w'.cell? ⟨w.heap.size, 1, none⟩ = some (.int .i64 8) ∧ w'.cell? ⟨w.heap.size, 2, none⟩ = some (.int .i64 n) ∧ w'.cell? ⟨w.heap.size, 3, none⟩ = some (.int .i64 m) ∧ w'.cell? ⟨w.heap.size, 4, none⟩ = some (.int .i64 imm) ∧ w.heap.size < w'.heap.size ∧ Below w.heap.size w w') (w1.drewN m1) := ⟨hc1 0, hc1 1, hc1 2, hc1 3, hc1 4, (Array.getElem?_eq_some_iff.1 hbx1).1, below_drewN hB1 m1⟩
  generalize w1.drewN m1 = W at *


  have HS := Lib.hid hS0

  obtain ⟨k0, k1, k2, k3, k4, hlt, -⟩ := hS0
  refine wp_region_held_drew (S := fun w' => w'.cell? ⟨w.heap.size, 0, none⟩ = some (.int .i64 18) ∧ w'.cell? ⟨w.heap.size, 1, none⟩ = some (.int .i64 8) ∧ w'.cell? ⟨w.heap.size, 2, none⟩ = some (.int .i64 n) ∧ w'.cell? ⟨w.heap.size, 3, none⟩ = some (.int .i64 m) ∧ w'.cell? ⟨w.heap.size, 4, none⟩ = some (.int .i64 imm) ∧ w.heap.size < w'.heap.size ∧ Below w.heap.size w w') (by kernel_rfl) (held5_keep HS.out ((Below.refl _ _).drew)) (fun hHeld2 => ?_)
  refine wpAnyH_any hHeld2 (fun Y hHeld => ?_)
  clear hHeld2
  refine wpAnyH_take (i := 1) (v := ?v1) rfl (by kernel_rfl) (by kernel_rfl) (by kernel_rfl) (fun _ _ _ h => h) (Or.inl ⟨by rfl, ?y1⟩) (by assumption) ?_
  case y1 => intro w hSw; (try dsimp only at hSw); go_simp; all_goals first | with_reducible rfl | rw [if_neg (by omega)]
  try simp only [Act.put, List.getElem_toArray, List.getElem_cons_succ, List.getElem_cons_zero, List.getElem?_toArray, List.getElem?_cons_succ, List.getElem?_cons_zero, List.setIfInBounds_toArray, List.set_cons_zero, List.set_cons_succ]
  refine wpAnyH_take (i := 2) (v := ?v2) rfl (by kernel_rfl) (by kernel_rfl) (by kernel_rfl) (fun _ _ _ h => h) (Or.inl ⟨by rfl, ?y2⟩) (by assumption) ?_
  case y2 => intro w hSw; (try dsimp only at hSw); go_simp; all_goals first | with_reducible rfl | rw [if_neg (by omega)]
  try simp only [Act.put, List.getElem_toArray, List.getElem_cons_succ, List.getElem_cons_zero, List.getElem?_toArray, List.getElem?_cons_succ, List.getElem?_cons_zero, List.setIfInBounds_toArray, List.set_cons_zero, List.set_cons_succ]
  refine wpAnyH_take (i := 6) (v := ?v3) rfl (by kernel_rfl) (by kernel_rfl) (by kernel_rfl) (fun _ _ _ h => h) (Or.inl ⟨by rfl, ?y3⟩) (by assumption) ?_
  case y3 => intro w hSw; (try dsimp only at hSw); go_simp; all_goals first | with_reducible rfl | rw [if_neg (by omega)]
  try simp only [Act.put, List.getElem_toArray, List.getElem_cons_succ, List.getElem_cons_zero, List.getElem?_toArray, List.getElem?_cons_succ, List.getElem?_cons_zero, List.setIfInBounds_toArray, List.set_cons_zero, List.set_cons_succ]
  refine wpAnyH_take (i := 7) (v := ?v4) rfl (by kernel_rfl) (by kernel_rfl) (by kernel_rfl) (fun _ _ _ h => h) (Or.inl ⟨by rfl, ?y4⟩) (by assumption) ?_
  case y4 => intro w hSw; (try dsimp only at hSw); go_simp; all_goals first | with_reducible rfl | rw [if_neg (by omega)]
  try simp only [Act.put, List.getElem_toArray, List.getElem_cons_succ, List.getElem_cons_zero, List.getElem?_toArray, List.getElem?_cons_succ, List.getElem?_cons_zero, List.setIfInBounds_toArray, List.set_cons_zero, List.set_cons_succ]
  refine wpAnyH_take (i := 8) (v := ?v5) rfl (by kernel_rfl) (by kernel_rfl) (by kernel_rfl) (fun _ _ _ h => h) (Or.inl ⟨by rfl, ?y5⟩) (by assumption) ?_
  case y5 => intro w hSw; (try dsimp only at hSw); go_simp; all_goals first | with_reducible rfl | rw [if_neg (by omega)]
  try simp only [Act.put, List.getElem_toArray, List.getElem_cons_succ, List.getElem_cons_zero, List.getElem?_toArray, List.getElem?_cons_succ, List.getElem?_cons_zero, List.setIfInBounds_toArray, List.set_cons_zero, List.set_cons_succ]
  refine wpAnyH_ready (rs := [0, 9]) (by kernel_rfl) (by simp) ?_
  refine AllReadyH.cons rfl (fun K hK => ?_) ?_
  · skip
    go_simp
    refine hK.out _ _ ?_ (fun hHeld2 => ?_)
    · exact held5_keep hHeld (by repeat' first | exact Below.refl _ _ | refine below_drewN ?_ _ | refine Below.drew ?_ | refine Below.alloc ?_ (by first | exact Nat.le_refl _ | (simp <;> omega)) _)
    clear hK K hHeld
    try simp only [Act.put, List.getElem_toArray, List.getElem_cons_succ, List.getElem_cons_zero, List.getElem?_toArray, List.getElem?_cons_succ, List.getElem?_cons_zero, List.setIfInBounds_toArray, List.set_cons_zero, List.set_cons_succ]
    refine wpAnyH_mono (S' := fun w' => w'.cell? ⟨w.heap.size, 0, none⟩ = some (.int .i64 18) ∧ w'.cell? ⟨w.heap.size, 1, none⟩ = some (.int .i64 8) ∧ w'.cell? ⟨w.heap.size, 2, none⟩ = some (.int .i64 n) ∧ w'.cell? ⟨w.heap.size, 3, none⟩ = some (.int .i64 m) ∧ w'.cell? ⟨w.heap.size, 4, none⟩ = some (.int .i64 imm) ∧ w.heap.size < w'.heap.size ∧ Below w.heap.size w w' ∧ w'.cell? ⟨Y.heap.size, 8, none⟩ = some (.string ⟨#[98, 104, 105]⟩) ∧ Y.heap.size < w'.heap.size) (fun _ h => ⟨h.1, h.2.1, h.2.2.1, h.2.2.2.1, h.2.2.2.2.1, h.2.2.2.2.2.1, h.2.2.2.2.2.2.1⟩) ?_
    refine wpAnyH_any (⟨hHeld2.1, hHeld2.2.1, hHeld2.2.2.1, hHeld2.2.2.2.1, hHeld2.2.2.2.2.1, hHeld2.2.2.2.2.2.1, hHeld2.2.2.2.2.2.2, by go_simp, by simp⟩) (fun Z hHeld => ?_)
    clear hHeld2
    refine wpAnyH_take (i := 3) (v := ?v6) rfl (by kernel_rfl) (by kernel_rfl) (by kernel_rfl) (fun _ _ _ h => h) (Or.inl ⟨by rfl, ?y6⟩) (by assumption) ?_
    case y6 => intro w hSw; (try dsimp only at hSw); go_simp; all_goals first | with_reducible rfl | rw [if_neg (by omega)]
    try simp only [Act.put, List.getElem_toArray, List.getElem_cons_succ, List.getElem_cons_zero, List.getElem?_toArray, List.getElem?_cons_succ, List.getElem?_cons_zero, List.setIfInBounds_toArray, List.set_cons_zero, List.set_cons_succ]
    refine wpAnyH_take (i := 4) (v := ?v7) rfl (by kernel_rfl) (by kernel_rfl) (by kernel_rfl) (fun _ _ _ h => h) (Or.inl ⟨by rfl, ?y7⟩) (by assumption) ?_
    case y7 => intro w hSw; (try dsimp only at hSw); go_simp; all_goals first | with_reducible rfl | rw [if_neg (by omega)]
    try simp only [Act.put, List.getElem_toArray, List.getElem_cons_succ, List.getElem_cons_zero, List.getElem?_toArray, List.getElem?_cons_succ, List.getElem?_cons_zero, List.setIfInBounds_toArray, List.set_cons_zero, List.set_cons_succ]
    refine wpAnyH_take (i := 5) (v := ?v8) rfl (by kernel_rfl) (by kernel_rfl) (by kernel_rfl) (fun _ _ _ h => h) (Or.inl ⟨by rfl, ?y8⟩) (by assumption) ?_
    case y8 => intro w hSw; (try dsimp only at hSw); go_simp; all_goals first | with_reducible rfl | rw [if_neg (by omega)]
    try simp only [Act.put, List.getElem_toArray, List.getElem_cons_succ, List.getElem_cons_zero, List.getElem?_toArray, List.getElem?_cons_succ, List.getElem?_cons_zero, List.setIfInBounds_toArray, List.set_cons_zero, List.set_cons_succ]
    refine wpAnyH_ready (rs := [9]) (by kernel_rfl) (by simp) ?_
    refine AllReadyH.cons rfl (fun K hK => ?_) AllReadyH.nil
    go_simp
    (go_at_call 16; with_reducible refine (hri _).mono ?_; rintro e w2 ⟨rfl, m2, rfl⟩)
    go_wp2_with fail
    refine hK.out _ _ ?_ (fun hHeld2 => ?_)
    · exact held5_litk hHeld (by repeat' first | exact Below.refl _ _ | refine below_drewN ?_ _ | refine Below.drew ?_ | refine Below.alloc ?_ (by first | exact Nat.le_refl _ | (simp <;> omega)) _)
    clear hK K hHeld
    try simp only [Act.put, List.getElem_toArray, List.getElem_cons_succ, List.getElem_cons_zero, List.getElem?_toArray, List.getElem?_cons_succ, List.getElem?_cons_zero, List.setIfInBounds_toArray, List.set_cons_zero, List.set_cons_succ]
    refine wpAnyH_any hHeld2 (fun Z hHeld => ?_)
    clear hHeld2
    refine wpAnyH_take (i := 10) (v := ?v9) rfl (by kernel_rfl) (by kernel_rfl) (by kernel_rfl) (fun _ _ _ h => h) (Or.inl ⟨by rfl, ?y9⟩) (by assumption) ?_
    case y9 => intro w hSw; (try dsimp only at hSw); go_simp; all_goals first | with_reducible rfl | rw [if_neg (by omega)]
    try simp only [Act.put, List.getElem_toArray, List.getElem_cons_succ, List.getElem_cons_zero, List.getElem?_toArray, List.getElem?_cons_succ, List.getElem?_cons_zero, List.setIfInBounds_toArray, List.set_cons_zero, List.set_cons_succ]
    refine wpAnyH_take (i := 11) (v := ?v10) rfl (by kernel_rfl) (by kernel_rfl) (by kernel_rfl) (fun _ _ _ h => h) (Or.inl ⟨by rfl, ?y10⟩) (by assumption) ?_
    case y10 => intro w hSw; (try dsimp only at hSw); go_simp; all_goals first | with_reducible rfl | rw [if_neg (by omega)]
    try simp only [Act.put, List.getElem_toArray, List.getElem_cons_succ, List.getElem_cons_zero, List.getElem?_toArray, List.getElem?_cons_succ, List.getElem?_cons_zero, List.setIfInBounds_toArray, List.set_cons_zero, List.set_cons_succ]
    refine wpAnyH_take (i := 12) (v := ?v11) rfl (by kernel_rfl) (by kernel_rfl) (by kernel_rfl) (fun _ _ _ h => h) (Or.inl ⟨by rfl, ?y11⟩) (by assumption) ?_
    case y11 => intro w hSw; (try dsimp only at hSw); go_simp; all_goals first | with_reducible rfl | rw [if_neg (by omega)]
    try simp only [Act.put, List.getElem_toArray, List.getElem_cons_succ, List.getElem_cons_zero, List.getElem?_toArray, List.getElem?_cons_succ, List.getElem?_cons_zero, List.setIfInBounds_toArray, List.set_cons_zero, List.set_cons_succ]
    refine wpAnyH_done (by kernel_rfl) ?_ _
    (go_wp2_with fail; go_ret2; refine ⟨congrArg (fun s => Ending.returned (.tuple #[.string s, .bool true])) ?_, hHeld.2.2.2.2.2.2.1⟩; rw [Hri.out]; apply ByteArray.ext; simp [showB, shapesL, wordB, wordsL, alusL, condsL, piece])
  refine AllReadyH.cons rfl (fun K hK => ?_) AllReadyH.nil
  go_simp
  (go_at_call 16; with_reducible refine (hri _).mono ?_; rintro e w2 ⟨rfl, m2, rfl⟩)
  go_wp2_with fail
  refine hK.out _ _ ?_ (fun hHeld2 => ?_)
  · exact held5_keep hHeld (by repeat' first | exact Below.refl _ _ | refine below_drewN ?_ _ | refine Below.drew ?_ | refine Below.alloc ?_ (by first | exact Nat.le_refl _ | (simp <;> omega)) _)
  clear hK K hHeld
  try simp only [Act.put, List.getElem_toArray, List.getElem_cons_succ, List.getElem_cons_zero, List.getElem?_toArray, List.getElem?_cons_succ, List.getElem?_cons_zero, List.setIfInBounds_toArray, List.set_cons_zero, List.set_cons_succ]
  refine wpAnyH_any hHeld2 (fun Y hHeld => ?_)
  clear hHeld2
  refine wpAnyH_ready (rs := [0]) (by kernel_rfl) (by simp) ?_
  refine AllReadyH.cons rfl (fun K hK => ?_) AllReadyH.nil
  go_simp
  refine hK.out _ _ ?_ (fun hHeld2 => ?_)
  · exact held5_keep hHeld (by repeat' first | exact Below.refl _ _ | refine below_drewN ?_ _ | refine Below.drew ?_ | refine Below.alloc ?_ (by first | exact Nat.le_refl _ | (simp <;> omega)) _)
  clear hK K hHeld
  try simp only [Act.put, List.getElem_toArray, List.getElem_cons_succ, List.getElem_cons_zero, List.getElem?_toArray, List.getElem?_cons_succ, List.getElem?_cons_zero, List.setIfInBounds_toArray, List.set_cons_zero, List.set_cons_succ]
  refine wpAnyH_mono (S' := fun w' => w'.cell? ⟨w.heap.size, 0, none⟩ = some (.int .i64 18) ∧ w'.cell? ⟨w.heap.size, 1, none⟩ = some (.int .i64 8) ∧ w'.cell? ⟨w.heap.size, 2, none⟩ = some (.int .i64 n) ∧ w'.cell? ⟨w.heap.size, 3, none⟩ = some (.int .i64 m) ∧ w'.cell? ⟨w.heap.size, 4, none⟩ = some (.int .i64 imm) ∧ w.heap.size < w'.heap.size ∧ Below w.heap.size w w' ∧ w'.cell? ⟨Y.heap.size, 8, none⟩ = some (.string ⟨#[98, 104, 105]⟩) ∧ Y.heap.size < w'.heap.size) (fun _ h => ⟨h.1, h.2.1, h.2.2.1, h.2.2.2.1, h.2.2.2.2.1, h.2.2.2.2.2.1, h.2.2.2.2.2.2.1⟩) ?_
  refine wpAnyH_any (⟨hHeld2.1, hHeld2.2.1, hHeld2.2.2.1, hHeld2.2.2.2.1, hHeld2.2.2.2.2.1, hHeld2.2.2.2.2.2.1, hHeld2.2.2.2.2.2.2, by go_simp, by simp⟩) (fun Z hHeld => ?_)
  clear hHeld2
  refine wpAnyH_take (i := 3) (v := ?v12) rfl (by kernel_rfl) (by kernel_rfl) (by kernel_rfl) (fun _ _ _ h => h) (Or.inl ⟨by rfl, ?y12⟩) (by assumption) ?_
  case y12 => intro w hSw; (try dsimp only at hSw); go_simp; all_goals first | with_reducible rfl | rw [if_neg (by omega)]
  try simp only [Act.put, List.getElem_toArray, List.getElem_cons_succ, List.getElem_cons_zero, List.getElem?_toArray, List.getElem?_cons_succ, List.getElem?_cons_zero, List.setIfInBounds_toArray, List.set_cons_zero, List.set_cons_succ]
  refine wpAnyH_take (i := 4) (v := ?v13) rfl (by kernel_rfl) (by kernel_rfl) (by kernel_rfl) (fun _ _ _ h => h) (Or.inl ⟨by rfl, ?y13⟩) (by assumption) ?_
  case y13 => intro w hSw; (try dsimp only at hSw); go_simp; all_goals first | with_reducible rfl | rw [if_neg (by omega)]
  try simp only [Act.put, List.getElem_toArray, List.getElem_cons_succ, List.getElem_cons_zero, List.getElem?_toArray, List.getElem?_cons_succ, List.getElem?_cons_zero, List.setIfInBounds_toArray, List.set_cons_zero, List.set_cons_succ]
  refine wpAnyH_take (i := 5) (v := ?v14) rfl (by kernel_rfl) (by kernel_rfl) (by kernel_rfl) (fun _ _ _ h => h) (Or.inl ⟨by rfl, ?y14⟩) (by assumption) ?_
  case y14 => intro w hSw; (try dsimp only at hSw); go_simp; all_goals first | with_reducible rfl | rw [if_neg (by omega)]
  try simp only [Act.put, List.getElem_toArray, List.getElem_cons_succ, List.getElem_cons_zero, List.getElem?_toArray, List.getElem?_cons_succ, List.getElem?_cons_zero, List.setIfInBounds_toArray, List.set_cons_zero, List.set_cons_succ]
  refine wpAnyH_take (i := 10) (v := ?v15) rfl (by kernel_rfl) (by kernel_rfl) (by kernel_rfl) (fun _ _ _ h => h) (Or.inl ⟨by rfl, ?y15⟩) (by assumption) ?_
  case y15 => intro w hSw; (try dsimp only at hSw); go_simp; all_goals first | with_reducible rfl | rw [if_neg (by omega)]
  try simp only [Act.put, List.getElem_toArray, List.getElem_cons_succ, List.getElem_cons_zero, List.getElem?_toArray, List.getElem?_cons_succ, List.getElem?_cons_zero, List.setIfInBounds_toArray, List.set_cons_zero, List.set_cons_succ]
  refine wpAnyH_take (i := 11) (v := ?v16) rfl (by kernel_rfl) (by kernel_rfl) (by kernel_rfl) (fun _ _ _ h => h) (Or.inl ⟨by rfl, ?y16⟩) (by assumption) ?_
  case y16 => intro w hSw; (try dsimp only at hSw); go_simp; all_goals first | with_reducible rfl | rw [if_neg (by omega)]
  try simp only [Act.put, List.getElem_toArray, List.getElem_cons_succ, List.getElem_cons_zero, List.getElem?_toArray, List.getElem?_cons_succ, List.getElem?_cons_zero, List.setIfInBounds_toArray, List.set_cons_zero, List.set_cons_succ]
  refine wpAnyH_take (i := 12) (v := ?v17) rfl (by kernel_rfl) (by kernel_rfl) (by kernel_rfl) (fun _ _ _ h => h) (Or.inl ⟨by rfl, ?y17⟩) (by assumption) ?_
  case y17 => intro w hSw; (try dsimp only at hSw); go_simp; all_goals first | with_reducible rfl | rw [if_neg (by omega)]
  try simp only [Act.put, List.getElem_toArray, List.getElem_cons_succ, List.getElem_cons_zero, List.getElem?_toArray, List.getElem?_cons_succ, List.getElem?_cons_zero, List.setIfInBounds_toArray, List.set_cons_zero, List.set_cons_succ]
  refine wpAnyH_done (by kernel_rfl) ?_ _
  (go_wp2_with fail; go_ret2; refine ⟨congrArg (fun s => Ending.returned (.tuple #[.string s, .bool true])) ?_, hHeld.2.2.2.2.2.2.1⟩; rw [Hri.out]; apply ByteArray.ext; simp [showB, shapesL, wordB, wordsL, alusL, condsL, piece])
set_option maxRecDepth 100000 in
set_option maxHeartbeats 8000000 in
theorem rshow_18_9 (d n m imm : Int) (w : World) (hlit : d = 9) (hc : canB 18 d n m imm = true) (hr : rcanB 18 d n m imm = true) : Calls Tryd.prog 7 #[.agg #[.int .i64 18, .int .i64 d, .int .i64 n, .int .i64 m, .int .i64 imm]] w fun e w' => e = .returned (.tuple #[.string ⟨(showB 18 d n m imm).toArray⟩, .bool true]) ∧ Below w.heap.size w w' := by
  subst hlit
  have hb := can_bounds 18 9 n m imm (by decide) hc
  have hcan : ∀ w, Calls Tryd.prog 14 #[.agg #[.int .i64 18, .int .i64 9, .int .i64 n, .int .i64 m, .int .i64 imm]] w fun e w' => e = .returned (.bool true) ∧ Below w.heap.size w w' := fun w => by have := rcan_any 18 (by decide) 9 n m imm w; rw [hr] at this; exact this
  clear hr hc
  obtain ⟨rd, hrd, hsrd, Hrd⟩ := reg_str 9 (by omega) (by omega)
  have hwr : IntKind.i64.wrap (2 * imm) = 2 * imm := by rw [IntKind.wrap_i64]; omega
  obtain ⟨ri, hri, hsri, Hri⟩ := imm_str (2 * imm) (by omega) (by omega)
  go_enter Tryd.func7, Tryd.ntmps7
  go_wp2_with fail
  refine (hcan _).mono ?_
  rintro e w1 ⟨rfl, hb1⟩
  have hbx1 := heap_keep (heap_alloc_new w _) hb1
  have hB1 : Below w.heap.size w w1 := (Below.alloc (Below.refl _ w) (Nat.le_refl _) _).trans (hb1.mono (by simp))
  have hc1 := fun j => Lib.cell_of_heap hbx1 j
  go_wp2_with fail
  refine (hrd _).mono ?_
  rintro e w2 ⟨rfl, m1, rfl⟩
  go_wp2_with fail
  have hS0 : (fun w' => w'.cell? ⟨w.heap.size, 0, none⟩ = some (.int .i64 18) ∧ w'.cell? ⟨w.heap.size, 1, none⟩ = some (.int .i64 9) ∧ w'.cell? ⟨w.heap.size, 2, none⟩ = some (.int .i64 n) ∧ w'.cell? ⟨w.heap.size, 3, none⟩ = some (.int .i64 m) ∧ w'.cell? ⟨w.heap.size, 4, none⟩ = some (.int .i64 imm) ∧ w.heap.size < w'.heap.size ∧ Below w.heap.size w w') (w1.drewN m1) := ⟨hc1 0, hc1 1, hc1 2, hc1 3, hc1 4, (Array.getElem?_eq_some_iff.1 hbx1).1, below_drewN hB1 m1⟩
  generalize w1.drewN m1 = W at *


  have HS := Lib.hid hS0

  obtain ⟨k0, k1, k2, k3, k4, hlt, -⟩ := hS0
  refine wp_region_held_drew (S := fun w' => w'.cell? ⟨w.heap.size, 0, none⟩ = some (.int .i64 18) ∧ w'.cell? ⟨w.heap.size, 1, none⟩ = some (.int .i64 9) ∧ w'.cell? ⟨w.heap.size, 2, none⟩ = some (.int .i64 n) ∧ w'.cell? ⟨w.heap.size, 3, none⟩ = some (.int .i64 m) ∧ w'.cell? ⟨w.heap.size, 4, none⟩ = some (.int .i64 imm) ∧ w.heap.size < w'.heap.size ∧ Below w.heap.size w w') (by kernel_rfl) (held5_keep HS.out ((Below.refl _ _).drew)) (fun hHeld2 => ?_)
  refine wpAnyH_any hHeld2 (fun Y hHeld => ?_)
  clear hHeld2
  refine wpAnyH_take (i := 1) (v := ?v1) rfl (by kernel_rfl) (by kernel_rfl) (by kernel_rfl) (fun _ _ _ h => h) (Or.inl ⟨by rfl, ?y1⟩) (by assumption) ?_
  case y1 => intro w hSw; (try dsimp only at hSw); go_simp; all_goals first | with_reducible rfl | rw [if_neg (by omega)]
  try simp only [Act.put, List.getElem_toArray, List.getElem_cons_succ, List.getElem_cons_zero, List.getElem?_toArray, List.getElem?_cons_succ, List.getElem?_cons_zero, List.setIfInBounds_toArray, List.set_cons_zero, List.set_cons_succ]
  refine wpAnyH_take (i := 2) (v := ?v2) rfl (by kernel_rfl) (by kernel_rfl) (by kernel_rfl) (fun _ _ _ h => h) (Or.inl ⟨by rfl, ?y2⟩) (by assumption) ?_
  case y2 => intro w hSw; (try dsimp only at hSw); go_simp; all_goals first | with_reducible rfl | rw [if_neg (by omega)]
  try simp only [Act.put, List.getElem_toArray, List.getElem_cons_succ, List.getElem_cons_zero, List.getElem?_toArray, List.getElem?_cons_succ, List.getElem?_cons_zero, List.setIfInBounds_toArray, List.set_cons_zero, List.set_cons_succ]
  refine wpAnyH_take (i := 6) (v := ?v3) rfl (by kernel_rfl) (by kernel_rfl) (by kernel_rfl) (fun _ _ _ h => h) (Or.inl ⟨by rfl, ?y3⟩) (by assumption) ?_
  case y3 => intro w hSw; (try dsimp only at hSw); go_simp; all_goals first | with_reducible rfl | rw [if_neg (by omega)]
  try simp only [Act.put, List.getElem_toArray, List.getElem_cons_succ, List.getElem_cons_zero, List.getElem?_toArray, List.getElem?_cons_succ, List.getElem?_cons_zero, List.setIfInBounds_toArray, List.set_cons_zero, List.set_cons_succ]
  refine wpAnyH_take (i := 7) (v := ?v4) rfl (by kernel_rfl) (by kernel_rfl) (by kernel_rfl) (fun _ _ _ h => h) (Or.inl ⟨by rfl, ?y4⟩) (by assumption) ?_
  case y4 => intro w hSw; (try dsimp only at hSw); go_simp; all_goals first | with_reducible rfl | rw [if_neg (by omega)]
  try simp only [Act.put, List.getElem_toArray, List.getElem_cons_succ, List.getElem_cons_zero, List.getElem?_toArray, List.getElem?_cons_succ, List.getElem?_cons_zero, List.setIfInBounds_toArray, List.set_cons_zero, List.set_cons_succ]
  refine wpAnyH_take (i := 8) (v := ?v5) rfl (by kernel_rfl) (by kernel_rfl) (by kernel_rfl) (fun _ _ _ h => h) (Or.inl ⟨by rfl, ?y5⟩) (by assumption) ?_
  case y5 => intro w hSw; (try dsimp only at hSw); go_simp; all_goals first | with_reducible rfl | rw [if_neg (by omega)]
  try simp only [Act.put, List.getElem_toArray, List.getElem_cons_succ, List.getElem_cons_zero, List.getElem?_toArray, List.getElem?_cons_succ, List.getElem?_cons_zero, List.setIfInBounds_toArray, List.set_cons_zero, List.set_cons_succ]
  refine wpAnyH_ready (rs := [0, 9]) (by kernel_rfl) (by simp) ?_
  refine AllReadyH.cons rfl (fun K hK => ?_) ?_
  · skip
    go_simp
    refine hK.out _ _ ?_ (fun hHeld2 => ?_)
    · exact held5_keep hHeld (by repeat' first | exact Below.refl _ _ | refine below_drewN ?_ _ | refine Below.drew ?_ | refine Below.alloc ?_ (by first | exact Nat.le_refl _ | (simp <;> omega)) _)
    clear hK K hHeld
    try simp only [Act.put, List.getElem_toArray, List.getElem_cons_succ, List.getElem_cons_zero, List.getElem?_toArray, List.getElem?_cons_succ, List.getElem?_cons_zero, List.setIfInBounds_toArray, List.set_cons_zero, List.set_cons_succ]
    refine wpAnyH_mono (S' := fun w' => w'.cell? ⟨w.heap.size, 0, none⟩ = some (.int .i64 18) ∧ w'.cell? ⟨w.heap.size, 1, none⟩ = some (.int .i64 9) ∧ w'.cell? ⟨w.heap.size, 2, none⟩ = some (.int .i64 n) ∧ w'.cell? ⟨w.heap.size, 3, none⟩ = some (.int .i64 m) ∧ w'.cell? ⟨w.heap.size, 4, none⟩ = some (.int .i64 imm) ∧ w.heap.size < w'.heap.size ∧ Below w.heap.size w w' ∧ w'.cell? ⟨Y.heap.size, 9, none⟩ = some (.string ⟨#[98, 108, 115]⟩) ∧ Y.heap.size < w'.heap.size) (fun _ h => ⟨h.1, h.2.1, h.2.2.1, h.2.2.2.1, h.2.2.2.2.1, h.2.2.2.2.2.1, h.2.2.2.2.2.2.1⟩) ?_
    refine wpAnyH_any (⟨hHeld2.1, hHeld2.2.1, hHeld2.2.2.1, hHeld2.2.2.2.1, hHeld2.2.2.2.2.1, hHeld2.2.2.2.2.2.1, hHeld2.2.2.2.2.2.2, by go_simp, by simp⟩) (fun Z hHeld => ?_)
    clear hHeld2
    refine wpAnyH_take (i := 3) (v := ?v6) rfl (by kernel_rfl) (by kernel_rfl) (by kernel_rfl) (fun _ _ _ h => h) (Or.inl ⟨by rfl, ?y6⟩) (by assumption) ?_
    case y6 => intro w hSw; (try dsimp only at hSw); go_simp; all_goals first | with_reducible rfl | rw [if_neg (by omega)]
    try simp only [Act.put, List.getElem_toArray, List.getElem_cons_succ, List.getElem_cons_zero, List.getElem?_toArray, List.getElem?_cons_succ, List.getElem?_cons_zero, List.setIfInBounds_toArray, List.set_cons_zero, List.set_cons_succ]
    refine wpAnyH_take (i := 4) (v := ?v7) rfl (by kernel_rfl) (by kernel_rfl) (by kernel_rfl) (fun _ _ _ h => h) (Or.inl ⟨by rfl, ?y7⟩) (by assumption) ?_
    case y7 => intro w hSw; (try dsimp only at hSw); go_simp; all_goals first | with_reducible rfl | rw [if_neg (by omega)]
    try simp only [Act.put, List.getElem_toArray, List.getElem_cons_succ, List.getElem_cons_zero, List.getElem?_toArray, List.getElem?_cons_succ, List.getElem?_cons_zero, List.setIfInBounds_toArray, List.set_cons_zero, List.set_cons_succ]
    refine wpAnyH_take (i := 5) (v := ?v8) rfl (by kernel_rfl) (by kernel_rfl) (by kernel_rfl) (fun _ _ _ h => h) (Or.inl ⟨by rfl, ?y8⟩) (by assumption) ?_
    case y8 => intro w hSw; (try dsimp only at hSw); go_simp; all_goals first | with_reducible rfl | rw [if_neg (by omega)]
    try simp only [Act.put, List.getElem_toArray, List.getElem_cons_succ, List.getElem_cons_zero, List.getElem?_toArray, List.getElem?_cons_succ, List.getElem?_cons_zero, List.setIfInBounds_toArray, List.set_cons_zero, List.set_cons_succ]
    refine wpAnyH_ready (rs := [9]) (by kernel_rfl) (by simp) ?_
    refine AllReadyH.cons rfl (fun K hK => ?_) AllReadyH.nil
    go_simp
    (go_at_call 16; with_reducible refine (hri _).mono ?_; rintro e w2 ⟨rfl, m2, rfl⟩)
    go_wp2_with fail
    refine hK.out _ _ ?_ (fun hHeld2 => ?_)
    · exact held5_litk hHeld (by repeat' first | exact Below.refl _ _ | refine below_drewN ?_ _ | refine Below.drew ?_ | refine Below.alloc ?_ (by first | exact Nat.le_refl _ | (simp <;> omega)) _)
    clear hK K hHeld
    try simp only [Act.put, List.getElem_toArray, List.getElem_cons_succ, List.getElem_cons_zero, List.getElem?_toArray, List.getElem?_cons_succ, List.getElem?_cons_zero, List.setIfInBounds_toArray, List.set_cons_zero, List.set_cons_succ]
    refine wpAnyH_any hHeld2 (fun Z hHeld => ?_)
    clear hHeld2
    refine wpAnyH_take (i := 10) (v := ?v9) rfl (by kernel_rfl) (by kernel_rfl) (by kernel_rfl) (fun _ _ _ h => h) (Or.inl ⟨by rfl, ?y9⟩) (by assumption) ?_
    case y9 => intro w hSw; (try dsimp only at hSw); go_simp; all_goals first | with_reducible rfl | rw [if_neg (by omega)]
    try simp only [Act.put, List.getElem_toArray, List.getElem_cons_succ, List.getElem_cons_zero, List.getElem?_toArray, List.getElem?_cons_succ, List.getElem?_cons_zero, List.setIfInBounds_toArray, List.set_cons_zero, List.set_cons_succ]
    refine wpAnyH_take (i := 11) (v := ?v10) rfl (by kernel_rfl) (by kernel_rfl) (by kernel_rfl) (fun _ _ _ h => h) (Or.inl ⟨by rfl, ?y10⟩) (by assumption) ?_
    case y10 => intro w hSw; (try dsimp only at hSw); go_simp; all_goals first | with_reducible rfl | rw [if_neg (by omega)]
    try simp only [Act.put, List.getElem_toArray, List.getElem_cons_succ, List.getElem_cons_zero, List.getElem?_toArray, List.getElem?_cons_succ, List.getElem?_cons_zero, List.setIfInBounds_toArray, List.set_cons_zero, List.set_cons_succ]
    refine wpAnyH_take (i := 12) (v := ?v11) rfl (by kernel_rfl) (by kernel_rfl) (by kernel_rfl) (fun _ _ _ h => h) (Or.inl ⟨by rfl, ?y11⟩) (by assumption) ?_
    case y11 => intro w hSw; (try dsimp only at hSw); go_simp; all_goals first | with_reducible rfl | rw [if_neg (by omega)]
    try simp only [Act.put, List.getElem_toArray, List.getElem_cons_succ, List.getElem_cons_zero, List.getElem?_toArray, List.getElem?_cons_succ, List.getElem?_cons_zero, List.setIfInBounds_toArray, List.set_cons_zero, List.set_cons_succ]
    refine wpAnyH_done (by kernel_rfl) ?_ _
    (go_wp2_with fail; go_ret2; refine ⟨congrArg (fun s => Ending.returned (.tuple #[.string s, .bool true])) ?_, hHeld.2.2.2.2.2.2.1⟩; rw [Hri.out]; apply ByteArray.ext; simp [showB, shapesL, wordB, wordsL, alusL, condsL, piece])
  refine AllReadyH.cons rfl (fun K hK => ?_) AllReadyH.nil
  go_simp
  (go_at_call 16; with_reducible refine (hri _).mono ?_; rintro e w2 ⟨rfl, m2, rfl⟩)
  go_wp2_with fail
  refine hK.out _ _ ?_ (fun hHeld2 => ?_)
  · exact held5_keep hHeld (by repeat' first | exact Below.refl _ _ | refine below_drewN ?_ _ | refine Below.drew ?_ | refine Below.alloc ?_ (by first | exact Nat.le_refl _ | (simp <;> omega)) _)
  clear hK K hHeld
  try simp only [Act.put, List.getElem_toArray, List.getElem_cons_succ, List.getElem_cons_zero, List.getElem?_toArray, List.getElem?_cons_succ, List.getElem?_cons_zero, List.setIfInBounds_toArray, List.set_cons_zero, List.set_cons_succ]
  refine wpAnyH_any hHeld2 (fun Y hHeld => ?_)
  clear hHeld2
  refine wpAnyH_ready (rs := [0]) (by kernel_rfl) (by simp) ?_
  refine AllReadyH.cons rfl (fun K hK => ?_) AllReadyH.nil
  go_simp
  refine hK.out _ _ ?_ (fun hHeld2 => ?_)
  · exact held5_keep hHeld (by repeat' first | exact Below.refl _ _ | refine below_drewN ?_ _ | refine Below.drew ?_ | refine Below.alloc ?_ (by first | exact Nat.le_refl _ | (simp <;> omega)) _)
  clear hK K hHeld
  try simp only [Act.put, List.getElem_toArray, List.getElem_cons_succ, List.getElem_cons_zero, List.getElem?_toArray, List.getElem?_cons_succ, List.getElem?_cons_zero, List.setIfInBounds_toArray, List.set_cons_zero, List.set_cons_succ]
  refine wpAnyH_mono (S' := fun w' => w'.cell? ⟨w.heap.size, 0, none⟩ = some (.int .i64 18) ∧ w'.cell? ⟨w.heap.size, 1, none⟩ = some (.int .i64 9) ∧ w'.cell? ⟨w.heap.size, 2, none⟩ = some (.int .i64 n) ∧ w'.cell? ⟨w.heap.size, 3, none⟩ = some (.int .i64 m) ∧ w'.cell? ⟨w.heap.size, 4, none⟩ = some (.int .i64 imm) ∧ w.heap.size < w'.heap.size ∧ Below w.heap.size w w' ∧ w'.cell? ⟨Y.heap.size, 9, none⟩ = some (.string ⟨#[98, 108, 115]⟩) ∧ Y.heap.size < w'.heap.size) (fun _ h => ⟨h.1, h.2.1, h.2.2.1, h.2.2.2.1, h.2.2.2.2.1, h.2.2.2.2.2.1, h.2.2.2.2.2.2.1⟩) ?_
  refine wpAnyH_any (⟨hHeld2.1, hHeld2.2.1, hHeld2.2.2.1, hHeld2.2.2.2.1, hHeld2.2.2.2.2.1, hHeld2.2.2.2.2.2.1, hHeld2.2.2.2.2.2.2, by go_simp, by simp⟩) (fun Z hHeld => ?_)
  clear hHeld2
  refine wpAnyH_take (i := 3) (v := ?v12) rfl (by kernel_rfl) (by kernel_rfl) (by kernel_rfl) (fun _ _ _ h => h) (Or.inl ⟨by rfl, ?y12⟩) (by assumption) ?_
  case y12 => intro w hSw; (try dsimp only at hSw); go_simp; all_goals first | with_reducible rfl | rw [if_neg (by omega)]
  try simp only [Act.put, List.getElem_toArray, List.getElem_cons_succ, List.getElem_cons_zero, List.getElem?_toArray, List.getElem?_cons_succ, List.getElem?_cons_zero, List.setIfInBounds_toArray, List.set_cons_zero, List.set_cons_succ]
  refine wpAnyH_take (i := 4) (v := ?v13) rfl (by kernel_rfl) (by kernel_rfl) (by kernel_rfl) (fun _ _ _ h => h) (Or.inl ⟨by rfl, ?y13⟩) (by assumption) ?_
  case y13 => intro w hSw; (try dsimp only at hSw); go_simp; all_goals first | with_reducible rfl | rw [if_neg (by omega)]
  try simp only [Act.put, List.getElem_toArray, List.getElem_cons_succ, List.getElem_cons_zero, List.getElem?_toArray, List.getElem?_cons_succ, List.getElem?_cons_zero, List.setIfInBounds_toArray, List.set_cons_zero, List.set_cons_succ]
  refine wpAnyH_take (i := 5) (v := ?v14) rfl (by kernel_rfl) (by kernel_rfl) (by kernel_rfl) (fun _ _ _ h => h) (Or.inl ⟨by rfl, ?y14⟩) (by assumption) ?_
  case y14 => intro w hSw; (try dsimp only at hSw); go_simp; all_goals first | with_reducible rfl | rw [if_neg (by omega)]
  try simp only [Act.put, List.getElem_toArray, List.getElem_cons_succ, List.getElem_cons_zero, List.getElem?_toArray, List.getElem?_cons_succ, List.getElem?_cons_zero, List.setIfInBounds_toArray, List.set_cons_zero, List.set_cons_succ]
  refine wpAnyH_take (i := 10) (v := ?v15) rfl (by kernel_rfl) (by kernel_rfl) (by kernel_rfl) (fun _ _ _ h => h) (Or.inl ⟨by rfl, ?y15⟩) (by assumption) ?_
  case y15 => intro w hSw; (try dsimp only at hSw); go_simp; all_goals first | with_reducible rfl | rw [if_neg (by omega)]
  try simp only [Act.put, List.getElem_toArray, List.getElem_cons_succ, List.getElem_cons_zero, List.getElem?_toArray, List.getElem?_cons_succ, List.getElem?_cons_zero, List.setIfInBounds_toArray, List.set_cons_zero, List.set_cons_succ]
  refine wpAnyH_take (i := 11) (v := ?v16) rfl (by kernel_rfl) (by kernel_rfl) (by kernel_rfl) (fun _ _ _ h => h) (Or.inl ⟨by rfl, ?y16⟩) (by assumption) ?_
  case y16 => intro w hSw; (try dsimp only at hSw); go_simp; all_goals first | with_reducible rfl | rw [if_neg (by omega)]
  try simp only [Act.put, List.getElem_toArray, List.getElem_cons_succ, List.getElem_cons_zero, List.getElem?_toArray, List.getElem?_cons_succ, List.getElem?_cons_zero, List.setIfInBounds_toArray, List.set_cons_zero, List.set_cons_succ]
  refine wpAnyH_take (i := 12) (v := ?v17) rfl (by kernel_rfl) (by kernel_rfl) (by kernel_rfl) (fun _ _ _ h => h) (Or.inl ⟨by rfl, ?y17⟩) (by assumption) ?_
  case y17 => intro w hSw; (try dsimp only at hSw); go_simp; all_goals first | with_reducible rfl | rw [if_neg (by omega)]
  try simp only [Act.put, List.getElem_toArray, List.getElem_cons_succ, List.getElem_cons_zero, List.getElem?_toArray, List.getElem?_cons_succ, List.getElem?_cons_zero, List.setIfInBounds_toArray, List.set_cons_zero, List.set_cons_succ]
  refine wpAnyH_done (by kernel_rfl) ?_ _
  (go_wp2_with fail; go_ret2; refine ⟨congrArg (fun s => Ending.returned (.tuple #[.string s, .bool true])) ?_, hHeld.2.2.2.2.2.2.1⟩; rw [Hri.out]; apply ByteArray.ext; simp [showB, shapesL, wordB, wordsL, alusL, condsL, piece])
set_option maxRecDepth 100000 in
set_option maxHeartbeats 8000000 in
theorem rshow_18_10 (d n m imm : Int) (w : World) (hlit : d = 10) (hc : canB 18 d n m imm = true) (hr : rcanB 18 d n m imm = true) : Calls Tryd.prog 7 #[.agg #[.int .i64 18, .int .i64 d, .int .i64 n, .int .i64 m, .int .i64 imm]] w fun e w' => e = .returned (.tuple #[.string ⟨(showB 18 d n m imm).toArray⟩, .bool true]) ∧ Below w.heap.size w w' := by
  subst hlit
  have hb := can_bounds 18 10 n m imm (by decide) hc
  have hcan : ∀ w, Calls Tryd.prog 14 #[.agg #[.int .i64 18, .int .i64 10, .int .i64 n, .int .i64 m, .int .i64 imm]] w fun e w' => e = .returned (.bool true) ∧ Below w.heap.size w w' := fun w => by have := rcan_any 18 (by decide) 10 n m imm w; rw [hr] at this; exact this
  clear hr hc
  obtain ⟨rd, hrd, hsrd, Hrd⟩ := reg_str 10 (by omega) (by omega)
  have hwr : IntKind.i64.wrap (2 * imm) = 2 * imm := by rw [IntKind.wrap_i64]; omega
  obtain ⟨ri, hri, hsri, Hri⟩ := imm_str (2 * imm) (by omega) (by omega)
  go_enter Tryd.func7, Tryd.ntmps7
  go_wp2_with fail
  refine (hcan _).mono ?_
  rintro e w1 ⟨rfl, hb1⟩
  have hbx1 := heap_keep (heap_alloc_new w _) hb1
  have hB1 : Below w.heap.size w w1 := (Below.alloc (Below.refl _ w) (Nat.le_refl _) _).trans (hb1.mono (by simp))
  have hc1 := fun j => Lib.cell_of_heap hbx1 j
  go_wp2_with fail
  refine (hrd _).mono ?_
  rintro e w2 ⟨rfl, m1, rfl⟩
  go_wp2_with fail
  have hS0 : (fun w' => w'.cell? ⟨w.heap.size, 0, none⟩ = some (.int .i64 18) ∧ w'.cell? ⟨w.heap.size, 1, none⟩ = some (.int .i64 10) ∧ w'.cell? ⟨w.heap.size, 2, none⟩ = some (.int .i64 n) ∧ w'.cell? ⟨w.heap.size, 3, none⟩ = some (.int .i64 m) ∧ w'.cell? ⟨w.heap.size, 4, none⟩ = some (.int .i64 imm) ∧ w.heap.size < w'.heap.size ∧ Below w.heap.size w w') (w1.drewN m1) := ⟨hc1 0, hc1 1, hc1 2, hc1 3, hc1 4, (Array.getElem?_eq_some_iff.1 hbx1).1, below_drewN hB1 m1⟩
  generalize w1.drewN m1 = W at *


  have HS := Lib.hid hS0

  obtain ⟨k0, k1, k2, k3, k4, hlt, -⟩ := hS0
  refine wp_region_held_drew (S := fun w' => w'.cell? ⟨w.heap.size, 0, none⟩ = some (.int .i64 18) ∧ w'.cell? ⟨w.heap.size, 1, none⟩ = some (.int .i64 10) ∧ w'.cell? ⟨w.heap.size, 2, none⟩ = some (.int .i64 n) ∧ w'.cell? ⟨w.heap.size, 3, none⟩ = some (.int .i64 m) ∧ w'.cell? ⟨w.heap.size, 4, none⟩ = some (.int .i64 imm) ∧ w.heap.size < w'.heap.size ∧ Below w.heap.size w w') (by kernel_rfl) (held5_keep HS.out ((Below.refl _ _).drew)) (fun hHeld2 => ?_)
  refine wpAnyH_any hHeld2 (fun Y hHeld => ?_)
  clear hHeld2
  refine wpAnyH_take (i := 1) (v := ?v1) rfl (by kernel_rfl) (by kernel_rfl) (by kernel_rfl) (fun _ _ _ h => h) (Or.inl ⟨by rfl, ?y1⟩) (by assumption) ?_
  case y1 => intro w hSw; (try dsimp only at hSw); go_simp; all_goals first | with_reducible rfl | rw [if_neg (by omega)]
  try simp only [Act.put, List.getElem_toArray, List.getElem_cons_succ, List.getElem_cons_zero, List.getElem?_toArray, List.getElem?_cons_succ, List.getElem?_cons_zero, List.setIfInBounds_toArray, List.set_cons_zero, List.set_cons_succ]
  refine wpAnyH_take (i := 2) (v := ?v2) rfl (by kernel_rfl) (by kernel_rfl) (by kernel_rfl) (fun _ _ _ h => h) (Or.inl ⟨by rfl, ?y2⟩) (by assumption) ?_
  case y2 => intro w hSw; (try dsimp only at hSw); go_simp; all_goals first | with_reducible rfl | rw [if_neg (by omega)]
  try simp only [Act.put, List.getElem_toArray, List.getElem_cons_succ, List.getElem_cons_zero, List.getElem?_toArray, List.getElem?_cons_succ, List.getElem?_cons_zero, List.setIfInBounds_toArray, List.set_cons_zero, List.set_cons_succ]
  refine wpAnyH_take (i := 6) (v := ?v3) rfl (by kernel_rfl) (by kernel_rfl) (by kernel_rfl) (fun _ _ _ h => h) (Or.inl ⟨by rfl, ?y3⟩) (by assumption) ?_
  case y3 => intro w hSw; (try dsimp only at hSw); go_simp; all_goals first | with_reducible rfl | rw [if_neg (by omega)]
  try simp only [Act.put, List.getElem_toArray, List.getElem_cons_succ, List.getElem_cons_zero, List.getElem?_toArray, List.getElem?_cons_succ, List.getElem?_cons_zero, List.setIfInBounds_toArray, List.set_cons_zero, List.set_cons_succ]
  refine wpAnyH_take (i := 7) (v := ?v4) rfl (by kernel_rfl) (by kernel_rfl) (by kernel_rfl) (fun _ _ _ h => h) (Or.inl ⟨by rfl, ?y4⟩) (by assumption) ?_
  case y4 => intro w hSw; (try dsimp only at hSw); go_simp; all_goals first | with_reducible rfl | rw [if_neg (by omega)]
  try simp only [Act.put, List.getElem_toArray, List.getElem_cons_succ, List.getElem_cons_zero, List.getElem?_toArray, List.getElem?_cons_succ, List.getElem?_cons_zero, List.setIfInBounds_toArray, List.set_cons_zero, List.set_cons_succ]
  refine wpAnyH_take (i := 8) (v := ?v5) rfl (by kernel_rfl) (by kernel_rfl) (by kernel_rfl) (fun _ _ _ h => h) (Or.inl ⟨by rfl, ?y5⟩) (by assumption) ?_
  case y5 => intro w hSw; (try dsimp only at hSw); go_simp; all_goals first | with_reducible rfl | rw [if_neg (by omega)]
  try simp only [Act.put, List.getElem_toArray, List.getElem_cons_succ, List.getElem_cons_zero, List.getElem?_toArray, List.getElem?_cons_succ, List.getElem?_cons_zero, List.setIfInBounds_toArray, List.set_cons_zero, List.set_cons_succ]
  refine wpAnyH_ready (rs := [0, 9]) (by kernel_rfl) (by simp) ?_
  refine AllReadyH.cons rfl (fun K hK => ?_) ?_
  · skip
    go_simp
    refine hK.out _ _ ?_ (fun hHeld2 => ?_)
    · exact held5_keep hHeld (by repeat' first | exact Below.refl _ _ | refine below_drewN ?_ _ | refine Below.drew ?_ | refine Below.alloc ?_ (by first | exact Nat.le_refl _ | (simp <;> omega)) _)
    clear hK K hHeld
    try simp only [Act.put, List.getElem_toArray, List.getElem_cons_succ, List.getElem_cons_zero, List.getElem?_toArray, List.getElem?_cons_succ, List.getElem?_cons_zero, List.setIfInBounds_toArray, List.set_cons_zero, List.set_cons_succ]
    refine wpAnyH_mono (S' := fun w' => w'.cell? ⟨w.heap.size, 0, none⟩ = some (.int .i64 18) ∧ w'.cell? ⟨w.heap.size, 1, none⟩ = some (.int .i64 10) ∧ w'.cell? ⟨w.heap.size, 2, none⟩ = some (.int .i64 n) ∧ w'.cell? ⟨w.heap.size, 3, none⟩ = some (.int .i64 m) ∧ w'.cell? ⟨w.heap.size, 4, none⟩ = some (.int .i64 imm) ∧ w.heap.size < w'.heap.size ∧ Below w.heap.size w w' ∧ w'.cell? ⟨Y.heap.size, 10, none⟩ = some (.string ⟨#[98, 103, 101]⟩) ∧ Y.heap.size < w'.heap.size) (fun _ h => ⟨h.1, h.2.1, h.2.2.1, h.2.2.2.1, h.2.2.2.2.1, h.2.2.2.2.2.1, h.2.2.2.2.2.2.1⟩) ?_
    refine wpAnyH_any (⟨hHeld2.1, hHeld2.2.1, hHeld2.2.2.1, hHeld2.2.2.2.1, hHeld2.2.2.2.2.1, hHeld2.2.2.2.2.2.1, hHeld2.2.2.2.2.2.2, by go_simp, by simp⟩) (fun Z hHeld => ?_)
    clear hHeld2
    refine wpAnyH_take (i := 3) (v := ?v6) rfl (by kernel_rfl) (by kernel_rfl) (by kernel_rfl) (fun _ _ _ h => h) (Or.inl ⟨by rfl, ?y6⟩) (by assumption) ?_
    case y6 => intro w hSw; (try dsimp only at hSw); go_simp; all_goals first | with_reducible rfl | rw [if_neg (by omega)]
    try simp only [Act.put, List.getElem_toArray, List.getElem_cons_succ, List.getElem_cons_zero, List.getElem?_toArray, List.getElem?_cons_succ, List.getElem?_cons_zero, List.setIfInBounds_toArray, List.set_cons_zero, List.set_cons_succ]
    refine wpAnyH_take (i := 4) (v := ?v7) rfl (by kernel_rfl) (by kernel_rfl) (by kernel_rfl) (fun _ _ _ h => h) (Or.inl ⟨by rfl, ?y7⟩) (by assumption) ?_
    case y7 => intro w hSw; (try dsimp only at hSw); go_simp; all_goals first | with_reducible rfl | rw [if_neg (by omega)]
    try simp only [Act.put, List.getElem_toArray, List.getElem_cons_succ, List.getElem_cons_zero, List.getElem?_toArray, List.getElem?_cons_succ, List.getElem?_cons_zero, List.setIfInBounds_toArray, List.set_cons_zero, List.set_cons_succ]
    refine wpAnyH_take (i := 5) (v := ?v8) rfl (by kernel_rfl) (by kernel_rfl) (by kernel_rfl) (fun _ _ _ h => h) (Or.inl ⟨by rfl, ?y8⟩) (by assumption) ?_
    case y8 => intro w hSw; (try dsimp only at hSw); go_simp; all_goals first | with_reducible rfl | rw [if_neg (by omega)]
    try simp only [Act.put, List.getElem_toArray, List.getElem_cons_succ, List.getElem_cons_zero, List.getElem?_toArray, List.getElem?_cons_succ, List.getElem?_cons_zero, List.setIfInBounds_toArray, List.set_cons_zero, List.set_cons_succ]
    refine wpAnyH_ready (rs := [9]) (by kernel_rfl) (by simp) ?_
    refine AllReadyH.cons rfl (fun K hK => ?_) AllReadyH.nil
    go_simp
    (go_at_call 16; with_reducible refine (hri _).mono ?_; rintro e w2 ⟨rfl, m2, rfl⟩)
    go_wp2_with fail
    refine hK.out _ _ ?_ (fun hHeld2 => ?_)
    · exact held5_litk hHeld (by repeat' first | exact Below.refl _ _ | refine below_drewN ?_ _ | refine Below.drew ?_ | refine Below.alloc ?_ (by first | exact Nat.le_refl _ | (simp <;> omega)) _)
    clear hK K hHeld
    try simp only [Act.put, List.getElem_toArray, List.getElem_cons_succ, List.getElem_cons_zero, List.getElem?_toArray, List.getElem?_cons_succ, List.getElem?_cons_zero, List.setIfInBounds_toArray, List.set_cons_zero, List.set_cons_succ]
    refine wpAnyH_any hHeld2 (fun Z hHeld => ?_)
    clear hHeld2
    refine wpAnyH_take (i := 10) (v := ?v9) rfl (by kernel_rfl) (by kernel_rfl) (by kernel_rfl) (fun _ _ _ h => h) (Or.inl ⟨by rfl, ?y9⟩) (by assumption) ?_
    case y9 => intro w hSw; (try dsimp only at hSw); go_simp; all_goals first | with_reducible rfl | rw [if_neg (by omega)]
    try simp only [Act.put, List.getElem_toArray, List.getElem_cons_succ, List.getElem_cons_zero, List.getElem?_toArray, List.getElem?_cons_succ, List.getElem?_cons_zero, List.setIfInBounds_toArray, List.set_cons_zero, List.set_cons_succ]
    refine wpAnyH_take (i := 11) (v := ?v10) rfl (by kernel_rfl) (by kernel_rfl) (by kernel_rfl) (fun _ _ _ h => h) (Or.inl ⟨by rfl, ?y10⟩) (by assumption) ?_
    case y10 => intro w hSw; (try dsimp only at hSw); go_simp; all_goals first | with_reducible rfl | rw [if_neg (by omega)]
    try simp only [Act.put, List.getElem_toArray, List.getElem_cons_succ, List.getElem_cons_zero, List.getElem?_toArray, List.getElem?_cons_succ, List.getElem?_cons_zero, List.setIfInBounds_toArray, List.set_cons_zero, List.set_cons_succ]
    refine wpAnyH_take (i := 12) (v := ?v11) rfl (by kernel_rfl) (by kernel_rfl) (by kernel_rfl) (fun _ _ _ h => h) (Or.inl ⟨by rfl, ?y11⟩) (by assumption) ?_
    case y11 => intro w hSw; (try dsimp only at hSw); go_simp; all_goals first | with_reducible rfl | rw [if_neg (by omega)]
    try simp only [Act.put, List.getElem_toArray, List.getElem_cons_succ, List.getElem_cons_zero, List.getElem?_toArray, List.getElem?_cons_succ, List.getElem?_cons_zero, List.setIfInBounds_toArray, List.set_cons_zero, List.set_cons_succ]
    refine wpAnyH_done (by kernel_rfl) ?_ _
    (go_wp2_with fail; go_ret2; refine ⟨congrArg (fun s => Ending.returned (.tuple #[.string s, .bool true])) ?_, hHeld.2.2.2.2.2.2.1⟩; rw [Hri.out]; apply ByteArray.ext; simp [showB, shapesL, wordB, wordsL, alusL, condsL, piece])
  refine AllReadyH.cons rfl (fun K hK => ?_) AllReadyH.nil
  go_simp
  (go_at_call 16; with_reducible refine (hri _).mono ?_; rintro e w2 ⟨rfl, m2, rfl⟩)
  go_wp2_with fail
  refine hK.out _ _ ?_ (fun hHeld2 => ?_)
  · exact held5_keep hHeld (by repeat' first | exact Below.refl _ _ | refine below_drewN ?_ _ | refine Below.drew ?_ | refine Below.alloc ?_ (by first | exact Nat.le_refl _ | (simp <;> omega)) _)
  clear hK K hHeld
  try simp only [Act.put, List.getElem_toArray, List.getElem_cons_succ, List.getElem_cons_zero, List.getElem?_toArray, List.getElem?_cons_succ, List.getElem?_cons_zero, List.setIfInBounds_toArray, List.set_cons_zero, List.set_cons_succ]
  refine wpAnyH_any hHeld2 (fun Y hHeld => ?_)
  clear hHeld2
  refine wpAnyH_ready (rs := [0]) (by kernel_rfl) (by simp) ?_
  refine AllReadyH.cons rfl (fun K hK => ?_) AllReadyH.nil
  go_simp
  refine hK.out _ _ ?_ (fun hHeld2 => ?_)
  · exact held5_keep hHeld (by repeat' first | exact Below.refl _ _ | refine below_drewN ?_ _ | refine Below.drew ?_ | refine Below.alloc ?_ (by first | exact Nat.le_refl _ | (simp <;> omega)) _)
  clear hK K hHeld
  try simp only [Act.put, List.getElem_toArray, List.getElem_cons_succ, List.getElem_cons_zero, List.getElem?_toArray, List.getElem?_cons_succ, List.getElem?_cons_zero, List.setIfInBounds_toArray, List.set_cons_zero, List.set_cons_succ]
  refine wpAnyH_mono (S' := fun w' => w'.cell? ⟨w.heap.size, 0, none⟩ = some (.int .i64 18) ∧ w'.cell? ⟨w.heap.size, 1, none⟩ = some (.int .i64 10) ∧ w'.cell? ⟨w.heap.size, 2, none⟩ = some (.int .i64 n) ∧ w'.cell? ⟨w.heap.size, 3, none⟩ = some (.int .i64 m) ∧ w'.cell? ⟨w.heap.size, 4, none⟩ = some (.int .i64 imm) ∧ w.heap.size < w'.heap.size ∧ Below w.heap.size w w' ∧ w'.cell? ⟨Y.heap.size, 10, none⟩ = some (.string ⟨#[98, 103, 101]⟩) ∧ Y.heap.size < w'.heap.size) (fun _ h => ⟨h.1, h.2.1, h.2.2.1, h.2.2.2.1, h.2.2.2.2.1, h.2.2.2.2.2.1, h.2.2.2.2.2.2.1⟩) ?_
  refine wpAnyH_any (⟨hHeld2.1, hHeld2.2.1, hHeld2.2.2.1, hHeld2.2.2.2.1, hHeld2.2.2.2.2.1, hHeld2.2.2.2.2.2.1, hHeld2.2.2.2.2.2.2, by go_simp, by simp⟩) (fun Z hHeld => ?_)
  clear hHeld2
  refine wpAnyH_take (i := 3) (v := ?v12) rfl (by kernel_rfl) (by kernel_rfl) (by kernel_rfl) (fun _ _ _ h => h) (Or.inl ⟨by rfl, ?y12⟩) (by assumption) ?_
  case y12 => intro w hSw; (try dsimp only at hSw); go_simp; all_goals first | with_reducible rfl | rw [if_neg (by omega)]
  try simp only [Act.put, List.getElem_toArray, List.getElem_cons_succ, List.getElem_cons_zero, List.getElem?_toArray, List.getElem?_cons_succ, List.getElem?_cons_zero, List.setIfInBounds_toArray, List.set_cons_zero, List.set_cons_succ]
  refine wpAnyH_take (i := 4) (v := ?v13) rfl (by kernel_rfl) (by kernel_rfl) (by kernel_rfl) (fun _ _ _ h => h) (Or.inl ⟨by rfl, ?y13⟩) (by assumption) ?_
  case y13 => intro w hSw; (try dsimp only at hSw); go_simp; all_goals first | with_reducible rfl | rw [if_neg (by omega)]
  try simp only [Act.put, List.getElem_toArray, List.getElem_cons_succ, List.getElem_cons_zero, List.getElem?_toArray, List.getElem?_cons_succ, List.getElem?_cons_zero, List.setIfInBounds_toArray, List.set_cons_zero, List.set_cons_succ]
  refine wpAnyH_take (i := 5) (v := ?v14) rfl (by kernel_rfl) (by kernel_rfl) (by kernel_rfl) (fun _ _ _ h => h) (Or.inl ⟨by rfl, ?y14⟩) (by assumption) ?_
  case y14 => intro w hSw; (try dsimp only at hSw); go_simp; all_goals first | with_reducible rfl | rw [if_neg (by omega)]
  try simp only [Act.put, List.getElem_toArray, List.getElem_cons_succ, List.getElem_cons_zero, List.getElem?_toArray, List.getElem?_cons_succ, List.getElem?_cons_zero, List.setIfInBounds_toArray, List.set_cons_zero, List.set_cons_succ]
  refine wpAnyH_take (i := 10) (v := ?v15) rfl (by kernel_rfl) (by kernel_rfl) (by kernel_rfl) (fun _ _ _ h => h) (Or.inl ⟨by rfl, ?y15⟩) (by assumption) ?_
  case y15 => intro w hSw; (try dsimp only at hSw); go_simp; all_goals first | with_reducible rfl | rw [if_neg (by omega)]
  try simp only [Act.put, List.getElem_toArray, List.getElem_cons_succ, List.getElem_cons_zero, List.getElem?_toArray, List.getElem?_cons_succ, List.getElem?_cons_zero, List.setIfInBounds_toArray, List.set_cons_zero, List.set_cons_succ]
  refine wpAnyH_take (i := 11) (v := ?v16) rfl (by kernel_rfl) (by kernel_rfl) (by kernel_rfl) (fun _ _ _ h => h) (Or.inl ⟨by rfl, ?y16⟩) (by assumption) ?_
  case y16 => intro w hSw; (try dsimp only at hSw); go_simp; all_goals first | with_reducible rfl | rw [if_neg (by omega)]
  try simp only [Act.put, List.getElem_toArray, List.getElem_cons_succ, List.getElem_cons_zero, List.getElem?_toArray, List.getElem?_cons_succ, List.getElem?_cons_zero, List.setIfInBounds_toArray, List.set_cons_zero, List.set_cons_succ]
  refine wpAnyH_take (i := 12) (v := ?v17) rfl (by kernel_rfl) (by kernel_rfl) (by kernel_rfl) (fun _ _ _ h => h) (Or.inl ⟨by rfl, ?y17⟩) (by assumption) ?_
  case y17 => intro w hSw; (try dsimp only at hSw); go_simp; all_goals first | with_reducible rfl | rw [if_neg (by omega)]
  try simp only [Act.put, List.getElem_toArray, List.getElem_cons_succ, List.getElem_cons_zero, List.getElem?_toArray, List.getElem?_cons_succ, List.getElem?_cons_zero, List.setIfInBounds_toArray, List.set_cons_zero, List.set_cons_succ]
  refine wpAnyH_done (by kernel_rfl) ?_ _
  (go_wp2_with fail; go_ret2; refine ⟨congrArg (fun s => Ending.returned (.tuple #[.string s, .bool true])) ?_, hHeld.2.2.2.2.2.2.1⟩; rw [Hri.out]; apply ByteArray.ext; simp [showB, shapesL, wordB, wordsL, alusL, condsL, piece])
set_option maxRecDepth 100000 in
set_option maxHeartbeats 8000000 in
theorem rshow_18_11 (d n m imm : Int) (w : World) (hlit : d = 11) (hc : canB 18 d n m imm = true) (hr : rcanB 18 d n m imm = true) : Calls Tryd.prog 7 #[.agg #[.int .i64 18, .int .i64 d, .int .i64 n, .int .i64 m, .int .i64 imm]] w fun e w' => e = .returned (.tuple #[.string ⟨(showB 18 d n m imm).toArray⟩, .bool true]) ∧ Below w.heap.size w w' := by
  subst hlit
  have hb := can_bounds 18 11 n m imm (by decide) hc
  have hcan : ∀ w, Calls Tryd.prog 14 #[.agg #[.int .i64 18, .int .i64 11, .int .i64 n, .int .i64 m, .int .i64 imm]] w fun e w' => e = .returned (.bool true) ∧ Below w.heap.size w w' := fun w => by have := rcan_any 18 (by decide) 11 n m imm w; rw [hr] at this; exact this
  clear hr hc
  obtain ⟨rd, hrd, hsrd, Hrd⟩ := reg_str 11 (by omega) (by omega)
  have hwr : IntKind.i64.wrap (2 * imm) = 2 * imm := by rw [IntKind.wrap_i64]; omega
  obtain ⟨ri, hri, hsri, Hri⟩ := imm_str (2 * imm) (by omega) (by omega)
  go_enter Tryd.func7, Tryd.ntmps7
  go_wp2_with fail
  refine (hcan _).mono ?_
  rintro e w1 ⟨rfl, hb1⟩
  have hbx1 := heap_keep (heap_alloc_new w _) hb1
  have hB1 : Below w.heap.size w w1 := (Below.alloc (Below.refl _ w) (Nat.le_refl _) _).trans (hb1.mono (by simp))
  have hc1 := fun j => Lib.cell_of_heap hbx1 j
  go_wp2_with fail
  refine (hrd _).mono ?_
  rintro e w2 ⟨rfl, m1, rfl⟩
  go_wp2_with fail
  have hS0 : (fun w' => w'.cell? ⟨w.heap.size, 0, none⟩ = some (.int .i64 18) ∧ w'.cell? ⟨w.heap.size, 1, none⟩ = some (.int .i64 11) ∧ w'.cell? ⟨w.heap.size, 2, none⟩ = some (.int .i64 n) ∧ w'.cell? ⟨w.heap.size, 3, none⟩ = some (.int .i64 m) ∧ w'.cell? ⟨w.heap.size, 4, none⟩ = some (.int .i64 imm) ∧ w.heap.size < w'.heap.size ∧ Below w.heap.size w w') (w1.drewN m1) := ⟨hc1 0, hc1 1, hc1 2, hc1 3, hc1 4, (Array.getElem?_eq_some_iff.1 hbx1).1, below_drewN hB1 m1⟩
  generalize w1.drewN m1 = W at *


  have HS := Lib.hid hS0

  obtain ⟨k0, k1, k2, k3, k4, hlt, -⟩ := hS0
  refine wp_region_held_drew (S := fun w' => w'.cell? ⟨w.heap.size, 0, none⟩ = some (.int .i64 18) ∧ w'.cell? ⟨w.heap.size, 1, none⟩ = some (.int .i64 11) ∧ w'.cell? ⟨w.heap.size, 2, none⟩ = some (.int .i64 n) ∧ w'.cell? ⟨w.heap.size, 3, none⟩ = some (.int .i64 m) ∧ w'.cell? ⟨w.heap.size, 4, none⟩ = some (.int .i64 imm) ∧ w.heap.size < w'.heap.size ∧ Below w.heap.size w w') (by kernel_rfl) (held5_keep HS.out ((Below.refl _ _).drew)) (fun hHeld2 => ?_)
  refine wpAnyH_any hHeld2 (fun Y hHeld => ?_)
  clear hHeld2
  refine wpAnyH_take (i := 1) (v := ?v1) rfl (by kernel_rfl) (by kernel_rfl) (by kernel_rfl) (fun _ _ _ h => h) (Or.inl ⟨by rfl, ?y1⟩) (by assumption) ?_
  case y1 => intro w hSw; (try dsimp only at hSw); go_simp; all_goals first | with_reducible rfl | rw [if_neg (by omega)]
  try simp only [Act.put, List.getElem_toArray, List.getElem_cons_succ, List.getElem_cons_zero, List.getElem?_toArray, List.getElem?_cons_succ, List.getElem?_cons_zero, List.setIfInBounds_toArray, List.set_cons_zero, List.set_cons_succ]
  refine wpAnyH_take (i := 2) (v := ?v2) rfl (by kernel_rfl) (by kernel_rfl) (by kernel_rfl) (fun _ _ _ h => h) (Or.inl ⟨by rfl, ?y2⟩) (by assumption) ?_
  case y2 => intro w hSw; (try dsimp only at hSw); go_simp; all_goals first | with_reducible rfl | rw [if_neg (by omega)]
  try simp only [Act.put, List.getElem_toArray, List.getElem_cons_succ, List.getElem_cons_zero, List.getElem?_toArray, List.getElem?_cons_succ, List.getElem?_cons_zero, List.setIfInBounds_toArray, List.set_cons_zero, List.set_cons_succ]
  refine wpAnyH_take (i := 6) (v := ?v3) rfl (by kernel_rfl) (by kernel_rfl) (by kernel_rfl) (fun _ _ _ h => h) (Or.inl ⟨by rfl, ?y3⟩) (by assumption) ?_
  case y3 => intro w hSw; (try dsimp only at hSw); go_simp; all_goals first | with_reducible rfl | rw [if_neg (by omega)]
  try simp only [Act.put, List.getElem_toArray, List.getElem_cons_succ, List.getElem_cons_zero, List.getElem?_toArray, List.getElem?_cons_succ, List.getElem?_cons_zero, List.setIfInBounds_toArray, List.set_cons_zero, List.set_cons_succ]
  refine wpAnyH_take (i := 7) (v := ?v4) rfl (by kernel_rfl) (by kernel_rfl) (by kernel_rfl) (fun _ _ _ h => h) (Or.inl ⟨by rfl, ?y4⟩) (by assumption) ?_
  case y4 => intro w hSw; (try dsimp only at hSw); go_simp; all_goals first | with_reducible rfl | rw [if_neg (by omega)]
  try simp only [Act.put, List.getElem_toArray, List.getElem_cons_succ, List.getElem_cons_zero, List.getElem?_toArray, List.getElem?_cons_succ, List.getElem?_cons_zero, List.setIfInBounds_toArray, List.set_cons_zero, List.set_cons_succ]
  refine wpAnyH_take (i := 8) (v := ?v5) rfl (by kernel_rfl) (by kernel_rfl) (by kernel_rfl) (fun _ _ _ h => h) (Or.inl ⟨by rfl, ?y5⟩) (by assumption) ?_
  case y5 => intro w hSw; (try dsimp only at hSw); go_simp; all_goals first | with_reducible rfl | rw [if_neg (by omega)]
  try simp only [Act.put, List.getElem_toArray, List.getElem_cons_succ, List.getElem_cons_zero, List.getElem?_toArray, List.getElem?_cons_succ, List.getElem?_cons_zero, List.setIfInBounds_toArray, List.set_cons_zero, List.set_cons_succ]
  refine wpAnyH_ready (rs := [0, 9]) (by kernel_rfl) (by simp) ?_
  refine AllReadyH.cons rfl (fun K hK => ?_) ?_
  · skip
    go_simp
    refine hK.out _ _ ?_ (fun hHeld2 => ?_)
    · exact held5_keep hHeld (by repeat' first | exact Below.refl _ _ | refine below_drewN ?_ _ | refine Below.drew ?_ | refine Below.alloc ?_ (by first | exact Nat.le_refl _ | (simp <;> omega)) _)
    clear hK K hHeld
    try simp only [Act.put, List.getElem_toArray, List.getElem_cons_succ, List.getElem_cons_zero, List.getElem?_toArray, List.getElem?_cons_succ, List.getElem?_cons_zero, List.setIfInBounds_toArray, List.set_cons_zero, List.set_cons_succ]
    refine wpAnyH_mono (S' := fun w' => w'.cell? ⟨w.heap.size, 0, none⟩ = some (.int .i64 18) ∧ w'.cell? ⟨w.heap.size, 1, none⟩ = some (.int .i64 11) ∧ w'.cell? ⟨w.heap.size, 2, none⟩ = some (.int .i64 n) ∧ w'.cell? ⟨w.heap.size, 3, none⟩ = some (.int .i64 m) ∧ w'.cell? ⟨w.heap.size, 4, none⟩ = some (.int .i64 imm) ∧ w.heap.size < w'.heap.size ∧ Below w.heap.size w w' ∧ w'.cell? ⟨Y.heap.size, 11, none⟩ = some (.string ⟨#[98, 108, 116]⟩) ∧ Y.heap.size < w'.heap.size) (fun _ h => ⟨h.1, h.2.1, h.2.2.1, h.2.2.2.1, h.2.2.2.2.1, h.2.2.2.2.2.1, h.2.2.2.2.2.2.1⟩) ?_
    refine wpAnyH_any (⟨hHeld2.1, hHeld2.2.1, hHeld2.2.2.1, hHeld2.2.2.2.1, hHeld2.2.2.2.2.1, hHeld2.2.2.2.2.2.1, hHeld2.2.2.2.2.2.2, by go_simp, by simp⟩) (fun Z hHeld => ?_)
    clear hHeld2
    refine wpAnyH_take (i := 3) (v := ?v6) rfl (by kernel_rfl) (by kernel_rfl) (by kernel_rfl) (fun _ _ _ h => h) (Or.inl ⟨by rfl, ?y6⟩) (by assumption) ?_
    case y6 => intro w hSw; (try dsimp only at hSw); go_simp; all_goals first | with_reducible rfl | rw [if_neg (by omega)]
    try simp only [Act.put, List.getElem_toArray, List.getElem_cons_succ, List.getElem_cons_zero, List.getElem?_toArray, List.getElem?_cons_succ, List.getElem?_cons_zero, List.setIfInBounds_toArray, List.set_cons_zero, List.set_cons_succ]
    refine wpAnyH_take (i := 4) (v := ?v7) rfl (by kernel_rfl) (by kernel_rfl) (by kernel_rfl) (fun _ _ _ h => h) (Or.inl ⟨by rfl, ?y7⟩) (by assumption) ?_
    case y7 => intro w hSw; (try dsimp only at hSw); go_simp; all_goals first | with_reducible rfl | rw [if_neg (by omega)]
    try simp only [Act.put, List.getElem_toArray, List.getElem_cons_succ, List.getElem_cons_zero, List.getElem?_toArray, List.getElem?_cons_succ, List.getElem?_cons_zero, List.setIfInBounds_toArray, List.set_cons_zero, List.set_cons_succ]
    refine wpAnyH_take (i := 5) (v := ?v8) rfl (by kernel_rfl) (by kernel_rfl) (by kernel_rfl) (fun _ _ _ h => h) (Or.inl ⟨by rfl, ?y8⟩) (by assumption) ?_
    case y8 => intro w hSw; (try dsimp only at hSw); go_simp; all_goals first | with_reducible rfl | rw [if_neg (by omega)]
    try simp only [Act.put, List.getElem_toArray, List.getElem_cons_succ, List.getElem_cons_zero, List.getElem?_toArray, List.getElem?_cons_succ, List.getElem?_cons_zero, List.setIfInBounds_toArray, List.set_cons_zero, List.set_cons_succ]
    refine wpAnyH_ready (rs := [9]) (by kernel_rfl) (by simp) ?_
    refine AllReadyH.cons rfl (fun K hK => ?_) AllReadyH.nil
    go_simp
    (go_at_call 16; with_reducible refine (hri _).mono ?_; rintro e w2 ⟨rfl, m2, rfl⟩)
    go_wp2_with fail
    refine hK.out _ _ ?_ (fun hHeld2 => ?_)
    · exact held5_litk hHeld (by repeat' first | exact Below.refl _ _ | refine below_drewN ?_ _ | refine Below.drew ?_ | refine Below.alloc ?_ (by first | exact Nat.le_refl _ | (simp <;> omega)) _)
    clear hK K hHeld
    try simp only [Act.put, List.getElem_toArray, List.getElem_cons_succ, List.getElem_cons_zero, List.getElem?_toArray, List.getElem?_cons_succ, List.getElem?_cons_zero, List.setIfInBounds_toArray, List.set_cons_zero, List.set_cons_succ]
    refine wpAnyH_any hHeld2 (fun Z hHeld => ?_)
    clear hHeld2
    refine wpAnyH_take (i := 10) (v := ?v9) rfl (by kernel_rfl) (by kernel_rfl) (by kernel_rfl) (fun _ _ _ h => h) (Or.inl ⟨by rfl, ?y9⟩) (by assumption) ?_
    case y9 => intro w hSw; (try dsimp only at hSw); go_simp; all_goals first | with_reducible rfl | rw [if_neg (by omega)]
    try simp only [Act.put, List.getElem_toArray, List.getElem_cons_succ, List.getElem_cons_zero, List.getElem?_toArray, List.getElem?_cons_succ, List.getElem?_cons_zero, List.setIfInBounds_toArray, List.set_cons_zero, List.set_cons_succ]
    refine wpAnyH_take (i := 11) (v := ?v10) rfl (by kernel_rfl) (by kernel_rfl) (by kernel_rfl) (fun _ _ _ h => h) (Or.inl ⟨by rfl, ?y10⟩) (by assumption) ?_
    case y10 => intro w hSw; (try dsimp only at hSw); go_simp; all_goals first | with_reducible rfl | rw [if_neg (by omega)]
    try simp only [Act.put, List.getElem_toArray, List.getElem_cons_succ, List.getElem_cons_zero, List.getElem?_toArray, List.getElem?_cons_succ, List.getElem?_cons_zero, List.setIfInBounds_toArray, List.set_cons_zero, List.set_cons_succ]
    refine wpAnyH_take (i := 12) (v := ?v11) rfl (by kernel_rfl) (by kernel_rfl) (by kernel_rfl) (fun _ _ _ h => h) (Or.inl ⟨by rfl, ?y11⟩) (by assumption) ?_
    case y11 => intro w hSw; (try dsimp only at hSw); go_simp; all_goals first | with_reducible rfl | rw [if_neg (by omega)]
    try simp only [Act.put, List.getElem_toArray, List.getElem_cons_succ, List.getElem_cons_zero, List.getElem?_toArray, List.getElem?_cons_succ, List.getElem?_cons_zero, List.setIfInBounds_toArray, List.set_cons_zero, List.set_cons_succ]
    refine wpAnyH_done (by kernel_rfl) ?_ _
    (go_wp2_with fail; go_ret2; refine ⟨congrArg (fun s => Ending.returned (.tuple #[.string s, .bool true])) ?_, hHeld.2.2.2.2.2.2.1⟩; rw [Hri.out]; apply ByteArray.ext; simp [showB, shapesL, wordB, wordsL, alusL, condsL, piece])
  refine AllReadyH.cons rfl (fun K hK => ?_) AllReadyH.nil
  go_simp
  (go_at_call 16; with_reducible refine (hri _).mono ?_; rintro e w2 ⟨rfl, m2, rfl⟩)
  go_wp2_with fail
  refine hK.out _ _ ?_ (fun hHeld2 => ?_)
  · exact held5_keep hHeld (by repeat' first | exact Below.refl _ _ | refine below_drewN ?_ _ | refine Below.drew ?_ | refine Below.alloc ?_ (by first | exact Nat.le_refl _ | (simp <;> omega)) _)
  clear hK K hHeld
  try simp only [Act.put, List.getElem_toArray, List.getElem_cons_succ, List.getElem_cons_zero, List.getElem?_toArray, List.getElem?_cons_succ, List.getElem?_cons_zero, List.setIfInBounds_toArray, List.set_cons_zero, List.set_cons_succ]
  refine wpAnyH_any hHeld2 (fun Y hHeld => ?_)
  clear hHeld2
  refine wpAnyH_ready (rs := [0]) (by kernel_rfl) (by simp) ?_
  refine AllReadyH.cons rfl (fun K hK => ?_) AllReadyH.nil
  go_simp
  refine hK.out _ _ ?_ (fun hHeld2 => ?_)
  · exact held5_keep hHeld (by repeat' first | exact Below.refl _ _ | refine below_drewN ?_ _ | refine Below.drew ?_ | refine Below.alloc ?_ (by first | exact Nat.le_refl _ | (simp <;> omega)) _)
  clear hK K hHeld
  try simp only [Act.put, List.getElem_toArray, List.getElem_cons_succ, List.getElem_cons_zero, List.getElem?_toArray, List.getElem?_cons_succ, List.getElem?_cons_zero, List.setIfInBounds_toArray, List.set_cons_zero, List.set_cons_succ]
  refine wpAnyH_mono (S' := fun w' => w'.cell? ⟨w.heap.size, 0, none⟩ = some (.int .i64 18) ∧ w'.cell? ⟨w.heap.size, 1, none⟩ = some (.int .i64 11) ∧ w'.cell? ⟨w.heap.size, 2, none⟩ = some (.int .i64 n) ∧ w'.cell? ⟨w.heap.size, 3, none⟩ = some (.int .i64 m) ∧ w'.cell? ⟨w.heap.size, 4, none⟩ = some (.int .i64 imm) ∧ w.heap.size < w'.heap.size ∧ Below w.heap.size w w' ∧ w'.cell? ⟨Y.heap.size, 11, none⟩ = some (.string ⟨#[98, 108, 116]⟩) ∧ Y.heap.size < w'.heap.size) (fun _ h => ⟨h.1, h.2.1, h.2.2.1, h.2.2.2.1, h.2.2.2.2.1, h.2.2.2.2.2.1, h.2.2.2.2.2.2.1⟩) ?_
  refine wpAnyH_any (⟨hHeld2.1, hHeld2.2.1, hHeld2.2.2.1, hHeld2.2.2.2.1, hHeld2.2.2.2.2.1, hHeld2.2.2.2.2.2.1, hHeld2.2.2.2.2.2.2, by go_simp, by simp⟩) (fun Z hHeld => ?_)
  clear hHeld2
  refine wpAnyH_take (i := 3) (v := ?v12) rfl (by kernel_rfl) (by kernel_rfl) (by kernel_rfl) (fun _ _ _ h => h) (Or.inl ⟨by rfl, ?y12⟩) (by assumption) ?_
  case y12 => intro w hSw; (try dsimp only at hSw); go_simp; all_goals first | with_reducible rfl | rw [if_neg (by omega)]
  try simp only [Act.put, List.getElem_toArray, List.getElem_cons_succ, List.getElem_cons_zero, List.getElem?_toArray, List.getElem?_cons_succ, List.getElem?_cons_zero, List.setIfInBounds_toArray, List.set_cons_zero, List.set_cons_succ]
  refine wpAnyH_take (i := 4) (v := ?v13) rfl (by kernel_rfl) (by kernel_rfl) (by kernel_rfl) (fun _ _ _ h => h) (Or.inl ⟨by rfl, ?y13⟩) (by assumption) ?_
  case y13 => intro w hSw; (try dsimp only at hSw); go_simp; all_goals first | with_reducible rfl | rw [if_neg (by omega)]
  try simp only [Act.put, List.getElem_toArray, List.getElem_cons_succ, List.getElem_cons_zero, List.getElem?_toArray, List.getElem?_cons_succ, List.getElem?_cons_zero, List.setIfInBounds_toArray, List.set_cons_zero, List.set_cons_succ]
  refine wpAnyH_take (i := 5) (v := ?v14) rfl (by kernel_rfl) (by kernel_rfl) (by kernel_rfl) (fun _ _ _ h => h) (Or.inl ⟨by rfl, ?y14⟩) (by assumption) ?_
  case y14 => intro w hSw; (try dsimp only at hSw); go_simp; all_goals first | with_reducible rfl | rw [if_neg (by omega)]
  try simp only [Act.put, List.getElem_toArray, List.getElem_cons_succ, List.getElem_cons_zero, List.getElem?_toArray, List.getElem?_cons_succ, List.getElem?_cons_zero, List.setIfInBounds_toArray, List.set_cons_zero, List.set_cons_succ]
  refine wpAnyH_take (i := 10) (v := ?v15) rfl (by kernel_rfl) (by kernel_rfl) (by kernel_rfl) (fun _ _ _ h => h) (Or.inl ⟨by rfl, ?y15⟩) (by assumption) ?_
  case y15 => intro w hSw; (try dsimp only at hSw); go_simp; all_goals first | with_reducible rfl | rw [if_neg (by omega)]
  try simp only [Act.put, List.getElem_toArray, List.getElem_cons_succ, List.getElem_cons_zero, List.getElem?_toArray, List.getElem?_cons_succ, List.getElem?_cons_zero, List.setIfInBounds_toArray, List.set_cons_zero, List.set_cons_succ]
  refine wpAnyH_take (i := 11) (v := ?v16) rfl (by kernel_rfl) (by kernel_rfl) (by kernel_rfl) (fun _ _ _ h => h) (Or.inl ⟨by rfl, ?y16⟩) (by assumption) ?_
  case y16 => intro w hSw; (try dsimp only at hSw); go_simp; all_goals first | with_reducible rfl | rw [if_neg (by omega)]
  try simp only [Act.put, List.getElem_toArray, List.getElem_cons_succ, List.getElem_cons_zero, List.getElem?_toArray, List.getElem?_cons_succ, List.getElem?_cons_zero, List.setIfInBounds_toArray, List.set_cons_zero, List.set_cons_succ]
  refine wpAnyH_take (i := 12) (v := ?v17) rfl (by kernel_rfl) (by kernel_rfl) (by kernel_rfl) (fun _ _ _ h => h) (Or.inl ⟨by rfl, ?y17⟩) (by assumption) ?_
  case y17 => intro w hSw; (try dsimp only at hSw); go_simp; all_goals first | with_reducible rfl | rw [if_neg (by omega)]
  try simp only [Act.put, List.getElem_toArray, List.getElem_cons_succ, List.getElem_cons_zero, List.getElem?_toArray, List.getElem?_cons_succ, List.getElem?_cons_zero, List.setIfInBounds_toArray, List.set_cons_zero, List.set_cons_succ]
  refine wpAnyH_done (by kernel_rfl) ?_ _
  (go_wp2_with fail; go_ret2; refine ⟨congrArg (fun s => Ending.returned (.tuple #[.string s, .bool true])) ?_, hHeld.2.2.2.2.2.2.1⟩; rw [Hri.out]; apply ByteArray.ext; simp [showB, shapesL, wordB, wordsL, alusL, condsL, piece])
set_option maxRecDepth 100000 in
set_option maxHeartbeats 8000000 in
theorem rshow_18_12 (d n m imm : Int) (w : World) (hlit : d = 12) (hc : canB 18 d n m imm = true) (hr : rcanB 18 d n m imm = true) : Calls Tryd.prog 7 #[.agg #[.int .i64 18, .int .i64 d, .int .i64 n, .int .i64 m, .int .i64 imm]] w fun e w' => e = .returned (.tuple #[.string ⟨(showB 18 d n m imm).toArray⟩, .bool true]) ∧ Below w.heap.size w w' := by
  subst hlit
  have hb := can_bounds 18 12 n m imm (by decide) hc
  have hcan : ∀ w, Calls Tryd.prog 14 #[.agg #[.int .i64 18, .int .i64 12, .int .i64 n, .int .i64 m, .int .i64 imm]] w fun e w' => e = .returned (.bool true) ∧ Below w.heap.size w w' := fun w => by have := rcan_any 18 (by decide) 12 n m imm w; rw [hr] at this; exact this
  clear hr hc
  obtain ⟨rd, hrd, hsrd, Hrd⟩ := reg_str 12 (by omega) (by omega)
  have hwr : IntKind.i64.wrap (2 * imm) = 2 * imm := by rw [IntKind.wrap_i64]; omega
  obtain ⟨ri, hri, hsri, Hri⟩ := imm_str (2 * imm) (by omega) (by omega)
  go_enter Tryd.func7, Tryd.ntmps7
  go_wp2_with fail
  refine (hcan _).mono ?_
  rintro e w1 ⟨rfl, hb1⟩
  have hbx1 := heap_keep (heap_alloc_new w _) hb1
  have hB1 : Below w.heap.size w w1 := (Below.alloc (Below.refl _ w) (Nat.le_refl _) _).trans (hb1.mono (by simp))
  have hc1 := fun j => Lib.cell_of_heap hbx1 j
  go_wp2_with fail
  refine (hrd _).mono ?_
  rintro e w2 ⟨rfl, m1, rfl⟩
  go_wp2_with fail
  have hS0 : (fun w' => w'.cell? ⟨w.heap.size, 0, none⟩ = some (.int .i64 18) ∧ w'.cell? ⟨w.heap.size, 1, none⟩ = some (.int .i64 12) ∧ w'.cell? ⟨w.heap.size, 2, none⟩ = some (.int .i64 n) ∧ w'.cell? ⟨w.heap.size, 3, none⟩ = some (.int .i64 m) ∧ w'.cell? ⟨w.heap.size, 4, none⟩ = some (.int .i64 imm) ∧ w.heap.size < w'.heap.size ∧ Below w.heap.size w w') (w1.drewN m1) := ⟨hc1 0, hc1 1, hc1 2, hc1 3, hc1 4, (Array.getElem?_eq_some_iff.1 hbx1).1, below_drewN hB1 m1⟩
  generalize w1.drewN m1 = W at *


  have HS := Lib.hid hS0

  obtain ⟨k0, k1, k2, k3, k4, hlt, -⟩ := hS0
  refine wp_region_held_drew (S := fun w' => w'.cell? ⟨w.heap.size, 0, none⟩ = some (.int .i64 18) ∧ w'.cell? ⟨w.heap.size, 1, none⟩ = some (.int .i64 12) ∧ w'.cell? ⟨w.heap.size, 2, none⟩ = some (.int .i64 n) ∧ w'.cell? ⟨w.heap.size, 3, none⟩ = some (.int .i64 m) ∧ w'.cell? ⟨w.heap.size, 4, none⟩ = some (.int .i64 imm) ∧ w.heap.size < w'.heap.size ∧ Below w.heap.size w w') (by kernel_rfl) (held5_keep HS.out ((Below.refl _ _).drew)) (fun hHeld2 => ?_)
  refine wpAnyH_any hHeld2 (fun Y hHeld => ?_)
  clear hHeld2
  refine wpAnyH_take (i := 1) (v := ?v1) rfl (by kernel_rfl) (by kernel_rfl) (by kernel_rfl) (fun _ _ _ h => h) (Or.inl ⟨by rfl, ?y1⟩) (by assumption) ?_
  case y1 => intro w hSw; (try dsimp only at hSw); go_simp; all_goals first | with_reducible rfl | rw [if_neg (by omega)]
  try simp only [Act.put, List.getElem_toArray, List.getElem_cons_succ, List.getElem_cons_zero, List.getElem?_toArray, List.getElem?_cons_succ, List.getElem?_cons_zero, List.setIfInBounds_toArray, List.set_cons_zero, List.set_cons_succ]
  refine wpAnyH_take (i := 2) (v := ?v2) rfl (by kernel_rfl) (by kernel_rfl) (by kernel_rfl) (fun _ _ _ h => h) (Or.inl ⟨by rfl, ?y2⟩) (by assumption) ?_
  case y2 => intro w hSw; (try dsimp only at hSw); go_simp; all_goals first | with_reducible rfl | rw [if_neg (by omega)]
  try simp only [Act.put, List.getElem_toArray, List.getElem_cons_succ, List.getElem_cons_zero, List.getElem?_toArray, List.getElem?_cons_succ, List.getElem?_cons_zero, List.setIfInBounds_toArray, List.set_cons_zero, List.set_cons_succ]
  refine wpAnyH_take (i := 6) (v := ?v3) rfl (by kernel_rfl) (by kernel_rfl) (by kernel_rfl) (fun _ _ _ h => h) (Or.inl ⟨by rfl, ?y3⟩) (by assumption) ?_
  case y3 => intro w hSw; (try dsimp only at hSw); go_simp; all_goals first | with_reducible rfl | rw [if_neg (by omega)]
  try simp only [Act.put, List.getElem_toArray, List.getElem_cons_succ, List.getElem_cons_zero, List.getElem?_toArray, List.getElem?_cons_succ, List.getElem?_cons_zero, List.setIfInBounds_toArray, List.set_cons_zero, List.set_cons_succ]
  refine wpAnyH_take (i := 7) (v := ?v4) rfl (by kernel_rfl) (by kernel_rfl) (by kernel_rfl) (fun _ _ _ h => h) (Or.inl ⟨by rfl, ?y4⟩) (by assumption) ?_
  case y4 => intro w hSw; (try dsimp only at hSw); go_simp; all_goals first | with_reducible rfl | rw [if_neg (by omega)]
  try simp only [Act.put, List.getElem_toArray, List.getElem_cons_succ, List.getElem_cons_zero, List.getElem?_toArray, List.getElem?_cons_succ, List.getElem?_cons_zero, List.setIfInBounds_toArray, List.set_cons_zero, List.set_cons_succ]
  refine wpAnyH_take (i := 8) (v := ?v5) rfl (by kernel_rfl) (by kernel_rfl) (by kernel_rfl) (fun _ _ _ h => h) (Or.inl ⟨by rfl, ?y5⟩) (by assumption) ?_
  case y5 => intro w hSw; (try dsimp only at hSw); go_simp; all_goals first | with_reducible rfl | rw [if_neg (by omega)]
  try simp only [Act.put, List.getElem_toArray, List.getElem_cons_succ, List.getElem_cons_zero, List.getElem?_toArray, List.getElem?_cons_succ, List.getElem?_cons_zero, List.setIfInBounds_toArray, List.set_cons_zero, List.set_cons_succ]
  refine wpAnyH_ready (rs := [0, 9]) (by kernel_rfl) (by simp) ?_
  refine AllReadyH.cons rfl (fun K hK => ?_) ?_
  · skip
    go_simp
    refine hK.out _ _ ?_ (fun hHeld2 => ?_)
    · exact held5_keep hHeld (by repeat' first | exact Below.refl _ _ | refine below_drewN ?_ _ | refine Below.drew ?_ | refine Below.alloc ?_ (by first | exact Nat.le_refl _ | (simp <;> omega)) _)
    clear hK K hHeld
    try simp only [Act.put, List.getElem_toArray, List.getElem_cons_succ, List.getElem_cons_zero, List.getElem?_toArray, List.getElem?_cons_succ, List.getElem?_cons_zero, List.setIfInBounds_toArray, List.set_cons_zero, List.set_cons_succ]
    refine wpAnyH_mono (S' := fun w' => w'.cell? ⟨w.heap.size, 0, none⟩ = some (.int .i64 18) ∧ w'.cell? ⟨w.heap.size, 1, none⟩ = some (.int .i64 12) ∧ w'.cell? ⟨w.heap.size, 2, none⟩ = some (.int .i64 n) ∧ w'.cell? ⟨w.heap.size, 3, none⟩ = some (.int .i64 m) ∧ w'.cell? ⟨w.heap.size, 4, none⟩ = some (.int .i64 imm) ∧ w.heap.size < w'.heap.size ∧ Below w.heap.size w w' ∧ w'.cell? ⟨Y.heap.size, 12, none⟩ = some (.string ⟨#[98, 103, 116]⟩) ∧ Y.heap.size < w'.heap.size) (fun _ h => ⟨h.1, h.2.1, h.2.2.1, h.2.2.2.1, h.2.2.2.2.1, h.2.2.2.2.2.1, h.2.2.2.2.2.2.1⟩) ?_
    refine wpAnyH_any (⟨hHeld2.1, hHeld2.2.1, hHeld2.2.2.1, hHeld2.2.2.2.1, hHeld2.2.2.2.2.1, hHeld2.2.2.2.2.2.1, hHeld2.2.2.2.2.2.2, by go_simp, by simp⟩) (fun Z hHeld => ?_)
    clear hHeld2
    refine wpAnyH_take (i := 3) (v := ?v6) rfl (by kernel_rfl) (by kernel_rfl) (by kernel_rfl) (fun _ _ _ h => h) (Or.inl ⟨by rfl, ?y6⟩) (by assumption) ?_
    case y6 => intro w hSw; (try dsimp only at hSw); go_simp; all_goals first | with_reducible rfl | rw [if_neg (by omega)]
    try simp only [Act.put, List.getElem_toArray, List.getElem_cons_succ, List.getElem_cons_zero, List.getElem?_toArray, List.getElem?_cons_succ, List.getElem?_cons_zero, List.setIfInBounds_toArray, List.set_cons_zero, List.set_cons_succ]
    refine wpAnyH_take (i := 4) (v := ?v7) rfl (by kernel_rfl) (by kernel_rfl) (by kernel_rfl) (fun _ _ _ h => h) (Or.inl ⟨by rfl, ?y7⟩) (by assumption) ?_
    case y7 => intro w hSw; (try dsimp only at hSw); go_simp; all_goals first | with_reducible rfl | rw [if_neg (by omega)]
    try simp only [Act.put, List.getElem_toArray, List.getElem_cons_succ, List.getElem_cons_zero, List.getElem?_toArray, List.getElem?_cons_succ, List.getElem?_cons_zero, List.setIfInBounds_toArray, List.set_cons_zero, List.set_cons_succ]
    refine wpAnyH_take (i := 5) (v := ?v8) rfl (by kernel_rfl) (by kernel_rfl) (by kernel_rfl) (fun _ _ _ h => h) (Or.inl ⟨by rfl, ?y8⟩) (by assumption) ?_
    case y8 => intro w hSw; (try dsimp only at hSw); go_simp; all_goals first | with_reducible rfl | rw [if_neg (by omega)]
    try simp only [Act.put, List.getElem_toArray, List.getElem_cons_succ, List.getElem_cons_zero, List.getElem?_toArray, List.getElem?_cons_succ, List.getElem?_cons_zero, List.setIfInBounds_toArray, List.set_cons_zero, List.set_cons_succ]
    refine wpAnyH_ready (rs := [9]) (by kernel_rfl) (by simp) ?_
    refine AllReadyH.cons rfl (fun K hK => ?_) AllReadyH.nil
    go_simp
    (go_at_call 16; with_reducible refine (hri _).mono ?_; rintro e w2 ⟨rfl, m2, rfl⟩)
    go_wp2_with fail
    refine hK.out _ _ ?_ (fun hHeld2 => ?_)
    · exact held5_litk hHeld (by repeat' first | exact Below.refl _ _ | refine below_drewN ?_ _ | refine Below.drew ?_ | refine Below.alloc ?_ (by first | exact Nat.le_refl _ | (simp <;> omega)) _)
    clear hK K hHeld
    try simp only [Act.put, List.getElem_toArray, List.getElem_cons_succ, List.getElem_cons_zero, List.getElem?_toArray, List.getElem?_cons_succ, List.getElem?_cons_zero, List.setIfInBounds_toArray, List.set_cons_zero, List.set_cons_succ]
    refine wpAnyH_any hHeld2 (fun Z hHeld => ?_)
    clear hHeld2
    refine wpAnyH_take (i := 10) (v := ?v9) rfl (by kernel_rfl) (by kernel_rfl) (by kernel_rfl) (fun _ _ _ h => h) (Or.inl ⟨by rfl, ?y9⟩) (by assumption) ?_
    case y9 => intro w hSw; (try dsimp only at hSw); go_simp; all_goals first | with_reducible rfl | rw [if_neg (by omega)]
    try simp only [Act.put, List.getElem_toArray, List.getElem_cons_succ, List.getElem_cons_zero, List.getElem?_toArray, List.getElem?_cons_succ, List.getElem?_cons_zero, List.setIfInBounds_toArray, List.set_cons_zero, List.set_cons_succ]
    refine wpAnyH_take (i := 11) (v := ?v10) rfl (by kernel_rfl) (by kernel_rfl) (by kernel_rfl) (fun _ _ _ h => h) (Or.inl ⟨by rfl, ?y10⟩) (by assumption) ?_
    case y10 => intro w hSw; (try dsimp only at hSw); go_simp; all_goals first | with_reducible rfl | rw [if_neg (by omega)]
    try simp only [Act.put, List.getElem_toArray, List.getElem_cons_succ, List.getElem_cons_zero, List.getElem?_toArray, List.getElem?_cons_succ, List.getElem?_cons_zero, List.setIfInBounds_toArray, List.set_cons_zero, List.set_cons_succ]
    refine wpAnyH_take (i := 12) (v := ?v11) rfl (by kernel_rfl) (by kernel_rfl) (by kernel_rfl) (fun _ _ _ h => h) (Or.inl ⟨by rfl, ?y11⟩) (by assumption) ?_
    case y11 => intro w hSw; (try dsimp only at hSw); go_simp; all_goals first | with_reducible rfl | rw [if_neg (by omega)]
    try simp only [Act.put, List.getElem_toArray, List.getElem_cons_succ, List.getElem_cons_zero, List.getElem?_toArray, List.getElem?_cons_succ, List.getElem?_cons_zero, List.setIfInBounds_toArray, List.set_cons_zero, List.set_cons_succ]
    refine wpAnyH_done (by kernel_rfl) ?_ _
    (go_wp2_with fail; go_ret2; refine ⟨congrArg (fun s => Ending.returned (.tuple #[.string s, .bool true])) ?_, hHeld.2.2.2.2.2.2.1⟩; rw [Hri.out]; apply ByteArray.ext; simp [showB, shapesL, wordB, wordsL, alusL, condsL, piece])
  refine AllReadyH.cons rfl (fun K hK => ?_) AllReadyH.nil
  go_simp
  (go_at_call 16; with_reducible refine (hri _).mono ?_; rintro e w2 ⟨rfl, m2, rfl⟩)
  go_wp2_with fail
  refine hK.out _ _ ?_ (fun hHeld2 => ?_)
  · exact held5_keep hHeld (by repeat' first | exact Below.refl _ _ | refine below_drewN ?_ _ | refine Below.drew ?_ | refine Below.alloc ?_ (by first | exact Nat.le_refl _ | (simp <;> omega)) _)
  clear hK K hHeld
  try simp only [Act.put, List.getElem_toArray, List.getElem_cons_succ, List.getElem_cons_zero, List.getElem?_toArray, List.getElem?_cons_succ, List.getElem?_cons_zero, List.setIfInBounds_toArray, List.set_cons_zero, List.set_cons_succ]
  refine wpAnyH_any hHeld2 (fun Y hHeld => ?_)
  clear hHeld2
  refine wpAnyH_ready (rs := [0]) (by kernel_rfl) (by simp) ?_
  refine AllReadyH.cons rfl (fun K hK => ?_) AllReadyH.nil
  go_simp
  refine hK.out _ _ ?_ (fun hHeld2 => ?_)
  · exact held5_keep hHeld (by repeat' first | exact Below.refl _ _ | refine below_drewN ?_ _ | refine Below.drew ?_ | refine Below.alloc ?_ (by first | exact Nat.le_refl _ | (simp <;> omega)) _)
  clear hK K hHeld
  try simp only [Act.put, List.getElem_toArray, List.getElem_cons_succ, List.getElem_cons_zero, List.getElem?_toArray, List.getElem?_cons_succ, List.getElem?_cons_zero, List.setIfInBounds_toArray, List.set_cons_zero, List.set_cons_succ]
  refine wpAnyH_mono (S' := fun w' => w'.cell? ⟨w.heap.size, 0, none⟩ = some (.int .i64 18) ∧ w'.cell? ⟨w.heap.size, 1, none⟩ = some (.int .i64 12) ∧ w'.cell? ⟨w.heap.size, 2, none⟩ = some (.int .i64 n) ∧ w'.cell? ⟨w.heap.size, 3, none⟩ = some (.int .i64 m) ∧ w'.cell? ⟨w.heap.size, 4, none⟩ = some (.int .i64 imm) ∧ w.heap.size < w'.heap.size ∧ Below w.heap.size w w' ∧ w'.cell? ⟨Y.heap.size, 12, none⟩ = some (.string ⟨#[98, 103, 116]⟩) ∧ Y.heap.size < w'.heap.size) (fun _ h => ⟨h.1, h.2.1, h.2.2.1, h.2.2.2.1, h.2.2.2.2.1, h.2.2.2.2.2.1, h.2.2.2.2.2.2.1⟩) ?_
  refine wpAnyH_any (⟨hHeld2.1, hHeld2.2.1, hHeld2.2.2.1, hHeld2.2.2.2.1, hHeld2.2.2.2.2.1, hHeld2.2.2.2.2.2.1, hHeld2.2.2.2.2.2.2, by go_simp, by simp⟩) (fun Z hHeld => ?_)
  clear hHeld2
  refine wpAnyH_take (i := 3) (v := ?v12) rfl (by kernel_rfl) (by kernel_rfl) (by kernel_rfl) (fun _ _ _ h => h) (Or.inl ⟨by rfl, ?y12⟩) (by assumption) ?_
  case y12 => intro w hSw; (try dsimp only at hSw); go_simp; all_goals first | with_reducible rfl | rw [if_neg (by omega)]
  try simp only [Act.put, List.getElem_toArray, List.getElem_cons_succ, List.getElem_cons_zero, List.getElem?_toArray, List.getElem?_cons_succ, List.getElem?_cons_zero, List.setIfInBounds_toArray, List.set_cons_zero, List.set_cons_succ]
  refine wpAnyH_take (i := 4) (v := ?v13) rfl (by kernel_rfl) (by kernel_rfl) (by kernel_rfl) (fun _ _ _ h => h) (Or.inl ⟨by rfl, ?y13⟩) (by assumption) ?_
  case y13 => intro w hSw; (try dsimp only at hSw); go_simp; all_goals first | with_reducible rfl | rw [if_neg (by omega)]
  try simp only [Act.put, List.getElem_toArray, List.getElem_cons_succ, List.getElem_cons_zero, List.getElem?_toArray, List.getElem?_cons_succ, List.getElem?_cons_zero, List.setIfInBounds_toArray, List.set_cons_zero, List.set_cons_succ]
  refine wpAnyH_take (i := 5) (v := ?v14) rfl (by kernel_rfl) (by kernel_rfl) (by kernel_rfl) (fun _ _ _ h => h) (Or.inl ⟨by rfl, ?y14⟩) (by assumption) ?_
  case y14 => intro w hSw; (try dsimp only at hSw); go_simp; all_goals first | with_reducible rfl | rw [if_neg (by omega)]
  try simp only [Act.put, List.getElem_toArray, List.getElem_cons_succ, List.getElem_cons_zero, List.getElem?_toArray, List.getElem?_cons_succ, List.getElem?_cons_zero, List.setIfInBounds_toArray, List.set_cons_zero, List.set_cons_succ]
  refine wpAnyH_take (i := 10) (v := ?v15) rfl (by kernel_rfl) (by kernel_rfl) (by kernel_rfl) (fun _ _ _ h => h) (Or.inl ⟨by rfl, ?y15⟩) (by assumption) ?_
  case y15 => intro w hSw; (try dsimp only at hSw); go_simp; all_goals first | with_reducible rfl | rw [if_neg (by omega)]
  try simp only [Act.put, List.getElem_toArray, List.getElem_cons_succ, List.getElem_cons_zero, List.getElem?_toArray, List.getElem?_cons_succ, List.getElem?_cons_zero, List.setIfInBounds_toArray, List.set_cons_zero, List.set_cons_succ]
  refine wpAnyH_take (i := 11) (v := ?v16) rfl (by kernel_rfl) (by kernel_rfl) (by kernel_rfl) (fun _ _ _ h => h) (Or.inl ⟨by rfl, ?y16⟩) (by assumption) ?_
  case y16 => intro w hSw; (try dsimp only at hSw); go_simp; all_goals first | with_reducible rfl | rw [if_neg (by omega)]
  try simp only [Act.put, List.getElem_toArray, List.getElem_cons_succ, List.getElem_cons_zero, List.getElem?_toArray, List.getElem?_cons_succ, List.getElem?_cons_zero, List.setIfInBounds_toArray, List.set_cons_zero, List.set_cons_succ]
  refine wpAnyH_take (i := 12) (v := ?v17) rfl (by kernel_rfl) (by kernel_rfl) (by kernel_rfl) (fun _ _ _ h => h) (Or.inl ⟨by rfl, ?y17⟩) (by assumption) ?_
  case y17 => intro w hSw; (try dsimp only at hSw); go_simp; all_goals first | with_reducible rfl | rw [if_neg (by omega)]
  try simp only [Act.put, List.getElem_toArray, List.getElem_cons_succ, List.getElem_cons_zero, List.getElem?_toArray, List.getElem?_cons_succ, List.getElem?_cons_zero, List.setIfInBounds_toArray, List.set_cons_zero, List.set_cons_succ]
  refine wpAnyH_done (by kernel_rfl) ?_ _
  (go_wp2_with fail; go_ret2; refine ⟨congrArg (fun s => Ending.returned (.tuple #[.string s, .bool true])) ?_, hHeld.2.2.2.2.2.2.1⟩; rw [Hri.out]; apply ByteArray.ext; simp [showB, shapesL, wordB, wordsL, alusL, condsL, piece])
set_option maxRecDepth 100000 in
set_option maxHeartbeats 8000000 in
theorem rshow_18_13 (d n m imm : Int) (w : World) (hlit : d = 13) (hc : canB 18 d n m imm = true) (hr : rcanB 18 d n m imm = true) : Calls Tryd.prog 7 #[.agg #[.int .i64 18, .int .i64 d, .int .i64 n, .int .i64 m, .int .i64 imm]] w fun e w' => e = .returned (.tuple #[.string ⟨(showB 18 d n m imm).toArray⟩, .bool true]) ∧ Below w.heap.size w w' := by
  subst hlit
  have hb := can_bounds 18 13 n m imm (by decide) hc
  have hcan : ∀ w, Calls Tryd.prog 14 #[.agg #[.int .i64 18, .int .i64 13, .int .i64 n, .int .i64 m, .int .i64 imm]] w fun e w' => e = .returned (.bool true) ∧ Below w.heap.size w w' := fun w => by have := rcan_any 18 (by decide) 13 n m imm w; rw [hr] at this; exact this
  clear hr hc
  obtain ⟨rd, hrd, hsrd, Hrd⟩ := reg_str 13 (by omega) (by omega)
  have hwr : IntKind.i64.wrap (2 * imm) = 2 * imm := by rw [IntKind.wrap_i64]; omega
  obtain ⟨ri, hri, hsri, Hri⟩ := imm_str (2 * imm) (by omega) (by omega)
  go_enter Tryd.func7, Tryd.ntmps7
  go_wp2_with fail
  refine (hcan _).mono ?_
  rintro e w1 ⟨rfl, hb1⟩
  have hbx1 := heap_keep (heap_alloc_new w _) hb1
  have hB1 : Below w.heap.size w w1 := (Below.alloc (Below.refl _ w) (Nat.le_refl _) _).trans (hb1.mono (by simp))
  have hc1 := fun j => Lib.cell_of_heap hbx1 j
  go_wp2_with fail
  refine (hrd _).mono ?_
  rintro e w2 ⟨rfl, m1, rfl⟩
  go_wp2_with fail
  have hS0 : (fun w' => w'.cell? ⟨w.heap.size, 0, none⟩ = some (.int .i64 18) ∧ w'.cell? ⟨w.heap.size, 1, none⟩ = some (.int .i64 13) ∧ w'.cell? ⟨w.heap.size, 2, none⟩ = some (.int .i64 n) ∧ w'.cell? ⟨w.heap.size, 3, none⟩ = some (.int .i64 m) ∧ w'.cell? ⟨w.heap.size, 4, none⟩ = some (.int .i64 imm) ∧ w.heap.size < w'.heap.size ∧ Below w.heap.size w w') (w1.drewN m1) := ⟨hc1 0, hc1 1, hc1 2, hc1 3, hc1 4, (Array.getElem?_eq_some_iff.1 hbx1).1, below_drewN hB1 m1⟩
  generalize w1.drewN m1 = W at *


  have HS := Lib.hid hS0

  obtain ⟨k0, k1, k2, k3, k4, hlt, -⟩ := hS0
  refine wp_region_held_drew (S := fun w' => w'.cell? ⟨w.heap.size, 0, none⟩ = some (.int .i64 18) ∧ w'.cell? ⟨w.heap.size, 1, none⟩ = some (.int .i64 13) ∧ w'.cell? ⟨w.heap.size, 2, none⟩ = some (.int .i64 n) ∧ w'.cell? ⟨w.heap.size, 3, none⟩ = some (.int .i64 m) ∧ w'.cell? ⟨w.heap.size, 4, none⟩ = some (.int .i64 imm) ∧ w.heap.size < w'.heap.size ∧ Below w.heap.size w w') (by kernel_rfl) (held5_keep HS.out ((Below.refl _ _).drew)) (fun hHeld2 => ?_)
  refine wpAnyH_any hHeld2 (fun Y hHeld => ?_)
  clear hHeld2
  refine wpAnyH_take (i := 1) (v := ?v1) rfl (by kernel_rfl) (by kernel_rfl) (by kernel_rfl) (fun _ _ _ h => h) (Or.inl ⟨by rfl, ?y1⟩) (by assumption) ?_
  case y1 => intro w hSw; (try dsimp only at hSw); go_simp; all_goals first | with_reducible rfl | rw [if_neg (by omega)]
  try simp only [Act.put, List.getElem_toArray, List.getElem_cons_succ, List.getElem_cons_zero, List.getElem?_toArray, List.getElem?_cons_succ, List.getElem?_cons_zero, List.setIfInBounds_toArray, List.set_cons_zero, List.set_cons_succ]
  refine wpAnyH_take (i := 2) (v := ?v2) rfl (by kernel_rfl) (by kernel_rfl) (by kernel_rfl) (fun _ _ _ h => h) (Or.inl ⟨by rfl, ?y2⟩) (by assumption) ?_
  case y2 => intro w hSw; (try dsimp only at hSw); go_simp; all_goals first | with_reducible rfl | rw [if_neg (by omega)]
  try simp only [Act.put, List.getElem_toArray, List.getElem_cons_succ, List.getElem_cons_zero, List.getElem?_toArray, List.getElem?_cons_succ, List.getElem?_cons_zero, List.setIfInBounds_toArray, List.set_cons_zero, List.set_cons_succ]
  refine wpAnyH_take (i := 6) (v := ?v3) rfl (by kernel_rfl) (by kernel_rfl) (by kernel_rfl) (fun _ _ _ h => h) (Or.inl ⟨by rfl, ?y3⟩) (by assumption) ?_
  case y3 => intro w hSw; (try dsimp only at hSw); go_simp; all_goals first | with_reducible rfl | rw [if_neg (by omega)]
  try simp only [Act.put, List.getElem_toArray, List.getElem_cons_succ, List.getElem_cons_zero, List.getElem?_toArray, List.getElem?_cons_succ, List.getElem?_cons_zero, List.setIfInBounds_toArray, List.set_cons_zero, List.set_cons_succ]
  refine wpAnyH_take (i := 7) (v := ?v4) rfl (by kernel_rfl) (by kernel_rfl) (by kernel_rfl) (fun _ _ _ h => h) (Or.inl ⟨by rfl, ?y4⟩) (by assumption) ?_
  case y4 => intro w hSw; (try dsimp only at hSw); go_simp; all_goals first | with_reducible rfl | rw [if_neg (by omega)]
  try simp only [Act.put, List.getElem_toArray, List.getElem_cons_succ, List.getElem_cons_zero, List.getElem?_toArray, List.getElem?_cons_succ, List.getElem?_cons_zero, List.setIfInBounds_toArray, List.set_cons_zero, List.set_cons_succ]
  refine wpAnyH_take (i := 8) (v := ?v5) rfl (by kernel_rfl) (by kernel_rfl) (by kernel_rfl) (fun _ _ _ h => h) (Or.inl ⟨by rfl, ?y5⟩) (by assumption) ?_
  case y5 => intro w hSw; (try dsimp only at hSw); go_simp; all_goals first | with_reducible rfl | rw [if_neg (by omega)]
  try simp only [Act.put, List.getElem_toArray, List.getElem_cons_succ, List.getElem_cons_zero, List.getElem?_toArray, List.getElem?_cons_succ, List.getElem?_cons_zero, List.setIfInBounds_toArray, List.set_cons_zero, List.set_cons_succ]
  refine wpAnyH_ready (rs := [0, 9]) (by kernel_rfl) (by simp) ?_
  refine AllReadyH.cons rfl (fun K hK => ?_) ?_
  · skip
    go_simp
    refine hK.out _ _ ?_ (fun hHeld2 => ?_)
    · exact held5_keep hHeld (by repeat' first | exact Below.refl _ _ | refine below_drewN ?_ _ | refine Below.drew ?_ | refine Below.alloc ?_ (by first | exact Nat.le_refl _ | (simp <;> omega)) _)
    clear hK K hHeld
    try simp only [Act.put, List.getElem_toArray, List.getElem_cons_succ, List.getElem_cons_zero, List.getElem?_toArray, List.getElem?_cons_succ, List.getElem?_cons_zero, List.setIfInBounds_toArray, List.set_cons_zero, List.set_cons_succ]
    refine wpAnyH_mono (S' := fun w' => w'.cell? ⟨w.heap.size, 0, none⟩ = some (.int .i64 18) ∧ w'.cell? ⟨w.heap.size, 1, none⟩ = some (.int .i64 13) ∧ w'.cell? ⟨w.heap.size, 2, none⟩ = some (.int .i64 n) ∧ w'.cell? ⟨w.heap.size, 3, none⟩ = some (.int .i64 m) ∧ w'.cell? ⟨w.heap.size, 4, none⟩ = some (.int .i64 imm) ∧ w.heap.size < w'.heap.size ∧ Below w.heap.size w w' ∧ w'.cell? ⟨Y.heap.size, 13, none⟩ = some (.string ⟨#[98, 108, 101]⟩) ∧ Y.heap.size < w'.heap.size) (fun _ h => ⟨h.1, h.2.1, h.2.2.1, h.2.2.2.1, h.2.2.2.2.1, h.2.2.2.2.2.1, h.2.2.2.2.2.2.1⟩) ?_
    refine wpAnyH_any (⟨hHeld2.1, hHeld2.2.1, hHeld2.2.2.1, hHeld2.2.2.2.1, hHeld2.2.2.2.2.1, hHeld2.2.2.2.2.2.1, hHeld2.2.2.2.2.2.2, by go_simp, by simp⟩) (fun Z hHeld => ?_)
    clear hHeld2
    refine wpAnyH_take (i := 3) (v := ?v6) rfl (by kernel_rfl) (by kernel_rfl) (by kernel_rfl) (fun _ _ _ h => h) (Or.inl ⟨by rfl, ?y6⟩) (by assumption) ?_
    case y6 => intro w hSw; (try dsimp only at hSw); go_simp; all_goals first | with_reducible rfl | rw [if_neg (by omega)]
    try simp only [Act.put, List.getElem_toArray, List.getElem_cons_succ, List.getElem_cons_zero, List.getElem?_toArray, List.getElem?_cons_succ, List.getElem?_cons_zero, List.setIfInBounds_toArray, List.set_cons_zero, List.set_cons_succ]
    refine wpAnyH_take (i := 4) (v := ?v7) rfl (by kernel_rfl) (by kernel_rfl) (by kernel_rfl) (fun _ _ _ h => h) (Or.inl ⟨by rfl, ?y7⟩) (by assumption) ?_
    case y7 => intro w hSw; (try dsimp only at hSw); go_simp; all_goals first | with_reducible rfl | rw [if_neg (by omega)]
    try simp only [Act.put, List.getElem_toArray, List.getElem_cons_succ, List.getElem_cons_zero, List.getElem?_toArray, List.getElem?_cons_succ, List.getElem?_cons_zero, List.setIfInBounds_toArray, List.set_cons_zero, List.set_cons_succ]
    refine wpAnyH_take (i := 5) (v := ?v8) rfl (by kernel_rfl) (by kernel_rfl) (by kernel_rfl) (fun _ _ _ h => h) (Or.inl ⟨by rfl, ?y8⟩) (by assumption) ?_
    case y8 => intro w hSw; (try dsimp only at hSw); go_simp; all_goals first | with_reducible rfl | rw [if_neg (by omega)]
    try simp only [Act.put, List.getElem_toArray, List.getElem_cons_succ, List.getElem_cons_zero, List.getElem?_toArray, List.getElem?_cons_succ, List.getElem?_cons_zero, List.setIfInBounds_toArray, List.set_cons_zero, List.set_cons_succ]
    refine wpAnyH_ready (rs := [9]) (by kernel_rfl) (by simp) ?_
    refine AllReadyH.cons rfl (fun K hK => ?_) AllReadyH.nil
    go_simp
    (go_at_call 16; with_reducible refine (hri _).mono ?_; rintro e w2 ⟨rfl, m2, rfl⟩)
    go_wp2_with fail
    refine hK.out _ _ ?_ (fun hHeld2 => ?_)
    · exact held5_litk hHeld (by repeat' first | exact Below.refl _ _ | refine below_drewN ?_ _ | refine Below.drew ?_ | refine Below.alloc ?_ (by first | exact Nat.le_refl _ | (simp <;> omega)) _)
    clear hK K hHeld
    try simp only [Act.put, List.getElem_toArray, List.getElem_cons_succ, List.getElem_cons_zero, List.getElem?_toArray, List.getElem?_cons_succ, List.getElem?_cons_zero, List.setIfInBounds_toArray, List.set_cons_zero, List.set_cons_succ]
    refine wpAnyH_any hHeld2 (fun Z hHeld => ?_)
    clear hHeld2
    refine wpAnyH_take (i := 10) (v := ?v9) rfl (by kernel_rfl) (by kernel_rfl) (by kernel_rfl) (fun _ _ _ h => h) (Or.inl ⟨by rfl, ?y9⟩) (by assumption) ?_
    case y9 => intro w hSw; (try dsimp only at hSw); go_simp; all_goals first | with_reducible rfl | rw [if_neg (by omega)]
    try simp only [Act.put, List.getElem_toArray, List.getElem_cons_succ, List.getElem_cons_zero, List.getElem?_toArray, List.getElem?_cons_succ, List.getElem?_cons_zero, List.setIfInBounds_toArray, List.set_cons_zero, List.set_cons_succ]
    refine wpAnyH_take (i := 11) (v := ?v10) rfl (by kernel_rfl) (by kernel_rfl) (by kernel_rfl) (fun _ _ _ h => h) (Or.inl ⟨by rfl, ?y10⟩) (by assumption) ?_
    case y10 => intro w hSw; (try dsimp only at hSw); go_simp; all_goals first | with_reducible rfl | rw [if_neg (by omega)]
    try simp only [Act.put, List.getElem_toArray, List.getElem_cons_succ, List.getElem_cons_zero, List.getElem?_toArray, List.getElem?_cons_succ, List.getElem?_cons_zero, List.setIfInBounds_toArray, List.set_cons_zero, List.set_cons_succ]
    refine wpAnyH_take (i := 12) (v := ?v11) rfl (by kernel_rfl) (by kernel_rfl) (by kernel_rfl) (fun _ _ _ h => h) (Or.inl ⟨by rfl, ?y11⟩) (by assumption) ?_
    case y11 => intro w hSw; (try dsimp only at hSw); go_simp; all_goals first | with_reducible rfl | rw [if_neg (by omega)]
    try simp only [Act.put, List.getElem_toArray, List.getElem_cons_succ, List.getElem_cons_zero, List.getElem?_toArray, List.getElem?_cons_succ, List.getElem?_cons_zero, List.setIfInBounds_toArray, List.set_cons_zero, List.set_cons_succ]
    refine wpAnyH_done (by kernel_rfl) ?_ _
    (go_wp2_with fail; go_ret2; refine ⟨congrArg (fun s => Ending.returned (.tuple #[.string s, .bool true])) ?_, hHeld.2.2.2.2.2.2.1⟩; rw [Hri.out]; apply ByteArray.ext; simp [showB, shapesL, wordB, wordsL, alusL, condsL, piece])
  refine AllReadyH.cons rfl (fun K hK => ?_) AllReadyH.nil
  go_simp
  (go_at_call 16; with_reducible refine (hri _).mono ?_; rintro e w2 ⟨rfl, m2, rfl⟩)
  go_wp2_with fail
  refine hK.out _ _ ?_ (fun hHeld2 => ?_)
  · exact held5_keep hHeld (by repeat' first | exact Below.refl _ _ | refine below_drewN ?_ _ | refine Below.drew ?_ | refine Below.alloc ?_ (by first | exact Nat.le_refl _ | (simp <;> omega)) _)
  clear hK K hHeld
  try simp only [Act.put, List.getElem_toArray, List.getElem_cons_succ, List.getElem_cons_zero, List.getElem?_toArray, List.getElem?_cons_succ, List.getElem?_cons_zero, List.setIfInBounds_toArray, List.set_cons_zero, List.set_cons_succ]
  refine wpAnyH_any hHeld2 (fun Y hHeld => ?_)
  clear hHeld2
  refine wpAnyH_ready (rs := [0]) (by kernel_rfl) (by simp) ?_
  refine AllReadyH.cons rfl (fun K hK => ?_) AllReadyH.nil
  go_simp
  refine hK.out _ _ ?_ (fun hHeld2 => ?_)
  · exact held5_keep hHeld (by repeat' first | exact Below.refl _ _ | refine below_drewN ?_ _ | refine Below.drew ?_ | refine Below.alloc ?_ (by first | exact Nat.le_refl _ | (simp <;> omega)) _)
  clear hK K hHeld
  try simp only [Act.put, List.getElem_toArray, List.getElem_cons_succ, List.getElem_cons_zero, List.getElem?_toArray, List.getElem?_cons_succ, List.getElem?_cons_zero, List.setIfInBounds_toArray, List.set_cons_zero, List.set_cons_succ]
  refine wpAnyH_mono (S' := fun w' => w'.cell? ⟨w.heap.size, 0, none⟩ = some (.int .i64 18) ∧ w'.cell? ⟨w.heap.size, 1, none⟩ = some (.int .i64 13) ∧ w'.cell? ⟨w.heap.size, 2, none⟩ = some (.int .i64 n) ∧ w'.cell? ⟨w.heap.size, 3, none⟩ = some (.int .i64 m) ∧ w'.cell? ⟨w.heap.size, 4, none⟩ = some (.int .i64 imm) ∧ w.heap.size < w'.heap.size ∧ Below w.heap.size w w' ∧ w'.cell? ⟨Y.heap.size, 13, none⟩ = some (.string ⟨#[98, 108, 101]⟩) ∧ Y.heap.size < w'.heap.size) (fun _ h => ⟨h.1, h.2.1, h.2.2.1, h.2.2.2.1, h.2.2.2.2.1, h.2.2.2.2.2.1, h.2.2.2.2.2.2.1⟩) ?_
  refine wpAnyH_any (⟨hHeld2.1, hHeld2.2.1, hHeld2.2.2.1, hHeld2.2.2.2.1, hHeld2.2.2.2.2.1, hHeld2.2.2.2.2.2.1, hHeld2.2.2.2.2.2.2, by go_simp, by simp⟩) (fun Z hHeld => ?_)
  clear hHeld2
  refine wpAnyH_take (i := 3) (v := ?v12) rfl (by kernel_rfl) (by kernel_rfl) (by kernel_rfl) (fun _ _ _ h => h) (Or.inl ⟨by rfl, ?y12⟩) (by assumption) ?_
  case y12 => intro w hSw; (try dsimp only at hSw); go_simp; all_goals first | with_reducible rfl | rw [if_neg (by omega)]
  try simp only [Act.put, List.getElem_toArray, List.getElem_cons_succ, List.getElem_cons_zero, List.getElem?_toArray, List.getElem?_cons_succ, List.getElem?_cons_zero, List.setIfInBounds_toArray, List.set_cons_zero, List.set_cons_succ]
  refine wpAnyH_take (i := 4) (v := ?v13) rfl (by kernel_rfl) (by kernel_rfl) (by kernel_rfl) (fun _ _ _ h => h) (Or.inl ⟨by rfl, ?y13⟩) (by assumption) ?_
  case y13 => intro w hSw; (try dsimp only at hSw); go_simp; all_goals first | with_reducible rfl | rw [if_neg (by omega)]
  try simp only [Act.put, List.getElem_toArray, List.getElem_cons_succ, List.getElem_cons_zero, List.getElem?_toArray, List.getElem?_cons_succ, List.getElem?_cons_zero, List.setIfInBounds_toArray, List.set_cons_zero, List.set_cons_succ]
  refine wpAnyH_take (i := 5) (v := ?v14) rfl (by kernel_rfl) (by kernel_rfl) (by kernel_rfl) (fun _ _ _ h => h) (Or.inl ⟨by rfl, ?y14⟩) (by assumption) ?_
  case y14 => intro w hSw; (try dsimp only at hSw); go_simp; all_goals first | with_reducible rfl | rw [if_neg (by omega)]
  try simp only [Act.put, List.getElem_toArray, List.getElem_cons_succ, List.getElem_cons_zero, List.getElem?_toArray, List.getElem?_cons_succ, List.getElem?_cons_zero, List.setIfInBounds_toArray, List.set_cons_zero, List.set_cons_succ]
  refine wpAnyH_take (i := 10) (v := ?v15) rfl (by kernel_rfl) (by kernel_rfl) (by kernel_rfl) (fun _ _ _ h => h) (Or.inl ⟨by rfl, ?y15⟩) (by assumption) ?_
  case y15 => intro w hSw; (try dsimp only at hSw); go_simp; all_goals first | with_reducible rfl | rw [if_neg (by omega)]
  try simp only [Act.put, List.getElem_toArray, List.getElem_cons_succ, List.getElem_cons_zero, List.getElem?_toArray, List.getElem?_cons_succ, List.getElem?_cons_zero, List.setIfInBounds_toArray, List.set_cons_zero, List.set_cons_succ]
  refine wpAnyH_take (i := 11) (v := ?v16) rfl (by kernel_rfl) (by kernel_rfl) (by kernel_rfl) (fun _ _ _ h => h) (Or.inl ⟨by rfl, ?y16⟩) (by assumption) ?_
  case y16 => intro w hSw; (try dsimp only at hSw); go_simp; all_goals first | with_reducible rfl | rw [if_neg (by omega)]
  try simp only [Act.put, List.getElem_toArray, List.getElem_cons_succ, List.getElem_cons_zero, List.getElem?_toArray, List.getElem?_cons_succ, List.getElem?_cons_zero, List.setIfInBounds_toArray, List.set_cons_zero, List.set_cons_succ]
  refine wpAnyH_take (i := 12) (v := ?v17) rfl (by kernel_rfl) (by kernel_rfl) (by kernel_rfl) (fun _ _ _ h => h) (Or.inl ⟨by rfl, ?y17⟩) (by assumption) ?_
  case y17 => intro w hSw; (try dsimp only at hSw); go_simp; all_goals first | with_reducible rfl | rw [if_neg (by omega)]
  try simp only [Act.put, List.getElem_toArray, List.getElem_cons_succ, List.getElem_cons_zero, List.getElem?_toArray, List.getElem?_cons_succ, List.getElem?_cons_zero, List.setIfInBounds_toArray, List.set_cons_zero, List.set_cons_succ]
  refine wpAnyH_done (by kernel_rfl) ?_ _
  (go_wp2_with fail; go_ret2; refine ⟨congrArg (fun s => Ending.returned (.tuple #[.string s, .bool true])) ?_, hHeld.2.2.2.2.2.2.1⟩; rw [Hri.out]; apply ByteArray.ext; simp [showB, shapesL, wordB, wordsL, alusL, condsL, piece])
theorem rshow_18 : RShowAt 18 := by
  intro d n m imm w hc hr
  have hb : 0 ≤ d ∧ d < 14 := by
    simp only [canB, inB, regB, Bool.and_eq_true, decide_eq_true_eq, beq_iff_eq] at hc
    omega
  have h : d = 0 ∨ d = 1 ∨ d = 2 ∨ d = 3 ∨ d = 4 ∨ d = 5 ∨ d = 6 ∨ d = 7 ∨ d = 8 ∨ d = 9 ∨ d = 10 ∨ d = 11 ∨ d = 12 ∨ d = 13 := by omega
  rcases h with h | h | h | h | h | h | h | h | h | h | h | h | h | h
  · exact rshow_18_0 d n m imm w h hc hr
  · exact rshow_18_1 d n m imm w h hc hr
  · exact rshow_18_2 d n m imm w h hc hr
  · exact rshow_18_3 d n m imm w h hc hr
  · exact rshow_18_4 d n m imm w h hc hr
  · exact rshow_18_5 d n m imm w h hc hr
  · exact rshow_18_6 d n m imm w h hc hr
  · exact rshow_18_7 d n m imm w h hc hr
  · exact rshow_18_8 d n m imm w h hc hr
  · exact rshow_18_9 d n m imm w h hc hr
  · exact rshow_18_10 d n m imm w h hc hr
  · exact rshow_18_11 d n m imm w h hc hr
  · exact rshow_18_12 d n m imm w h hc hr
  · exact rshow_18_13 d n m imm w h hc hr
end Go.Proofs.YtagjnannnahplaaDoor
