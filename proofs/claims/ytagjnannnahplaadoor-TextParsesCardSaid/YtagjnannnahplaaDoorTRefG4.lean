/- bautaref04.Show at the operations 11. -/
import Derived.Test.YtagjnannnahplaaDoorTRefF
import Derived.Test.YtagjnannnahplaaDoorTRefE
import Derived.Test.YtagjnannnahplaaDoorTRefG0
import Derived.Deep.RegionHeld3
import Derived.Laws.NewBlocks
namespace Go.Proofs.YtagjnannnahplaaDoor
open Go.RowKit
set_option linter.unusedVariables false
set_option linter.unusedSimpArgs false
set_option maxRecDepth 100000 in
set_option maxHeartbeats 8000000 in
theorem rshow_11_0 (d n m imm : Int) (w : World) (hlit : imm = 0) (hc : canB 11 d n m imm = true) (hr : rcanB 11 d n m imm = true) : Calls Tryd.prog 7 #[.agg #[.int .i64 11, .int .i64 d, .int .i64 n, .int .i64 m, .int .i64 imm]] w fun e w' => e = .returned (.tuple #[.string ⟨(showB 11 d n m imm).toArray⟩, .bool true]) ∧ Below w.heap.size w w' := by
  subst hlit
  have hb := can_bounds 11 d n m 0 (by decide) hc
  have hcan : ∀ w, Calls Tryd.prog 14 #[.agg #[.int .i64 11, .int .i64 d, .int .i64 n, .int .i64 m, .int .i64 0]] w fun e w' => e = .returned (.bool true) ∧ Below w.heap.size w w' := fun w => by have := rcan_any 11 (by decide) d n m 0 w; rw [hr] at this; exact this
  clear hr hc
  obtain ⟨rd, hrd, hsrd, Hrd⟩ := reg_str d (by omega) (by omega)
  obtain ⟨rm, hrm, hsrm, Hrm⟩ := reg_str m (by omega) (by omega)
  go_enter Tryd.func7, Tryd.ntmps7
  go_wp2_with fail
  refine (hcan _).mono ?_
  rintro e w1 ⟨rfl, hb1⟩
  have hbx1 := heap_keep (heap_alloc_new w _) hb1
  have hB1 : Below w.heap.size w w1 := (Below.alloc (Below.refl _ w) (Nat.le_refl _) _).trans (hb1.mono (by simp))
  have hc1 := fun j => Lib.cell_of_heap hbx1 j
  go_wp2_with fail
  refine (hrd _).mono ?_
  rintro e w2 ⟨rfl, m1, rfl⟩
  go_wp2_with fail
  have hS0 : (fun w' => w'.cell? ⟨w.heap.size, 0, none⟩ = some (.int .i64 11) ∧ w'.cell? ⟨w.heap.size, 1, none⟩ = some (.int .i64 d) ∧ w'.cell? ⟨w.heap.size, 2, none⟩ = some (.int .i64 n) ∧ w'.cell? ⟨w.heap.size, 3, none⟩ = some (.int .i64 m) ∧ w'.cell? ⟨w.heap.size, 4, none⟩ = some (.int .i64 0) ∧ w.heap.size < w'.heap.size ∧ Below w.heap.size w w') (w1.drewN m1) := ⟨hc1 0, hc1 1, hc1 2, hc1 3, hc1 4, (Array.getElem?_eq_some_iff.1 hbx1).1, below_drewN hB1 m1⟩
  generalize w1.drewN m1 = W at *


  have HS := Lib.hid hS0

  obtain ⟨k0, k1, k2, k3, k4, hlt, -⟩ := hS0
  refine wp_region_held_drew (S := fun w' => w'.cell? ⟨w.heap.size, 0, none⟩ = some (.int .i64 11) ∧ w'.cell? ⟨w.heap.size, 1, none⟩ = some (.int .i64 d) ∧ w'.cell? ⟨w.heap.size, 2, none⟩ = some (.int .i64 n) ∧ w'.cell? ⟨w.heap.size, 3, none⟩ = some (.int .i64 m) ∧ w'.cell? ⟨w.heap.size, 4, none⟩ = some (.int .i64 0) ∧ w.heap.size < w'.heap.size ∧ Below w.heap.size w w') (by kernel_rfl) (held5_keep HS.out ((Below.refl _ _).drew)) (fun hHeld2 => ?_)
  refine wpAnyH_any hHeld2 (fun Y hHeld => ?_)
  clear hHeld2
  refine wpAnyH_take (i := 1) (v := ?v1) rfl (by kernel_rfl) (by kernel_rfl) (by kernel_rfl) (fun _ _ _ h => h) (Or.inl ⟨by rfl, ?y1⟩) (by assumption) ?_
  case y1 => intro w hSw; (try dsimp only at hSw); go_simp; all_goals first | with_reducible rfl | rw [if_neg (by omega)]
  try simp only [Act.put, List.getElem_toArray, List.getElem_cons_succ, List.getElem_cons_zero, List.getElem?_toArray, List.getElem?_cons_succ, List.getElem?_cons_zero, List.setIfInBounds_toArray, List.set_cons_zero, List.set_cons_succ]
  refine wpAnyH_take (i := 2) (v := ?v2) rfl (by kernel_rfl) (by kernel_rfl) (by kernel_rfl) (fun _ _ _ h => h) (Or.inl ⟨by rfl, ?y2⟩) (by assumption) ?_
  case y2 => intro w hSw; (try dsimp only at hSw); go_simp; all_goals first | with_reducible rfl | rw [if_neg (by omega)]
  try simp only [Act.put, List.getElem_toArray, List.getElem_cons_succ, List.getElem_cons_zero, List.getElem?_toArray, List.getElem?_cons_succ, List.getElem?_cons_zero, List.setIfInBounds_toArray, List.set_cons_zero, List.set_cons_succ]
  refine wpAnyH_take (i := 6) (v := ?v3) rfl (by kernel_rfl) (by kernel_rfl) (by kernel_rfl) (fun _ _ _ h => h) (Or.inl ⟨by rfl, ?y3⟩) (by assumption) ?_
  case y3 => intro w hSw; (try dsimp only at hSw); go_simp; all_goals first | with_reducible rfl | rw [if_neg (by omega)]
  try simp only [Act.put, List.getElem_toArray, List.getElem_cons_succ, List.getElem_cons_zero, List.getElem?_toArray, List.getElem?_cons_succ, List.getElem?_cons_zero, List.setIfInBounds_toArray, List.set_cons_zero, List.set_cons_succ]
  refine wpAnyH_take (i := 8) (v := ?v4) rfl (by kernel_rfl) (by kernel_rfl) (by kernel_rfl) (fun _ _ _ h => h) (Or.inl ⟨by rfl, ?y4⟩) (by assumption) ?_
  case y4 => intro w hSw; (try dsimp only at hSw); go_simp; all_goals first | with_reducible rfl | rw [if_neg (by omega)]
  try simp only [Act.put, List.getElem_toArray, List.getElem_cons_succ, List.getElem_cons_zero, List.getElem?_toArray, List.getElem?_cons_succ, List.getElem?_cons_zero, List.setIfInBounds_toArray, List.set_cons_zero, List.set_cons_succ]
  refine wpAnyH_take (i := 9) (v := ?v5) rfl (by kernel_rfl) (by kernel_rfl) (by kernel_rfl) (fun _ _ _ h => h) (Or.inl ⟨by rfl, ?y5⟩) (by assumption) ?_
  case y5 => intro w hSw; (try dsimp only at hSw); go_simp; all_goals first | with_reducible rfl | rw [if_neg (by omega)]
  try simp only [Act.put, List.getElem_toArray, List.getElem_cons_succ, List.getElem_cons_zero, List.getElem?_toArray, List.getElem?_cons_succ, List.getElem?_cons_zero, List.setIfInBounds_toArray, List.set_cons_zero, List.set_cons_succ]
  refine wpAnyH_ready (rs := [0, 10]) (by kernel_rfl) (by simp) ?_
  refine AllReadyH.cons rfl (fun K hK => ?_) ?_
  · skip
    go_simp
    refine hK.out _ _ ?_ (fun hHeld2 => ?_)
    · exact held5_keep hHeld (by repeat' first | exact Below.refl _ _ | refine below_drewN ?_ _ | refine Below.drew ?_ | refine Below.alloc ?_ (by first | exact Nat.le_refl _ | (simp <;> omega)) _)
    clear hK K hHeld
    try simp only [Act.put, List.getElem_toArray, List.getElem_cons_succ, List.getElem_cons_zero, List.getElem?_toArray, List.getElem?_cons_succ, List.getElem?_cons_zero, List.setIfInBounds_toArray, List.set_cons_zero, List.set_cons_succ]
    refine wpAnyH_mono (S' := fun w' => w'.cell? ⟨w.heap.size, 0, none⟩ = some (.int .i64 11) ∧ w'.cell? ⟨w.heap.size, 1, none⟩ = some (.int .i64 d) ∧ w'.cell? ⟨w.heap.size, 2, none⟩ = some (.int .i64 n) ∧ w'.cell? ⟨w.heap.size, 3, none⟩ = some (.int .i64 m) ∧ w'.cell? ⟨w.heap.size, 4, none⟩ = some (.int .i64 0) ∧ w.heap.size < w'.heap.size ∧ Below w.heap.size w w' ∧ w'.cell? ⟨Y.heap.size, 0, none⟩ = some (.string ⟨#[97, 110, 100, 115]⟩) ∧ Y.heap.size < w'.heap.size) (fun _ h => ⟨h.1, h.2.1, h.2.2.1, h.2.2.2.1, h.2.2.2.2.1, h.2.2.2.2.2.1, h.2.2.2.2.2.2.1⟩) ?_
    refine wpAnyH_any (⟨hHeld2.1, hHeld2.2.1, hHeld2.2.2.1, hHeld2.2.2.2.1, hHeld2.2.2.2.2.1, hHeld2.2.2.2.2.2.1, hHeld2.2.2.2.2.2.2, by go_simp, by simp⟩) (fun Z hHeld => ?_)
    clear hHeld2
    refine wpAnyH_take (i := 3) (v := ?v6) rfl (by kernel_rfl) (by kernel_rfl) (by kernel_rfl) (fun _ _ _ h => h) (Or.inl ⟨by rfl, ?y6⟩) (by assumption) ?_
    case y6 => intro w hSw; (try dsimp only at hSw); go_simp; all_goals first | with_reducible rfl | rw [if_neg (by omega)]
    try simp only [Act.put, List.getElem_toArray, List.getElem_cons_succ, List.getElem_cons_zero, List.getElem?_toArray, List.getElem?_cons_succ, List.getElem?_cons_zero, List.setIfInBounds_toArray, List.set_cons_zero, List.set_cons_succ]
    refine wpAnyH_take (i := 4) (v := ?v7) rfl (by kernel_rfl) (by kernel_rfl) (by kernel_rfl) (fun _ _ _ h => h) (Or.inl ⟨by rfl, ?y7⟩) (by assumption) ?_
    case y7 => intro w hSw; (try dsimp only at hSw); go_simp; all_goals first | with_reducible rfl | rw [if_neg (by omega)]
    try simp only [Act.put, List.getElem_toArray, List.getElem_cons_succ, List.getElem_cons_zero, List.getElem?_toArray, List.getElem?_cons_succ, List.getElem?_cons_zero, List.setIfInBounds_toArray, List.set_cons_zero, List.set_cons_succ]
    refine wpAnyH_take (i := 5) (v := ?v8) rfl (by kernel_rfl) (by kernel_rfl) (by kernel_rfl) (fun _ _ _ h => h) (Or.inl ⟨by rfl, ?y8⟩) (by assumption) ?_
    case y8 => intro w hSw; (try dsimp only at hSw); go_simp; all_goals first | with_reducible rfl | rw [if_neg (by omega)]
    try simp only [Act.put, List.getElem_toArray, List.getElem_cons_succ, List.getElem_cons_zero, List.getElem?_toArray, List.getElem?_cons_succ, List.getElem?_cons_zero, List.setIfInBounds_toArray, List.set_cons_zero, List.set_cons_succ]
    refine wpAnyH_take (i := 7) (v := ?v9) rfl (by kernel_rfl) (by kernel_rfl) (by kernel_rfl) (fun _ _ _ h => h) (Or.inl ⟨by rfl, ?y9⟩) (by assumption) ?_
    case y9 => intro w hSw; (try dsimp only at hSw); go_simp; all_goals first | with_reducible rfl | rw [if_neg (by omega)]
    try simp only [Act.put, List.getElem_toArray, List.getElem_cons_succ, List.getElem_cons_zero, List.getElem?_toArray, List.getElem?_cons_succ, List.getElem?_cons_zero, List.setIfInBounds_toArray, List.set_cons_zero, List.set_cons_succ]
    refine wpAnyH_ready (rs := [10]) (by kernel_rfl) (by simp) ?_
    refine AllReadyH.cons rfl (fun K hK => ?_) AllReadyH.nil
    go_simp
    (go_at_call 15; with_reducible refine (hrm _).mono ?_; rintro e w2 ⟨rfl, m2, rfl⟩)
    go_wp2_with fail
    refine hK.out _ _ ?_ (fun hHeld2 => ?_)
    · exact held5_litk hHeld (by repeat' first | exact Below.refl _ _ | refine below_drewN ?_ _ | refine Below.drew ?_ | refine Below.alloc ?_ (by first | exact Nat.le_refl _ | (simp <;> omega)) _)
    clear hK K hHeld
    try simp only [Act.put, List.getElem_toArray, List.getElem_cons_succ, List.getElem_cons_zero, List.getElem?_toArray, List.getElem?_cons_succ, List.getElem?_cons_zero, List.setIfInBounds_toArray, List.set_cons_zero, List.set_cons_succ]
    refine wpAnyH_any hHeld2 (fun Z hHeld => ?_)
    clear hHeld2
    refine wpAnyH_take (i := 11) (v := ?v10) rfl (by kernel_rfl) (by kernel_rfl) (by kernel_rfl) (fun _ _ _ h => h) (Or.inl ⟨by rfl, ?y10⟩) (by assumption) ?_
    case y10 => intro w hSw; (try dsimp only at hSw); go_simp; all_goals first | with_reducible rfl | rw [if_neg (by omega)]
    try simp only [Act.put, List.getElem_toArray, List.getElem_cons_succ, List.getElem_cons_zero, List.getElem?_toArray, List.getElem?_cons_succ, List.getElem?_cons_zero, List.setIfInBounds_toArray, List.set_cons_zero, List.set_cons_succ]
    refine wpAnyH_take (i := 12) (v := ?v11) rfl (by kernel_rfl) (by kernel_rfl) (by kernel_rfl) (fun _ _ _ h => h) (Or.inl ⟨by rfl, ?y11⟩) (by assumption) ?_
    case y11 => intro w hSw; (try dsimp only at hSw); go_simp; all_goals first | with_reducible rfl | rw [if_neg (by omega)]
    try simp only [Act.put, List.getElem_toArray, List.getElem_cons_succ, List.getElem_cons_zero, List.getElem?_toArray, List.getElem?_cons_succ, List.getElem?_cons_zero, List.setIfInBounds_toArray, List.set_cons_zero, List.set_cons_succ]
    refine wpAnyH_take (i := 13) (v := ?v12) rfl (by kernel_rfl) (by kernel_rfl) (by kernel_rfl) (fun _ _ _ h => h) (Or.inl ⟨by rfl, ?y12⟩) (by assumption) ?_
    case y12 => intro w hSw; (try dsimp only at hSw); go_simp; all_goals first | with_reducible rfl | rw [if_neg (by omega)]
    try simp only [Act.put, List.getElem_toArray, List.getElem_cons_succ, List.getElem_cons_zero, List.getElem?_toArray, List.getElem?_cons_succ, List.getElem?_cons_zero, List.setIfInBounds_toArray, List.set_cons_zero, List.set_cons_succ]
    refine wpAnyH_done (by kernel_rfl) ?_ _
    (go_wp2_with fail; go_ret2; refine ⟨congrArg (fun s => Ending.returned (.tuple #[.string s, .bool true])) ?_, hHeld.2.2.2.2.2.2.1⟩; rw [Hrd.out, Hrm.out]; apply ByteArray.ext; simp [showB, shapesL, wordB, wordsL, alusL, condsL, piece])
  refine AllReadyH.cons rfl (fun K hK => ?_) AllReadyH.nil
  go_simp
  (go_at_call 15; with_reducible refine (hrm _).mono ?_; rintro e w2 ⟨rfl, m2, rfl⟩)
  go_wp2_with fail
  refine hK.out _ _ ?_ (fun hHeld2 => ?_)
  · exact held5_keep hHeld (by repeat' first | exact Below.refl _ _ | refine below_drewN ?_ _ | refine Below.drew ?_ | refine Below.alloc ?_ (by first | exact Nat.le_refl _ | (simp <;> omega)) _)
  clear hK K hHeld
  try simp only [Act.put, List.getElem_toArray, List.getElem_cons_succ, List.getElem_cons_zero, List.getElem?_toArray, List.getElem?_cons_succ, List.getElem?_cons_zero, List.setIfInBounds_toArray, List.set_cons_zero, List.set_cons_succ]
  refine wpAnyH_any hHeld2 (fun Y hHeld => ?_)
  clear hHeld2
  refine wpAnyH_ready (rs := [0]) (by kernel_rfl) (by simp) ?_
  refine AllReadyH.cons rfl (fun K hK => ?_) AllReadyH.nil
  go_simp
  refine hK.out _ _ ?_ (fun hHeld2 => ?_)
  · exact held5_keep hHeld (by repeat' first | exact Below.refl _ _ | refine below_drewN ?_ _ | refine Below.drew ?_ | refine Below.alloc ?_ (by first | exact Nat.le_refl _ | (simp <;> omega)) _)
  clear hK K hHeld
  try simp only [Act.put, List.getElem_toArray, List.getElem_cons_succ, List.getElem_cons_zero, List.getElem?_toArray, List.getElem?_cons_succ, List.getElem?_cons_zero, List.setIfInBounds_toArray, List.set_cons_zero, List.set_cons_succ]
  refine wpAnyH_mono (S' := fun w' => w'.cell? ⟨w.heap.size, 0, none⟩ = some (.int .i64 11) ∧ w'.cell? ⟨w.heap.size, 1, none⟩ = some (.int .i64 d) ∧ w'.cell? ⟨w.heap.size, 2, none⟩ = some (.int .i64 n) ∧ w'.cell? ⟨w.heap.size, 3, none⟩ = some (.int .i64 m) ∧ w'.cell? ⟨w.heap.size, 4, none⟩ = some (.int .i64 0) ∧ w.heap.size < w'.heap.size ∧ Below w.heap.size w w' ∧ w'.cell? ⟨Y.heap.size, 0, none⟩ = some (.string ⟨#[97, 110, 100, 115]⟩) ∧ Y.heap.size < w'.heap.size) (fun _ h => ⟨h.1, h.2.1, h.2.2.1, h.2.2.2.1, h.2.2.2.2.1, h.2.2.2.2.2.1, h.2.2.2.2.2.2.1⟩) ?_
  refine wpAnyH_any (⟨hHeld2.1, hHeld2.2.1, hHeld2.2.2.1, hHeld2.2.2.2.1, hHeld2.2.2.2.2.1, hHeld2.2.2.2.2.2.1, hHeld2.2.2.2.2.2.2, by go_simp, by simp⟩) (fun Z hHeld => ?_)
  clear hHeld2
  refine wpAnyH_take (i := 3) (v := ?v13) rfl (by kernel_rfl) (by kernel_rfl) (by kernel_rfl) (fun _ _ _ h => h) (Or.inl ⟨by rfl, ?y13⟩) (by assumption) ?_
  case y13 => intro w hSw; (try dsimp only at hSw); go_simp; all_goals first | with_reducible rfl | rw [if_neg (by omega)]
  try simp only [Act.put, List.getElem_toArray, List.getElem_cons_succ, List.getElem_cons_zero, List.getElem?_toArray, List.getElem?_cons_succ, List.getElem?_cons_zero, List.setIfInBounds_toArray, List.set_cons_zero, List.set_cons_succ]
  refine wpAnyH_take (i := 4) (v := ?v14) rfl (by kernel_rfl) (by kernel_rfl) (by kernel_rfl) (fun _ _ _ h => h) (Or.inl ⟨by rfl, ?y14⟩) (by assumption) ?_
  case y14 => intro w hSw; (try dsimp only at hSw); go_simp; all_goals first | with_reducible rfl | rw [if_neg (by omega)]
  try simp only [Act.put, List.getElem_toArray, List.getElem_cons_succ, List.getElem_cons_zero, List.getElem?_toArray, List.getElem?_cons_succ, List.getElem?_cons_zero, List.setIfInBounds_toArray, List.set_cons_zero, List.set_cons_succ]
  refine wpAnyH_take (i := 5) (v := ?v15) rfl (by kernel_rfl) (by kernel_rfl) (by kernel_rfl) (fun _ _ _ h => h) (Or.inl ⟨by rfl, ?y15⟩) (by assumption) ?_
  case y15 => intro w hSw; (try dsimp only at hSw); go_simp; all_goals first | with_reducible rfl | rw [if_neg (by omega)]
  try simp only [Act.put, List.getElem_toArray, List.getElem_cons_succ, List.getElem_cons_zero, List.getElem?_toArray, List.getElem?_cons_succ, List.getElem?_cons_zero, List.setIfInBounds_toArray, List.set_cons_zero, List.set_cons_succ]
  refine wpAnyH_take (i := 7) (v := ?v16) rfl (by kernel_rfl) (by kernel_rfl) (by kernel_rfl) (fun _ _ _ h => h) (Or.inl ⟨by rfl, ?y16⟩) (by assumption) ?_
  case y16 => intro w hSw; (try dsimp only at hSw); go_simp; all_goals first | with_reducible rfl | rw [if_neg (by omega)]
  try simp only [Act.put, List.getElem_toArray, List.getElem_cons_succ, List.getElem_cons_zero, List.getElem?_toArray, List.getElem?_cons_succ, List.getElem?_cons_zero, List.setIfInBounds_toArray, List.set_cons_zero, List.set_cons_succ]
  refine wpAnyH_take (i := 11) (v := ?v17) rfl (by kernel_rfl) (by kernel_rfl) (by kernel_rfl) (fun _ _ _ h => h) (Or.inl ⟨by rfl, ?y17⟩) (by assumption) ?_
  case y17 => intro w hSw; (try dsimp only at hSw); go_simp; all_goals first | with_reducible rfl | rw [if_neg (by omega)]
  try simp only [Act.put, List.getElem_toArray, List.getElem_cons_succ, List.getElem_cons_zero, List.getElem?_toArray, List.getElem?_cons_succ, List.getElem?_cons_zero, List.setIfInBounds_toArray, List.set_cons_zero, List.set_cons_succ]
  refine wpAnyH_take (i := 12) (v := ?v18) rfl (by kernel_rfl) (by kernel_rfl) (by kernel_rfl) (fun _ _ _ h => h) (Or.inl ⟨by rfl, ?y18⟩) (by assumption) ?_
  case y18 => intro w hSw; (try dsimp only at hSw); go_simp; all_goals first | with_reducible rfl | rw [if_neg (by omega)]
  try simp only [Act.put, List.getElem_toArray, List.getElem_cons_succ, List.getElem_cons_zero, List.getElem?_toArray, List.getElem?_cons_succ, List.getElem?_cons_zero, List.setIfInBounds_toArray, List.set_cons_zero, List.set_cons_succ]
  refine wpAnyH_take (i := 13) (v := ?v19) rfl (by kernel_rfl) (by kernel_rfl) (by kernel_rfl) (fun _ _ _ h => h) (Or.inl ⟨by rfl, ?y19⟩) (by assumption) ?_
  case y19 => intro w hSw; (try dsimp only at hSw); go_simp; all_goals first | with_reducible rfl | rw [if_neg (by omega)]
  try simp only [Act.put, List.getElem_toArray, List.getElem_cons_succ, List.getElem_cons_zero, List.getElem?_toArray, List.getElem?_cons_succ, List.getElem?_cons_zero, List.setIfInBounds_toArray, List.set_cons_zero, List.set_cons_succ]
  refine wpAnyH_done (by kernel_rfl) ?_ _
  (go_wp2_with fail; go_ret2; refine ⟨congrArg (fun s => Ending.returned (.tuple #[.string s, .bool true])) ?_, hHeld.2.2.2.2.2.2.1⟩; rw [Hrd.out, Hrm.out]; apply ByteArray.ext; simp [showB, shapesL, wordB, wordsL, alusL, condsL, piece])
set_option maxRecDepth 100000 in
set_option maxHeartbeats 8000000 in
theorem rshow_11_1 (d n m imm : Int) (w : World) (hlit : imm = 1) (hc : canB 11 d n m imm = true) (hr : rcanB 11 d n m imm = true) : Calls Tryd.prog 7 #[.agg #[.int .i64 11, .int .i64 d, .int .i64 n, .int .i64 m, .int .i64 imm]] w fun e w' => e = .returned (.tuple #[.string ⟨(showB 11 d n m imm).toArray⟩, .bool true]) ∧ Below w.heap.size w w' := by
  subst hlit
  have hb := can_bounds 11 d n m 1 (by decide) hc
  have hcan : ∀ w, Calls Tryd.prog 14 #[.agg #[.int .i64 11, .int .i64 d, .int .i64 n, .int .i64 m, .int .i64 1]] w fun e w' => e = .returned (.bool true) ∧ Below w.heap.size w w' := fun w => by have := rcan_any 11 (by decide) d n m 1 w; rw [hr] at this; exact this
  clear hr hc
  obtain ⟨rd, hrd, hsrd, Hrd⟩ := reg_str d (by omega) (by omega)
  obtain ⟨rm, hrm, hsrm, Hrm⟩ := reg_str m (by omega) (by omega)
  go_enter Tryd.func7, Tryd.ntmps7
  go_wp2_with fail
  refine (hcan _).mono ?_
  rintro e w1 ⟨rfl, hb1⟩
  have hbx1 := heap_keep (heap_alloc_new w _) hb1
  have hB1 : Below w.heap.size w w1 := (Below.alloc (Below.refl _ w) (Nat.le_refl _) _).trans (hb1.mono (by simp))
  have hc1 := fun j => Lib.cell_of_heap hbx1 j
  go_wp2_with fail
  refine (hrd _).mono ?_
  rintro e w2 ⟨rfl, m1, rfl⟩
  go_wp2_with fail
  have hS0 : (fun w' => w'.cell? ⟨w.heap.size, 0, none⟩ = some (.int .i64 11) ∧ w'.cell? ⟨w.heap.size, 1, none⟩ = some (.int .i64 d) ∧ w'.cell? ⟨w.heap.size, 2, none⟩ = some (.int .i64 n) ∧ w'.cell? ⟨w.heap.size, 3, none⟩ = some (.int .i64 m) ∧ w'.cell? ⟨w.heap.size, 4, none⟩ = some (.int .i64 1) ∧ w.heap.size < w'.heap.size ∧ Below w.heap.size w w') (w1.drewN m1) := ⟨hc1 0, hc1 1, hc1 2, hc1 3, hc1 4, (Array.getElem?_eq_some_iff.1 hbx1).1, below_drewN hB1 m1⟩
  generalize w1.drewN m1 = W at *


  have HS := Lib.hid hS0

  obtain ⟨k0, k1, k2, k3, k4, hlt, -⟩ := hS0
  refine wp_region_held_drew (S := fun w' => w'.cell? ⟨w.heap.size, 0, none⟩ = some (.int .i64 11) ∧ w'.cell? ⟨w.heap.size, 1, none⟩ = some (.int .i64 d) ∧ w'.cell? ⟨w.heap.size, 2, none⟩ = some (.int .i64 n) ∧ w'.cell? ⟨w.heap.size, 3, none⟩ = some (.int .i64 m) ∧ w'.cell? ⟨w.heap.size, 4, none⟩ = some (.int .i64 1) ∧ w.heap.size < w'.heap.size ∧ Below w.heap.size w w') (by kernel_rfl) (held5_keep HS.out ((Below.refl _ _).drew)) (fun hHeld2 => ?_)
  refine wpAnyH_any hHeld2 (fun Y hHeld => ?_)
  clear hHeld2
  refine wpAnyH_take (i := 1) (v := ?v1) rfl (by kernel_rfl) (by kernel_rfl) (by kernel_rfl) (fun _ _ _ h => h) (Or.inl ⟨by rfl, ?y1⟩) (by assumption) ?_
  case y1 => intro w hSw; (try dsimp only at hSw); go_simp; all_goals first | with_reducible rfl | rw [if_neg (by omega)]
  try simp only [Act.put, List.getElem_toArray, List.getElem_cons_succ, List.getElem_cons_zero, List.getElem?_toArray, List.getElem?_cons_succ, List.getElem?_cons_zero, List.setIfInBounds_toArray, List.set_cons_zero, List.set_cons_succ]
  refine wpAnyH_take (i := 2) (v := ?v2) rfl (by kernel_rfl) (by kernel_rfl) (by kernel_rfl) (fun _ _ _ h => h) (Or.inl ⟨by rfl, ?y2⟩) (by assumption) ?_
  case y2 => intro w hSw; (try dsimp only at hSw); go_simp; all_goals first | with_reducible rfl | rw [if_neg (by omega)]
  try simp only [Act.put, List.getElem_toArray, List.getElem_cons_succ, List.getElem_cons_zero, List.getElem?_toArray, List.getElem?_cons_succ, List.getElem?_cons_zero, List.setIfInBounds_toArray, List.set_cons_zero, List.set_cons_succ]
  refine wpAnyH_take (i := 6) (v := ?v3) rfl (by kernel_rfl) (by kernel_rfl) (by kernel_rfl) (fun _ _ _ h => h) (Or.inl ⟨by rfl, ?y3⟩) (by assumption) ?_
  case y3 => intro w hSw; (try dsimp only at hSw); go_simp; all_goals first | with_reducible rfl | rw [if_neg (by omega)]
  try simp only [Act.put, List.getElem_toArray, List.getElem_cons_succ, List.getElem_cons_zero, List.getElem?_toArray, List.getElem?_cons_succ, List.getElem?_cons_zero, List.setIfInBounds_toArray, List.set_cons_zero, List.set_cons_succ]
  refine wpAnyH_take (i := 8) (v := ?v4) rfl (by kernel_rfl) (by kernel_rfl) (by kernel_rfl) (fun _ _ _ h => h) (Or.inl ⟨by rfl, ?y4⟩) (by assumption) ?_
  case y4 => intro w hSw; (try dsimp only at hSw); go_simp; all_goals first | with_reducible rfl | rw [if_neg (by omega)]
  try simp only [Act.put, List.getElem_toArray, List.getElem_cons_succ, List.getElem_cons_zero, List.getElem?_toArray, List.getElem?_cons_succ, List.getElem?_cons_zero, List.setIfInBounds_toArray, List.set_cons_zero, List.set_cons_succ]
  refine wpAnyH_take (i := 9) (v := ?v5) rfl (by kernel_rfl) (by kernel_rfl) (by kernel_rfl) (fun _ _ _ h => h) (Or.inl ⟨by rfl, ?y5⟩) (by assumption) ?_
  case y5 => intro w hSw; (try dsimp only at hSw); go_simp; all_goals first | with_reducible rfl | rw [if_neg (by omega)]
  try simp only [Act.put, List.getElem_toArray, List.getElem_cons_succ, List.getElem_cons_zero, List.getElem?_toArray, List.getElem?_cons_succ, List.getElem?_cons_zero, List.setIfInBounds_toArray, List.set_cons_zero, List.set_cons_succ]
  refine wpAnyH_ready (rs := [0, 10]) (by kernel_rfl) (by simp) ?_
  refine AllReadyH.cons rfl (fun K hK => ?_) ?_
  · skip
    go_simp
    refine hK.out _ _ ?_ (fun hHeld2 => ?_)
    · exact held5_keep hHeld (by repeat' first | exact Below.refl _ _ | refine below_drewN ?_ _ | refine Below.drew ?_ | refine Below.alloc ?_ (by first | exact Nat.le_refl _ | (simp <;> omega)) _)
    clear hK K hHeld
    try simp only [Act.put, List.getElem_toArray, List.getElem_cons_succ, List.getElem_cons_zero, List.getElem?_toArray, List.getElem?_cons_succ, List.getElem?_cons_zero, List.setIfInBounds_toArray, List.set_cons_zero, List.set_cons_succ]
    refine wpAnyH_mono (S' := fun w' => w'.cell? ⟨w.heap.size, 0, none⟩ = some (.int .i64 11) ∧ w'.cell? ⟨w.heap.size, 1, none⟩ = some (.int .i64 d) ∧ w'.cell? ⟨w.heap.size, 2, none⟩ = some (.int .i64 n) ∧ w'.cell? ⟨w.heap.size, 3, none⟩ = some (.int .i64 m) ∧ w'.cell? ⟨w.heap.size, 4, none⟩ = some (.int .i64 1) ∧ w.heap.size < w'.heap.size ∧ Below w.heap.size w w' ∧ w'.cell? ⟨Y.heap.size, 1, none⟩ = some (.string ⟨#[101, 111, 114, 115]⟩) ∧ Y.heap.size < w'.heap.size) (fun _ h => ⟨h.1, h.2.1, h.2.2.1, h.2.2.2.1, h.2.2.2.2.1, h.2.2.2.2.2.1, h.2.2.2.2.2.2.1⟩) ?_
    refine wpAnyH_any (⟨hHeld2.1, hHeld2.2.1, hHeld2.2.2.1, hHeld2.2.2.2.1, hHeld2.2.2.2.2.1, hHeld2.2.2.2.2.2.1, hHeld2.2.2.2.2.2.2, by go_simp, by simp⟩) (fun Z hHeld => ?_)
    clear hHeld2
    refine wpAnyH_take (i := 3) (v := ?v6) rfl (by kernel_rfl) (by kernel_rfl) (by kernel_rfl) (fun _ _ _ h => h) (Or.inl ⟨by rfl, ?y6⟩) (by assumption) ?_
    case y6 => intro w hSw; (try dsimp only at hSw); go_simp; all_goals first | with_reducible rfl | rw [if_neg (by omega)]
    try simp only [Act.put, List.getElem_toArray, List.getElem_cons_succ, List.getElem_cons_zero, List.getElem?_toArray, List.getElem?_cons_succ, List.getElem?_cons_zero, List.setIfInBounds_toArray, List.set_cons_zero, List.set_cons_succ]
    refine wpAnyH_take (i := 4) (v := ?v7) rfl (by kernel_rfl) (by kernel_rfl) (by kernel_rfl) (fun _ _ _ h => h) (Or.inl ⟨by rfl, ?y7⟩) (by assumption) ?_
    case y7 => intro w hSw; (try dsimp only at hSw); go_simp; all_goals first | with_reducible rfl | rw [if_neg (by omega)]
    try simp only [Act.put, List.getElem_toArray, List.getElem_cons_succ, List.getElem_cons_zero, List.getElem?_toArray, List.getElem?_cons_succ, List.getElem?_cons_zero, List.setIfInBounds_toArray, List.set_cons_zero, List.set_cons_succ]
    refine wpAnyH_take (i := 5) (v := ?v8) rfl (by kernel_rfl) (by kernel_rfl) (by kernel_rfl) (fun _ _ _ h => h) (Or.inl ⟨by rfl, ?y8⟩) (by assumption) ?_
    case y8 => intro w hSw; (try dsimp only at hSw); go_simp; all_goals first | with_reducible rfl | rw [if_neg (by omega)]
    try simp only [Act.put, List.getElem_toArray, List.getElem_cons_succ, List.getElem_cons_zero, List.getElem?_toArray, List.getElem?_cons_succ, List.getElem?_cons_zero, List.setIfInBounds_toArray, List.set_cons_zero, List.set_cons_succ]
    refine wpAnyH_take (i := 7) (v := ?v9) rfl (by kernel_rfl) (by kernel_rfl) (by kernel_rfl) (fun _ _ _ h => h) (Or.inl ⟨by rfl, ?y9⟩) (by assumption) ?_
    case y9 => intro w hSw; (try dsimp only at hSw); go_simp; all_goals first | with_reducible rfl | rw [if_neg (by omega)]
    try simp only [Act.put, List.getElem_toArray, List.getElem_cons_succ, List.getElem_cons_zero, List.getElem?_toArray, List.getElem?_cons_succ, List.getElem?_cons_zero, List.setIfInBounds_toArray, List.set_cons_zero, List.set_cons_succ]
    refine wpAnyH_ready (rs := [10]) (by kernel_rfl) (by simp) ?_
    refine AllReadyH.cons rfl (fun K hK => ?_) AllReadyH.nil
    go_simp
    (go_at_call 15; with_reducible refine (hrm _).mono ?_; rintro e w2 ⟨rfl, m2, rfl⟩)
    go_wp2_with fail
    refine hK.out _ _ ?_ (fun hHeld2 => ?_)
    · exact held5_litk hHeld (by repeat' first | exact Below.refl _ _ | refine below_drewN ?_ _ | refine Below.drew ?_ | refine Below.alloc ?_ (by first | exact Nat.le_refl _ | (simp <;> omega)) _)
    clear hK K hHeld
    try simp only [Act.put, List.getElem_toArray, List.getElem_cons_succ, List.getElem_cons_zero, List.getElem?_toArray, List.getElem?_cons_succ, List.getElem?_cons_zero, List.setIfInBounds_toArray, List.set_cons_zero, List.set_cons_succ]
    refine wpAnyH_any hHeld2 (fun Z hHeld => ?_)
    clear hHeld2
    refine wpAnyH_take (i := 11) (v := ?v10) rfl (by kernel_rfl) (by kernel_rfl) (by kernel_rfl) (fun _ _ _ h => h) (Or.inl ⟨by rfl, ?y10⟩) (by assumption) ?_
    case y10 => intro w hSw; (try dsimp only at hSw); go_simp; all_goals first | with_reducible rfl | rw [if_neg (by omega)]
    try simp only [Act.put, List.getElem_toArray, List.getElem_cons_succ, List.getElem_cons_zero, List.getElem?_toArray, List.getElem?_cons_succ, List.getElem?_cons_zero, List.setIfInBounds_toArray, List.set_cons_zero, List.set_cons_succ]
    refine wpAnyH_take (i := 12) (v := ?v11) rfl (by kernel_rfl) (by kernel_rfl) (by kernel_rfl) (fun _ _ _ h => h) (Or.inl ⟨by rfl, ?y11⟩) (by assumption) ?_
    case y11 => intro w hSw; (try dsimp only at hSw); go_simp; all_goals first | with_reducible rfl | rw [if_neg (by omega)]
    try simp only [Act.put, List.getElem_toArray, List.getElem_cons_succ, List.getElem_cons_zero, List.getElem?_toArray, List.getElem?_cons_succ, List.getElem?_cons_zero, List.setIfInBounds_toArray, List.set_cons_zero, List.set_cons_succ]
    refine wpAnyH_take (i := 13) (v := ?v12) rfl (by kernel_rfl) (by kernel_rfl) (by kernel_rfl) (fun _ _ _ h => h) (Or.inl ⟨by rfl, ?y12⟩) (by assumption) ?_
    case y12 => intro w hSw; (try dsimp only at hSw); go_simp; all_goals first | with_reducible rfl | rw [if_neg (by omega)]
    try simp only [Act.put, List.getElem_toArray, List.getElem_cons_succ, List.getElem_cons_zero, List.getElem?_toArray, List.getElem?_cons_succ, List.getElem?_cons_zero, List.setIfInBounds_toArray, List.set_cons_zero, List.set_cons_succ]
    refine wpAnyH_done (by kernel_rfl) ?_ _
    (go_wp2_with fail; go_ret2; refine ⟨congrArg (fun s => Ending.returned (.tuple #[.string s, .bool true])) ?_, hHeld.2.2.2.2.2.2.1⟩; rw [Hrd.out, Hrm.out]; apply ByteArray.ext; simp [showB, shapesL, wordB, wordsL, alusL, condsL, piece])
  refine AllReadyH.cons rfl (fun K hK => ?_) AllReadyH.nil
  go_simp
  (go_at_call 15; with_reducible refine (hrm _).mono ?_; rintro e w2 ⟨rfl, m2, rfl⟩)
  go_wp2_with fail
  refine hK.out _ _ ?_ (fun hHeld2 => ?_)
  · exact held5_keep hHeld (by repeat' first | exact Below.refl _ _ | refine below_drewN ?_ _ | refine Below.drew ?_ | refine Below.alloc ?_ (by first | exact Nat.le_refl _ | (simp <;> omega)) _)
  clear hK K hHeld
  try simp only [Act.put, List.getElem_toArray, List.getElem_cons_succ, List.getElem_cons_zero, List.getElem?_toArray, List.getElem?_cons_succ, List.getElem?_cons_zero, List.setIfInBounds_toArray, List.set_cons_zero, List.set_cons_succ]
  refine wpAnyH_any hHeld2 (fun Y hHeld => ?_)
  clear hHeld2
  refine wpAnyH_ready (rs := [0]) (by kernel_rfl) (by simp) ?_
  refine AllReadyH.cons rfl (fun K hK => ?_) AllReadyH.nil
  go_simp
  refine hK.out _ _ ?_ (fun hHeld2 => ?_)
  · exact held5_keep hHeld (by repeat' first | exact Below.refl _ _ | refine below_drewN ?_ _ | refine Below.drew ?_ | refine Below.alloc ?_ (by first | exact Nat.le_refl _ | (simp <;> omega)) _)
  clear hK K hHeld
  try simp only [Act.put, List.getElem_toArray, List.getElem_cons_succ, List.getElem_cons_zero, List.getElem?_toArray, List.getElem?_cons_succ, List.getElem?_cons_zero, List.setIfInBounds_toArray, List.set_cons_zero, List.set_cons_succ]
  refine wpAnyH_mono (S' := fun w' => w'.cell? ⟨w.heap.size, 0, none⟩ = some (.int .i64 11) ∧ w'.cell? ⟨w.heap.size, 1, none⟩ = some (.int .i64 d) ∧ w'.cell? ⟨w.heap.size, 2, none⟩ = some (.int .i64 n) ∧ w'.cell? ⟨w.heap.size, 3, none⟩ = some (.int .i64 m) ∧ w'.cell? ⟨w.heap.size, 4, none⟩ = some (.int .i64 1) ∧ w.heap.size < w'.heap.size ∧ Below w.heap.size w w' ∧ w'.cell? ⟨Y.heap.size, 1, none⟩ = some (.string ⟨#[101, 111, 114, 115]⟩) ∧ Y.heap.size < w'.heap.size) (fun _ h => ⟨h.1, h.2.1, h.2.2.1, h.2.2.2.1, h.2.2.2.2.1, h.2.2.2.2.2.1, h.2.2.2.2.2.2.1⟩) ?_
  refine wpAnyH_any (⟨hHeld2.1, hHeld2.2.1, hHeld2.2.2.1, hHeld2.2.2.2.1, hHeld2.2.2.2.2.1, hHeld2.2.2.2.2.2.1, hHeld2.2.2.2.2.2.2, by go_simp, by simp⟩) (fun Z hHeld => ?_)
  clear hHeld2
  refine wpAnyH_take (i := 3) (v := ?v13) rfl (by kernel_rfl) (by kernel_rfl) (by kernel_rfl) (fun _ _ _ h => h) (Or.inl ⟨by rfl, ?y13⟩) (by assumption) ?_
  case y13 => intro w hSw; (try dsimp only at hSw); go_simp; all_goals first | with_reducible rfl | rw [if_neg (by omega)]
  try simp only [Act.put, List.getElem_toArray, List.getElem_cons_succ, List.getElem_cons_zero, List.getElem?_toArray, List.getElem?_cons_succ, List.getElem?_cons_zero, List.setIfInBounds_toArray, List.set_cons_zero, List.set_cons_succ]
  refine wpAnyH_take (i := 4) (v := ?v14) rfl (by kernel_rfl) (by kernel_rfl) (by kernel_rfl) (fun _ _ _ h => h) (Or.inl ⟨by rfl, ?y14⟩) (by assumption) ?_
  case y14 => intro w hSw; (try dsimp only at hSw); go_simp; all_goals first | with_reducible rfl | rw [if_neg (by omega)]
  try simp only [Act.put, List.getElem_toArray, List.getElem_cons_succ, List.getElem_cons_zero, List.getElem?_toArray, List.getElem?_cons_succ, List.getElem?_cons_zero, List.setIfInBounds_toArray, List.set_cons_zero, List.set_cons_succ]
  refine wpAnyH_take (i := 5) (v := ?v15) rfl (by kernel_rfl) (by kernel_rfl) (by kernel_rfl) (fun _ _ _ h => h) (Or.inl ⟨by rfl, ?y15⟩) (by assumption) ?_
  case y15 => intro w hSw; (try dsimp only at hSw); go_simp; all_goals first | with_reducible rfl | rw [if_neg (by omega)]
  try simp only [Act.put, List.getElem_toArray, List.getElem_cons_succ, List.getElem_cons_zero, List.getElem?_toArray, List.getElem?_cons_succ, List.getElem?_cons_zero, List.setIfInBounds_toArray, List.set_cons_zero, List.set_cons_succ]
  refine wpAnyH_take (i := 7) (v := ?v16) rfl (by kernel_rfl) (by kernel_rfl) (by kernel_rfl) (fun _ _ _ h => h) (Or.inl ⟨by rfl, ?y16⟩) (by assumption) ?_
  case y16 => intro w hSw; (try dsimp only at hSw); go_simp; all_goals first | with_reducible rfl | rw [if_neg (by omega)]
  try simp only [Act.put, List.getElem_toArray, List.getElem_cons_succ, List.getElem_cons_zero, List.getElem?_toArray, List.getElem?_cons_succ, List.getElem?_cons_zero, List.setIfInBounds_toArray, List.set_cons_zero, List.set_cons_succ]
  refine wpAnyH_take (i := 11) (v := ?v17) rfl (by kernel_rfl) (by kernel_rfl) (by kernel_rfl) (fun _ _ _ h => h) (Or.inl ⟨by rfl, ?y17⟩) (by assumption) ?_
  case y17 => intro w hSw; (try dsimp only at hSw); go_simp; all_goals first | with_reducible rfl | rw [if_neg (by omega)]
  try simp only [Act.put, List.getElem_toArray, List.getElem_cons_succ, List.getElem_cons_zero, List.getElem?_toArray, List.getElem?_cons_succ, List.getElem?_cons_zero, List.setIfInBounds_toArray, List.set_cons_zero, List.set_cons_succ]
  refine wpAnyH_take (i := 12) (v := ?v18) rfl (by kernel_rfl) (by kernel_rfl) (by kernel_rfl) (fun _ _ _ h => h) (Or.inl ⟨by rfl, ?y18⟩) (by assumption) ?_
  case y18 => intro w hSw; (try dsimp only at hSw); go_simp; all_goals first | with_reducible rfl | rw [if_neg (by omega)]
  try simp only [Act.put, List.getElem_toArray, List.getElem_cons_succ, List.getElem_cons_zero, List.getElem?_toArray, List.getElem?_cons_succ, List.getElem?_cons_zero, List.setIfInBounds_toArray, List.set_cons_zero, List.set_cons_succ]
  refine wpAnyH_take (i := 13) (v := ?v19) rfl (by kernel_rfl) (by kernel_rfl) (by kernel_rfl) (fun _ _ _ h => h) (Or.inl ⟨by rfl, ?y19⟩) (by assumption) ?_
  case y19 => intro w hSw; (try dsimp only at hSw); go_simp; all_goals first | with_reducible rfl | rw [if_neg (by omega)]
  try simp only [Act.put, List.getElem_toArray, List.getElem_cons_succ, List.getElem_cons_zero, List.getElem?_toArray, List.getElem?_cons_succ, List.getElem?_cons_zero, List.setIfInBounds_toArray, List.set_cons_zero, List.set_cons_succ]
  refine wpAnyH_done (by kernel_rfl) ?_ _
  (go_wp2_with fail; go_ret2; refine ⟨congrArg (fun s => Ending.returned (.tuple #[.string s, .bool true])) ?_, hHeld.2.2.2.2.2.2.1⟩; rw [Hrd.out, Hrm.out]; apply ByteArray.ext; simp [showB, shapesL, wordB, wordsL, alusL, condsL, piece])
set_option maxRecDepth 100000 in
set_option maxHeartbeats 8000000 in
theorem rshow_11_2 (d n m imm : Int) (w : World) (hlit : imm = 2) (hc : canB 11 d n m imm = true) (hr : rcanB 11 d n m imm = true) : Calls Tryd.prog 7 #[.agg #[.int .i64 11, .int .i64 d, .int .i64 n, .int .i64 m, .int .i64 imm]] w fun e w' => e = .returned (.tuple #[.string ⟨(showB 11 d n m imm).toArray⟩, .bool true]) ∧ Below w.heap.size w w' := by
  subst hlit
  have hb := can_bounds 11 d n m 2 (by decide) hc
  have hcan : ∀ w, Calls Tryd.prog 14 #[.agg #[.int .i64 11, .int .i64 d, .int .i64 n, .int .i64 m, .int .i64 2]] w fun e w' => e = .returned (.bool true) ∧ Below w.heap.size w w' := fun w => by have := rcan_any 11 (by decide) d n m 2 w; rw [hr] at this; exact this
  clear hr hc
  obtain ⟨rd, hrd, hsrd, Hrd⟩ := reg_str d (by omega) (by omega)
  obtain ⟨rm, hrm, hsrm, Hrm⟩ := reg_str m (by omega) (by omega)
  go_enter Tryd.func7, Tryd.ntmps7
  go_wp2_with fail
  refine (hcan _).mono ?_
  rintro e w1 ⟨rfl, hb1⟩
  have hbx1 := heap_keep (heap_alloc_new w _) hb1
  have hB1 : Below w.heap.size w w1 := (Below.alloc (Below.refl _ w) (Nat.le_refl _) _).trans (hb1.mono (by simp))
  have hc1 := fun j => Lib.cell_of_heap hbx1 j
  go_wp2_with fail
  refine (hrd _).mono ?_
  rintro e w2 ⟨rfl, m1, rfl⟩
  go_wp2_with fail
  have hS0 : (fun w' => w'.cell? ⟨w.heap.size, 0, none⟩ = some (.int .i64 11) ∧ w'.cell? ⟨w.heap.size, 1, none⟩ = some (.int .i64 d) ∧ w'.cell? ⟨w.heap.size, 2, none⟩ = some (.int .i64 n) ∧ w'.cell? ⟨w.heap.size, 3, none⟩ = some (.int .i64 m) ∧ w'.cell? ⟨w.heap.size, 4, none⟩ = some (.int .i64 2) ∧ w.heap.size < w'.heap.size ∧ Below w.heap.size w w') (w1.drewN m1) := ⟨hc1 0, hc1 1, hc1 2, hc1 3, hc1 4, (Array.getElem?_eq_some_iff.1 hbx1).1, below_drewN hB1 m1⟩
  generalize w1.drewN m1 = W at *


  have HS := Lib.hid hS0

  obtain ⟨k0, k1, k2, k3, k4, hlt, -⟩ := hS0
  refine wp_region_held_drew (S := fun w' => w'.cell? ⟨w.heap.size, 0, none⟩ = some (.int .i64 11) ∧ w'.cell? ⟨w.heap.size, 1, none⟩ = some (.int .i64 d) ∧ w'.cell? ⟨w.heap.size, 2, none⟩ = some (.int .i64 n) ∧ w'.cell? ⟨w.heap.size, 3, none⟩ = some (.int .i64 m) ∧ w'.cell? ⟨w.heap.size, 4, none⟩ = some (.int .i64 2) ∧ w.heap.size < w'.heap.size ∧ Below w.heap.size w w') (by kernel_rfl) (held5_keep HS.out ((Below.refl _ _).drew)) (fun hHeld2 => ?_)
  refine wpAnyH_any hHeld2 (fun Y hHeld => ?_)
  clear hHeld2
  refine wpAnyH_take (i := 1) (v := ?v1) rfl (by kernel_rfl) (by kernel_rfl) (by kernel_rfl) (fun _ _ _ h => h) (Or.inl ⟨by rfl, ?y1⟩) (by assumption) ?_
  case y1 => intro w hSw; (try dsimp only at hSw); go_simp; all_goals first | with_reducible rfl | rw [if_neg (by omega)]
  try simp only [Act.put, List.getElem_toArray, List.getElem_cons_succ, List.getElem_cons_zero, List.getElem?_toArray, List.getElem?_cons_succ, List.getElem?_cons_zero, List.setIfInBounds_toArray, List.set_cons_zero, List.set_cons_succ]
  refine wpAnyH_take (i := 2) (v := ?v2) rfl (by kernel_rfl) (by kernel_rfl) (by kernel_rfl) (fun _ _ _ h => h) (Or.inl ⟨by rfl, ?y2⟩) (by assumption) ?_
  case y2 => intro w hSw; (try dsimp only at hSw); go_simp; all_goals first | with_reducible rfl | rw [if_neg (by omega)]
  try simp only [Act.put, List.getElem_toArray, List.getElem_cons_succ, List.getElem_cons_zero, List.getElem?_toArray, List.getElem?_cons_succ, List.getElem?_cons_zero, List.setIfInBounds_toArray, List.set_cons_zero, List.set_cons_succ]
  refine wpAnyH_take (i := 6) (v := ?v3) rfl (by kernel_rfl) (by kernel_rfl) (by kernel_rfl) (fun _ _ _ h => h) (Or.inl ⟨by rfl, ?y3⟩) (by assumption) ?_
  case y3 => intro w hSw; (try dsimp only at hSw); go_simp; all_goals first | with_reducible rfl | rw [if_neg (by omega)]
  try simp only [Act.put, List.getElem_toArray, List.getElem_cons_succ, List.getElem_cons_zero, List.getElem?_toArray, List.getElem?_cons_succ, List.getElem?_cons_zero, List.setIfInBounds_toArray, List.set_cons_zero, List.set_cons_succ]
  refine wpAnyH_take (i := 8) (v := ?v4) rfl (by kernel_rfl) (by kernel_rfl) (by kernel_rfl) (fun _ _ _ h => h) (Or.inl ⟨by rfl, ?y4⟩) (by assumption) ?_
  case y4 => intro w hSw; (try dsimp only at hSw); go_simp; all_goals first | with_reducible rfl | rw [if_neg (by omega)]
  try simp only [Act.put, List.getElem_toArray, List.getElem_cons_succ, List.getElem_cons_zero, List.getElem?_toArray, List.getElem?_cons_succ, List.getElem?_cons_zero, List.setIfInBounds_toArray, List.set_cons_zero, List.set_cons_succ]
  refine wpAnyH_take (i := 9) (v := ?v5) rfl (by kernel_rfl) (by kernel_rfl) (by kernel_rfl) (fun _ _ _ h => h) (Or.inl ⟨by rfl, ?y5⟩) (by assumption) ?_
  case y5 => intro w hSw; (try dsimp only at hSw); go_simp; all_goals first | with_reducible rfl | rw [if_neg (by omega)]
  try simp only [Act.put, List.getElem_toArray, List.getElem_cons_succ, List.getElem_cons_zero, List.getElem?_toArray, List.getElem?_cons_succ, List.getElem?_cons_zero, List.setIfInBounds_toArray, List.set_cons_zero, List.set_cons_succ]
  refine wpAnyH_ready (rs := [0, 10]) (by kernel_rfl) (by simp) ?_
  refine AllReadyH.cons rfl (fun K hK => ?_) ?_
  · skip
    go_simp
    refine hK.out _ _ ?_ (fun hHeld2 => ?_)
    · exact held5_keep hHeld (by repeat' first | exact Below.refl _ _ | refine below_drewN ?_ _ | refine Below.drew ?_ | refine Below.alloc ?_ (by first | exact Nat.le_refl _ | (simp <;> omega)) _)
    clear hK K hHeld
    try simp only [Act.put, List.getElem_toArray, List.getElem_cons_succ, List.getElem_cons_zero, List.getElem?_toArray, List.getElem?_cons_succ, List.getElem?_cons_zero, List.setIfInBounds_toArray, List.set_cons_zero, List.set_cons_succ]
    refine wpAnyH_mono (S' := fun w' => w'.cell? ⟨w.heap.size, 0, none⟩ = some (.int .i64 11) ∧ w'.cell? ⟨w.heap.size, 1, none⟩ = some (.int .i64 d) ∧ w'.cell? ⟨w.heap.size, 2, none⟩ = some (.int .i64 n) ∧ w'.cell? ⟨w.heap.size, 3, none⟩ = some (.int .i64 m) ∧ w'.cell? ⟨w.heap.size, 4, none⟩ = some (.int .i64 2) ∧ w.heap.size < w'.heap.size ∧ Below w.heap.size w w' ∧ w'.cell? ⟨Y.heap.size, 2, none⟩ = some (.string ⟨#[108, 115, 108, 115]⟩) ∧ Y.heap.size < w'.heap.size) (fun _ h => ⟨h.1, h.2.1, h.2.2.1, h.2.2.2.1, h.2.2.2.2.1, h.2.2.2.2.2.1, h.2.2.2.2.2.2.1⟩) ?_
    refine wpAnyH_any (⟨hHeld2.1, hHeld2.2.1, hHeld2.2.2.1, hHeld2.2.2.2.1, hHeld2.2.2.2.2.1, hHeld2.2.2.2.2.2.1, hHeld2.2.2.2.2.2.2, by go_simp, by simp⟩) (fun Z hHeld => ?_)
    clear hHeld2
    refine wpAnyH_take (i := 3) (v := ?v6) rfl (by kernel_rfl) (by kernel_rfl) (by kernel_rfl) (fun _ _ _ h => h) (Or.inl ⟨by rfl, ?y6⟩) (by assumption) ?_
    case y6 => intro w hSw; (try dsimp only at hSw); go_simp; all_goals first | with_reducible rfl | rw [if_neg (by omega)]
    try simp only [Act.put, List.getElem_toArray, List.getElem_cons_succ, List.getElem_cons_zero, List.getElem?_toArray, List.getElem?_cons_succ, List.getElem?_cons_zero, List.setIfInBounds_toArray, List.set_cons_zero, List.set_cons_succ]
    refine wpAnyH_take (i := 4) (v := ?v7) rfl (by kernel_rfl) (by kernel_rfl) (by kernel_rfl) (fun _ _ _ h => h) (Or.inl ⟨by rfl, ?y7⟩) (by assumption) ?_
    case y7 => intro w hSw; (try dsimp only at hSw); go_simp; all_goals first | with_reducible rfl | rw [if_neg (by omega)]
    try simp only [Act.put, List.getElem_toArray, List.getElem_cons_succ, List.getElem_cons_zero, List.getElem?_toArray, List.getElem?_cons_succ, List.getElem?_cons_zero, List.setIfInBounds_toArray, List.set_cons_zero, List.set_cons_succ]
    refine wpAnyH_take (i := 5) (v := ?v8) rfl (by kernel_rfl) (by kernel_rfl) (by kernel_rfl) (fun _ _ _ h => h) (Or.inl ⟨by rfl, ?y8⟩) (by assumption) ?_
    case y8 => intro w hSw; (try dsimp only at hSw); go_simp; all_goals first | with_reducible rfl | rw [if_neg (by omega)]
    try simp only [Act.put, List.getElem_toArray, List.getElem_cons_succ, List.getElem_cons_zero, List.getElem?_toArray, List.getElem?_cons_succ, List.getElem?_cons_zero, List.setIfInBounds_toArray, List.set_cons_zero, List.set_cons_succ]
    refine wpAnyH_take (i := 7) (v := ?v9) rfl (by kernel_rfl) (by kernel_rfl) (by kernel_rfl) (fun _ _ _ h => h) (Or.inl ⟨by rfl, ?y9⟩) (by assumption) ?_
    case y9 => intro w hSw; (try dsimp only at hSw); go_simp; all_goals first | with_reducible rfl | rw [if_neg (by omega)]
    try simp only [Act.put, List.getElem_toArray, List.getElem_cons_succ, List.getElem_cons_zero, List.getElem?_toArray, List.getElem?_cons_succ, List.getElem?_cons_zero, List.setIfInBounds_toArray, List.set_cons_zero, List.set_cons_succ]
    refine wpAnyH_ready (rs := [10]) (by kernel_rfl) (by simp) ?_
    refine AllReadyH.cons rfl (fun K hK => ?_) AllReadyH.nil
    go_simp
    (go_at_call 15; with_reducible refine (hrm _).mono ?_; rintro e w2 ⟨rfl, m2, rfl⟩)
    go_wp2_with fail
    refine hK.out _ _ ?_ (fun hHeld2 => ?_)
    · exact held5_litk hHeld (by repeat' first | exact Below.refl _ _ | refine below_drewN ?_ _ | refine Below.drew ?_ | refine Below.alloc ?_ (by first | exact Nat.le_refl _ | (simp <;> omega)) _)
    clear hK K hHeld
    try simp only [Act.put, List.getElem_toArray, List.getElem_cons_succ, List.getElem_cons_zero, List.getElem?_toArray, List.getElem?_cons_succ, List.getElem?_cons_zero, List.setIfInBounds_toArray, List.set_cons_zero, List.set_cons_succ]
    refine wpAnyH_any hHeld2 (fun Z hHeld => ?_)
    clear hHeld2
    refine wpAnyH_take (i := 11) (v := ?v10) rfl (by kernel_rfl) (by kernel_rfl) (by kernel_rfl) (fun _ _ _ h => h) (Or.inl ⟨by rfl, ?y10⟩) (by assumption) ?_
    case y10 => intro w hSw; (try dsimp only at hSw); go_simp; all_goals first | with_reducible rfl | rw [if_neg (by omega)]
    try simp only [Act.put, List.getElem_toArray, List.getElem_cons_succ, List.getElem_cons_zero, List.getElem?_toArray, List.getElem?_cons_succ, List.getElem?_cons_zero, List.setIfInBounds_toArray, List.set_cons_zero, List.set_cons_succ]
    refine wpAnyH_take (i := 12) (v := ?v11) rfl (by kernel_rfl) (by kernel_rfl) (by kernel_rfl) (fun _ _ _ h => h) (Or.inl ⟨by rfl, ?y11⟩) (by assumption) ?_
    case y11 => intro w hSw; (try dsimp only at hSw); go_simp; all_goals first | with_reducible rfl | rw [if_neg (by omega)]
    try simp only [Act.put, List.getElem_toArray, List.getElem_cons_succ, List.getElem_cons_zero, List.getElem?_toArray, List.getElem?_cons_succ, List.getElem?_cons_zero, List.setIfInBounds_toArray, List.set_cons_zero, List.set_cons_succ]
    refine wpAnyH_take (i := 13) (v := ?v12) rfl (by kernel_rfl) (by kernel_rfl) (by kernel_rfl) (fun _ _ _ h => h) (Or.inl ⟨by rfl, ?y12⟩) (by assumption) ?_
    case y12 => intro w hSw; (try dsimp only at hSw); go_simp; all_goals first | with_reducible rfl | rw [if_neg (by omega)]
    try simp only [Act.put, List.getElem_toArray, List.getElem_cons_succ, List.getElem_cons_zero, List.getElem?_toArray, List.getElem?_cons_succ, List.getElem?_cons_zero, List.setIfInBounds_toArray, List.set_cons_zero, List.set_cons_succ]
    refine wpAnyH_done (by kernel_rfl) ?_ _
    (go_wp2_with fail; go_ret2; refine ⟨congrArg (fun s => Ending.returned (.tuple #[.string s, .bool true])) ?_, hHeld.2.2.2.2.2.2.1⟩; rw [Hrd.out, Hrm.out]; apply ByteArray.ext; simp [showB, shapesL, wordB, wordsL, alusL, condsL, piece])
  refine AllReadyH.cons rfl (fun K hK => ?_) AllReadyH.nil
  go_simp
  (go_at_call 15; with_reducible refine (hrm _).mono ?_; rintro e w2 ⟨rfl, m2, rfl⟩)
  go_wp2_with fail
  refine hK.out _ _ ?_ (fun hHeld2 => ?_)
  · exact held5_keep hHeld (by repeat' first | exact Below.refl _ _ | refine below_drewN ?_ _ | refine Below.drew ?_ | refine Below.alloc ?_ (by first | exact Nat.le_refl _ | (simp <;> omega)) _)
  clear hK K hHeld
  try simp only [Act.put, List.getElem_toArray, List.getElem_cons_succ, List.getElem_cons_zero, List.getElem?_toArray, List.getElem?_cons_succ, List.getElem?_cons_zero, List.setIfInBounds_toArray, List.set_cons_zero, List.set_cons_succ]
  refine wpAnyH_any hHeld2 (fun Y hHeld => ?_)
  clear hHeld2
  refine wpAnyH_ready (rs := [0]) (by kernel_rfl) (by simp) ?_
  refine AllReadyH.cons rfl (fun K hK => ?_) AllReadyH.nil
  go_simp
  refine hK.out _ _ ?_ (fun hHeld2 => ?_)
  · exact held5_keep hHeld (by repeat' first | exact Below.refl _ _ | refine below_drewN ?_ _ | refine Below.drew ?_ | refine Below.alloc ?_ (by first | exact Nat.le_refl _ | (simp <;> omega)) _)
  clear hK K hHeld
  try simp only [Act.put, List.getElem_toArray, List.getElem_cons_succ, List.getElem_cons_zero, List.getElem?_toArray, List.getElem?_cons_succ, List.getElem?_cons_zero, List.setIfInBounds_toArray, List.set_cons_zero, List.set_cons_succ]
  refine wpAnyH_mono (S' := fun w' => w'.cell? ⟨w.heap.size, 0, none⟩ = some (.int .i64 11) ∧ w'.cell? ⟨w.heap.size, 1, none⟩ = some (.int .i64 d) ∧ w'.cell? ⟨w.heap.size, 2, none⟩ = some (.int .i64 n) ∧ w'.cell? ⟨w.heap.size, 3, none⟩ = some (.int .i64 m) ∧ w'.cell? ⟨w.heap.size, 4, none⟩ = some (.int .i64 2) ∧ w.heap.size < w'.heap.size ∧ Below w.heap.size w w' ∧ w'.cell? ⟨Y.heap.size, 2, none⟩ = some (.string ⟨#[108, 115, 108, 115]⟩) ∧ Y.heap.size < w'.heap.size) (fun _ h => ⟨h.1, h.2.1, h.2.2.1, h.2.2.2.1, h.2.2.2.2.1, h.2.2.2.2.2.1, h.2.2.2.2.2.2.1⟩) ?_
  refine wpAnyH_any (⟨hHeld2.1, hHeld2.2.1, hHeld2.2.2.1, hHeld2.2.2.2.1, hHeld2.2.2.2.2.1, hHeld2.2.2.2.2.2.1, hHeld2.2.2.2.2.2.2, by go_simp, by simp⟩) (fun Z hHeld => ?_)
  clear hHeld2
  refine wpAnyH_take (i := 3) (v := ?v13) rfl (by kernel_rfl) (by kernel_rfl) (by kernel_rfl) (fun _ _ _ h => h) (Or.inl ⟨by rfl, ?y13⟩) (by assumption) ?_
  case y13 => intro w hSw; (try dsimp only at hSw); go_simp; all_goals first | with_reducible rfl | rw [if_neg (by omega)]
  try simp only [Act.put, List.getElem_toArray, List.getElem_cons_succ, List.getElem_cons_zero, List.getElem?_toArray, List.getElem?_cons_succ, List.getElem?_cons_zero, List.setIfInBounds_toArray, List.set_cons_zero, List.set_cons_succ]
  refine wpAnyH_take (i := 4) (v := ?v14) rfl (by kernel_rfl) (by kernel_rfl) (by kernel_rfl) (fun _ _ _ h => h) (Or.inl ⟨by rfl, ?y14⟩) (by assumption) ?_
  case y14 => intro w hSw; (try dsimp only at hSw); go_simp; all_goals first | with_reducible rfl | rw [if_neg (by omega)]
  try simp only [Act.put, List.getElem_toArray, List.getElem_cons_succ, List.getElem_cons_zero, List.getElem?_toArray, List.getElem?_cons_succ, List.getElem?_cons_zero, List.setIfInBounds_toArray, List.set_cons_zero, List.set_cons_succ]
  refine wpAnyH_take (i := 5) (v := ?v15) rfl (by kernel_rfl) (by kernel_rfl) (by kernel_rfl) (fun _ _ _ h => h) (Or.inl ⟨by rfl, ?y15⟩) (by assumption) ?_
  case y15 => intro w hSw; (try dsimp only at hSw); go_simp; all_goals first | with_reducible rfl | rw [if_neg (by omega)]
  try simp only [Act.put, List.getElem_toArray, List.getElem_cons_succ, List.getElem_cons_zero, List.getElem?_toArray, List.getElem?_cons_succ, List.getElem?_cons_zero, List.setIfInBounds_toArray, List.set_cons_zero, List.set_cons_succ]
  refine wpAnyH_take (i := 7) (v := ?v16) rfl (by kernel_rfl) (by kernel_rfl) (by kernel_rfl) (fun _ _ _ h => h) (Or.inl ⟨by rfl, ?y16⟩) (by assumption) ?_
  case y16 => intro w hSw; (try dsimp only at hSw); go_simp; all_goals first | with_reducible rfl | rw [if_neg (by omega)]
  try simp only [Act.put, List.getElem_toArray, List.getElem_cons_succ, List.getElem_cons_zero, List.getElem?_toArray, List.getElem?_cons_succ, List.getElem?_cons_zero, List.setIfInBounds_toArray, List.set_cons_zero, List.set_cons_succ]
  refine wpAnyH_take (i := 11) (v := ?v17) rfl (by kernel_rfl) (by kernel_rfl) (by kernel_rfl) (fun _ _ _ h => h) (Or.inl ⟨by rfl, ?y17⟩) (by assumption) ?_
  case y17 => intro w hSw; (try dsimp only at hSw); go_simp; all_goals first | with_reducible rfl | rw [if_neg (by omega)]
  try simp only [Act.put, List.getElem_toArray, List.getElem_cons_succ, List.getElem_cons_zero, List.getElem?_toArray, List.getElem?_cons_succ, List.getElem?_cons_zero, List.setIfInBounds_toArray, List.set_cons_zero, List.set_cons_succ]
  refine wpAnyH_take (i := 12) (v := ?v18) rfl (by kernel_rfl) (by kernel_rfl) (by kernel_rfl) (fun _ _ _ h => h) (Or.inl ⟨by rfl, ?y18⟩) (by assumption) ?_
  case y18 => intro w hSw; (try dsimp only at hSw); go_simp; all_goals first | with_reducible rfl | rw [if_neg (by omega)]
  try simp only [Act.put, List.getElem_toArray, List.getElem_cons_succ, List.getElem_cons_zero, List.getElem?_toArray, List.getElem?_cons_succ, List.getElem?_cons_zero, List.setIfInBounds_toArray, List.set_cons_zero, List.set_cons_succ]
  refine wpAnyH_take (i := 13) (v := ?v19) rfl (by kernel_rfl) (by kernel_rfl) (by kernel_rfl) (fun _ _ _ h => h) (Or.inl ⟨by rfl, ?y19⟩) (by assumption) ?_
  case y19 => intro w hSw; (try dsimp only at hSw); go_simp; all_goals first | with_reducible rfl | rw [if_neg (by omega)]
  try simp only [Act.put, List.getElem_toArray, List.getElem_cons_succ, List.getElem_cons_zero, List.getElem?_toArray, List.getElem?_cons_succ, List.getElem?_cons_zero, List.setIfInBounds_toArray, List.set_cons_zero, List.set_cons_succ]
  refine wpAnyH_done (by kernel_rfl) ?_ _
  (go_wp2_with fail; go_ret2; refine ⟨congrArg (fun s => Ending.returned (.tuple #[.string s, .bool true])) ?_, hHeld.2.2.2.2.2.2.1⟩; rw [Hrd.out, Hrm.out]; apply ByteArray.ext; simp [showB, shapesL, wordB, wordsL, alusL, condsL, piece])
set_option maxRecDepth 100000 in
set_option maxHeartbeats 8000000 in
theorem rshow_11_3 (d n m imm : Int) (w : World) (hlit : imm = 3) (hc : canB 11 d n m imm = true) (hr : rcanB 11 d n m imm = true) : Calls Tryd.prog 7 #[.agg #[.int .i64 11, .int .i64 d, .int .i64 n, .int .i64 m, .int .i64 imm]] w fun e w' => e = .returned (.tuple #[.string ⟨(showB 11 d n m imm).toArray⟩, .bool true]) ∧ Below w.heap.size w w' := by
  subst hlit
  have hb := can_bounds 11 d n m 3 (by decide) hc
  have hcan : ∀ w, Calls Tryd.prog 14 #[.agg #[.int .i64 11, .int .i64 d, .int .i64 n, .int .i64 m, .int .i64 3]] w fun e w' => e = .returned (.bool true) ∧ Below w.heap.size w w' := fun w => by have := rcan_any 11 (by decide) d n m 3 w; rw [hr] at this; exact this
  clear hr hc
  obtain ⟨rd, hrd, hsrd, Hrd⟩ := reg_str d (by omega) (by omega)
  obtain ⟨rm, hrm, hsrm, Hrm⟩ := reg_str m (by omega) (by omega)
  go_enter Tryd.func7, Tryd.ntmps7
  go_wp2_with fail
  refine (hcan _).mono ?_
  rintro e w1 ⟨rfl, hb1⟩
  have hbx1 := heap_keep (heap_alloc_new w _) hb1
  have hB1 : Below w.heap.size w w1 := (Below.alloc (Below.refl _ w) (Nat.le_refl _) _).trans (hb1.mono (by simp))
  have hc1 := fun j => Lib.cell_of_heap hbx1 j
  go_wp2_with fail
  refine (hrd _).mono ?_
  rintro e w2 ⟨rfl, m1, rfl⟩
  go_wp2_with fail
  have hS0 : (fun w' => w'.cell? ⟨w.heap.size, 0, none⟩ = some (.int .i64 11) ∧ w'.cell? ⟨w.heap.size, 1, none⟩ = some (.int .i64 d) ∧ w'.cell? ⟨w.heap.size, 2, none⟩ = some (.int .i64 n) ∧ w'.cell? ⟨w.heap.size, 3, none⟩ = some (.int .i64 m) ∧ w'.cell? ⟨w.heap.size, 4, none⟩ = some (.int .i64 3) ∧ w.heap.size < w'.heap.size ∧ Below w.heap.size w w') (w1.drewN m1) := ⟨hc1 0, hc1 1, hc1 2, hc1 3, hc1 4, (Array.getElem?_eq_some_iff.1 hbx1).1, below_drewN hB1 m1⟩
  generalize w1.drewN m1 = W at *


  have HS := Lib.hid hS0

  obtain ⟨k0, k1, k2, k3, k4, hlt, -⟩ := hS0
  refine wp_region_held_drew (S := fun w' => w'.cell? ⟨w.heap.size, 0, none⟩ = some (.int .i64 11) ∧ w'.cell? ⟨w.heap.size, 1, none⟩ = some (.int .i64 d) ∧ w'.cell? ⟨w.heap.size, 2, none⟩ = some (.int .i64 n) ∧ w'.cell? ⟨w.heap.size, 3, none⟩ = some (.int .i64 m) ∧ w'.cell? ⟨w.heap.size, 4, none⟩ = some (.int .i64 3) ∧ w.heap.size < w'.heap.size ∧ Below w.heap.size w w') (by kernel_rfl) (held5_keep HS.out ((Below.refl _ _).drew)) (fun hHeld2 => ?_)
  refine wpAnyH_any hHeld2 (fun Y hHeld => ?_)
  clear hHeld2
  refine wpAnyH_take (i := 1) (v := ?v1) rfl (by kernel_rfl) (by kernel_rfl) (by kernel_rfl) (fun _ _ _ h => h) (Or.inl ⟨by rfl, ?y1⟩) (by assumption) ?_
  case y1 => intro w hSw; (try dsimp only at hSw); go_simp; all_goals first | with_reducible rfl | rw [if_neg (by omega)]
  try simp only [Act.put, List.getElem_toArray, List.getElem_cons_succ, List.getElem_cons_zero, List.getElem?_toArray, List.getElem?_cons_succ, List.getElem?_cons_zero, List.setIfInBounds_toArray, List.set_cons_zero, List.set_cons_succ]
  refine wpAnyH_take (i := 2) (v := ?v2) rfl (by kernel_rfl) (by kernel_rfl) (by kernel_rfl) (fun _ _ _ h => h) (Or.inl ⟨by rfl, ?y2⟩) (by assumption) ?_
  case y2 => intro w hSw; (try dsimp only at hSw); go_simp; all_goals first | with_reducible rfl | rw [if_neg (by omega)]
  try simp only [Act.put, List.getElem_toArray, List.getElem_cons_succ, List.getElem_cons_zero, List.getElem?_toArray, List.getElem?_cons_succ, List.getElem?_cons_zero, List.setIfInBounds_toArray, List.set_cons_zero, List.set_cons_succ]
  refine wpAnyH_take (i := 6) (v := ?v3) rfl (by kernel_rfl) (by kernel_rfl) (by kernel_rfl) (fun _ _ _ h => h) (Or.inl ⟨by rfl, ?y3⟩) (by assumption) ?_
  case y3 => intro w hSw; (try dsimp only at hSw); go_simp; all_goals first | with_reducible rfl | rw [if_neg (by omega)]
  try simp only [Act.put, List.getElem_toArray, List.getElem_cons_succ, List.getElem_cons_zero, List.getElem?_toArray, List.getElem?_cons_succ, List.getElem?_cons_zero, List.setIfInBounds_toArray, List.set_cons_zero, List.set_cons_succ]
  refine wpAnyH_take (i := 8) (v := ?v4) rfl (by kernel_rfl) (by kernel_rfl) (by kernel_rfl) (fun _ _ _ h => h) (Or.inl ⟨by rfl, ?y4⟩) (by assumption) ?_
  case y4 => intro w hSw; (try dsimp only at hSw); go_simp; all_goals first | with_reducible rfl | rw [if_neg (by omega)]
  try simp only [Act.put, List.getElem_toArray, List.getElem_cons_succ, List.getElem_cons_zero, List.getElem?_toArray, List.getElem?_cons_succ, List.getElem?_cons_zero, List.setIfInBounds_toArray, List.set_cons_zero, List.set_cons_succ]
  refine wpAnyH_take (i := 9) (v := ?v5) rfl (by kernel_rfl) (by kernel_rfl) (by kernel_rfl) (fun _ _ _ h => h) (Or.inl ⟨by rfl, ?y5⟩) (by assumption) ?_
  case y5 => intro w hSw; (try dsimp only at hSw); go_simp; all_goals first | with_reducible rfl | rw [if_neg (by omega)]
  try simp only [Act.put, List.getElem_toArray, List.getElem_cons_succ, List.getElem_cons_zero, List.getElem?_toArray, List.getElem?_cons_succ, List.getElem?_cons_zero, List.setIfInBounds_toArray, List.set_cons_zero, List.set_cons_succ]
  refine wpAnyH_ready (rs := [0, 10]) (by kernel_rfl) (by simp) ?_
  refine AllReadyH.cons rfl (fun K hK => ?_) ?_
  · skip
    go_simp
    refine hK.out _ _ ?_ (fun hHeld2 => ?_)
    · exact held5_keep hHeld (by repeat' first | exact Below.refl _ _ | refine below_drewN ?_ _ | refine Below.drew ?_ | refine Below.alloc ?_ (by first | exact Nat.le_refl _ | (simp <;> omega)) _)
    clear hK K hHeld
    try simp only [Act.put, List.getElem_toArray, List.getElem_cons_succ, List.getElem_cons_zero, List.getElem?_toArray, List.getElem?_cons_succ, List.getElem?_cons_zero, List.setIfInBounds_toArray, List.set_cons_zero, List.set_cons_succ]
    refine wpAnyH_mono (S' := fun w' => w'.cell? ⟨w.heap.size, 0, none⟩ = some (.int .i64 11) ∧ w'.cell? ⟨w.heap.size, 1, none⟩ = some (.int .i64 d) ∧ w'.cell? ⟨w.heap.size, 2, none⟩ = some (.int .i64 n) ∧ w'.cell? ⟨w.heap.size, 3, none⟩ = some (.int .i64 m) ∧ w'.cell? ⟨w.heap.size, 4, none⟩ = some (.int .i64 3) ∧ w.heap.size < w'.heap.size ∧ Below w.heap.size w w' ∧ w'.cell? ⟨Y.heap.size, 3, none⟩ = some (.string ⟨#[108, 115, 114, 115]⟩) ∧ Y.heap.size < w'.heap.size) (fun _ h => ⟨h.1, h.2.1, h.2.2.1, h.2.2.2.1, h.2.2.2.2.1, h.2.2.2.2.2.1, h.2.2.2.2.2.2.1⟩) ?_
    refine wpAnyH_any (⟨hHeld2.1, hHeld2.2.1, hHeld2.2.2.1, hHeld2.2.2.2.1, hHeld2.2.2.2.2.1, hHeld2.2.2.2.2.2.1, hHeld2.2.2.2.2.2.2, by go_simp, by simp⟩) (fun Z hHeld => ?_)
    clear hHeld2
    refine wpAnyH_take (i := 3) (v := ?v6) rfl (by kernel_rfl) (by kernel_rfl) (by kernel_rfl) (fun _ _ _ h => h) (Or.inl ⟨by rfl, ?y6⟩) (by assumption) ?_
    case y6 => intro w hSw; (try dsimp only at hSw); go_simp; all_goals first | with_reducible rfl | rw [if_neg (by omega)]
    try simp only [Act.put, List.getElem_toArray, List.getElem_cons_succ, List.getElem_cons_zero, List.getElem?_toArray, List.getElem?_cons_succ, List.getElem?_cons_zero, List.setIfInBounds_toArray, List.set_cons_zero, List.set_cons_succ]
    refine wpAnyH_take (i := 4) (v := ?v7) rfl (by kernel_rfl) (by kernel_rfl) (by kernel_rfl) (fun _ _ _ h => h) (Or.inl ⟨by rfl, ?y7⟩) (by assumption) ?_
    case y7 => intro w hSw; (try dsimp only at hSw); go_simp; all_goals first | with_reducible rfl | rw [if_neg (by omega)]
    try simp only [Act.put, List.getElem_toArray, List.getElem_cons_succ, List.getElem_cons_zero, List.getElem?_toArray, List.getElem?_cons_succ, List.getElem?_cons_zero, List.setIfInBounds_toArray, List.set_cons_zero, List.set_cons_succ]
    refine wpAnyH_take (i := 5) (v := ?v8) rfl (by kernel_rfl) (by kernel_rfl) (by kernel_rfl) (fun _ _ _ h => h) (Or.inl ⟨by rfl, ?y8⟩) (by assumption) ?_
    case y8 => intro w hSw; (try dsimp only at hSw); go_simp; all_goals first | with_reducible rfl | rw [if_neg (by omega)]
    try simp only [Act.put, List.getElem_toArray, List.getElem_cons_succ, List.getElem_cons_zero, List.getElem?_toArray, List.getElem?_cons_succ, List.getElem?_cons_zero, List.setIfInBounds_toArray, List.set_cons_zero, List.set_cons_succ]
    refine wpAnyH_take (i := 7) (v := ?v9) rfl (by kernel_rfl) (by kernel_rfl) (by kernel_rfl) (fun _ _ _ h => h) (Or.inl ⟨by rfl, ?y9⟩) (by assumption) ?_
    case y9 => intro w hSw; (try dsimp only at hSw); go_simp; all_goals first | with_reducible rfl | rw [if_neg (by omega)]
    try simp only [Act.put, List.getElem_toArray, List.getElem_cons_succ, List.getElem_cons_zero, List.getElem?_toArray, List.getElem?_cons_succ, List.getElem?_cons_zero, List.setIfInBounds_toArray, List.set_cons_zero, List.set_cons_succ]
    refine wpAnyH_ready (rs := [10]) (by kernel_rfl) (by simp) ?_
    refine AllReadyH.cons rfl (fun K hK => ?_) AllReadyH.nil
    go_simp
    (go_at_call 15; with_reducible refine (hrm _).mono ?_; rintro e w2 ⟨rfl, m2, rfl⟩)
    go_wp2_with fail
    refine hK.out _ _ ?_ (fun hHeld2 => ?_)
    · exact held5_litk hHeld (by repeat' first | exact Below.refl _ _ | refine below_drewN ?_ _ | refine Below.drew ?_ | refine Below.alloc ?_ (by first | exact Nat.le_refl _ | (simp <;> omega)) _)
    clear hK K hHeld
    try simp only [Act.put, List.getElem_toArray, List.getElem_cons_succ, List.getElem_cons_zero, List.getElem?_toArray, List.getElem?_cons_succ, List.getElem?_cons_zero, List.setIfInBounds_toArray, List.set_cons_zero, List.set_cons_succ]
    refine wpAnyH_any hHeld2 (fun Z hHeld => ?_)
    clear hHeld2
    refine wpAnyH_take (i := 11) (v := ?v10) rfl (by kernel_rfl) (by kernel_rfl) (by kernel_rfl) (fun _ _ _ h => h) (Or.inl ⟨by rfl, ?y10⟩) (by assumption) ?_
    case y10 => intro w hSw; (try dsimp only at hSw); go_simp; all_goals first | with_reducible rfl | rw [if_neg (by omega)]
    try simp only [Act.put, List.getElem_toArray, List.getElem_cons_succ, List.getElem_cons_zero, List.getElem?_toArray, List.getElem?_cons_succ, List.getElem?_cons_zero, List.setIfInBounds_toArray, List.set_cons_zero, List.set_cons_succ]
    refine wpAnyH_take (i := 12) (v := ?v11) rfl (by kernel_rfl) (by kernel_rfl) (by kernel_rfl) (fun _ _ _ h => h) (Or.inl ⟨by rfl, ?y11⟩) (by assumption) ?_
    case y11 => intro w hSw; (try dsimp only at hSw); go_simp; all_goals first | with_reducible rfl | rw [if_neg (by omega)]
    try simp only [Act.put, List.getElem_toArray, List.getElem_cons_succ, List.getElem_cons_zero, List.getElem?_toArray, List.getElem?_cons_succ, List.getElem?_cons_zero, List.setIfInBounds_toArray, List.set_cons_zero, List.set_cons_succ]
    refine wpAnyH_take (i := 13) (v := ?v12) rfl (by kernel_rfl) (by kernel_rfl) (by kernel_rfl) (fun _ _ _ h => h) (Or.inl ⟨by rfl, ?y12⟩) (by assumption) ?_
    case y12 => intro w hSw; (try dsimp only at hSw); go_simp; all_goals first | with_reducible rfl | rw [if_neg (by omega)]
    try simp only [Act.put, List.getElem_toArray, List.getElem_cons_succ, List.getElem_cons_zero, List.getElem?_toArray, List.getElem?_cons_succ, List.getElem?_cons_zero, List.setIfInBounds_toArray, List.set_cons_zero, List.set_cons_succ]
    refine wpAnyH_done (by kernel_rfl) ?_ _
    (go_wp2_with fail; go_ret2; refine ⟨congrArg (fun s => Ending.returned (.tuple #[.string s, .bool true])) ?_, hHeld.2.2.2.2.2.2.1⟩; rw [Hrd.out, Hrm.out]; apply ByteArray.ext; simp [showB, shapesL, wordB, wordsL, alusL, condsL, piece])
  refine AllReadyH.cons rfl (fun K hK => ?_) AllReadyH.nil
  go_simp
  (go_at_call 15; with_reducible refine (hrm _).mono ?_; rintro e w2 ⟨rfl, m2, rfl⟩)
  go_wp2_with fail
  refine hK.out _ _ ?_ (fun hHeld2 => ?_)
  · exact held5_keep hHeld (by repeat' first | exact Below.refl _ _ | refine below_drewN ?_ _ | refine Below.drew ?_ | refine Below.alloc ?_ (by first | exact Nat.le_refl _ | (simp <;> omega)) _)
  clear hK K hHeld
  try simp only [Act.put, List.getElem_toArray, List.getElem_cons_succ, List.getElem_cons_zero, List.getElem?_toArray, List.getElem?_cons_succ, List.getElem?_cons_zero, List.setIfInBounds_toArray, List.set_cons_zero, List.set_cons_succ]
  refine wpAnyH_any hHeld2 (fun Y hHeld => ?_)
  clear hHeld2
  refine wpAnyH_ready (rs := [0]) (by kernel_rfl) (by simp) ?_
  refine AllReadyH.cons rfl (fun K hK => ?_) AllReadyH.nil
  go_simp
  refine hK.out _ _ ?_ (fun hHeld2 => ?_)
  · exact held5_keep hHeld (by repeat' first | exact Below.refl _ _ | refine below_drewN ?_ _ | refine Below.drew ?_ | refine Below.alloc ?_ (by first | exact Nat.le_refl _ | (simp <;> omega)) _)
  clear hK K hHeld
  try simp only [Act.put, List.getElem_toArray, List.getElem_cons_succ, List.getElem_cons_zero, List.getElem?_toArray, List.getElem?_cons_succ, List.getElem?_cons_zero, List.setIfInBounds_toArray, List.set_cons_zero, List.set_cons_succ]
  refine wpAnyH_mono (S' := fun w' => w'.cell? ⟨w.heap.size, 0, none⟩ = some (.int .i64 11) ∧ w'.cell? ⟨w.heap.size, 1, none⟩ = some (.int .i64 d) ∧ w'.cell? ⟨w.heap.size, 2, none⟩ = some (.int .i64 n) ∧ w'.cell? ⟨w.heap.size, 3, none⟩ = some (.int .i64 m) ∧ w'.cell? ⟨w.heap.size, 4, none⟩ = some (.int .i64 3) ∧ w.heap.size < w'.heap.size ∧ Below w.heap.size w w' ∧ w'.cell? ⟨Y.heap.size, 3, none⟩ = some (.string ⟨#[108, 115, 114, 115]⟩) ∧ Y.heap.size < w'.heap.size) (fun _ h => ⟨h.1, h.2.1, h.2.2.1, h.2.2.2.1, h.2.2.2.2.1, h.2.2.2.2.2.1, h.2.2.2.2.2.2.1⟩) ?_
  refine wpAnyH_any (⟨hHeld2.1, hHeld2.2.1, hHeld2.2.2.1, hHeld2.2.2.2.1, hHeld2.2.2.2.2.1, hHeld2.2.2.2.2.2.1, hHeld2.2.2.2.2.2.2, by go_simp, by simp⟩) (fun Z hHeld => ?_)
  clear hHeld2
  refine wpAnyH_take (i := 3) (v := ?v13) rfl (by kernel_rfl) (by kernel_rfl) (by kernel_rfl) (fun _ _ _ h => h) (Or.inl ⟨by rfl, ?y13⟩) (by assumption) ?_
  case y13 => intro w hSw; (try dsimp only at hSw); go_simp; all_goals first | with_reducible rfl | rw [if_neg (by omega)]
  try simp only [Act.put, List.getElem_toArray, List.getElem_cons_succ, List.getElem_cons_zero, List.getElem?_toArray, List.getElem?_cons_succ, List.getElem?_cons_zero, List.setIfInBounds_toArray, List.set_cons_zero, List.set_cons_succ]
  refine wpAnyH_take (i := 4) (v := ?v14) rfl (by kernel_rfl) (by kernel_rfl) (by kernel_rfl) (fun _ _ _ h => h) (Or.inl ⟨by rfl, ?y14⟩) (by assumption) ?_
  case y14 => intro w hSw; (try dsimp only at hSw); go_simp; all_goals first | with_reducible rfl | rw [if_neg (by omega)]
  try simp only [Act.put, List.getElem_toArray, List.getElem_cons_succ, List.getElem_cons_zero, List.getElem?_toArray, List.getElem?_cons_succ, List.getElem?_cons_zero, List.setIfInBounds_toArray, List.set_cons_zero, List.set_cons_succ]
  refine wpAnyH_take (i := 5) (v := ?v15) rfl (by kernel_rfl) (by kernel_rfl) (by kernel_rfl) (fun _ _ _ h => h) (Or.inl ⟨by rfl, ?y15⟩) (by assumption) ?_
  case y15 => intro w hSw; (try dsimp only at hSw); go_simp; all_goals first | with_reducible rfl | rw [if_neg (by omega)]
  try simp only [Act.put, List.getElem_toArray, List.getElem_cons_succ, List.getElem_cons_zero, List.getElem?_toArray, List.getElem?_cons_succ, List.getElem?_cons_zero, List.setIfInBounds_toArray, List.set_cons_zero, List.set_cons_succ]
  refine wpAnyH_take (i := 7) (v := ?v16) rfl (by kernel_rfl) (by kernel_rfl) (by kernel_rfl) (fun _ _ _ h => h) (Or.inl ⟨by rfl, ?y16⟩) (by assumption) ?_
  case y16 => intro w hSw; (try dsimp only at hSw); go_simp; all_goals first | with_reducible rfl | rw [if_neg (by omega)]
  try simp only [Act.put, List.getElem_toArray, List.getElem_cons_succ, List.getElem_cons_zero, List.getElem?_toArray, List.getElem?_cons_succ, List.getElem?_cons_zero, List.setIfInBounds_toArray, List.set_cons_zero, List.set_cons_succ]
  refine wpAnyH_take (i := 11) (v := ?v17) rfl (by kernel_rfl) (by kernel_rfl) (by kernel_rfl) (fun _ _ _ h => h) (Or.inl ⟨by rfl, ?y17⟩) (by assumption) ?_
  case y17 => intro w hSw; (try dsimp only at hSw); go_simp; all_goals first | with_reducible rfl | rw [if_neg (by omega)]
  try simp only [Act.put, List.getElem_toArray, List.getElem_cons_succ, List.getElem_cons_zero, List.getElem?_toArray, List.getElem?_cons_succ, List.getElem?_cons_zero, List.setIfInBounds_toArray, List.set_cons_zero, List.set_cons_succ]
  refine wpAnyH_take (i := 12) (v := ?v18) rfl (by kernel_rfl) (by kernel_rfl) (by kernel_rfl) (fun _ _ _ h => h) (Or.inl ⟨by rfl, ?y18⟩) (by assumption) ?_
  case y18 => intro w hSw; (try dsimp only at hSw); go_simp; all_goals first | with_reducible rfl | rw [if_neg (by omega)]
  try simp only [Act.put, List.getElem_toArray, List.getElem_cons_succ, List.getElem_cons_zero, List.getElem?_toArray, List.getElem?_cons_succ, List.getElem?_cons_zero, List.setIfInBounds_toArray, List.set_cons_zero, List.set_cons_succ]
  refine wpAnyH_take (i := 13) (v := ?v19) rfl (by kernel_rfl) (by kernel_rfl) (by kernel_rfl) (fun _ _ _ h => h) (Or.inl ⟨by rfl, ?y19⟩) (by assumption) ?_
  case y19 => intro w hSw; (try dsimp only at hSw); go_simp; all_goals first | with_reducible rfl | rw [if_neg (by omega)]
  try simp only [Act.put, List.getElem_toArray, List.getElem_cons_succ, List.getElem_cons_zero, List.getElem?_toArray, List.getElem?_cons_succ, List.getElem?_cons_zero, List.setIfInBounds_toArray, List.set_cons_zero, List.set_cons_succ]
  refine wpAnyH_done (by kernel_rfl) ?_ _
  (go_wp2_with fail; go_ret2; refine ⟨congrArg (fun s => Ending.returned (.tuple #[.string s, .bool true])) ?_, hHeld.2.2.2.2.2.2.1⟩; rw [Hrd.out, Hrm.out]; apply ByteArray.ext; simp [showB, shapesL, wordB, wordsL, alusL, condsL, piece])
set_option maxRecDepth 100000 in
set_option maxHeartbeats 8000000 in
theorem rshow_11_4 (d n m imm : Int) (w : World) (hlit : imm = 4) (hc : canB 11 d n m imm = true) (hr : rcanB 11 d n m imm = true) : Calls Tryd.prog 7 #[.agg #[.int .i64 11, .int .i64 d, .int .i64 n, .int .i64 m, .int .i64 imm]] w fun e w' => e = .returned (.tuple #[.string ⟨(showB 11 d n m imm).toArray⟩, .bool true]) ∧ Below w.heap.size w w' := by
  subst hlit
  have hb := can_bounds 11 d n m 4 (by decide) hc
  have hcan : ∀ w, Calls Tryd.prog 14 #[.agg #[.int .i64 11, .int .i64 d, .int .i64 n, .int .i64 m, .int .i64 4]] w fun e w' => e = .returned (.bool true) ∧ Below w.heap.size w w' := fun w => by have := rcan_any 11 (by decide) d n m 4 w; rw [hr] at this; exact this
  clear hr hc
  obtain ⟨rd, hrd, hsrd, Hrd⟩ := reg_str d (by omega) (by omega)
  obtain ⟨rm, hrm, hsrm, Hrm⟩ := reg_str m (by omega) (by omega)
  go_enter Tryd.func7, Tryd.ntmps7
  go_wp2_with fail
  refine (hcan _).mono ?_
  rintro e w1 ⟨rfl, hb1⟩
  have hbx1 := heap_keep (heap_alloc_new w _) hb1
  have hB1 : Below w.heap.size w w1 := (Below.alloc (Below.refl _ w) (Nat.le_refl _) _).trans (hb1.mono (by simp))
  have hc1 := fun j => Lib.cell_of_heap hbx1 j
  go_wp2_with fail
  refine (hrd _).mono ?_
  rintro e w2 ⟨rfl, m1, rfl⟩
  go_wp2_with fail
  have hS0 : (fun w' => w'.cell? ⟨w.heap.size, 0, none⟩ = some (.int .i64 11) ∧ w'.cell? ⟨w.heap.size, 1, none⟩ = some (.int .i64 d) ∧ w'.cell? ⟨w.heap.size, 2, none⟩ = some (.int .i64 n) ∧ w'.cell? ⟨w.heap.size, 3, none⟩ = some (.int .i64 m) ∧ w'.cell? ⟨w.heap.size, 4, none⟩ = some (.int .i64 4) ∧ w.heap.size < w'.heap.size ∧ Below w.heap.size w w') (w1.drewN m1) := ⟨hc1 0, hc1 1, hc1 2, hc1 3, hc1 4, (Array.getElem?_eq_some_iff.1 hbx1).1, below_drewN hB1 m1⟩
  generalize w1.drewN m1 = W at *


  have HS := Lib.hid hS0

  obtain ⟨k0, k1, k2, k3, k4, hlt, -⟩ := hS0
  refine wp_region_held_drew (S := fun w' => w'.cell? ⟨w.heap.size, 0, none⟩ = some (.int .i64 11) ∧ w'.cell? ⟨w.heap.size, 1, none⟩ = some (.int .i64 d) ∧ w'.cell? ⟨w.heap.size, 2, none⟩ = some (.int .i64 n) ∧ w'.cell? ⟨w.heap.size, 3, none⟩ = some (.int .i64 m) ∧ w'.cell? ⟨w.heap.size, 4, none⟩ = some (.int .i64 4) ∧ w.heap.size < w'.heap.size ∧ Below w.heap.size w w') (by kernel_rfl) (held5_keep HS.out ((Below.refl _ _).drew)) (fun hHeld2 => ?_)
  refine wpAnyH_any hHeld2 (fun Y hHeld => ?_)
  clear hHeld2
  refine wpAnyH_take (i := 1) (v := ?v1) rfl (by kernel_rfl) (by kernel_rfl) (by kernel_rfl) (fun _ _ _ h => h) (Or.inl ⟨by rfl, ?y1⟩) (by assumption) ?_
  case y1 => intro w hSw; (try dsimp only at hSw); go_simp; all_goals first | with_reducible rfl | rw [if_neg (by omega)]
  try simp only [Act.put, List.getElem_toArray, List.getElem_cons_succ, List.getElem_cons_zero, List.getElem?_toArray, List.getElem?_cons_succ, List.getElem?_cons_zero, List.setIfInBounds_toArray, List.set_cons_zero, List.set_cons_succ]
  refine wpAnyH_take (i := 2) (v := ?v2) rfl (by kernel_rfl) (by kernel_rfl) (by kernel_rfl) (fun _ _ _ h => h) (Or.inl ⟨by rfl, ?y2⟩) (by assumption) ?_
  case y2 => intro w hSw; (try dsimp only at hSw); go_simp; all_goals first | with_reducible rfl | rw [if_neg (by omega)]
  try simp only [Act.put, List.getElem_toArray, List.getElem_cons_succ, List.getElem_cons_zero, List.getElem?_toArray, List.getElem?_cons_succ, List.getElem?_cons_zero, List.setIfInBounds_toArray, List.set_cons_zero, List.set_cons_succ]
  refine wpAnyH_take (i := 6) (v := ?v3) rfl (by kernel_rfl) (by kernel_rfl) (by kernel_rfl) (fun _ _ _ h => h) (Or.inl ⟨by rfl, ?y3⟩) (by assumption) ?_
  case y3 => intro w hSw; (try dsimp only at hSw); go_simp; all_goals first | with_reducible rfl | rw [if_neg (by omega)]
  try simp only [Act.put, List.getElem_toArray, List.getElem_cons_succ, List.getElem_cons_zero, List.getElem?_toArray, List.getElem?_cons_succ, List.getElem?_cons_zero, List.setIfInBounds_toArray, List.set_cons_zero, List.set_cons_succ]
  refine wpAnyH_take (i := 8) (v := ?v4) rfl (by kernel_rfl) (by kernel_rfl) (by kernel_rfl) (fun _ _ _ h => h) (Or.inl ⟨by rfl, ?y4⟩) (by assumption) ?_
  case y4 => intro w hSw; (try dsimp only at hSw); go_simp; all_goals first | with_reducible rfl | rw [if_neg (by omega)]
  try simp only [Act.put, List.getElem_toArray, List.getElem_cons_succ, List.getElem_cons_zero, List.getElem?_toArray, List.getElem?_cons_succ, List.getElem?_cons_zero, List.setIfInBounds_toArray, List.set_cons_zero, List.set_cons_succ]
  refine wpAnyH_take (i := 9) (v := ?v5) rfl (by kernel_rfl) (by kernel_rfl) (by kernel_rfl) (fun _ _ _ h => h) (Or.inl ⟨by rfl, ?y5⟩) (by assumption) ?_
  case y5 => intro w hSw; (try dsimp only at hSw); go_simp; all_goals first | with_reducible rfl | rw [if_neg (by omega)]
  try simp only [Act.put, List.getElem_toArray, List.getElem_cons_succ, List.getElem_cons_zero, List.getElem?_toArray, List.getElem?_cons_succ, List.getElem?_cons_zero, List.setIfInBounds_toArray, List.set_cons_zero, List.set_cons_succ]
  refine wpAnyH_ready (rs := [0, 10]) (by kernel_rfl) (by simp) ?_
  refine AllReadyH.cons rfl (fun K hK => ?_) ?_
  · skip
    go_simp
    refine hK.out _ _ ?_ (fun hHeld2 => ?_)
    · exact held5_keep hHeld (by repeat' first | exact Below.refl _ _ | refine below_drewN ?_ _ | refine Below.drew ?_ | refine Below.alloc ?_ (by first | exact Nat.le_refl _ | (simp <;> omega)) _)
    clear hK K hHeld
    try simp only [Act.put, List.getElem_toArray, List.getElem_cons_succ, List.getElem_cons_zero, List.getElem?_toArray, List.getElem?_cons_succ, List.getElem?_cons_zero, List.setIfInBounds_toArray, List.set_cons_zero, List.set_cons_succ]
    refine wpAnyH_mono (S' := fun w' => w'.cell? ⟨w.heap.size, 0, none⟩ = some (.int .i64 11) ∧ w'.cell? ⟨w.heap.size, 1, none⟩ = some (.int .i64 d) ∧ w'.cell? ⟨w.heap.size, 2, none⟩ = some (.int .i64 n) ∧ w'.cell? ⟨w.heap.size, 3, none⟩ = some (.int .i64 m) ∧ w'.cell? ⟨w.heap.size, 4, none⟩ = some (.int .i64 4) ∧ w.heap.size < w'.heap.size ∧ Below w.heap.size w w' ∧ w'.cell? ⟨Y.heap.size, 4, none⟩ = some (.string ⟨#[97, 115, 114, 115]⟩) ∧ Y.heap.size < w'.heap.size) (fun _ h => ⟨h.1, h.2.1, h.2.2.1, h.2.2.2.1, h.2.2.2.2.1, h.2.2.2.2.2.1, h.2.2.2.2.2.2.1⟩) ?_
    refine wpAnyH_any (⟨hHeld2.1, hHeld2.2.1, hHeld2.2.2.1, hHeld2.2.2.2.1, hHeld2.2.2.2.2.1, hHeld2.2.2.2.2.2.1, hHeld2.2.2.2.2.2.2, by go_simp, by simp⟩) (fun Z hHeld => ?_)
    clear hHeld2
    refine wpAnyH_take (i := 3) (v := ?v6) rfl (by kernel_rfl) (by kernel_rfl) (by kernel_rfl) (fun _ _ _ h => h) (Or.inl ⟨by rfl, ?y6⟩) (by assumption) ?_
    case y6 => intro w hSw; (try dsimp only at hSw); go_simp; all_goals first | with_reducible rfl | rw [if_neg (by omega)]
    try simp only [Act.put, List.getElem_toArray, List.getElem_cons_succ, List.getElem_cons_zero, List.getElem?_toArray, List.getElem?_cons_succ, List.getElem?_cons_zero, List.setIfInBounds_toArray, List.set_cons_zero, List.set_cons_succ]
    refine wpAnyH_take (i := 4) (v := ?v7) rfl (by kernel_rfl) (by kernel_rfl) (by kernel_rfl) (fun _ _ _ h => h) (Or.inl ⟨by rfl, ?y7⟩) (by assumption) ?_
    case y7 => intro w hSw; (try dsimp only at hSw); go_simp; all_goals first | with_reducible rfl | rw [if_neg (by omega)]
    try simp only [Act.put, List.getElem_toArray, List.getElem_cons_succ, List.getElem_cons_zero, List.getElem?_toArray, List.getElem?_cons_succ, List.getElem?_cons_zero, List.setIfInBounds_toArray, List.set_cons_zero, List.set_cons_succ]
    refine wpAnyH_take (i := 5) (v := ?v8) rfl (by kernel_rfl) (by kernel_rfl) (by kernel_rfl) (fun _ _ _ h => h) (Or.inl ⟨by rfl, ?y8⟩) (by assumption) ?_
    case y8 => intro w hSw; (try dsimp only at hSw); go_simp; all_goals first | with_reducible rfl | rw [if_neg (by omega)]
    try simp only [Act.put, List.getElem_toArray, List.getElem_cons_succ, List.getElem_cons_zero, List.getElem?_toArray, List.getElem?_cons_succ, List.getElem?_cons_zero, List.setIfInBounds_toArray, List.set_cons_zero, List.set_cons_succ]
    refine wpAnyH_take (i := 7) (v := ?v9) rfl (by kernel_rfl) (by kernel_rfl) (by kernel_rfl) (fun _ _ _ h => h) (Or.inl ⟨by rfl, ?y9⟩) (by assumption) ?_
    case y9 => intro w hSw; (try dsimp only at hSw); go_simp; all_goals first | with_reducible rfl | rw [if_neg (by omega)]
    try simp only [Act.put, List.getElem_toArray, List.getElem_cons_succ, List.getElem_cons_zero, List.getElem?_toArray, List.getElem?_cons_succ, List.getElem?_cons_zero, List.setIfInBounds_toArray, List.set_cons_zero, List.set_cons_succ]
    refine wpAnyH_ready (rs := [10]) (by kernel_rfl) (by simp) ?_
    refine AllReadyH.cons rfl (fun K hK => ?_) AllReadyH.nil
    go_simp
    (go_at_call 15; with_reducible refine (hrm _).mono ?_; rintro e w2 ⟨rfl, m2, rfl⟩)
    go_wp2_with fail
    refine hK.out _ _ ?_ (fun hHeld2 => ?_)
    · exact held5_litk hHeld (by repeat' first | exact Below.refl _ _ | refine below_drewN ?_ _ | refine Below.drew ?_ | refine Below.alloc ?_ (by first | exact Nat.le_refl _ | (simp <;> omega)) _)
    clear hK K hHeld
    try simp only [Act.put, List.getElem_toArray, List.getElem_cons_succ, List.getElem_cons_zero, List.getElem?_toArray, List.getElem?_cons_succ, List.getElem?_cons_zero, List.setIfInBounds_toArray, List.set_cons_zero, List.set_cons_succ]
    refine wpAnyH_any hHeld2 (fun Z hHeld => ?_)
    clear hHeld2
    refine wpAnyH_take (i := 11) (v := ?v10) rfl (by kernel_rfl) (by kernel_rfl) (by kernel_rfl) (fun _ _ _ h => h) (Or.inl ⟨by rfl, ?y10⟩) (by assumption) ?_
    case y10 => intro w hSw; (try dsimp only at hSw); go_simp; all_goals first | with_reducible rfl | rw [if_neg (by omega)]
    try simp only [Act.put, List.getElem_toArray, List.getElem_cons_succ, List.getElem_cons_zero, List.getElem?_toArray, List.getElem?_cons_succ, List.getElem?_cons_zero, List.setIfInBounds_toArray, List.set_cons_zero, List.set_cons_succ]
    refine wpAnyH_take (i := 12) (v := ?v11) rfl (by kernel_rfl) (by kernel_rfl) (by kernel_rfl) (fun _ _ _ h => h) (Or.inl ⟨by rfl, ?y11⟩) (by assumption) ?_
    case y11 => intro w hSw; (try dsimp only at hSw); go_simp; all_goals first | with_reducible rfl | rw [if_neg (by omega)]
    try simp only [Act.put, List.getElem_toArray, List.getElem_cons_succ, List.getElem_cons_zero, List.getElem?_toArray, List.getElem?_cons_succ, List.getElem?_cons_zero, List.setIfInBounds_toArray, List.set_cons_zero, List.set_cons_succ]
    refine wpAnyH_take (i := 13) (v := ?v12) rfl (by kernel_rfl) (by kernel_rfl) (by kernel_rfl) (fun _ _ _ h => h) (Or.inl ⟨by rfl, ?y12⟩) (by assumption) ?_
    case y12 => intro w hSw; (try dsimp only at hSw); go_simp; all_goals first | with_reducible rfl | rw [if_neg (by omega)]
    try simp only [Act.put, List.getElem_toArray, List.getElem_cons_succ, List.getElem_cons_zero, List.getElem?_toArray, List.getElem?_cons_succ, List.getElem?_cons_zero, List.setIfInBounds_toArray, List.set_cons_zero, List.set_cons_succ]
    refine wpAnyH_done (by kernel_rfl) ?_ _
    (go_wp2_with fail; go_ret2; refine ⟨congrArg (fun s => Ending.returned (.tuple #[.string s, .bool true])) ?_, hHeld.2.2.2.2.2.2.1⟩; rw [Hrd.out, Hrm.out]; apply ByteArray.ext; simp [showB, shapesL, wordB, wordsL, alusL, condsL, piece])
  refine AllReadyH.cons rfl (fun K hK => ?_) AllReadyH.nil
  go_simp
  (go_at_call 15; with_reducible refine (hrm _).mono ?_; rintro e w2 ⟨rfl, m2, rfl⟩)
  go_wp2_with fail
  refine hK.out _ _ ?_ (fun hHeld2 => ?_)
  · exact held5_keep hHeld (by repeat' first | exact Below.refl _ _ | refine below_drewN ?_ _ | refine Below.drew ?_ | refine Below.alloc ?_ (by first | exact Nat.le_refl _ | (simp <;> omega)) _)
  clear hK K hHeld
  try simp only [Act.put, List.getElem_toArray, List.getElem_cons_succ, List.getElem_cons_zero, List.getElem?_toArray, List.getElem?_cons_succ, List.getElem?_cons_zero, List.setIfInBounds_toArray, List.set_cons_zero, List.set_cons_succ]
  refine wpAnyH_any hHeld2 (fun Y hHeld => ?_)
  clear hHeld2
  refine wpAnyH_ready (rs := [0]) (by kernel_rfl) (by simp) ?_
  refine AllReadyH.cons rfl (fun K hK => ?_) AllReadyH.nil
  go_simp
  refine hK.out _ _ ?_ (fun hHeld2 => ?_)
  · exact held5_keep hHeld (by repeat' first | exact Below.refl _ _ | refine below_drewN ?_ _ | refine Below.drew ?_ | refine Below.alloc ?_ (by first | exact Nat.le_refl _ | (simp <;> omega)) _)
  clear hK K hHeld
  try simp only [Act.put, List.getElem_toArray, List.getElem_cons_succ, List.getElem_cons_zero, List.getElem?_toArray, List.getElem?_cons_succ, List.getElem?_cons_zero, List.setIfInBounds_toArray, List.set_cons_zero, List.set_cons_succ]
  refine wpAnyH_mono (S' := fun w' => w'.cell? ⟨w.heap.size, 0, none⟩ = some (.int .i64 11) ∧ w'.cell? ⟨w.heap.size, 1, none⟩ = some (.int .i64 d) ∧ w'.cell? ⟨w.heap.size, 2, none⟩ = some (.int .i64 n) ∧ w'.cell? ⟨w.heap.size, 3, none⟩ = some (.int .i64 m) ∧ w'.cell? ⟨w.heap.size, 4, none⟩ = some (.int .i64 4) ∧ w.heap.size < w'.heap.size ∧ Below w.heap.size w w' ∧ w'.cell? ⟨Y.heap.size, 4, none⟩ = some (.string ⟨#[97, 115, 114, 115]⟩) ∧ Y.heap.size < w'.heap.size) (fun _ h => ⟨h.1, h.2.1, h.2.2.1, h.2.2.2.1, h.2.2.2.2.1, h.2.2.2.2.2.1, h.2.2.2.2.2.2.1⟩) ?_
  refine wpAnyH_any (⟨hHeld2.1, hHeld2.2.1, hHeld2.2.2.1, hHeld2.2.2.2.1, hHeld2.2.2.2.2.1, hHeld2.2.2.2.2.2.1, hHeld2.2.2.2.2.2.2, by go_simp, by simp⟩) (fun Z hHeld => ?_)
  clear hHeld2
  refine wpAnyH_take (i := 3) (v := ?v13) rfl (by kernel_rfl) (by kernel_rfl) (by kernel_rfl) (fun _ _ _ h => h) (Or.inl ⟨by rfl, ?y13⟩) (by assumption) ?_
  case y13 => intro w hSw; (try dsimp only at hSw); go_simp; all_goals first | with_reducible rfl | rw [if_neg (by omega)]
  try simp only [Act.put, List.getElem_toArray, List.getElem_cons_succ, List.getElem_cons_zero, List.getElem?_toArray, List.getElem?_cons_succ, List.getElem?_cons_zero, List.setIfInBounds_toArray, List.set_cons_zero, List.set_cons_succ]
  refine wpAnyH_take (i := 4) (v := ?v14) rfl (by kernel_rfl) (by kernel_rfl) (by kernel_rfl) (fun _ _ _ h => h) (Or.inl ⟨by rfl, ?y14⟩) (by assumption) ?_
  case y14 => intro w hSw; (try dsimp only at hSw); go_simp; all_goals first | with_reducible rfl | rw [if_neg (by omega)]
  try simp only [Act.put, List.getElem_toArray, List.getElem_cons_succ, List.getElem_cons_zero, List.getElem?_toArray, List.getElem?_cons_succ, List.getElem?_cons_zero, List.setIfInBounds_toArray, List.set_cons_zero, List.set_cons_succ]
  refine wpAnyH_take (i := 5) (v := ?v15) rfl (by kernel_rfl) (by kernel_rfl) (by kernel_rfl) (fun _ _ _ h => h) (Or.inl ⟨by rfl, ?y15⟩) (by assumption) ?_
  case y15 => intro w hSw; (try dsimp only at hSw); go_simp; all_goals first | with_reducible rfl | rw [if_neg (by omega)]
  try simp only [Act.put, List.getElem_toArray, List.getElem_cons_succ, List.getElem_cons_zero, List.getElem?_toArray, List.getElem?_cons_succ, List.getElem?_cons_zero, List.setIfInBounds_toArray, List.set_cons_zero, List.set_cons_succ]
  refine wpAnyH_take (i := 7) (v := ?v16) rfl (by kernel_rfl) (by kernel_rfl) (by kernel_rfl) (fun _ _ _ h => h) (Or.inl ⟨by rfl, ?y16⟩) (by assumption) ?_
  case y16 => intro w hSw; (try dsimp only at hSw); go_simp; all_goals first | with_reducible rfl | rw [if_neg (by omega)]
  try simp only [Act.put, List.getElem_toArray, List.getElem_cons_succ, List.getElem_cons_zero, List.getElem?_toArray, List.getElem?_cons_succ, List.getElem?_cons_zero, List.setIfInBounds_toArray, List.set_cons_zero, List.set_cons_succ]
  refine wpAnyH_take (i := 11) (v := ?v17) rfl (by kernel_rfl) (by kernel_rfl) (by kernel_rfl) (fun _ _ _ h => h) (Or.inl ⟨by rfl, ?y17⟩) (by assumption) ?_
  case y17 => intro w hSw; (try dsimp only at hSw); go_simp; all_goals first | with_reducible rfl | rw [if_neg (by omega)]
  try simp only [Act.put, List.getElem_toArray, List.getElem_cons_succ, List.getElem_cons_zero, List.getElem?_toArray, List.getElem?_cons_succ, List.getElem?_cons_zero, List.setIfInBounds_toArray, List.set_cons_zero, List.set_cons_succ]
  refine wpAnyH_take (i := 12) (v := ?v18) rfl (by kernel_rfl) (by kernel_rfl) (by kernel_rfl) (fun _ _ _ h => h) (Or.inl ⟨by rfl, ?y18⟩) (by assumption) ?_
  case y18 => intro w hSw; (try dsimp only at hSw); go_simp; all_goals first | with_reducible rfl | rw [if_neg (by omega)]
  try simp only [Act.put, List.getElem_toArray, List.getElem_cons_succ, List.getElem_cons_zero, List.getElem?_toArray, List.getElem?_cons_succ, List.getElem?_cons_zero, List.setIfInBounds_toArray, List.set_cons_zero, List.set_cons_succ]
  refine wpAnyH_take (i := 13) (v := ?v19) rfl (by kernel_rfl) (by kernel_rfl) (by kernel_rfl) (fun _ _ _ h => h) (Or.inl ⟨by rfl, ?y19⟩) (by assumption) ?_
  case y19 => intro w hSw; (try dsimp only at hSw); go_simp; all_goals first | with_reducible rfl | rw [if_neg (by omega)]
  try simp only [Act.put, List.getElem_toArray, List.getElem_cons_succ, List.getElem_cons_zero, List.getElem?_toArray, List.getElem?_cons_succ, List.getElem?_cons_zero, List.setIfInBounds_toArray, List.set_cons_zero, List.set_cons_succ]
  refine wpAnyH_done (by kernel_rfl) ?_ _
  (go_wp2_with fail; go_ret2; refine ⟨congrArg (fun s => Ending.returned (.tuple #[.string s, .bool true])) ?_, hHeld.2.2.2.2.2.2.1⟩; rw [Hrd.out, Hrm.out]; apply ByteArray.ext; simp [showB, shapesL, wordB, wordsL, alusL, condsL, piece])
set_option maxRecDepth 100000 in
set_option maxHeartbeats 8000000 in
theorem rshow_11_5 (d n m imm : Int) (w : World) (hlit : imm = 5) (hc : canB 11 d n m imm = true) (hr : rcanB 11 d n m imm = true) : Calls Tryd.prog 7 #[.agg #[.int .i64 11, .int .i64 d, .int .i64 n, .int .i64 m, .int .i64 imm]] w fun e w' => e = .returned (.tuple #[.string ⟨(showB 11 d n m imm).toArray⟩, .bool true]) ∧ Below w.heap.size w w' := by
  subst hlit
  have hb := can_bounds 11 d n m 5 (by decide) hc
  have hcan : ∀ w, Calls Tryd.prog 14 #[.agg #[.int .i64 11, .int .i64 d, .int .i64 n, .int .i64 m, .int .i64 5]] w fun e w' => e = .returned (.bool true) ∧ Below w.heap.size w w' := fun w => by have := rcan_any 11 (by decide) d n m 5 w; rw [hr] at this; exact this
  clear hr hc
  obtain ⟨rd, hrd, hsrd, Hrd⟩ := reg_str d (by omega) (by omega)
  obtain ⟨rm, hrm, hsrm, Hrm⟩ := reg_str m (by omega) (by omega)
  go_enter Tryd.func7, Tryd.ntmps7
  go_wp2_with fail
  refine (hcan _).mono ?_
  rintro e w1 ⟨rfl, hb1⟩
  have hbx1 := heap_keep (heap_alloc_new w _) hb1
  have hB1 : Below w.heap.size w w1 := (Below.alloc (Below.refl _ w) (Nat.le_refl _) _).trans (hb1.mono (by simp))
  have hc1 := fun j => Lib.cell_of_heap hbx1 j
  go_wp2_with fail
  refine (hrd _).mono ?_
  rintro e w2 ⟨rfl, m1, rfl⟩
  go_wp2_with fail
  have hS0 : (fun w' => w'.cell? ⟨w.heap.size, 0, none⟩ = some (.int .i64 11) ∧ w'.cell? ⟨w.heap.size, 1, none⟩ = some (.int .i64 d) ∧ w'.cell? ⟨w.heap.size, 2, none⟩ = some (.int .i64 n) ∧ w'.cell? ⟨w.heap.size, 3, none⟩ = some (.int .i64 m) ∧ w'.cell? ⟨w.heap.size, 4, none⟩ = some (.int .i64 5) ∧ w.heap.size < w'.heap.size ∧ Below w.heap.size w w') (w1.drewN m1) := ⟨hc1 0, hc1 1, hc1 2, hc1 3, hc1 4, (Array.getElem?_eq_some_iff.1 hbx1).1, below_drewN hB1 m1⟩
  generalize w1.drewN m1 = W at *


  have HS := Lib.hid hS0

  obtain ⟨k0, k1, k2, k3, k4, hlt, -⟩ := hS0
  refine wp_region_held_drew (S := fun w' => w'.cell? ⟨w.heap.size, 0, none⟩ = some (.int .i64 11) ∧ w'.cell? ⟨w.heap.size, 1, none⟩ = some (.int .i64 d) ∧ w'.cell? ⟨w.heap.size, 2, none⟩ = some (.int .i64 n) ∧ w'.cell? ⟨w.heap.size, 3, none⟩ = some (.int .i64 m) ∧ w'.cell? ⟨w.heap.size, 4, none⟩ = some (.int .i64 5) ∧ w.heap.size < w'.heap.size ∧ Below w.heap.size w w') (by kernel_rfl) (held5_keep HS.out ((Below.refl _ _).drew)) (fun hHeld2 => ?_)
  refine wpAnyH_any hHeld2 (fun Y hHeld => ?_)
  clear hHeld2
  refine wpAnyH_take (i := 1) (v := ?v1) rfl (by kernel_rfl) (by kernel_rfl) (by kernel_rfl) (fun _ _ _ h => h) (Or.inl ⟨by rfl, ?y1⟩) (by assumption) ?_
  case y1 => intro w hSw; (try dsimp only at hSw); go_simp; all_goals first | with_reducible rfl | rw [if_neg (by omega)]
  try simp only [Act.put, List.getElem_toArray, List.getElem_cons_succ, List.getElem_cons_zero, List.getElem?_toArray, List.getElem?_cons_succ, List.getElem?_cons_zero, List.setIfInBounds_toArray, List.set_cons_zero, List.set_cons_succ]
  refine wpAnyH_take (i := 2) (v := ?v2) rfl (by kernel_rfl) (by kernel_rfl) (by kernel_rfl) (fun _ _ _ h => h) (Or.inl ⟨by rfl, ?y2⟩) (by assumption) ?_
  case y2 => intro w hSw; (try dsimp only at hSw); go_simp; all_goals first | with_reducible rfl | rw [if_neg (by omega)]
  try simp only [Act.put, List.getElem_toArray, List.getElem_cons_succ, List.getElem_cons_zero, List.getElem?_toArray, List.getElem?_cons_succ, List.getElem?_cons_zero, List.setIfInBounds_toArray, List.set_cons_zero, List.set_cons_succ]
  refine wpAnyH_take (i := 6) (v := ?v3) rfl (by kernel_rfl) (by kernel_rfl) (by kernel_rfl) (fun _ _ _ h => h) (Or.inl ⟨by rfl, ?y3⟩) (by assumption) ?_
  case y3 => intro w hSw; (try dsimp only at hSw); go_simp; all_goals first | with_reducible rfl | rw [if_neg (by omega)]
  try simp only [Act.put, List.getElem_toArray, List.getElem_cons_succ, List.getElem_cons_zero, List.getElem?_toArray, List.getElem?_cons_succ, List.getElem?_cons_zero, List.setIfInBounds_toArray, List.set_cons_zero, List.set_cons_succ]
  refine wpAnyH_take (i := 8) (v := ?v4) rfl (by kernel_rfl) (by kernel_rfl) (by kernel_rfl) (fun _ _ _ h => h) (Or.inl ⟨by rfl, ?y4⟩) (by assumption) ?_
  case y4 => intro w hSw; (try dsimp only at hSw); go_simp; all_goals first | with_reducible rfl | rw [if_neg (by omega)]
  try simp only [Act.put, List.getElem_toArray, List.getElem_cons_succ, List.getElem_cons_zero, List.getElem?_toArray, List.getElem?_cons_succ, List.getElem?_cons_zero, List.setIfInBounds_toArray, List.set_cons_zero, List.set_cons_succ]
  refine wpAnyH_take (i := 9) (v := ?v5) rfl (by kernel_rfl) (by kernel_rfl) (by kernel_rfl) (fun _ _ _ h => h) (Or.inl ⟨by rfl, ?y5⟩) (by assumption) ?_
  case y5 => intro w hSw; (try dsimp only at hSw); go_simp; all_goals first | with_reducible rfl | rw [if_neg (by omega)]
  try simp only [Act.put, List.getElem_toArray, List.getElem_cons_succ, List.getElem_cons_zero, List.getElem?_toArray, List.getElem?_cons_succ, List.getElem?_cons_zero, List.setIfInBounds_toArray, List.set_cons_zero, List.set_cons_succ]
  refine wpAnyH_ready (rs := [0, 10]) (by kernel_rfl) (by simp) ?_
  refine AllReadyH.cons rfl (fun K hK => ?_) ?_
  · skip
    go_simp
    refine hK.out _ _ ?_ (fun hHeld2 => ?_)
    · exact held5_keep hHeld (by repeat' first | exact Below.refl _ _ | refine below_drewN ?_ _ | refine Below.drew ?_ | refine Below.alloc ?_ (by first | exact Nat.le_refl _ | (simp <;> omega)) _)
    clear hK K hHeld
    try simp only [Act.put, List.getElem_toArray, List.getElem_cons_succ, List.getElem_cons_zero, List.getElem?_toArray, List.getElem?_cons_succ, List.getElem?_cons_zero, List.setIfInBounds_toArray, List.set_cons_zero, List.set_cons_succ]
    refine wpAnyH_mono (S' := fun w' => w'.cell? ⟨w.heap.size, 0, none⟩ = some (.int .i64 11) ∧ w'.cell? ⟨w.heap.size, 1, none⟩ = some (.int .i64 d) ∧ w'.cell? ⟨w.heap.size, 2, none⟩ = some (.int .i64 n) ∧ w'.cell? ⟨w.heap.size, 3, none⟩ = some (.int .i64 m) ∧ w'.cell? ⟨w.heap.size, 4, none⟩ = some (.int .i64 5) ∧ w.heap.size < w'.heap.size ∧ Below w.heap.size w w' ∧ w'.cell? ⟨Y.heap.size, 5, none⟩ = some (.string ⟨#[97, 100, 99, 115]⟩) ∧ Y.heap.size < w'.heap.size) (fun _ h => ⟨h.1, h.2.1, h.2.2.1, h.2.2.2.1, h.2.2.2.2.1, h.2.2.2.2.2.1, h.2.2.2.2.2.2.1⟩) ?_
    refine wpAnyH_any (⟨hHeld2.1, hHeld2.2.1, hHeld2.2.2.1, hHeld2.2.2.2.1, hHeld2.2.2.2.2.1, hHeld2.2.2.2.2.2.1, hHeld2.2.2.2.2.2.2, by go_simp, by simp⟩) (fun Z hHeld => ?_)
    clear hHeld2
    refine wpAnyH_take (i := 3) (v := ?v6) rfl (by kernel_rfl) (by kernel_rfl) (by kernel_rfl) (fun _ _ _ h => h) (Or.inl ⟨by rfl, ?y6⟩) (by assumption) ?_
    case y6 => intro w hSw; (try dsimp only at hSw); go_simp; all_goals first | with_reducible rfl | rw [if_neg (by omega)]
    try simp only [Act.put, List.getElem_toArray, List.getElem_cons_succ, List.getElem_cons_zero, List.getElem?_toArray, List.getElem?_cons_succ, List.getElem?_cons_zero, List.setIfInBounds_toArray, List.set_cons_zero, List.set_cons_succ]
    refine wpAnyH_take (i := 4) (v := ?v7) rfl (by kernel_rfl) (by kernel_rfl) (by kernel_rfl) (fun _ _ _ h => h) (Or.inl ⟨by rfl, ?y7⟩) (by assumption) ?_
    case y7 => intro w hSw; (try dsimp only at hSw); go_simp; all_goals first | with_reducible rfl | rw [if_neg (by omega)]
    try simp only [Act.put, List.getElem_toArray, List.getElem_cons_succ, List.getElem_cons_zero, List.getElem?_toArray, List.getElem?_cons_succ, List.getElem?_cons_zero, List.setIfInBounds_toArray, List.set_cons_zero, List.set_cons_succ]
    refine wpAnyH_take (i := 5) (v := ?v8) rfl (by kernel_rfl) (by kernel_rfl) (by kernel_rfl) (fun _ _ _ h => h) (Or.inl ⟨by rfl, ?y8⟩) (by assumption) ?_
    case y8 => intro w hSw; (try dsimp only at hSw); go_simp; all_goals first | with_reducible rfl | rw [if_neg (by omega)]
    try simp only [Act.put, List.getElem_toArray, List.getElem_cons_succ, List.getElem_cons_zero, List.getElem?_toArray, List.getElem?_cons_succ, List.getElem?_cons_zero, List.setIfInBounds_toArray, List.set_cons_zero, List.set_cons_succ]
    refine wpAnyH_take (i := 7) (v := ?v9) rfl (by kernel_rfl) (by kernel_rfl) (by kernel_rfl) (fun _ _ _ h => h) (Or.inl ⟨by rfl, ?y9⟩) (by assumption) ?_
    case y9 => intro w hSw; (try dsimp only at hSw); go_simp; all_goals first | with_reducible rfl | rw [if_neg (by omega)]
    try simp only [Act.put, List.getElem_toArray, List.getElem_cons_succ, List.getElem_cons_zero, List.getElem?_toArray, List.getElem?_cons_succ, List.getElem?_cons_zero, List.setIfInBounds_toArray, List.set_cons_zero, List.set_cons_succ]
    refine wpAnyH_ready (rs := [10]) (by kernel_rfl) (by simp) ?_
    refine AllReadyH.cons rfl (fun K hK => ?_) AllReadyH.nil
    go_simp
    (go_at_call 15; with_reducible refine (hrm _).mono ?_; rintro e w2 ⟨rfl, m2, rfl⟩)
    go_wp2_with fail
    refine hK.out _ _ ?_ (fun hHeld2 => ?_)
    · exact held5_litk hHeld (by repeat' first | exact Below.refl _ _ | refine below_drewN ?_ _ | refine Below.drew ?_ | refine Below.alloc ?_ (by first | exact Nat.le_refl _ | (simp <;> omega)) _)
    clear hK K hHeld
    try simp only [Act.put, List.getElem_toArray, List.getElem_cons_succ, List.getElem_cons_zero, List.getElem?_toArray, List.getElem?_cons_succ, List.getElem?_cons_zero, List.setIfInBounds_toArray, List.set_cons_zero, List.set_cons_succ]
    refine wpAnyH_any hHeld2 (fun Z hHeld => ?_)
    clear hHeld2
    refine wpAnyH_take (i := 11) (v := ?v10) rfl (by kernel_rfl) (by kernel_rfl) (by kernel_rfl) (fun _ _ _ h => h) (Or.inl ⟨by rfl, ?y10⟩) (by assumption) ?_
    case y10 => intro w hSw; (try dsimp only at hSw); go_simp; all_goals first | with_reducible rfl | rw [if_neg (by omega)]
    try simp only [Act.put, List.getElem_toArray, List.getElem_cons_succ, List.getElem_cons_zero, List.getElem?_toArray, List.getElem?_cons_succ, List.getElem?_cons_zero, List.setIfInBounds_toArray, List.set_cons_zero, List.set_cons_succ]
    refine wpAnyH_take (i := 12) (v := ?v11) rfl (by kernel_rfl) (by kernel_rfl) (by kernel_rfl) (fun _ _ _ h => h) (Or.inl ⟨by rfl, ?y11⟩) (by assumption) ?_
    case y11 => intro w hSw; (try dsimp only at hSw); go_simp; all_goals first | with_reducible rfl | rw [if_neg (by omega)]
    try simp only [Act.put, List.getElem_toArray, List.getElem_cons_succ, List.getElem_cons_zero, List.getElem?_toArray, List.getElem?_cons_succ, List.getElem?_cons_zero, List.setIfInBounds_toArray, List.set_cons_zero, List.set_cons_succ]
    refine wpAnyH_take (i := 13) (v := ?v12) rfl (by kernel_rfl) (by kernel_rfl) (by kernel_rfl) (fun _ _ _ h => h) (Or.inl ⟨by rfl, ?y12⟩) (by assumption) ?_
    case y12 => intro w hSw; (try dsimp only at hSw); go_simp; all_goals first | with_reducible rfl | rw [if_neg (by omega)]
    try simp only [Act.put, List.getElem_toArray, List.getElem_cons_succ, List.getElem_cons_zero, List.getElem?_toArray, List.getElem?_cons_succ, List.getElem?_cons_zero, List.setIfInBounds_toArray, List.set_cons_zero, List.set_cons_succ]
    refine wpAnyH_done (by kernel_rfl) ?_ _
    (go_wp2_with fail; go_ret2; refine ⟨congrArg (fun s => Ending.returned (.tuple #[.string s, .bool true])) ?_, hHeld.2.2.2.2.2.2.1⟩; rw [Hrd.out, Hrm.out]; apply ByteArray.ext; simp [showB, shapesL, wordB, wordsL, alusL, condsL, piece])
  refine AllReadyH.cons rfl (fun K hK => ?_) AllReadyH.nil
  go_simp
  (go_at_call 15; with_reducible refine (hrm _).mono ?_; rintro e w2 ⟨rfl, m2, rfl⟩)
  go_wp2_with fail
  refine hK.out _ _ ?_ (fun hHeld2 => ?_)
  · exact held5_keep hHeld (by repeat' first | exact Below.refl _ _ | refine below_drewN ?_ _ | refine Below.drew ?_ | refine Below.alloc ?_ (by first | exact Nat.le_refl _ | (simp <;> omega)) _)
  clear hK K hHeld
  try simp only [Act.put, List.getElem_toArray, List.getElem_cons_succ, List.getElem_cons_zero, List.getElem?_toArray, List.getElem?_cons_succ, List.getElem?_cons_zero, List.setIfInBounds_toArray, List.set_cons_zero, List.set_cons_succ]
  refine wpAnyH_any hHeld2 (fun Y hHeld => ?_)
  clear hHeld2
  refine wpAnyH_ready (rs := [0]) (by kernel_rfl) (by simp) ?_
  refine AllReadyH.cons rfl (fun K hK => ?_) AllReadyH.nil
  go_simp
  refine hK.out _ _ ?_ (fun hHeld2 => ?_)
  · exact held5_keep hHeld (by repeat' first | exact Below.refl _ _ | refine below_drewN ?_ _ | refine Below.drew ?_ | refine Below.alloc ?_ (by first | exact Nat.le_refl _ | (simp <;> omega)) _)
  clear hK K hHeld
  try simp only [Act.put, List.getElem_toArray, List.getElem_cons_succ, List.getElem_cons_zero, List.getElem?_toArray, List.getElem?_cons_succ, List.getElem?_cons_zero, List.setIfInBounds_toArray, List.set_cons_zero, List.set_cons_succ]
  refine wpAnyH_mono (S' := fun w' => w'.cell? ⟨w.heap.size, 0, none⟩ = some (.int .i64 11) ∧ w'.cell? ⟨w.heap.size, 1, none⟩ = some (.int .i64 d) ∧ w'.cell? ⟨w.heap.size, 2, none⟩ = some (.int .i64 n) ∧ w'.cell? ⟨w.heap.size, 3, none⟩ = some (.int .i64 m) ∧ w'.cell? ⟨w.heap.size, 4, none⟩ = some (.int .i64 5) ∧ w.heap.size < w'.heap.size ∧ Below w.heap.size w w' ∧ w'.cell? ⟨Y.heap.size, 5, none⟩ = some (.string ⟨#[97, 100, 99, 115]⟩) ∧ Y.heap.size < w'.heap.size) (fun _ h => ⟨h.1, h.2.1, h.2.2.1, h.2.2.2.1, h.2.2.2.2.1, h.2.2.2.2.2.1, h.2.2.2.2.2.2.1⟩) ?_
  refine wpAnyH_any (⟨hHeld2.1, hHeld2.2.1, hHeld2.2.2.1, hHeld2.2.2.2.1, hHeld2.2.2.2.2.1, hHeld2.2.2.2.2.2.1, hHeld2.2.2.2.2.2.2, by go_simp, by simp⟩) (fun Z hHeld => ?_)
  clear hHeld2
  refine wpAnyH_take (i := 3) (v := ?v13) rfl (by kernel_rfl) (by kernel_rfl) (by kernel_rfl) (fun _ _ _ h => h) (Or.inl ⟨by rfl, ?y13⟩) (by assumption) ?_
  case y13 => intro w hSw; (try dsimp only at hSw); go_simp; all_goals first | with_reducible rfl | rw [if_neg (by omega)]
  try simp only [Act.put, List.getElem_toArray, List.getElem_cons_succ, List.getElem_cons_zero, List.getElem?_toArray, List.getElem?_cons_succ, List.getElem?_cons_zero, List.setIfInBounds_toArray, List.set_cons_zero, List.set_cons_succ]
  refine wpAnyH_take (i := 4) (v := ?v14) rfl (by kernel_rfl) (by kernel_rfl) (by kernel_rfl) (fun _ _ _ h => h) (Or.inl ⟨by rfl, ?y14⟩) (by assumption) ?_
  case y14 => intro w hSw; (try dsimp only at hSw); go_simp; all_goals first | with_reducible rfl | rw [if_neg (by omega)]
  try simp only [Act.put, List.getElem_toArray, List.getElem_cons_succ, List.getElem_cons_zero, List.getElem?_toArray, List.getElem?_cons_succ, List.getElem?_cons_zero, List.setIfInBounds_toArray, List.set_cons_zero, List.set_cons_succ]
  refine wpAnyH_take (i := 5) (v := ?v15) rfl (by kernel_rfl) (by kernel_rfl) (by kernel_rfl) (fun _ _ _ h => h) (Or.inl ⟨by rfl, ?y15⟩) (by assumption) ?_
  case y15 => intro w hSw; (try dsimp only at hSw); go_simp; all_goals first | with_reducible rfl | rw [if_neg (by omega)]
  try simp only [Act.put, List.getElem_toArray, List.getElem_cons_succ, List.getElem_cons_zero, List.getElem?_toArray, List.getElem?_cons_succ, List.getElem?_cons_zero, List.setIfInBounds_toArray, List.set_cons_zero, List.set_cons_succ]
  refine wpAnyH_take (i := 7) (v := ?v16) rfl (by kernel_rfl) (by kernel_rfl) (by kernel_rfl) (fun _ _ _ h => h) (Or.inl ⟨by rfl, ?y16⟩) (by assumption) ?_
  case y16 => intro w hSw; (try dsimp only at hSw); go_simp; all_goals first | with_reducible rfl | rw [if_neg (by omega)]
  try simp only [Act.put, List.getElem_toArray, List.getElem_cons_succ, List.getElem_cons_zero, List.getElem?_toArray, List.getElem?_cons_succ, List.getElem?_cons_zero, List.setIfInBounds_toArray, List.set_cons_zero, List.set_cons_succ]
  refine wpAnyH_take (i := 11) (v := ?v17) rfl (by kernel_rfl) (by kernel_rfl) (by kernel_rfl) (fun _ _ _ h => h) (Or.inl ⟨by rfl, ?y17⟩) (by assumption) ?_
  case y17 => intro w hSw; (try dsimp only at hSw); go_simp; all_goals first | with_reducible rfl | rw [if_neg (by omega)]
  try simp only [Act.put, List.getElem_toArray, List.getElem_cons_succ, List.getElem_cons_zero, List.getElem?_toArray, List.getElem?_cons_succ, List.getElem?_cons_zero, List.setIfInBounds_toArray, List.set_cons_zero, List.set_cons_succ]
  refine wpAnyH_take (i := 12) (v := ?v18) rfl (by kernel_rfl) (by kernel_rfl) (by kernel_rfl) (fun _ _ _ h => h) (Or.inl ⟨by rfl, ?y18⟩) (by assumption) ?_
  case y18 => intro w hSw; (try dsimp only at hSw); go_simp; all_goals first | with_reducible rfl | rw [if_neg (by omega)]
  try simp only [Act.put, List.getElem_toArray, List.getElem_cons_succ, List.getElem_cons_zero, List.getElem?_toArray, List.getElem?_cons_succ, List.getElem?_cons_zero, List.setIfInBounds_toArray, List.set_cons_zero, List.set_cons_succ]
  refine wpAnyH_take (i := 13) (v := ?v19) rfl (by kernel_rfl) (by kernel_rfl) (by kernel_rfl) (fun _ _ _ h => h) (Or.inl ⟨by rfl, ?y19⟩) (by assumption) ?_
  case y19 => intro w hSw; (try dsimp only at hSw); go_simp; all_goals first | with_reducible rfl | rw [if_neg (by omega)]
  try simp only [Act.put, List.getElem_toArray, List.getElem_cons_succ, List.getElem_cons_zero, List.getElem?_toArray, List.getElem?_cons_succ, List.getElem?_cons_zero, List.setIfInBounds_toArray, List.set_cons_zero, List.set_cons_succ]
  refine wpAnyH_done (by kernel_rfl) ?_ _
  (go_wp2_with fail; go_ret2; refine ⟨congrArg (fun s => Ending.returned (.tuple #[.string s, .bool true])) ?_, hHeld.2.2.2.2.2.2.1⟩; rw [Hrd.out, Hrm.out]; apply ByteArray.ext; simp [showB, shapesL, wordB, wordsL, alusL, condsL, piece])
set_option maxRecDepth 100000 in
set_option maxHeartbeats 8000000 in
theorem rshow_11_6 (d n m imm : Int) (w : World) (hlit : imm = 6) (hc : canB 11 d n m imm = true) (hr : rcanB 11 d n m imm = true) : Calls Tryd.prog 7 #[.agg #[.int .i64 11, .int .i64 d, .int .i64 n, .int .i64 m, .int .i64 imm]] w fun e w' => e = .returned (.tuple #[.string ⟨(showB 11 d n m imm).toArray⟩, .bool true]) ∧ Below w.heap.size w w' := by
  subst hlit
  have hb := can_bounds 11 d n m 6 (by decide) hc
  have hcan : ∀ w, Calls Tryd.prog 14 #[.agg #[.int .i64 11, .int .i64 d, .int .i64 n, .int .i64 m, .int .i64 6]] w fun e w' => e = .returned (.bool true) ∧ Below w.heap.size w w' := fun w => by have := rcan_any 11 (by decide) d n m 6 w; rw [hr] at this; exact this
  clear hr hc
  obtain ⟨rd, hrd, hsrd, Hrd⟩ := reg_str d (by omega) (by omega)
  obtain ⟨rm, hrm, hsrm, Hrm⟩ := reg_str m (by omega) (by omega)
  go_enter Tryd.func7, Tryd.ntmps7
  go_wp2_with fail
  refine (hcan _).mono ?_
  rintro e w1 ⟨rfl, hb1⟩
  have hbx1 := heap_keep (heap_alloc_new w _) hb1
  have hB1 : Below w.heap.size w w1 := (Below.alloc (Below.refl _ w) (Nat.le_refl _) _).trans (hb1.mono (by simp))
  have hc1 := fun j => Lib.cell_of_heap hbx1 j
  go_wp2_with fail
  refine (hrd _).mono ?_
  rintro e w2 ⟨rfl, m1, rfl⟩
  go_wp2_with fail
  have hS0 : (fun w' => w'.cell? ⟨w.heap.size, 0, none⟩ = some (.int .i64 11) ∧ w'.cell? ⟨w.heap.size, 1, none⟩ = some (.int .i64 d) ∧ w'.cell? ⟨w.heap.size, 2, none⟩ = some (.int .i64 n) ∧ w'.cell? ⟨w.heap.size, 3, none⟩ = some (.int .i64 m) ∧ w'.cell? ⟨w.heap.size, 4, none⟩ = some (.int .i64 6) ∧ w.heap.size < w'.heap.size ∧ Below w.heap.size w w') (w1.drewN m1) := ⟨hc1 0, hc1 1, hc1 2, hc1 3, hc1 4, (Array.getElem?_eq_some_iff.1 hbx1).1, below_drewN hB1 m1⟩
  generalize w1.drewN m1 = W at *


  have HS := Lib.hid hS0

  obtain ⟨k0, k1, k2, k3, k4, hlt, -⟩ := hS0
  refine wp_region_held_drew (S := fun w' => w'.cell? ⟨w.heap.size, 0, none⟩ = some (.int .i64 11) ∧ w'.cell? ⟨w.heap.size, 1, none⟩ = some (.int .i64 d) ∧ w'.cell? ⟨w.heap.size, 2, none⟩ = some (.int .i64 n) ∧ w'.cell? ⟨w.heap.size, 3, none⟩ = some (.int .i64 m) ∧ w'.cell? ⟨w.heap.size, 4, none⟩ = some (.int .i64 6) ∧ w.heap.size < w'.heap.size ∧ Below w.heap.size w w') (by kernel_rfl) (held5_keep HS.out ((Below.refl _ _).drew)) (fun hHeld2 => ?_)
  refine wpAnyH_any hHeld2 (fun Y hHeld => ?_)
  clear hHeld2
  refine wpAnyH_take (i := 1) (v := ?v1) rfl (by kernel_rfl) (by kernel_rfl) (by kernel_rfl) (fun _ _ _ h => h) (Or.inl ⟨by rfl, ?y1⟩) (by assumption) ?_
  case y1 => intro w hSw; (try dsimp only at hSw); go_simp; all_goals first | with_reducible rfl | rw [if_neg (by omega)]
  try simp only [Act.put, List.getElem_toArray, List.getElem_cons_succ, List.getElem_cons_zero, List.getElem?_toArray, List.getElem?_cons_succ, List.getElem?_cons_zero, List.setIfInBounds_toArray, List.set_cons_zero, List.set_cons_succ]
  refine wpAnyH_take (i := 2) (v := ?v2) rfl (by kernel_rfl) (by kernel_rfl) (by kernel_rfl) (fun _ _ _ h => h) (Or.inl ⟨by rfl, ?y2⟩) (by assumption) ?_
  case y2 => intro w hSw; (try dsimp only at hSw); go_simp; all_goals first | with_reducible rfl | rw [if_neg (by omega)]
  try simp only [Act.put, List.getElem_toArray, List.getElem_cons_succ, List.getElem_cons_zero, List.getElem?_toArray, List.getElem?_cons_succ, List.getElem?_cons_zero, List.setIfInBounds_toArray, List.set_cons_zero, List.set_cons_succ]
  refine wpAnyH_take (i := 6) (v := ?v3) rfl (by kernel_rfl) (by kernel_rfl) (by kernel_rfl) (fun _ _ _ h => h) (Or.inl ⟨by rfl, ?y3⟩) (by assumption) ?_
  case y3 => intro w hSw; (try dsimp only at hSw); go_simp; all_goals first | with_reducible rfl | rw [if_neg (by omega)]
  try simp only [Act.put, List.getElem_toArray, List.getElem_cons_succ, List.getElem_cons_zero, List.getElem?_toArray, List.getElem?_cons_succ, List.getElem?_cons_zero, List.setIfInBounds_toArray, List.set_cons_zero, List.set_cons_succ]
  refine wpAnyH_take (i := 8) (v := ?v4) rfl (by kernel_rfl) (by kernel_rfl) (by kernel_rfl) (fun _ _ _ h => h) (Or.inl ⟨by rfl, ?y4⟩) (by assumption) ?_
  case y4 => intro w hSw; (try dsimp only at hSw); go_simp; all_goals first | with_reducible rfl | rw [if_neg (by omega)]
  try simp only [Act.put, List.getElem_toArray, List.getElem_cons_succ, List.getElem_cons_zero, List.getElem?_toArray, List.getElem?_cons_succ, List.getElem?_cons_zero, List.setIfInBounds_toArray, List.set_cons_zero, List.set_cons_succ]
  refine wpAnyH_take (i := 9) (v := ?v5) rfl (by kernel_rfl) (by kernel_rfl) (by kernel_rfl) (fun _ _ _ h => h) (Or.inl ⟨by rfl, ?y5⟩) (by assumption) ?_
  case y5 => intro w hSw; (try dsimp only at hSw); go_simp; all_goals first | with_reducible rfl | rw [if_neg (by omega)]
  try simp only [Act.put, List.getElem_toArray, List.getElem_cons_succ, List.getElem_cons_zero, List.getElem?_toArray, List.getElem?_cons_succ, List.getElem?_cons_zero, List.setIfInBounds_toArray, List.set_cons_zero, List.set_cons_succ]
  refine wpAnyH_ready (rs := [0, 10]) (by kernel_rfl) (by simp) ?_
  refine AllReadyH.cons rfl (fun K hK => ?_) ?_
  · skip
    go_simp
    refine hK.out _ _ ?_ (fun hHeld2 => ?_)
    · exact held5_keep hHeld (by repeat' first | exact Below.refl _ _ | refine below_drewN ?_ _ | refine Below.drew ?_ | refine Below.alloc ?_ (by first | exact Nat.le_refl _ | (simp <;> omega)) _)
    clear hK K hHeld
    try simp only [Act.put, List.getElem_toArray, List.getElem_cons_succ, List.getElem_cons_zero, List.getElem?_toArray, List.getElem?_cons_succ, List.getElem?_cons_zero, List.setIfInBounds_toArray, List.set_cons_zero, List.set_cons_succ]
    refine wpAnyH_mono (S' := fun w' => w'.cell? ⟨w.heap.size, 0, none⟩ = some (.int .i64 11) ∧ w'.cell? ⟨w.heap.size, 1, none⟩ = some (.int .i64 d) ∧ w'.cell? ⟨w.heap.size, 2, none⟩ = some (.int .i64 n) ∧ w'.cell? ⟨w.heap.size, 3, none⟩ = some (.int .i64 m) ∧ w'.cell? ⟨w.heap.size, 4, none⟩ = some (.int .i64 6) ∧ w.heap.size < w'.heap.size ∧ Below w.heap.size w w' ∧ w'.cell? ⟨Y.heap.size, 6, none⟩ = some (.string ⟨#[115, 98, 99, 115]⟩) ∧ Y.heap.size < w'.heap.size) (fun _ h => ⟨h.1, h.2.1, h.2.2.1, h.2.2.2.1, h.2.2.2.2.1, h.2.2.2.2.2.1, h.2.2.2.2.2.2.1⟩) ?_
    refine wpAnyH_any (⟨hHeld2.1, hHeld2.2.1, hHeld2.2.2.1, hHeld2.2.2.2.1, hHeld2.2.2.2.2.1, hHeld2.2.2.2.2.2.1, hHeld2.2.2.2.2.2.2, by go_simp, by simp⟩) (fun Z hHeld => ?_)
    clear hHeld2
    refine wpAnyH_take (i := 3) (v := ?v6) rfl (by kernel_rfl) (by kernel_rfl) (by kernel_rfl) (fun _ _ _ h => h) (Or.inl ⟨by rfl, ?y6⟩) (by assumption) ?_
    case y6 => intro w hSw; (try dsimp only at hSw); go_simp; all_goals first | with_reducible rfl | rw [if_neg (by omega)]
    try simp only [Act.put, List.getElem_toArray, List.getElem_cons_succ, List.getElem_cons_zero, List.getElem?_toArray, List.getElem?_cons_succ, List.getElem?_cons_zero, List.setIfInBounds_toArray, List.set_cons_zero, List.set_cons_succ]
    refine wpAnyH_take (i := 4) (v := ?v7) rfl (by kernel_rfl) (by kernel_rfl) (by kernel_rfl) (fun _ _ _ h => h) (Or.inl ⟨by rfl, ?y7⟩) (by assumption) ?_
    case y7 => intro w hSw; (try dsimp only at hSw); go_simp; all_goals first | with_reducible rfl | rw [if_neg (by omega)]
    try simp only [Act.put, List.getElem_toArray, List.getElem_cons_succ, List.getElem_cons_zero, List.getElem?_toArray, List.getElem?_cons_succ, List.getElem?_cons_zero, List.setIfInBounds_toArray, List.set_cons_zero, List.set_cons_succ]
    refine wpAnyH_take (i := 5) (v := ?v8) rfl (by kernel_rfl) (by kernel_rfl) (by kernel_rfl) (fun _ _ _ h => h) (Or.inl ⟨by rfl, ?y8⟩) (by assumption) ?_
    case y8 => intro w hSw; (try dsimp only at hSw); go_simp; all_goals first | with_reducible rfl | rw [if_neg (by omega)]
    try simp only [Act.put, List.getElem_toArray, List.getElem_cons_succ, List.getElem_cons_zero, List.getElem?_toArray, List.getElem?_cons_succ, List.getElem?_cons_zero, List.setIfInBounds_toArray, List.set_cons_zero, List.set_cons_succ]
    refine wpAnyH_take (i := 7) (v := ?v9) rfl (by kernel_rfl) (by kernel_rfl) (by kernel_rfl) (fun _ _ _ h => h) (Or.inl ⟨by rfl, ?y9⟩) (by assumption) ?_
    case y9 => intro w hSw; (try dsimp only at hSw); go_simp; all_goals first | with_reducible rfl | rw [if_neg (by omega)]
    try simp only [Act.put, List.getElem_toArray, List.getElem_cons_succ, List.getElem_cons_zero, List.getElem?_toArray, List.getElem?_cons_succ, List.getElem?_cons_zero, List.setIfInBounds_toArray, List.set_cons_zero, List.set_cons_succ]
    refine wpAnyH_ready (rs := [10]) (by kernel_rfl) (by simp) ?_
    refine AllReadyH.cons rfl (fun K hK => ?_) AllReadyH.nil
    go_simp
    (go_at_call 15; with_reducible refine (hrm _).mono ?_; rintro e w2 ⟨rfl, m2, rfl⟩)
    go_wp2_with fail
    refine hK.out _ _ ?_ (fun hHeld2 => ?_)
    · exact held5_litk hHeld (by repeat' first | exact Below.refl _ _ | refine below_drewN ?_ _ | refine Below.drew ?_ | refine Below.alloc ?_ (by first | exact Nat.le_refl _ | (simp <;> omega)) _)
    clear hK K hHeld
    try simp only [Act.put, List.getElem_toArray, List.getElem_cons_succ, List.getElem_cons_zero, List.getElem?_toArray, List.getElem?_cons_succ, List.getElem?_cons_zero, List.setIfInBounds_toArray, List.set_cons_zero, List.set_cons_succ]
    refine wpAnyH_any hHeld2 (fun Z hHeld => ?_)
    clear hHeld2
    refine wpAnyH_take (i := 11) (v := ?v10) rfl (by kernel_rfl) (by kernel_rfl) (by kernel_rfl) (fun _ _ _ h => h) (Or.inl ⟨by rfl, ?y10⟩) (by assumption) ?_
    case y10 => intro w hSw; (try dsimp only at hSw); go_simp; all_goals first | with_reducible rfl | rw [if_neg (by omega)]
    try simp only [Act.put, List.getElem_toArray, List.getElem_cons_succ, List.getElem_cons_zero, List.getElem?_toArray, List.getElem?_cons_succ, List.getElem?_cons_zero, List.setIfInBounds_toArray, List.set_cons_zero, List.set_cons_succ]
    refine wpAnyH_take (i := 12) (v := ?v11) rfl (by kernel_rfl) (by kernel_rfl) (by kernel_rfl) (fun _ _ _ h => h) (Or.inl ⟨by rfl, ?y11⟩) (by assumption) ?_
    case y11 => intro w hSw; (try dsimp only at hSw); go_simp; all_goals first | with_reducible rfl | rw [if_neg (by omega)]
    try simp only [Act.put, List.getElem_toArray, List.getElem_cons_succ, List.getElem_cons_zero, List.getElem?_toArray, List.getElem?_cons_succ, List.getElem?_cons_zero, List.setIfInBounds_toArray, List.set_cons_zero, List.set_cons_succ]
    refine wpAnyH_take (i := 13) (v := ?v12) rfl (by kernel_rfl) (by kernel_rfl) (by kernel_rfl) (fun _ _ _ h => h) (Or.inl ⟨by rfl, ?y12⟩) (by assumption) ?_
    case y12 => intro w hSw; (try dsimp only at hSw); go_simp; all_goals first | with_reducible rfl | rw [if_neg (by omega)]
    try simp only [Act.put, List.getElem_toArray, List.getElem_cons_succ, List.getElem_cons_zero, List.getElem?_toArray, List.getElem?_cons_succ, List.getElem?_cons_zero, List.setIfInBounds_toArray, List.set_cons_zero, List.set_cons_succ]
    refine wpAnyH_done (by kernel_rfl) ?_ _
    (go_wp2_with fail; go_ret2; refine ⟨congrArg (fun s => Ending.returned (.tuple #[.string s, .bool true])) ?_, hHeld.2.2.2.2.2.2.1⟩; rw [Hrd.out, Hrm.out]; apply ByteArray.ext; simp [showB, shapesL, wordB, wordsL, alusL, condsL, piece])
  refine AllReadyH.cons rfl (fun K hK => ?_) AllReadyH.nil
  go_simp
  (go_at_call 15; with_reducible refine (hrm _).mono ?_; rintro e w2 ⟨rfl, m2, rfl⟩)
  go_wp2_with fail
  refine hK.out _ _ ?_ (fun hHeld2 => ?_)
  · exact held5_keep hHeld (by repeat' first | exact Below.refl _ _ | refine below_drewN ?_ _ | refine Below.drew ?_ | refine Below.alloc ?_ (by first | exact Nat.le_refl _ | (simp <;> omega)) _)
  clear hK K hHeld
  try simp only [Act.put, List.getElem_toArray, List.getElem_cons_succ, List.getElem_cons_zero, List.getElem?_toArray, List.getElem?_cons_succ, List.getElem?_cons_zero, List.setIfInBounds_toArray, List.set_cons_zero, List.set_cons_succ]
  refine wpAnyH_any hHeld2 (fun Y hHeld => ?_)
  clear hHeld2
  refine wpAnyH_ready (rs := [0]) (by kernel_rfl) (by simp) ?_
  refine AllReadyH.cons rfl (fun K hK => ?_) AllReadyH.nil
  go_simp
  refine hK.out _ _ ?_ (fun hHeld2 => ?_)
  · exact held5_keep hHeld (by repeat' first | exact Below.refl _ _ | refine below_drewN ?_ _ | refine Below.drew ?_ | refine Below.alloc ?_ (by first | exact Nat.le_refl _ | (simp <;> omega)) _)
  clear hK K hHeld
  try simp only [Act.put, List.getElem_toArray, List.getElem_cons_succ, List.getElem_cons_zero, List.getElem?_toArray, List.getElem?_cons_succ, List.getElem?_cons_zero, List.setIfInBounds_toArray, List.set_cons_zero, List.set_cons_succ]
  refine wpAnyH_mono (S' := fun w' => w'.cell? ⟨w.heap.size, 0, none⟩ = some (.int .i64 11) ∧ w'.cell? ⟨w.heap.size, 1, none⟩ = some (.int .i64 d) ∧ w'.cell? ⟨w.heap.size, 2, none⟩ = some (.int .i64 n) ∧ w'.cell? ⟨w.heap.size, 3, none⟩ = some (.int .i64 m) ∧ w'.cell? ⟨w.heap.size, 4, none⟩ = some (.int .i64 6) ∧ w.heap.size < w'.heap.size ∧ Below w.heap.size w w' ∧ w'.cell? ⟨Y.heap.size, 6, none⟩ = some (.string ⟨#[115, 98, 99, 115]⟩) ∧ Y.heap.size < w'.heap.size) (fun _ h => ⟨h.1, h.2.1, h.2.2.1, h.2.2.2.1, h.2.2.2.2.1, h.2.2.2.2.2.1, h.2.2.2.2.2.2.1⟩) ?_
  refine wpAnyH_any (⟨hHeld2.1, hHeld2.2.1, hHeld2.2.2.1, hHeld2.2.2.2.1, hHeld2.2.2.2.2.1, hHeld2.2.2.2.2.2.1, hHeld2.2.2.2.2.2.2, by go_simp, by simp⟩) (fun Z hHeld => ?_)
  clear hHeld2
  refine wpAnyH_take (i := 3) (v := ?v13) rfl (by kernel_rfl) (by kernel_rfl) (by kernel_rfl) (fun _ _ _ h => h) (Or.inl ⟨by rfl, ?y13⟩) (by assumption) ?_
  case y13 => intro w hSw; (try dsimp only at hSw); go_simp; all_goals first | with_reducible rfl | rw [if_neg (by omega)]
  try simp only [Act.put, List.getElem_toArray, List.getElem_cons_succ, List.getElem_cons_zero, List.getElem?_toArray, List.getElem?_cons_succ, List.getElem?_cons_zero, List.setIfInBounds_toArray, List.set_cons_zero, List.set_cons_succ]
  refine wpAnyH_take (i := 4) (v := ?v14) rfl (by kernel_rfl) (by kernel_rfl) (by kernel_rfl) (fun _ _ _ h => h) (Or.inl ⟨by rfl, ?y14⟩) (by assumption) ?_
  case y14 => intro w hSw; (try dsimp only at hSw); go_simp; all_goals first | with_reducible rfl | rw [if_neg (by omega)]
  try simp only [Act.put, List.getElem_toArray, List.getElem_cons_succ, List.getElem_cons_zero, List.getElem?_toArray, List.getElem?_cons_succ, List.getElem?_cons_zero, List.setIfInBounds_toArray, List.set_cons_zero, List.set_cons_succ]
  refine wpAnyH_take (i := 5) (v := ?v15) rfl (by kernel_rfl) (by kernel_rfl) (by kernel_rfl) (fun _ _ _ h => h) (Or.inl ⟨by rfl, ?y15⟩) (by assumption) ?_
  case y15 => intro w hSw; (try dsimp only at hSw); go_simp; all_goals first | with_reducible rfl | rw [if_neg (by omega)]
  try simp only [Act.put, List.getElem_toArray, List.getElem_cons_succ, List.getElem_cons_zero, List.getElem?_toArray, List.getElem?_cons_succ, List.getElem?_cons_zero, List.setIfInBounds_toArray, List.set_cons_zero, List.set_cons_succ]
  refine wpAnyH_take (i := 7) (v := ?v16) rfl (by kernel_rfl) (by kernel_rfl) (by kernel_rfl) (fun _ _ _ h => h) (Or.inl ⟨by rfl, ?y16⟩) (by assumption) ?_
  case y16 => intro w hSw; (try dsimp only at hSw); go_simp; all_goals first | with_reducible rfl | rw [if_neg (by omega)]
  try simp only [Act.put, List.getElem_toArray, List.getElem_cons_succ, List.getElem_cons_zero, List.getElem?_toArray, List.getElem?_cons_succ, List.getElem?_cons_zero, List.setIfInBounds_toArray, List.set_cons_zero, List.set_cons_succ]
  refine wpAnyH_take (i := 11) (v := ?v17) rfl (by kernel_rfl) (by kernel_rfl) (by kernel_rfl) (fun _ _ _ h => h) (Or.inl ⟨by rfl, ?y17⟩) (by assumption) ?_
  case y17 => intro w hSw; (try dsimp only at hSw); go_simp; all_goals first | with_reducible rfl | rw [if_neg (by omega)]
  try simp only [Act.put, List.getElem_toArray, List.getElem_cons_succ, List.getElem_cons_zero, List.getElem?_toArray, List.getElem?_cons_succ, List.getElem?_cons_zero, List.setIfInBounds_toArray, List.set_cons_zero, List.set_cons_succ]
  refine wpAnyH_take (i := 12) (v := ?v18) rfl (by kernel_rfl) (by kernel_rfl) (by kernel_rfl) (fun _ _ _ h => h) (Or.inl ⟨by rfl, ?y18⟩) (by assumption) ?_
  case y18 => intro w hSw; (try dsimp only at hSw); go_simp; all_goals first | with_reducible rfl | rw [if_neg (by omega)]
  try simp only [Act.put, List.getElem_toArray, List.getElem_cons_succ, List.getElem_cons_zero, List.getElem?_toArray, List.getElem?_cons_succ, List.getElem?_cons_zero, List.setIfInBounds_toArray, List.set_cons_zero, List.set_cons_succ]
  refine wpAnyH_take (i := 13) (v := ?v19) rfl (by kernel_rfl) (by kernel_rfl) (by kernel_rfl) (fun _ _ _ h => h) (Or.inl ⟨by rfl, ?y19⟩) (by assumption) ?_
  case y19 => intro w hSw; (try dsimp only at hSw); go_simp; all_goals first | with_reducible rfl | rw [if_neg (by omega)]
  try simp only [Act.put, List.getElem_toArray, List.getElem_cons_succ, List.getElem_cons_zero, List.getElem?_toArray, List.getElem?_cons_succ, List.getElem?_cons_zero, List.setIfInBounds_toArray, List.set_cons_zero, List.set_cons_succ]
  refine wpAnyH_done (by kernel_rfl) ?_ _
  (go_wp2_with fail; go_ret2; refine ⟨congrArg (fun s => Ending.returned (.tuple #[.string s, .bool true])) ?_, hHeld.2.2.2.2.2.2.1⟩; rw [Hrd.out, Hrm.out]; apply ByteArray.ext; simp [showB, shapesL, wordB, wordsL, alusL, condsL, piece])
set_option maxRecDepth 100000 in
set_option maxHeartbeats 8000000 in
theorem rshow_11_7 (d n m imm : Int) (w : World) (hlit : imm = 7) (hc : canB 11 d n m imm = true) (hr : rcanB 11 d n m imm = true) : Calls Tryd.prog 7 #[.agg #[.int .i64 11, .int .i64 d, .int .i64 n, .int .i64 m, .int .i64 imm]] w fun e w' => e = .returned (.tuple #[.string ⟨(showB 11 d n m imm).toArray⟩, .bool true]) ∧ Below w.heap.size w w' := by
  subst hlit
  have hb := can_bounds 11 d n m 7 (by decide) hc
  have hcan : ∀ w, Calls Tryd.prog 14 #[.agg #[.int .i64 11, .int .i64 d, .int .i64 n, .int .i64 m, .int .i64 7]] w fun e w' => e = .returned (.bool true) ∧ Below w.heap.size w w' := fun w => by have := rcan_any 11 (by decide) d n m 7 w; rw [hr] at this; exact this
  clear hr hc
  obtain ⟨rd, hrd, hsrd, Hrd⟩ := reg_str d (by omega) (by omega)
  obtain ⟨rm, hrm, hsrm, Hrm⟩ := reg_str m (by omega) (by omega)
  go_enter Tryd.func7, Tryd.ntmps7
  go_wp2_with fail
  refine (hcan _).mono ?_
  rintro e w1 ⟨rfl, hb1⟩
  have hbx1 := heap_keep (heap_alloc_new w _) hb1
  have hB1 : Below w.heap.size w w1 := (Below.alloc (Below.refl _ w) (Nat.le_refl _) _).trans (hb1.mono (by simp))
  have hc1 := fun j => Lib.cell_of_heap hbx1 j
  go_wp2_with fail
  refine (hrd _).mono ?_
  rintro e w2 ⟨rfl, m1, rfl⟩
  go_wp2_with fail
  have hS0 : (fun w' => w'.cell? ⟨w.heap.size, 0, none⟩ = some (.int .i64 11) ∧ w'.cell? ⟨w.heap.size, 1, none⟩ = some (.int .i64 d) ∧ w'.cell? ⟨w.heap.size, 2, none⟩ = some (.int .i64 n) ∧ w'.cell? ⟨w.heap.size, 3, none⟩ = some (.int .i64 m) ∧ w'.cell? ⟨w.heap.size, 4, none⟩ = some (.int .i64 7) ∧ w.heap.size < w'.heap.size ∧ Below w.heap.size w w') (w1.drewN m1) := ⟨hc1 0, hc1 1, hc1 2, hc1 3, hc1 4, (Array.getElem?_eq_some_iff.1 hbx1).1, below_drewN hB1 m1⟩
  generalize w1.drewN m1 = W at *


  have HS := Lib.hid hS0

  obtain ⟨k0, k1, k2, k3, k4, hlt, -⟩ := hS0
  refine wp_region_held_drew (S := fun w' => w'.cell? ⟨w.heap.size, 0, none⟩ = some (.int .i64 11) ∧ w'.cell? ⟨w.heap.size, 1, none⟩ = some (.int .i64 d) ∧ w'.cell? ⟨w.heap.size, 2, none⟩ = some (.int .i64 n) ∧ w'.cell? ⟨w.heap.size, 3, none⟩ = some (.int .i64 m) ∧ w'.cell? ⟨w.heap.size, 4, none⟩ = some (.int .i64 7) ∧ w.heap.size < w'.heap.size ∧ Below w.heap.size w w') (by kernel_rfl) (held5_keep HS.out ((Below.refl _ _).drew)) (fun hHeld2 => ?_)
  refine wpAnyH_any hHeld2 (fun Y hHeld => ?_)
  clear hHeld2
  refine wpAnyH_take (i := 1) (v := ?v1) rfl (by kernel_rfl) (by kernel_rfl) (by kernel_rfl) (fun _ _ _ h => h) (Or.inl ⟨by rfl, ?y1⟩) (by assumption) ?_
  case y1 => intro w hSw; (try dsimp only at hSw); go_simp; all_goals first | with_reducible rfl | rw [if_neg (by omega)]
  try simp only [Act.put, List.getElem_toArray, List.getElem_cons_succ, List.getElem_cons_zero, List.getElem?_toArray, List.getElem?_cons_succ, List.getElem?_cons_zero, List.setIfInBounds_toArray, List.set_cons_zero, List.set_cons_succ]
  refine wpAnyH_take (i := 2) (v := ?v2) rfl (by kernel_rfl) (by kernel_rfl) (by kernel_rfl) (fun _ _ _ h => h) (Or.inl ⟨by rfl, ?y2⟩) (by assumption) ?_
  case y2 => intro w hSw; (try dsimp only at hSw); go_simp; all_goals first | with_reducible rfl | rw [if_neg (by omega)]
  try simp only [Act.put, List.getElem_toArray, List.getElem_cons_succ, List.getElem_cons_zero, List.getElem?_toArray, List.getElem?_cons_succ, List.getElem?_cons_zero, List.setIfInBounds_toArray, List.set_cons_zero, List.set_cons_succ]
  refine wpAnyH_take (i := 6) (v := ?v3) rfl (by kernel_rfl) (by kernel_rfl) (by kernel_rfl) (fun _ _ _ h => h) (Or.inl ⟨by rfl, ?y3⟩) (by assumption) ?_
  case y3 => intro w hSw; (try dsimp only at hSw); go_simp; all_goals first | with_reducible rfl | rw [if_neg (by omega)]
  try simp only [Act.put, List.getElem_toArray, List.getElem_cons_succ, List.getElem_cons_zero, List.getElem?_toArray, List.getElem?_cons_succ, List.getElem?_cons_zero, List.setIfInBounds_toArray, List.set_cons_zero, List.set_cons_succ]
  refine wpAnyH_take (i := 8) (v := ?v4) rfl (by kernel_rfl) (by kernel_rfl) (by kernel_rfl) (fun _ _ _ h => h) (Or.inl ⟨by rfl, ?y4⟩) (by assumption) ?_
  case y4 => intro w hSw; (try dsimp only at hSw); go_simp; all_goals first | with_reducible rfl | rw [if_neg (by omega)]
  try simp only [Act.put, List.getElem_toArray, List.getElem_cons_succ, List.getElem_cons_zero, List.getElem?_toArray, List.getElem?_cons_succ, List.getElem?_cons_zero, List.setIfInBounds_toArray, List.set_cons_zero, List.set_cons_succ]
  refine wpAnyH_take (i := 9) (v := ?v5) rfl (by kernel_rfl) (by kernel_rfl) (by kernel_rfl) (fun _ _ _ h => h) (Or.inl ⟨by rfl, ?y5⟩) (by assumption) ?_
  case y5 => intro w hSw; (try dsimp only at hSw); go_simp; all_goals first | with_reducible rfl | rw [if_neg (by omega)]
  try simp only [Act.put, List.getElem_toArray, List.getElem_cons_succ, List.getElem_cons_zero, List.getElem?_toArray, List.getElem?_cons_succ, List.getElem?_cons_zero, List.setIfInBounds_toArray, List.set_cons_zero, List.set_cons_succ]
  refine wpAnyH_ready (rs := [0, 10]) (by kernel_rfl) (by simp) ?_
  refine AllReadyH.cons rfl (fun K hK => ?_) ?_
  · skip
    go_simp
    refine hK.out _ _ ?_ (fun hHeld2 => ?_)
    · exact held5_keep hHeld (by repeat' first | exact Below.refl _ _ | refine below_drewN ?_ _ | refine Below.drew ?_ | refine Below.alloc ?_ (by first | exact Nat.le_refl _ | (simp <;> omega)) _)
    clear hK K hHeld
    try simp only [Act.put, List.getElem_toArray, List.getElem_cons_succ, List.getElem_cons_zero, List.getElem?_toArray, List.getElem?_cons_succ, List.getElem?_cons_zero, List.setIfInBounds_toArray, List.set_cons_zero, List.set_cons_succ]
    refine wpAnyH_mono (S' := fun w' => w'.cell? ⟨w.heap.size, 0, none⟩ = some (.int .i64 11) ∧ w'.cell? ⟨w.heap.size, 1, none⟩ = some (.int .i64 d) ∧ w'.cell? ⟨w.heap.size, 2, none⟩ = some (.int .i64 n) ∧ w'.cell? ⟨w.heap.size, 3, none⟩ = some (.int .i64 m) ∧ w'.cell? ⟨w.heap.size, 4, none⟩ = some (.int .i64 7) ∧ w.heap.size < w'.heap.size ∧ Below w.heap.size w w' ∧ w'.cell? ⟨Y.heap.size, 7, none⟩ = some (.string ⟨#[114, 111, 114, 115]⟩) ∧ Y.heap.size < w'.heap.size) (fun _ h => ⟨h.1, h.2.1, h.2.2.1, h.2.2.2.1, h.2.2.2.2.1, h.2.2.2.2.2.1, h.2.2.2.2.2.2.1⟩) ?_
    refine wpAnyH_any (⟨hHeld2.1, hHeld2.2.1, hHeld2.2.2.1, hHeld2.2.2.2.1, hHeld2.2.2.2.2.1, hHeld2.2.2.2.2.2.1, hHeld2.2.2.2.2.2.2, by go_simp, by simp⟩) (fun Z hHeld => ?_)
    clear hHeld2
    refine wpAnyH_take (i := 3) (v := ?v6) rfl (by kernel_rfl) (by kernel_rfl) (by kernel_rfl) (fun _ _ _ h => h) (Or.inl ⟨by rfl, ?y6⟩) (by assumption) ?_
    case y6 => intro w hSw; (try dsimp only at hSw); go_simp; all_goals first | with_reducible rfl | rw [if_neg (by omega)]
    try simp only [Act.put, List.getElem_toArray, List.getElem_cons_succ, List.getElem_cons_zero, List.getElem?_toArray, List.getElem?_cons_succ, List.getElem?_cons_zero, List.setIfInBounds_toArray, List.set_cons_zero, List.set_cons_succ]
    refine wpAnyH_take (i := 4) (v := ?v7) rfl (by kernel_rfl) (by kernel_rfl) (by kernel_rfl) (fun _ _ _ h => h) (Or.inl ⟨by rfl, ?y7⟩) (by assumption) ?_
    case y7 => intro w hSw; (try dsimp only at hSw); go_simp; all_goals first | with_reducible rfl | rw [if_neg (by omega)]
    try simp only [Act.put, List.getElem_toArray, List.getElem_cons_succ, List.getElem_cons_zero, List.getElem?_toArray, List.getElem?_cons_succ, List.getElem?_cons_zero, List.setIfInBounds_toArray, List.set_cons_zero, List.set_cons_succ]
    refine wpAnyH_take (i := 5) (v := ?v8) rfl (by kernel_rfl) (by kernel_rfl) (by kernel_rfl) (fun _ _ _ h => h) (Or.inl ⟨by rfl, ?y8⟩) (by assumption) ?_
    case y8 => intro w hSw; (try dsimp only at hSw); go_simp; all_goals first | with_reducible rfl | rw [if_neg (by omega)]
    try simp only [Act.put, List.getElem_toArray, List.getElem_cons_succ, List.getElem_cons_zero, List.getElem?_toArray, List.getElem?_cons_succ, List.getElem?_cons_zero, List.setIfInBounds_toArray, List.set_cons_zero, List.set_cons_succ]
    refine wpAnyH_take (i := 7) (v := ?v9) rfl (by kernel_rfl) (by kernel_rfl) (by kernel_rfl) (fun _ _ _ h => h) (Or.inl ⟨by rfl, ?y9⟩) (by assumption) ?_
    case y9 => intro w hSw; (try dsimp only at hSw); go_simp; all_goals first | with_reducible rfl | rw [if_neg (by omega)]
    try simp only [Act.put, List.getElem_toArray, List.getElem_cons_succ, List.getElem_cons_zero, List.getElem?_toArray, List.getElem?_cons_succ, List.getElem?_cons_zero, List.setIfInBounds_toArray, List.set_cons_zero, List.set_cons_succ]
    refine wpAnyH_ready (rs := [10]) (by kernel_rfl) (by simp) ?_
    refine AllReadyH.cons rfl (fun K hK => ?_) AllReadyH.nil
    go_simp
    (go_at_call 15; with_reducible refine (hrm _).mono ?_; rintro e w2 ⟨rfl, m2, rfl⟩)
    go_wp2_with fail
    refine hK.out _ _ ?_ (fun hHeld2 => ?_)
    · exact held5_litk hHeld (by repeat' first | exact Below.refl _ _ | refine below_drewN ?_ _ | refine Below.drew ?_ | refine Below.alloc ?_ (by first | exact Nat.le_refl _ | (simp <;> omega)) _)
    clear hK K hHeld
    try simp only [Act.put, List.getElem_toArray, List.getElem_cons_succ, List.getElem_cons_zero, List.getElem?_toArray, List.getElem?_cons_succ, List.getElem?_cons_zero, List.setIfInBounds_toArray, List.set_cons_zero, List.set_cons_succ]
    refine wpAnyH_any hHeld2 (fun Z hHeld => ?_)
    clear hHeld2
    refine wpAnyH_take (i := 11) (v := ?v10) rfl (by kernel_rfl) (by kernel_rfl) (by kernel_rfl) (fun _ _ _ h => h) (Or.inl ⟨by rfl, ?y10⟩) (by assumption) ?_
    case y10 => intro w hSw; (try dsimp only at hSw); go_simp; all_goals first | with_reducible rfl | rw [if_neg (by omega)]
    try simp only [Act.put, List.getElem_toArray, List.getElem_cons_succ, List.getElem_cons_zero, List.getElem?_toArray, List.getElem?_cons_succ, List.getElem?_cons_zero, List.setIfInBounds_toArray, List.set_cons_zero, List.set_cons_succ]
    refine wpAnyH_take (i := 12) (v := ?v11) rfl (by kernel_rfl) (by kernel_rfl) (by kernel_rfl) (fun _ _ _ h => h) (Or.inl ⟨by rfl, ?y11⟩) (by assumption) ?_
    case y11 => intro w hSw; (try dsimp only at hSw); go_simp; all_goals first | with_reducible rfl | rw [if_neg (by omega)]
    try simp only [Act.put, List.getElem_toArray, List.getElem_cons_succ, List.getElem_cons_zero, List.getElem?_toArray, List.getElem?_cons_succ, List.getElem?_cons_zero, List.setIfInBounds_toArray, List.set_cons_zero, List.set_cons_succ]
    refine wpAnyH_take (i := 13) (v := ?v12) rfl (by kernel_rfl) (by kernel_rfl) (by kernel_rfl) (fun _ _ _ h => h) (Or.inl ⟨by rfl, ?y12⟩) (by assumption) ?_
    case y12 => intro w hSw; (try dsimp only at hSw); go_simp; all_goals first | with_reducible rfl | rw [if_neg (by omega)]
    try simp only [Act.put, List.getElem_toArray, List.getElem_cons_succ, List.getElem_cons_zero, List.getElem?_toArray, List.getElem?_cons_succ, List.getElem?_cons_zero, List.setIfInBounds_toArray, List.set_cons_zero, List.set_cons_succ]
    refine wpAnyH_done (by kernel_rfl) ?_ _
    (go_wp2_with fail; go_ret2; refine ⟨congrArg (fun s => Ending.returned (.tuple #[.string s, .bool true])) ?_, hHeld.2.2.2.2.2.2.1⟩; rw [Hrd.out, Hrm.out]; apply ByteArray.ext; simp [showB, shapesL, wordB, wordsL, alusL, condsL, piece])
  refine AllReadyH.cons rfl (fun K hK => ?_) AllReadyH.nil
  go_simp
  (go_at_call 15; with_reducible refine (hrm _).mono ?_; rintro e w2 ⟨rfl, m2, rfl⟩)
  go_wp2_with fail
  refine hK.out _ _ ?_ (fun hHeld2 => ?_)
  · exact held5_keep hHeld (by repeat' first | exact Below.refl _ _ | refine below_drewN ?_ _ | refine Below.drew ?_ | refine Below.alloc ?_ (by first | exact Nat.le_refl _ | (simp <;> omega)) _)
  clear hK K hHeld
  try simp only [Act.put, List.getElem_toArray, List.getElem_cons_succ, List.getElem_cons_zero, List.getElem?_toArray, List.getElem?_cons_succ, List.getElem?_cons_zero, List.setIfInBounds_toArray, List.set_cons_zero, List.set_cons_succ]
  refine wpAnyH_any hHeld2 (fun Y hHeld => ?_)
  clear hHeld2
  refine wpAnyH_ready (rs := [0]) (by kernel_rfl) (by simp) ?_
  refine AllReadyH.cons rfl (fun K hK => ?_) AllReadyH.nil
  go_simp
  refine hK.out _ _ ?_ (fun hHeld2 => ?_)
  · exact held5_keep hHeld (by repeat' first | exact Below.refl _ _ | refine below_drewN ?_ _ | refine Below.drew ?_ | refine Below.alloc ?_ (by first | exact Nat.le_refl _ | (simp <;> omega)) _)
  clear hK K hHeld
  try simp only [Act.put, List.getElem_toArray, List.getElem_cons_succ, List.getElem_cons_zero, List.getElem?_toArray, List.getElem?_cons_succ, List.getElem?_cons_zero, List.setIfInBounds_toArray, List.set_cons_zero, List.set_cons_succ]
  refine wpAnyH_mono (S' := fun w' => w'.cell? ⟨w.heap.size, 0, none⟩ = some (.int .i64 11) ∧ w'.cell? ⟨w.heap.size, 1, none⟩ = some (.int .i64 d) ∧ w'.cell? ⟨w.heap.size, 2, none⟩ = some (.int .i64 n) ∧ w'.cell? ⟨w.heap.size, 3, none⟩ = some (.int .i64 m) ∧ w'.cell? ⟨w.heap.size, 4, none⟩ = some (.int .i64 7) ∧ w.heap.size < w'.heap.size ∧ Below w.heap.size w w' ∧ w'.cell? ⟨Y.heap.size, 7, none⟩ = some (.string ⟨#[114, 111, 114, 115]⟩) ∧ Y.heap.size < w'.heap.size) (fun _ h => ⟨h.1, h.2.1, h.2.2.1, h.2.2.2.1, h.2.2.2.2.1, h.2.2.2.2.2.1, h.2.2.2.2.2.2.1⟩) ?_
  refine wpAnyH_any (⟨hHeld2.1, hHeld2.2.1, hHeld2.2.2.1, hHeld2.2.2.2.1, hHeld2.2.2.2.2.1, hHeld2.2.2.2.2.2.1, hHeld2.2.2.2.2.2.2, by go_simp, by simp⟩) (fun Z hHeld => ?_)
  clear hHeld2
  refine wpAnyH_take (i := 3) (v := ?v13) rfl (by kernel_rfl) (by kernel_rfl) (by kernel_rfl) (fun _ _ _ h => h) (Or.inl ⟨by rfl, ?y13⟩) (by assumption) ?_
  case y13 => intro w hSw; (try dsimp only at hSw); go_simp; all_goals first | with_reducible rfl | rw [if_neg (by omega)]
  try simp only [Act.put, List.getElem_toArray, List.getElem_cons_succ, List.getElem_cons_zero, List.getElem?_toArray, List.getElem?_cons_succ, List.getElem?_cons_zero, List.setIfInBounds_toArray, List.set_cons_zero, List.set_cons_succ]
  refine wpAnyH_take (i := 4) (v := ?v14) rfl (by kernel_rfl) (by kernel_rfl) (by kernel_rfl) (fun _ _ _ h => h) (Or.inl ⟨by rfl, ?y14⟩) (by assumption) ?_
  case y14 => intro w hSw; (try dsimp only at hSw); go_simp; all_goals first | with_reducible rfl | rw [if_neg (by omega)]
  try simp only [Act.put, List.getElem_toArray, List.getElem_cons_succ, List.getElem_cons_zero, List.getElem?_toArray, List.getElem?_cons_succ, List.getElem?_cons_zero, List.setIfInBounds_toArray, List.set_cons_zero, List.set_cons_succ]
  refine wpAnyH_take (i := 5) (v := ?v15) rfl (by kernel_rfl) (by kernel_rfl) (by kernel_rfl) (fun _ _ _ h => h) (Or.inl ⟨by rfl, ?y15⟩) (by assumption) ?_
  case y15 => intro w hSw; (try dsimp only at hSw); go_simp; all_goals first | with_reducible rfl | rw [if_neg (by omega)]
  try simp only [Act.put, List.getElem_toArray, List.getElem_cons_succ, List.getElem_cons_zero, List.getElem?_toArray, List.getElem?_cons_succ, List.getElem?_cons_zero, List.setIfInBounds_toArray, List.set_cons_zero, List.set_cons_succ]
  refine wpAnyH_take (i := 7) (v := ?v16) rfl (by kernel_rfl) (by kernel_rfl) (by kernel_rfl) (fun _ _ _ h => h) (Or.inl ⟨by rfl, ?y16⟩) (by assumption) ?_
  case y16 => intro w hSw; (try dsimp only at hSw); go_simp; all_goals first | with_reducible rfl | rw [if_neg (by omega)]
  try simp only [Act.put, List.getElem_toArray, List.getElem_cons_succ, List.getElem_cons_zero, List.getElem?_toArray, List.getElem?_cons_succ, List.getElem?_cons_zero, List.setIfInBounds_toArray, List.set_cons_zero, List.set_cons_succ]
  refine wpAnyH_take (i := 11) (v := ?v17) rfl (by kernel_rfl) (by kernel_rfl) (by kernel_rfl) (fun _ _ _ h => h) (Or.inl ⟨by rfl, ?y17⟩) (by assumption) ?_
  case y17 => intro w hSw; (try dsimp only at hSw); go_simp; all_goals first | with_reducible rfl | rw [if_neg (by omega)]
  try simp only [Act.put, List.getElem_toArray, List.getElem_cons_succ, List.getElem_cons_zero, List.getElem?_toArray, List.getElem?_cons_succ, List.getElem?_cons_zero, List.setIfInBounds_toArray, List.set_cons_zero, List.set_cons_succ]
  refine wpAnyH_take (i := 12) (v := ?v18) rfl (by kernel_rfl) (by kernel_rfl) (by kernel_rfl) (fun _ _ _ h => h) (Or.inl ⟨by rfl, ?y18⟩) (by assumption) ?_
  case y18 => intro w hSw; (try dsimp only at hSw); go_simp; all_goals first | with_reducible rfl | rw [if_neg (by omega)]
  try simp only [Act.put, List.getElem_toArray, List.getElem_cons_succ, List.getElem_cons_zero, List.getElem?_toArray, List.getElem?_cons_succ, List.getElem?_cons_zero, List.setIfInBounds_toArray, List.set_cons_zero, List.set_cons_succ]
  refine wpAnyH_take (i := 13) (v := ?v19) rfl (by kernel_rfl) (by kernel_rfl) (by kernel_rfl) (fun _ _ _ h => h) (Or.inl ⟨by rfl, ?y19⟩) (by assumption) ?_
  case y19 => intro w hSw; (try dsimp only at hSw); go_simp; all_goals first | with_reducible rfl | rw [if_neg (by omega)]
  try simp only [Act.put, List.getElem_toArray, List.getElem_cons_succ, List.getElem_cons_zero, List.getElem?_toArray, List.getElem?_cons_succ, List.getElem?_cons_zero, List.setIfInBounds_toArray, List.set_cons_zero, List.set_cons_succ]
  refine wpAnyH_done (by kernel_rfl) ?_ _
  (go_wp2_with fail; go_ret2; refine ⟨congrArg (fun s => Ending.returned (.tuple #[.string s, .bool true])) ?_, hHeld.2.2.2.2.2.2.1⟩; rw [Hrd.out, Hrm.out]; apply ByteArray.ext; simp [showB, shapesL, wordB, wordsL, alusL, condsL, piece])
set_option maxRecDepth 100000 in
set_option maxHeartbeats 8000000 in
theorem rshow_11_8 (d n m imm : Int) (w : World) (hlit : imm = 8) (hc : canB 11 d n m imm = true) (hr : rcanB 11 d n m imm = true) : Calls Tryd.prog 7 #[.agg #[.int .i64 11, .int .i64 d, .int .i64 n, .int .i64 m, .int .i64 imm]] w fun e w' => e = .returned (.tuple #[.string ⟨(showB 11 d n m imm).toArray⟩, .bool true]) ∧ Below w.heap.size w w' := by
  subst hlit
  have hb := can_bounds 11 d n m 8 (by decide) hc
  have hcan : ∀ w, Calls Tryd.prog 14 #[.agg #[.int .i64 11, .int .i64 d, .int .i64 n, .int .i64 m, .int .i64 8]] w fun e w' => e = .returned (.bool true) ∧ Below w.heap.size w w' := fun w => by have := rcan_any 11 (by decide) d n m 8 w; rw [hr] at this; exact this
  clear hr hc
  obtain ⟨rd, hrd, hsrd, Hrd⟩ := reg_str d (by omega) (by omega)
  obtain ⟨rm, hrm, hsrm, Hrm⟩ := reg_str m (by omega) (by omega)
  go_enter Tryd.func7, Tryd.ntmps7
  go_wp2_with fail
  refine (hcan _).mono ?_
  rintro e w1 ⟨rfl, hb1⟩
  have hbx1 := heap_keep (heap_alloc_new w _) hb1
  have hB1 : Below w.heap.size w w1 := (Below.alloc (Below.refl _ w) (Nat.le_refl _) _).trans (hb1.mono (by simp))
  have hc1 := fun j => Lib.cell_of_heap hbx1 j
  go_wp2_with fail
  refine (hrd _).mono ?_
  rintro e w2 ⟨rfl, m1, rfl⟩
  go_wp2_with fail
  have hS0 : (fun w' => w'.cell? ⟨w.heap.size, 0, none⟩ = some (.int .i64 11) ∧ w'.cell? ⟨w.heap.size, 1, none⟩ = some (.int .i64 d) ∧ w'.cell? ⟨w.heap.size, 2, none⟩ = some (.int .i64 n) ∧ w'.cell? ⟨w.heap.size, 3, none⟩ = some (.int .i64 m) ∧ w'.cell? ⟨w.heap.size, 4, none⟩ = some (.int .i64 8) ∧ w.heap.size < w'.heap.size ∧ Below w.heap.size w w') (w1.drewN m1) := ⟨hc1 0, hc1 1, hc1 2, hc1 3, hc1 4, (Array.getElem?_eq_some_iff.1 hbx1).1, below_drewN hB1 m1⟩
  generalize w1.drewN m1 = W at *


  have HS := Lib.hid hS0

  obtain ⟨k0, k1, k2, k3, k4, hlt, -⟩ := hS0
  refine wp_region_held_drew (S := fun w' => w'.cell? ⟨w.heap.size, 0, none⟩ = some (.int .i64 11) ∧ w'.cell? ⟨w.heap.size, 1, none⟩ = some (.int .i64 d) ∧ w'.cell? ⟨w.heap.size, 2, none⟩ = some (.int .i64 n) ∧ w'.cell? ⟨w.heap.size, 3, none⟩ = some (.int .i64 m) ∧ w'.cell? ⟨w.heap.size, 4, none⟩ = some (.int .i64 8) ∧ w.heap.size < w'.heap.size ∧ Below w.heap.size w w') (by kernel_rfl) (held5_keep HS.out ((Below.refl _ _).drew)) (fun hHeld2 => ?_)
  refine wpAnyH_any hHeld2 (fun Y hHeld => ?_)
  clear hHeld2
  refine wpAnyH_take (i := 1) (v := ?v1) rfl (by kernel_rfl) (by kernel_rfl) (by kernel_rfl) (fun _ _ _ h => h) (Or.inl ⟨by rfl, ?y1⟩) (by assumption) ?_
  case y1 => intro w hSw; (try dsimp only at hSw); go_simp; all_goals first | with_reducible rfl | rw [if_neg (by omega)]
  try simp only [Act.put, List.getElem_toArray, List.getElem_cons_succ, List.getElem_cons_zero, List.getElem?_toArray, List.getElem?_cons_succ, List.getElem?_cons_zero, List.setIfInBounds_toArray, List.set_cons_zero, List.set_cons_succ]
  refine wpAnyH_take (i := 2) (v := ?v2) rfl (by kernel_rfl) (by kernel_rfl) (by kernel_rfl) (fun _ _ _ h => h) (Or.inl ⟨by rfl, ?y2⟩) (by assumption) ?_
  case y2 => intro w hSw; (try dsimp only at hSw); go_simp; all_goals first | with_reducible rfl | rw [if_neg (by omega)]
  try simp only [Act.put, List.getElem_toArray, List.getElem_cons_succ, List.getElem_cons_zero, List.getElem?_toArray, List.getElem?_cons_succ, List.getElem?_cons_zero, List.setIfInBounds_toArray, List.set_cons_zero, List.set_cons_succ]
  refine wpAnyH_take (i := 6) (v := ?v3) rfl (by kernel_rfl) (by kernel_rfl) (by kernel_rfl) (fun _ _ _ h => h) (Or.inl ⟨by rfl, ?y3⟩) (by assumption) ?_
  case y3 => intro w hSw; (try dsimp only at hSw); go_simp; all_goals first | with_reducible rfl | rw [if_neg (by omega)]
  try simp only [Act.put, List.getElem_toArray, List.getElem_cons_succ, List.getElem_cons_zero, List.getElem?_toArray, List.getElem?_cons_succ, List.getElem?_cons_zero, List.setIfInBounds_toArray, List.set_cons_zero, List.set_cons_succ]
  refine wpAnyH_take (i := 8) (v := ?v4) rfl (by kernel_rfl) (by kernel_rfl) (by kernel_rfl) (fun _ _ _ h => h) (Or.inl ⟨by rfl, ?y4⟩) (by assumption) ?_
  case y4 => intro w hSw; (try dsimp only at hSw); go_simp; all_goals first | with_reducible rfl | rw [if_neg (by omega)]
  try simp only [Act.put, List.getElem_toArray, List.getElem_cons_succ, List.getElem_cons_zero, List.getElem?_toArray, List.getElem?_cons_succ, List.getElem?_cons_zero, List.setIfInBounds_toArray, List.set_cons_zero, List.set_cons_succ]
  refine wpAnyH_take (i := 9) (v := ?v5) rfl (by kernel_rfl) (by kernel_rfl) (by kernel_rfl) (fun _ _ _ h => h) (Or.inl ⟨by rfl, ?y5⟩) (by assumption) ?_
  case y5 => intro w hSw; (try dsimp only at hSw); go_simp; all_goals first | with_reducible rfl | rw [if_neg (by omega)]
  try simp only [Act.put, List.getElem_toArray, List.getElem_cons_succ, List.getElem_cons_zero, List.getElem?_toArray, List.getElem?_cons_succ, List.getElem?_cons_zero, List.setIfInBounds_toArray, List.set_cons_zero, List.set_cons_succ]
  refine wpAnyH_ready (rs := [0, 10]) (by kernel_rfl) (by simp) ?_
  refine AllReadyH.cons rfl (fun K hK => ?_) ?_
  · skip
    go_simp
    refine hK.out _ _ ?_ (fun hHeld2 => ?_)
    · exact held5_keep hHeld (by repeat' first | exact Below.refl _ _ | refine below_drewN ?_ _ | refine Below.drew ?_ | refine Below.alloc ?_ (by first | exact Nat.le_refl _ | (simp <;> omega)) _)
    clear hK K hHeld
    try simp only [Act.put, List.getElem_toArray, List.getElem_cons_succ, List.getElem_cons_zero, List.getElem?_toArray, List.getElem?_cons_succ, List.getElem?_cons_zero, List.setIfInBounds_toArray, List.set_cons_zero, List.set_cons_succ]
    refine wpAnyH_mono (S' := fun w' => w'.cell? ⟨w.heap.size, 0, none⟩ = some (.int .i64 11) ∧ w'.cell? ⟨w.heap.size, 1, none⟩ = some (.int .i64 d) ∧ w'.cell? ⟨w.heap.size, 2, none⟩ = some (.int .i64 n) ∧ w'.cell? ⟨w.heap.size, 3, none⟩ = some (.int .i64 m) ∧ w'.cell? ⟨w.heap.size, 4, none⟩ = some (.int .i64 8) ∧ w.heap.size < w'.heap.size ∧ Below w.heap.size w w' ∧ w'.cell? ⟨Y.heap.size, 8, none⟩ = some (.string ⟨#[116, 115, 116]⟩) ∧ Y.heap.size < w'.heap.size) (fun _ h => ⟨h.1, h.2.1, h.2.2.1, h.2.2.2.1, h.2.2.2.2.1, h.2.2.2.2.2.1, h.2.2.2.2.2.2.1⟩) ?_
    refine wpAnyH_any (⟨hHeld2.1, hHeld2.2.1, hHeld2.2.2.1, hHeld2.2.2.2.1, hHeld2.2.2.2.2.1, hHeld2.2.2.2.2.2.1, hHeld2.2.2.2.2.2.2, by go_simp, by simp⟩) (fun Z hHeld => ?_)
    clear hHeld2
    refine wpAnyH_take (i := 3) (v := ?v6) rfl (by kernel_rfl) (by kernel_rfl) (by kernel_rfl) (fun _ _ _ h => h) (Or.inl ⟨by rfl, ?y6⟩) (by assumption) ?_
    case y6 => intro w hSw; (try dsimp only at hSw); go_simp; all_goals first | with_reducible rfl | rw [if_neg (by omega)]
    try simp only [Act.put, List.getElem_toArray, List.getElem_cons_succ, List.getElem_cons_zero, List.getElem?_toArray, List.getElem?_cons_succ, List.getElem?_cons_zero, List.setIfInBounds_toArray, List.set_cons_zero, List.set_cons_succ]
    refine wpAnyH_take (i := 4) (v := ?v7) rfl (by kernel_rfl) (by kernel_rfl) (by kernel_rfl) (fun _ _ _ h => h) (Or.inl ⟨by rfl, ?y7⟩) (by assumption) ?_
    case y7 => intro w hSw; (try dsimp only at hSw); go_simp; all_goals first | with_reducible rfl | rw [if_neg (by omega)]
    try simp only [Act.put, List.getElem_toArray, List.getElem_cons_succ, List.getElem_cons_zero, List.getElem?_toArray, List.getElem?_cons_succ, List.getElem?_cons_zero, List.setIfInBounds_toArray, List.set_cons_zero, List.set_cons_succ]
    refine wpAnyH_take (i := 5) (v := ?v8) rfl (by kernel_rfl) (by kernel_rfl) (by kernel_rfl) (fun _ _ _ h => h) (Or.inl ⟨by rfl, ?y8⟩) (by assumption) ?_
    case y8 => intro w hSw; (try dsimp only at hSw); go_simp; all_goals first | with_reducible rfl | rw [if_neg (by omega)]
    try simp only [Act.put, List.getElem_toArray, List.getElem_cons_succ, List.getElem_cons_zero, List.getElem?_toArray, List.getElem?_cons_succ, List.getElem?_cons_zero, List.setIfInBounds_toArray, List.set_cons_zero, List.set_cons_succ]
    refine wpAnyH_take (i := 7) (v := ?v9) rfl (by kernel_rfl) (by kernel_rfl) (by kernel_rfl) (fun _ _ _ h => h) (Or.inl ⟨by rfl, ?y9⟩) (by assumption) ?_
    case y9 => intro w hSw; (try dsimp only at hSw); go_simp; all_goals first | with_reducible rfl | rw [if_neg (by omega)]
    try simp only [Act.put, List.getElem_toArray, List.getElem_cons_succ, List.getElem_cons_zero, List.getElem?_toArray, List.getElem?_cons_succ, List.getElem?_cons_zero, List.setIfInBounds_toArray, List.set_cons_zero, List.set_cons_succ]
    refine wpAnyH_ready (rs := [10]) (by kernel_rfl) (by simp) ?_
    refine AllReadyH.cons rfl (fun K hK => ?_) AllReadyH.nil
    go_simp
    (go_at_call 15; with_reducible refine (hrm _).mono ?_; rintro e w2 ⟨rfl, m2, rfl⟩)
    go_wp2_with fail
    refine hK.out _ _ ?_ (fun hHeld2 => ?_)
    · exact held5_litk hHeld (by repeat' first | exact Below.refl _ _ | refine below_drewN ?_ _ | refine Below.drew ?_ | refine Below.alloc ?_ (by first | exact Nat.le_refl _ | (simp <;> omega)) _)
    clear hK K hHeld
    try simp only [Act.put, List.getElem_toArray, List.getElem_cons_succ, List.getElem_cons_zero, List.getElem?_toArray, List.getElem?_cons_succ, List.getElem?_cons_zero, List.setIfInBounds_toArray, List.set_cons_zero, List.set_cons_succ]
    refine wpAnyH_any hHeld2 (fun Z hHeld => ?_)
    clear hHeld2
    refine wpAnyH_take (i := 11) (v := ?v10) rfl (by kernel_rfl) (by kernel_rfl) (by kernel_rfl) (fun _ _ _ h => h) (Or.inl ⟨by rfl, ?y10⟩) (by assumption) ?_
    case y10 => intro w hSw; (try dsimp only at hSw); go_simp; all_goals first | with_reducible rfl | rw [if_neg (by omega)]
    try simp only [Act.put, List.getElem_toArray, List.getElem_cons_succ, List.getElem_cons_zero, List.getElem?_toArray, List.getElem?_cons_succ, List.getElem?_cons_zero, List.setIfInBounds_toArray, List.set_cons_zero, List.set_cons_succ]
    refine wpAnyH_take (i := 12) (v := ?v11) rfl (by kernel_rfl) (by kernel_rfl) (by kernel_rfl) (fun _ _ _ h => h) (Or.inl ⟨by rfl, ?y11⟩) (by assumption) ?_
    case y11 => intro w hSw; (try dsimp only at hSw); go_simp; all_goals first | with_reducible rfl | rw [if_neg (by omega)]
    try simp only [Act.put, List.getElem_toArray, List.getElem_cons_succ, List.getElem_cons_zero, List.getElem?_toArray, List.getElem?_cons_succ, List.getElem?_cons_zero, List.setIfInBounds_toArray, List.set_cons_zero, List.set_cons_succ]
    refine wpAnyH_take (i := 13) (v := ?v12) rfl (by kernel_rfl) (by kernel_rfl) (by kernel_rfl) (fun _ _ _ h => h) (Or.inl ⟨by rfl, ?y12⟩) (by assumption) ?_
    case y12 => intro w hSw; (try dsimp only at hSw); go_simp; all_goals first | with_reducible rfl | rw [if_neg (by omega)]
    try simp only [Act.put, List.getElem_toArray, List.getElem_cons_succ, List.getElem_cons_zero, List.getElem?_toArray, List.getElem?_cons_succ, List.getElem?_cons_zero, List.setIfInBounds_toArray, List.set_cons_zero, List.set_cons_succ]
    refine wpAnyH_done (by kernel_rfl) ?_ _
    (go_wp2_with fail; go_ret2; refine ⟨congrArg (fun s => Ending.returned (.tuple #[.string s, .bool true])) ?_, hHeld.2.2.2.2.2.2.1⟩; rw [Hrd.out, Hrm.out]; apply ByteArray.ext; simp [showB, shapesL, wordB, wordsL, alusL, condsL, piece])
  refine AllReadyH.cons rfl (fun K hK => ?_) AllReadyH.nil
  go_simp
  (go_at_call 15; with_reducible refine (hrm _).mono ?_; rintro e w2 ⟨rfl, m2, rfl⟩)
  go_wp2_with fail
  refine hK.out _ _ ?_ (fun hHeld2 => ?_)
  · exact held5_keep hHeld (by repeat' first | exact Below.refl _ _ | refine below_drewN ?_ _ | refine Below.drew ?_ | refine Below.alloc ?_ (by first | exact Nat.le_refl _ | (simp <;> omega)) _)
  clear hK K hHeld
  try simp only [Act.put, List.getElem_toArray, List.getElem_cons_succ, List.getElem_cons_zero, List.getElem?_toArray, List.getElem?_cons_succ, List.getElem?_cons_zero, List.setIfInBounds_toArray, List.set_cons_zero, List.set_cons_succ]
  refine wpAnyH_any hHeld2 (fun Y hHeld => ?_)
  clear hHeld2
  refine wpAnyH_ready (rs := [0]) (by kernel_rfl) (by simp) ?_
  refine AllReadyH.cons rfl (fun K hK => ?_) AllReadyH.nil
  go_simp
  refine hK.out _ _ ?_ (fun hHeld2 => ?_)
  · exact held5_keep hHeld (by repeat' first | exact Below.refl _ _ | refine below_drewN ?_ _ | refine Below.drew ?_ | refine Below.alloc ?_ (by first | exact Nat.le_refl _ | (simp <;> omega)) _)
  clear hK K hHeld
  try simp only [Act.put, List.getElem_toArray, List.getElem_cons_succ, List.getElem_cons_zero, List.getElem?_toArray, List.getElem?_cons_succ, List.getElem?_cons_zero, List.setIfInBounds_toArray, List.set_cons_zero, List.set_cons_succ]
  refine wpAnyH_mono (S' := fun w' => w'.cell? ⟨w.heap.size, 0, none⟩ = some (.int .i64 11) ∧ w'.cell? ⟨w.heap.size, 1, none⟩ = some (.int .i64 d) ∧ w'.cell? ⟨w.heap.size, 2, none⟩ = some (.int .i64 n) ∧ w'.cell? ⟨w.heap.size, 3, none⟩ = some (.int .i64 m) ∧ w'.cell? ⟨w.heap.size, 4, none⟩ = some (.int .i64 8) ∧ w.heap.size < w'.heap.size ∧ Below w.heap.size w w' ∧ w'.cell? ⟨Y.heap.size, 8, none⟩ = some (.string ⟨#[116, 115, 116]⟩) ∧ Y.heap.size < w'.heap.size) (fun _ h => ⟨h.1, h.2.1, h.2.2.1, h.2.2.2.1, h.2.2.2.2.1, h.2.2.2.2.2.1, h.2.2.2.2.2.2.1⟩) ?_
  refine wpAnyH_any (⟨hHeld2.1, hHeld2.2.1, hHeld2.2.2.1, hHeld2.2.2.2.1, hHeld2.2.2.2.2.1, hHeld2.2.2.2.2.2.1, hHeld2.2.2.2.2.2.2, by go_simp, by simp⟩) (fun Z hHeld => ?_)
  clear hHeld2
  refine wpAnyH_take (i := 3) (v := ?v13) rfl (by kernel_rfl) (by kernel_rfl) (by kernel_rfl) (fun _ _ _ h => h) (Or.inl ⟨by rfl, ?y13⟩) (by assumption) ?_
  case y13 => intro w hSw; (try dsimp only at hSw); go_simp; all_goals first | with_reducible rfl | rw [if_neg (by omega)]
  try simp only [Act.put, List.getElem_toArray, List.getElem_cons_succ, List.getElem_cons_zero, List.getElem?_toArray, List.getElem?_cons_succ, List.getElem?_cons_zero, List.setIfInBounds_toArray, List.set_cons_zero, List.set_cons_succ]
  refine wpAnyH_take (i := 4) (v := ?v14) rfl (by kernel_rfl) (by kernel_rfl) (by kernel_rfl) (fun _ _ _ h => h) (Or.inl ⟨by rfl, ?y14⟩) (by assumption) ?_
  case y14 => intro w hSw; (try dsimp only at hSw); go_simp; all_goals first | with_reducible rfl | rw [if_neg (by omega)]
  try simp only [Act.put, List.getElem_toArray, List.getElem_cons_succ, List.getElem_cons_zero, List.getElem?_toArray, List.getElem?_cons_succ, List.getElem?_cons_zero, List.setIfInBounds_toArray, List.set_cons_zero, List.set_cons_succ]
  refine wpAnyH_take (i := 5) (v := ?v15) rfl (by kernel_rfl) (by kernel_rfl) (by kernel_rfl) (fun _ _ _ h => h) (Or.inl ⟨by rfl, ?y15⟩) (by assumption) ?_
  case y15 => intro w hSw; (try dsimp only at hSw); go_simp; all_goals first | with_reducible rfl | rw [if_neg (by omega)]
  try simp only [Act.put, List.getElem_toArray, List.getElem_cons_succ, List.getElem_cons_zero, List.getElem?_toArray, List.getElem?_cons_succ, List.getElem?_cons_zero, List.setIfInBounds_toArray, List.set_cons_zero, List.set_cons_succ]
  refine wpAnyH_take (i := 7) (v := ?v16) rfl (by kernel_rfl) (by kernel_rfl) (by kernel_rfl) (fun _ _ _ h => h) (Or.inl ⟨by rfl, ?y16⟩) (by assumption) ?_
  case y16 => intro w hSw; (try dsimp only at hSw); go_simp; all_goals first | with_reducible rfl | rw [if_neg (by omega)]
  try simp only [Act.put, List.getElem_toArray, List.getElem_cons_succ, List.getElem_cons_zero, List.getElem?_toArray, List.getElem?_cons_succ, List.getElem?_cons_zero, List.setIfInBounds_toArray, List.set_cons_zero, List.set_cons_succ]
  refine wpAnyH_take (i := 11) (v := ?v17) rfl (by kernel_rfl) (by kernel_rfl) (by kernel_rfl) (fun _ _ _ h => h) (Or.inl ⟨by rfl, ?y17⟩) (by assumption) ?_
  case y17 => intro w hSw; (try dsimp only at hSw); go_simp; all_goals first | with_reducible rfl | rw [if_neg (by omega)]
  try simp only [Act.put, List.getElem_toArray, List.getElem_cons_succ, List.getElem_cons_zero, List.getElem?_toArray, List.getElem?_cons_succ, List.getElem?_cons_zero, List.setIfInBounds_toArray, List.set_cons_zero, List.set_cons_succ]
  refine wpAnyH_take (i := 12) (v := ?v18) rfl (by kernel_rfl) (by kernel_rfl) (by kernel_rfl) (fun _ _ _ h => h) (Or.inl ⟨by rfl, ?y18⟩) (by assumption) ?_
  case y18 => intro w hSw; (try dsimp only at hSw); go_simp; all_goals first | with_reducible rfl | rw [if_neg (by omega)]
  try simp only [Act.put, List.getElem_toArray, List.getElem_cons_succ, List.getElem_cons_zero, List.getElem?_toArray, List.getElem?_cons_succ, List.getElem?_cons_zero, List.setIfInBounds_toArray, List.set_cons_zero, List.set_cons_succ]
  refine wpAnyH_take (i := 13) (v := ?v19) rfl (by kernel_rfl) (by kernel_rfl) (by kernel_rfl) (fun _ _ _ h => h) (Or.inl ⟨by rfl, ?y19⟩) (by assumption) ?_
  case y19 => intro w hSw; (try dsimp only at hSw); go_simp; all_goals first | with_reducible rfl | rw [if_neg (by omega)]
  try simp only [Act.put, List.getElem_toArray, List.getElem_cons_succ, List.getElem_cons_zero, List.getElem?_toArray, List.getElem?_cons_succ, List.getElem?_cons_zero, List.setIfInBounds_toArray, List.set_cons_zero, List.set_cons_succ]
  refine wpAnyH_done (by kernel_rfl) ?_ _
  (go_wp2_with fail; go_ret2; refine ⟨congrArg (fun s => Ending.returned (.tuple #[.string s, .bool true])) ?_, hHeld.2.2.2.2.2.2.1⟩; rw [Hrd.out, Hrm.out]; apply ByteArray.ext; simp [showB, shapesL, wordB, wordsL, alusL, condsL, piece])
set_option maxRecDepth 100000 in
set_option maxHeartbeats 8000000 in
theorem rshow_11_9 (d n m imm : Int) (w : World) (hlit : imm = 9) (hc : canB 11 d n m imm = true) (hr : rcanB 11 d n m imm = true) : Calls Tryd.prog 7 #[.agg #[.int .i64 11, .int .i64 d, .int .i64 n, .int .i64 m, .int .i64 imm]] w fun e w' => e = .returned (.tuple #[.string ⟨(showB 11 d n m imm).toArray⟩, .bool true]) ∧ Below w.heap.size w w' := by
  subst hlit
  have hb := can_bounds 11 d n m 9 (by decide) hc
  have hcan : ∀ w, Calls Tryd.prog 14 #[.agg #[.int .i64 11, .int .i64 d, .int .i64 n, .int .i64 m, .int .i64 9]] w fun e w' => e = .returned (.bool true) ∧ Below w.heap.size w w' := fun w => by have := rcan_any 11 (by decide) d n m 9 w; rw [hr] at this; exact this
  clear hr hc
  obtain ⟨rd, hrd, hsrd, Hrd⟩ := reg_str d (by omega) (by omega)
  obtain ⟨rm, hrm, hsrm, Hrm⟩ := reg_str m (by omega) (by omega)
  go_enter Tryd.func7, Tryd.ntmps7
  go_wp2_with fail
  refine (hcan _).mono ?_
  rintro e w1 ⟨rfl, hb1⟩
  have hbx1 := heap_keep (heap_alloc_new w _) hb1
  have hB1 : Below w.heap.size w w1 := (Below.alloc (Below.refl _ w) (Nat.le_refl _) _).trans (hb1.mono (by simp))
  have hc1 := fun j => Lib.cell_of_heap hbx1 j
  go_wp2_with fail
  refine (hrd _).mono ?_
  rintro e w2 ⟨rfl, m1, rfl⟩
  go_wp2_with fail
  have hS0 : (fun w' => w'.cell? ⟨w.heap.size, 0, none⟩ = some (.int .i64 11) ∧ w'.cell? ⟨w.heap.size, 1, none⟩ = some (.int .i64 d) ∧ w'.cell? ⟨w.heap.size, 2, none⟩ = some (.int .i64 n) ∧ w'.cell? ⟨w.heap.size, 3, none⟩ = some (.int .i64 m) ∧ w'.cell? ⟨w.heap.size, 4, none⟩ = some (.int .i64 9) ∧ w.heap.size < w'.heap.size ∧ Below w.heap.size w w') (w1.drewN m1) := ⟨hc1 0, hc1 1, hc1 2, hc1 3, hc1 4, (Array.getElem?_eq_some_iff.1 hbx1).1, below_drewN hB1 m1⟩
  generalize w1.drewN m1 = W at *


  have HS := Lib.hid hS0

  obtain ⟨k0, k1, k2, k3, k4, hlt, -⟩ := hS0
  refine wp_region_held_drew (S := fun w' => w'.cell? ⟨w.heap.size, 0, none⟩ = some (.int .i64 11) ∧ w'.cell? ⟨w.heap.size, 1, none⟩ = some (.int .i64 d) ∧ w'.cell? ⟨w.heap.size, 2, none⟩ = some (.int .i64 n) ∧ w'.cell? ⟨w.heap.size, 3, none⟩ = some (.int .i64 m) ∧ w'.cell? ⟨w.heap.size, 4, none⟩ = some (.int .i64 9) ∧ w.heap.size < w'.heap.size ∧ Below w.heap.size w w') (by kernel_rfl) (held5_keep HS.out ((Below.refl _ _).drew)) (fun hHeld2 => ?_)
  refine wpAnyH_any hHeld2 (fun Y hHeld => ?_)
  clear hHeld2
  refine wpAnyH_take (i := 1) (v := ?v1) rfl (by kernel_rfl) (by kernel_rfl) (by kernel_rfl) (fun _ _ _ h => h) (Or.inl ⟨by rfl, ?y1⟩) (by assumption) ?_
  case y1 => intro w hSw; (try dsimp only at hSw); go_simp; all_goals first | with_reducible rfl | rw [if_neg (by omega)]
  try simp only [Act.put, List.getElem_toArray, List.getElem_cons_succ, List.getElem_cons_zero, List.getElem?_toArray, List.getElem?_cons_succ, List.getElem?_cons_zero, List.setIfInBounds_toArray, List.set_cons_zero, List.set_cons_succ]
  refine wpAnyH_take (i := 2) (v := ?v2) rfl (by kernel_rfl) (by kernel_rfl) (by kernel_rfl) (fun _ _ _ h => h) (Or.inl ⟨by rfl, ?y2⟩) (by assumption) ?_
  case y2 => intro w hSw; (try dsimp only at hSw); go_simp; all_goals first | with_reducible rfl | rw [if_neg (by omega)]
  try simp only [Act.put, List.getElem_toArray, List.getElem_cons_succ, List.getElem_cons_zero, List.getElem?_toArray, List.getElem?_cons_succ, List.getElem?_cons_zero, List.setIfInBounds_toArray, List.set_cons_zero, List.set_cons_succ]
  refine wpAnyH_take (i := 6) (v := ?v3) rfl (by kernel_rfl) (by kernel_rfl) (by kernel_rfl) (fun _ _ _ h => h) (Or.inl ⟨by rfl, ?y3⟩) (by assumption) ?_
  case y3 => intro w hSw; (try dsimp only at hSw); go_simp; all_goals first | with_reducible rfl | rw [if_neg (by omega)]
  try simp only [Act.put, List.getElem_toArray, List.getElem_cons_succ, List.getElem_cons_zero, List.getElem?_toArray, List.getElem?_cons_succ, List.getElem?_cons_zero, List.setIfInBounds_toArray, List.set_cons_zero, List.set_cons_succ]
  refine wpAnyH_take (i := 8) (v := ?v4) rfl (by kernel_rfl) (by kernel_rfl) (by kernel_rfl) (fun _ _ _ h => h) (Or.inl ⟨by rfl, ?y4⟩) (by assumption) ?_
  case y4 => intro w hSw; (try dsimp only at hSw); go_simp; all_goals first | with_reducible rfl | rw [if_neg (by omega)]
  try simp only [Act.put, List.getElem_toArray, List.getElem_cons_succ, List.getElem_cons_zero, List.getElem?_toArray, List.getElem?_cons_succ, List.getElem?_cons_zero, List.setIfInBounds_toArray, List.set_cons_zero, List.set_cons_succ]
  refine wpAnyH_take (i := 9) (v := ?v5) rfl (by kernel_rfl) (by kernel_rfl) (by kernel_rfl) (fun _ _ _ h => h) (Or.inl ⟨by rfl, ?y5⟩) (by assumption) ?_
  case y5 => intro w hSw; (try dsimp only at hSw); go_simp; all_goals first | with_reducible rfl | rw [if_neg (by omega)]
  try simp only [Act.put, List.getElem_toArray, List.getElem_cons_succ, List.getElem_cons_zero, List.getElem?_toArray, List.getElem?_cons_succ, List.getElem?_cons_zero, List.setIfInBounds_toArray, List.set_cons_zero, List.set_cons_succ]
  refine wpAnyH_ready (rs := [0, 10]) (by kernel_rfl) (by simp) ?_
  refine AllReadyH.cons rfl (fun K hK => ?_) ?_
  · skip
    go_simp
    refine hK.out _ _ ?_ (fun hHeld2 => ?_)
    · exact held5_keep hHeld (by repeat' first | exact Below.refl _ _ | refine below_drewN ?_ _ | refine Below.drew ?_ | refine Below.alloc ?_ (by first | exact Nat.le_refl _ | (simp <;> omega)) _)
    clear hK K hHeld
    try simp only [Act.put, List.getElem_toArray, List.getElem_cons_succ, List.getElem_cons_zero, List.getElem?_toArray, List.getElem?_cons_succ, List.getElem?_cons_zero, List.setIfInBounds_toArray, List.set_cons_zero, List.set_cons_succ]
    refine wpAnyH_mono (S' := fun w' => w'.cell? ⟨w.heap.size, 0, none⟩ = some (.int .i64 11) ∧ w'.cell? ⟨w.heap.size, 1, none⟩ = some (.int .i64 d) ∧ w'.cell? ⟨w.heap.size, 2, none⟩ = some (.int .i64 n) ∧ w'.cell? ⟨w.heap.size, 3, none⟩ = some (.int .i64 m) ∧ w'.cell? ⟨w.heap.size, 4, none⟩ = some (.int .i64 9) ∧ w.heap.size < w'.heap.size ∧ Below w.heap.size w w' ∧ w'.cell? ⟨Y.heap.size, 9, none⟩ = some (.string ⟨#[114, 115, 98, 115]⟩) ∧ Y.heap.size < w'.heap.size) (fun _ h => ⟨h.1, h.2.1, h.2.2.1, h.2.2.2.1, h.2.2.2.2.1, h.2.2.2.2.2.1, h.2.2.2.2.2.2.1⟩) ?_
    refine wpAnyH_any (⟨hHeld2.1, hHeld2.2.1, hHeld2.2.2.1, hHeld2.2.2.2.1, hHeld2.2.2.2.2.1, hHeld2.2.2.2.2.2.1, hHeld2.2.2.2.2.2.2, by go_simp, by simp⟩) (fun Z hHeld => ?_)
    clear hHeld2
    refine wpAnyH_take (i := 3) (v := ?v6) rfl (by kernel_rfl) (by kernel_rfl) (by kernel_rfl) (fun _ _ _ h => h) (Or.inl ⟨by rfl, ?y6⟩) (by assumption) ?_
    case y6 => intro w hSw; (try dsimp only at hSw); go_simp; all_goals first | with_reducible rfl | rw [if_neg (by omega)]
    try simp only [Act.put, List.getElem_toArray, List.getElem_cons_succ, List.getElem_cons_zero, List.getElem?_toArray, List.getElem?_cons_succ, List.getElem?_cons_zero, List.setIfInBounds_toArray, List.set_cons_zero, List.set_cons_succ]
    refine wpAnyH_take (i := 4) (v := ?v7) rfl (by kernel_rfl) (by kernel_rfl) (by kernel_rfl) (fun _ _ _ h => h) (Or.inl ⟨by rfl, ?y7⟩) (by assumption) ?_
    case y7 => intro w hSw; (try dsimp only at hSw); go_simp; all_goals first | with_reducible rfl | rw [if_neg (by omega)]
    try simp only [Act.put, List.getElem_toArray, List.getElem_cons_succ, List.getElem_cons_zero, List.getElem?_toArray, List.getElem?_cons_succ, List.getElem?_cons_zero, List.setIfInBounds_toArray, List.set_cons_zero, List.set_cons_succ]
    refine wpAnyH_take (i := 5) (v := ?v8) rfl (by kernel_rfl) (by kernel_rfl) (by kernel_rfl) (fun _ _ _ h => h) (Or.inl ⟨by rfl, ?y8⟩) (by assumption) ?_
    case y8 => intro w hSw; (try dsimp only at hSw); go_simp; all_goals first | with_reducible rfl | rw [if_neg (by omega)]
    try simp only [Act.put, List.getElem_toArray, List.getElem_cons_succ, List.getElem_cons_zero, List.getElem?_toArray, List.getElem?_cons_succ, List.getElem?_cons_zero, List.setIfInBounds_toArray, List.set_cons_zero, List.set_cons_succ]
    refine wpAnyH_take (i := 7) (v := ?v9) rfl (by kernel_rfl) (by kernel_rfl) (by kernel_rfl) (fun _ _ _ h => h) (Or.inl ⟨by rfl, ?y9⟩) (by assumption) ?_
    case y9 => intro w hSw; (try dsimp only at hSw); go_simp; all_goals first | with_reducible rfl | rw [if_neg (by omega)]
    try simp only [Act.put, List.getElem_toArray, List.getElem_cons_succ, List.getElem_cons_zero, List.getElem?_toArray, List.getElem?_cons_succ, List.getElem?_cons_zero, List.setIfInBounds_toArray, List.set_cons_zero, List.set_cons_succ]
    refine wpAnyH_ready (rs := [10]) (by kernel_rfl) (by simp) ?_
    refine AllReadyH.cons rfl (fun K hK => ?_) AllReadyH.nil
    go_simp
    (go_at_call 15; with_reducible refine (hrm _).mono ?_; rintro e w2 ⟨rfl, m2, rfl⟩)
    go_wp2_with fail
    refine hK.out _ _ ?_ (fun hHeld2 => ?_)
    · exact held5_litk hHeld (by repeat' first | exact Below.refl _ _ | refine below_drewN ?_ _ | refine Below.drew ?_ | refine Below.alloc ?_ (by first | exact Nat.le_refl _ | (simp <;> omega)) _)
    clear hK K hHeld
    try simp only [Act.put, List.getElem_toArray, List.getElem_cons_succ, List.getElem_cons_zero, List.getElem?_toArray, List.getElem?_cons_succ, List.getElem?_cons_zero, List.setIfInBounds_toArray, List.set_cons_zero, List.set_cons_succ]
    refine wpAnyH_any hHeld2 (fun Z hHeld => ?_)
    clear hHeld2
    refine wpAnyH_take (i := 11) (v := ?v10) rfl (by kernel_rfl) (by kernel_rfl) (by kernel_rfl) (fun _ _ _ h => h) (Or.inl ⟨by rfl, ?y10⟩) (by assumption) ?_
    case y10 => intro w hSw; (try dsimp only at hSw); go_simp; all_goals first | with_reducible rfl | rw [if_neg (by omega)]
    try simp only [Act.put, List.getElem_toArray, List.getElem_cons_succ, List.getElem_cons_zero, List.getElem?_toArray, List.getElem?_cons_succ, List.getElem?_cons_zero, List.setIfInBounds_toArray, List.set_cons_zero, List.set_cons_succ]
    refine wpAnyH_take (i := 12) (v := ?v11) rfl (by kernel_rfl) (by kernel_rfl) (by kernel_rfl) (fun _ _ _ h => h) (Or.inl ⟨by rfl, ?y11⟩) (by assumption) ?_
    case y11 => intro w hSw; (try dsimp only at hSw); go_simp; all_goals first | with_reducible rfl | rw [if_neg (by omega)]
    try simp only [Act.put, List.getElem_toArray, List.getElem_cons_succ, List.getElem_cons_zero, List.getElem?_toArray, List.getElem?_cons_succ, List.getElem?_cons_zero, List.setIfInBounds_toArray, List.set_cons_zero, List.set_cons_succ]
    refine wpAnyH_take (i := 13) (v := ?v12) rfl (by kernel_rfl) (by kernel_rfl) (by kernel_rfl) (fun _ _ _ h => h) (Or.inl ⟨by rfl, ?y12⟩) (by assumption) ?_
    case y12 => intro w hSw; (try dsimp only at hSw); go_simp; all_goals first | with_reducible rfl | rw [if_neg (by omega)]
    try simp only [Act.put, List.getElem_toArray, List.getElem_cons_succ, List.getElem_cons_zero, List.getElem?_toArray, List.getElem?_cons_succ, List.getElem?_cons_zero, List.setIfInBounds_toArray, List.set_cons_zero, List.set_cons_succ]
    refine wpAnyH_done (by kernel_rfl) ?_ _
    (go_wp2_with fail; go_ret2; refine ⟨congrArg (fun s => Ending.returned (.tuple #[.string s, .bool true])) ?_, hHeld.2.2.2.2.2.2.1⟩; rw [Hrd.out, Hrm.out]; apply ByteArray.ext; simp [showB, shapesL, wordB, wordsL, alusL, condsL, piece])
  refine AllReadyH.cons rfl (fun K hK => ?_) AllReadyH.nil
  go_simp
  (go_at_call 15; with_reducible refine (hrm _).mono ?_; rintro e w2 ⟨rfl, m2, rfl⟩)
  go_wp2_with fail
  refine hK.out _ _ ?_ (fun hHeld2 => ?_)
  · exact held5_keep hHeld (by repeat' first | exact Below.refl _ _ | refine below_drewN ?_ _ | refine Below.drew ?_ | refine Below.alloc ?_ (by first | exact Nat.le_refl _ | (simp <;> omega)) _)
  clear hK K hHeld
  try simp only [Act.put, List.getElem_toArray, List.getElem_cons_succ, List.getElem_cons_zero, List.getElem?_toArray, List.getElem?_cons_succ, List.getElem?_cons_zero, List.setIfInBounds_toArray, List.set_cons_zero, List.set_cons_succ]
  refine wpAnyH_any hHeld2 (fun Y hHeld => ?_)
  clear hHeld2
  refine wpAnyH_ready (rs := [0]) (by kernel_rfl) (by simp) ?_
  refine AllReadyH.cons rfl (fun K hK => ?_) AllReadyH.nil
  go_simp
  refine hK.out _ _ ?_ (fun hHeld2 => ?_)
  · exact held5_keep hHeld (by repeat' first | exact Below.refl _ _ | refine below_drewN ?_ _ | refine Below.drew ?_ | refine Below.alloc ?_ (by first | exact Nat.le_refl _ | (simp <;> omega)) _)
  clear hK K hHeld
  try simp only [Act.put, List.getElem_toArray, List.getElem_cons_succ, List.getElem_cons_zero, List.getElem?_toArray, List.getElem?_cons_succ, List.getElem?_cons_zero, List.setIfInBounds_toArray, List.set_cons_zero, List.set_cons_succ]
  refine wpAnyH_mono (S' := fun w' => w'.cell? ⟨w.heap.size, 0, none⟩ = some (.int .i64 11) ∧ w'.cell? ⟨w.heap.size, 1, none⟩ = some (.int .i64 d) ∧ w'.cell? ⟨w.heap.size, 2, none⟩ = some (.int .i64 n) ∧ w'.cell? ⟨w.heap.size, 3, none⟩ = some (.int .i64 m) ∧ w'.cell? ⟨w.heap.size, 4, none⟩ = some (.int .i64 9) ∧ w.heap.size < w'.heap.size ∧ Below w.heap.size w w' ∧ w'.cell? ⟨Y.heap.size, 9, none⟩ = some (.string ⟨#[114, 115, 98, 115]⟩) ∧ Y.heap.size < w'.heap.size) (fun _ h => ⟨h.1, h.2.1, h.2.2.1, h.2.2.2.1, h.2.2.2.2.1, h.2.2.2.2.2.1, h.2.2.2.2.2.2.1⟩) ?_
  refine wpAnyH_any (⟨hHeld2.1, hHeld2.2.1, hHeld2.2.2.1, hHeld2.2.2.2.1, hHeld2.2.2.2.2.1, hHeld2.2.2.2.2.2.1, hHeld2.2.2.2.2.2.2, by go_simp, by simp⟩) (fun Z hHeld => ?_)
  clear hHeld2
  refine wpAnyH_take (i := 3) (v := ?v13) rfl (by kernel_rfl) (by kernel_rfl) (by kernel_rfl) (fun _ _ _ h => h) (Or.inl ⟨by rfl, ?y13⟩) (by assumption) ?_
  case y13 => intro w hSw; (try dsimp only at hSw); go_simp; all_goals first | with_reducible rfl | rw [if_neg (by omega)]
  try simp only [Act.put, List.getElem_toArray, List.getElem_cons_succ, List.getElem_cons_zero, List.getElem?_toArray, List.getElem?_cons_succ, List.getElem?_cons_zero, List.setIfInBounds_toArray, List.set_cons_zero, List.set_cons_succ]
  refine wpAnyH_take (i := 4) (v := ?v14) rfl (by kernel_rfl) (by kernel_rfl) (by kernel_rfl) (fun _ _ _ h => h) (Or.inl ⟨by rfl, ?y14⟩) (by assumption) ?_
  case y14 => intro w hSw; (try dsimp only at hSw); go_simp; all_goals first | with_reducible rfl | rw [if_neg (by omega)]
  try simp only [Act.put, List.getElem_toArray, List.getElem_cons_succ, List.getElem_cons_zero, List.getElem?_toArray, List.getElem?_cons_succ, List.getElem?_cons_zero, List.setIfInBounds_toArray, List.set_cons_zero, List.set_cons_succ]
  refine wpAnyH_take (i := 5) (v := ?v15) rfl (by kernel_rfl) (by kernel_rfl) (by kernel_rfl) (fun _ _ _ h => h) (Or.inl ⟨by rfl, ?y15⟩) (by assumption) ?_
  case y15 => intro w hSw; (try dsimp only at hSw); go_simp; all_goals first | with_reducible rfl | rw [if_neg (by omega)]
  try simp only [Act.put, List.getElem_toArray, List.getElem_cons_succ, List.getElem_cons_zero, List.getElem?_toArray, List.getElem?_cons_succ, List.getElem?_cons_zero, List.setIfInBounds_toArray, List.set_cons_zero, List.set_cons_succ]
  refine wpAnyH_take (i := 7) (v := ?v16) rfl (by kernel_rfl) (by kernel_rfl) (by kernel_rfl) (fun _ _ _ h => h) (Or.inl ⟨by rfl, ?y16⟩) (by assumption) ?_
  case y16 => intro w hSw; (try dsimp only at hSw); go_simp; all_goals first | with_reducible rfl | rw [if_neg (by omega)]
  try simp only [Act.put, List.getElem_toArray, List.getElem_cons_succ, List.getElem_cons_zero, List.getElem?_toArray, List.getElem?_cons_succ, List.getElem?_cons_zero, List.setIfInBounds_toArray, List.set_cons_zero, List.set_cons_succ]
  refine wpAnyH_take (i := 11) (v := ?v17) rfl (by kernel_rfl) (by kernel_rfl) (by kernel_rfl) (fun _ _ _ h => h) (Or.inl ⟨by rfl, ?y17⟩) (by assumption) ?_
  case y17 => intro w hSw; (try dsimp only at hSw); go_simp; all_goals first | with_reducible rfl | rw [if_neg (by omega)]
  try simp only [Act.put, List.getElem_toArray, List.getElem_cons_succ, List.getElem_cons_zero, List.getElem?_toArray, List.getElem?_cons_succ, List.getElem?_cons_zero, List.setIfInBounds_toArray, List.set_cons_zero, List.set_cons_succ]
  refine wpAnyH_take (i := 12) (v := ?v18) rfl (by kernel_rfl) (by kernel_rfl) (by kernel_rfl) (fun _ _ _ h => h) (Or.inl ⟨by rfl, ?y18⟩) (by assumption) ?_
  case y18 => intro w hSw; (try dsimp only at hSw); go_simp; all_goals first | with_reducible rfl | rw [if_neg (by omega)]
  try simp only [Act.put, List.getElem_toArray, List.getElem_cons_succ, List.getElem_cons_zero, List.getElem?_toArray, List.getElem?_cons_succ, List.getElem?_cons_zero, List.setIfInBounds_toArray, List.set_cons_zero, List.set_cons_succ]
  refine wpAnyH_take (i := 13) (v := ?v19) rfl (by kernel_rfl) (by kernel_rfl) (by kernel_rfl) (fun _ _ _ h => h) (Or.inl ⟨by rfl, ?y19⟩) (by assumption) ?_
  case y19 => intro w hSw; (try dsimp only at hSw); go_simp; all_goals first | with_reducible rfl | rw [if_neg (by omega)]
  try simp only [Act.put, List.getElem_toArray, List.getElem_cons_succ, List.getElem_cons_zero, List.getElem?_toArray, List.getElem?_cons_succ, List.getElem?_cons_zero, List.setIfInBounds_toArray, List.set_cons_zero, List.set_cons_succ]
  refine wpAnyH_done (by kernel_rfl) ?_ _
  (go_wp2_with fail; go_ret2; refine ⟨congrArg (fun s => Ending.returned (.tuple #[.string s, .bool true])) ?_, hHeld.2.2.2.2.2.2.1⟩; rw [Hrd.out, Hrm.out]; apply ByteArray.ext; simp [showB, shapesL, wordB, wordsL, alusL, condsL, piece])
set_option maxRecDepth 100000 in
set_option maxHeartbeats 8000000 in
theorem rshow_11_10 (d n m imm : Int) (w : World) (hlit : imm = 10) (hc : canB 11 d n m imm = true) (hr : rcanB 11 d n m imm = true) : Calls Tryd.prog 7 #[.agg #[.int .i64 11, .int .i64 d, .int .i64 n, .int .i64 m, .int .i64 imm]] w fun e w' => e = .returned (.tuple #[.string ⟨(showB 11 d n m imm).toArray⟩, .bool true]) ∧ Below w.heap.size w w' := by
  subst hlit
  have hb := can_bounds 11 d n m 10 (by decide) hc
  have hcan : ∀ w, Calls Tryd.prog 14 #[.agg #[.int .i64 11, .int .i64 d, .int .i64 n, .int .i64 m, .int .i64 10]] w fun e w' => e = .returned (.bool true) ∧ Below w.heap.size w w' := fun w => by have := rcan_any 11 (by decide) d n m 10 w; rw [hr] at this; exact this
  clear hr hc
  obtain ⟨rd, hrd, hsrd, Hrd⟩ := reg_str d (by omega) (by omega)
  obtain ⟨rm, hrm, hsrm, Hrm⟩ := reg_str m (by omega) (by omega)
  go_enter Tryd.func7, Tryd.ntmps7
  go_wp2_with fail
  refine (hcan _).mono ?_
  rintro e w1 ⟨rfl, hb1⟩
  have hbx1 := heap_keep (heap_alloc_new w _) hb1
  have hB1 : Below w.heap.size w w1 := (Below.alloc (Below.refl _ w) (Nat.le_refl _) _).trans (hb1.mono (by simp))
  have hc1 := fun j => Lib.cell_of_heap hbx1 j
  go_wp2_with fail
  refine (hrd _).mono ?_
  rintro e w2 ⟨rfl, m1, rfl⟩
  go_wp2_with fail
  have hS0 : (fun w' => w'.cell? ⟨w.heap.size, 0, none⟩ = some (.int .i64 11) ∧ w'.cell? ⟨w.heap.size, 1, none⟩ = some (.int .i64 d) ∧ w'.cell? ⟨w.heap.size, 2, none⟩ = some (.int .i64 n) ∧ w'.cell? ⟨w.heap.size, 3, none⟩ = some (.int .i64 m) ∧ w'.cell? ⟨w.heap.size, 4, none⟩ = some (.int .i64 10) ∧ w.heap.size < w'.heap.size ∧ Below w.heap.size w w') (w1.drewN m1) := ⟨hc1 0, hc1 1, hc1 2, hc1 3, hc1 4, (Array.getElem?_eq_some_iff.1 hbx1).1, below_drewN hB1 m1⟩
  generalize w1.drewN m1 = W at *


  have HS := Lib.hid hS0

  obtain ⟨k0, k1, k2, k3, k4, hlt, -⟩ := hS0
  refine wp_region_held_drew (S := fun w' => w'.cell? ⟨w.heap.size, 0, none⟩ = some (.int .i64 11) ∧ w'.cell? ⟨w.heap.size, 1, none⟩ = some (.int .i64 d) ∧ w'.cell? ⟨w.heap.size, 2, none⟩ = some (.int .i64 n) ∧ w'.cell? ⟨w.heap.size, 3, none⟩ = some (.int .i64 m) ∧ w'.cell? ⟨w.heap.size, 4, none⟩ = some (.int .i64 10) ∧ w.heap.size < w'.heap.size ∧ Below w.heap.size w w') (by kernel_rfl) (held5_keep HS.out ((Below.refl _ _).drew)) (fun hHeld2 => ?_)
  refine wpAnyH_any hHeld2 (fun Y hHeld => ?_)
  clear hHeld2
  refine wpAnyH_take (i := 1) (v := ?v1) rfl (by kernel_rfl) (by kernel_rfl) (by kernel_rfl) (fun _ _ _ h => h) (Or.inl ⟨by rfl, ?y1⟩) (by assumption) ?_
  case y1 => intro w hSw; (try dsimp only at hSw); go_simp; all_goals first | with_reducible rfl | rw [if_neg (by omega)]
  try simp only [Act.put, List.getElem_toArray, List.getElem_cons_succ, List.getElem_cons_zero, List.getElem?_toArray, List.getElem?_cons_succ, List.getElem?_cons_zero, List.setIfInBounds_toArray, List.set_cons_zero, List.set_cons_succ]
  refine wpAnyH_take (i := 2) (v := ?v2) rfl (by kernel_rfl) (by kernel_rfl) (by kernel_rfl) (fun _ _ _ h => h) (Or.inl ⟨by rfl, ?y2⟩) (by assumption) ?_
  case y2 => intro w hSw; (try dsimp only at hSw); go_simp; all_goals first | with_reducible rfl | rw [if_neg (by omega)]
  try simp only [Act.put, List.getElem_toArray, List.getElem_cons_succ, List.getElem_cons_zero, List.getElem?_toArray, List.getElem?_cons_succ, List.getElem?_cons_zero, List.setIfInBounds_toArray, List.set_cons_zero, List.set_cons_succ]
  refine wpAnyH_take (i := 6) (v := ?v3) rfl (by kernel_rfl) (by kernel_rfl) (by kernel_rfl) (fun _ _ _ h => h) (Or.inl ⟨by rfl, ?y3⟩) (by assumption) ?_
  case y3 => intro w hSw; (try dsimp only at hSw); go_simp; all_goals first | with_reducible rfl | rw [if_neg (by omega)]
  try simp only [Act.put, List.getElem_toArray, List.getElem_cons_succ, List.getElem_cons_zero, List.getElem?_toArray, List.getElem?_cons_succ, List.getElem?_cons_zero, List.setIfInBounds_toArray, List.set_cons_zero, List.set_cons_succ]
  refine wpAnyH_take (i := 8) (v := ?v4) rfl (by kernel_rfl) (by kernel_rfl) (by kernel_rfl) (fun _ _ _ h => h) (Or.inl ⟨by rfl, ?y4⟩) (by assumption) ?_
  case y4 => intro w hSw; (try dsimp only at hSw); go_simp; all_goals first | with_reducible rfl | rw [if_neg (by omega)]
  try simp only [Act.put, List.getElem_toArray, List.getElem_cons_succ, List.getElem_cons_zero, List.getElem?_toArray, List.getElem?_cons_succ, List.getElem?_cons_zero, List.setIfInBounds_toArray, List.set_cons_zero, List.set_cons_succ]
  refine wpAnyH_take (i := 9) (v := ?v5) rfl (by kernel_rfl) (by kernel_rfl) (by kernel_rfl) (fun _ _ _ h => h) (Or.inl ⟨by rfl, ?y5⟩) (by assumption) ?_
  case y5 => intro w hSw; (try dsimp only at hSw); go_simp; all_goals first | with_reducible rfl | rw [if_neg (by omega)]
  try simp only [Act.put, List.getElem_toArray, List.getElem_cons_succ, List.getElem_cons_zero, List.getElem?_toArray, List.getElem?_cons_succ, List.getElem?_cons_zero, List.setIfInBounds_toArray, List.set_cons_zero, List.set_cons_succ]
  refine wpAnyH_ready (rs := [0, 10]) (by kernel_rfl) (by simp) ?_
  refine AllReadyH.cons rfl (fun K hK => ?_) ?_
  · skip
    go_simp
    refine hK.out _ _ ?_ (fun hHeld2 => ?_)
    · exact held5_keep hHeld (by repeat' first | exact Below.refl _ _ | refine below_drewN ?_ _ | refine Below.drew ?_ | refine Below.alloc ?_ (by first | exact Nat.le_refl _ | (simp <;> omega)) _)
    clear hK K hHeld
    try simp only [Act.put, List.getElem_toArray, List.getElem_cons_succ, List.getElem_cons_zero, List.getElem?_toArray, List.getElem?_cons_succ, List.getElem?_cons_zero, List.setIfInBounds_toArray, List.set_cons_zero, List.set_cons_succ]
    refine wpAnyH_mono (S' := fun w' => w'.cell? ⟨w.heap.size, 0, none⟩ = some (.int .i64 11) ∧ w'.cell? ⟨w.heap.size, 1, none⟩ = some (.int .i64 d) ∧ w'.cell? ⟨w.heap.size, 2, none⟩ = some (.int .i64 n) ∧ w'.cell? ⟨w.heap.size, 3, none⟩ = some (.int .i64 m) ∧ w'.cell? ⟨w.heap.size, 4, none⟩ = some (.int .i64 10) ∧ w.heap.size < w'.heap.size ∧ Below w.heap.size w w' ∧ w'.cell? ⟨Y.heap.size, 10, none⟩ = some (.string ⟨#[99, 109, 112]⟩) ∧ Y.heap.size < w'.heap.size) (fun _ h => ⟨h.1, h.2.1, h.2.2.1, h.2.2.2.1, h.2.2.2.2.1, h.2.2.2.2.2.1, h.2.2.2.2.2.2.1⟩) ?_
    refine wpAnyH_any (⟨hHeld2.1, hHeld2.2.1, hHeld2.2.2.1, hHeld2.2.2.2.1, hHeld2.2.2.2.2.1, hHeld2.2.2.2.2.2.1, hHeld2.2.2.2.2.2.2, by go_simp, by simp⟩) (fun Z hHeld => ?_)
    clear hHeld2
    refine wpAnyH_take (i := 3) (v := ?v6) rfl (by kernel_rfl) (by kernel_rfl) (by kernel_rfl) (fun _ _ _ h => h) (Or.inl ⟨by rfl, ?y6⟩) (by assumption) ?_
    case y6 => intro w hSw; (try dsimp only at hSw); go_simp; all_goals first | with_reducible rfl | rw [if_neg (by omega)]
    try simp only [Act.put, List.getElem_toArray, List.getElem_cons_succ, List.getElem_cons_zero, List.getElem?_toArray, List.getElem?_cons_succ, List.getElem?_cons_zero, List.setIfInBounds_toArray, List.set_cons_zero, List.set_cons_succ]
    refine wpAnyH_take (i := 4) (v := ?v7) rfl (by kernel_rfl) (by kernel_rfl) (by kernel_rfl) (fun _ _ _ h => h) (Or.inl ⟨by rfl, ?y7⟩) (by assumption) ?_
    case y7 => intro w hSw; (try dsimp only at hSw); go_simp; all_goals first | with_reducible rfl | rw [if_neg (by omega)]
    try simp only [Act.put, List.getElem_toArray, List.getElem_cons_succ, List.getElem_cons_zero, List.getElem?_toArray, List.getElem?_cons_succ, List.getElem?_cons_zero, List.setIfInBounds_toArray, List.set_cons_zero, List.set_cons_succ]
    refine wpAnyH_take (i := 5) (v := ?v8) rfl (by kernel_rfl) (by kernel_rfl) (by kernel_rfl) (fun _ _ _ h => h) (Or.inl ⟨by rfl, ?y8⟩) (by assumption) ?_
    case y8 => intro w hSw; (try dsimp only at hSw); go_simp; all_goals first | with_reducible rfl | rw [if_neg (by omega)]
    try simp only [Act.put, List.getElem_toArray, List.getElem_cons_succ, List.getElem_cons_zero, List.getElem?_toArray, List.getElem?_cons_succ, List.getElem?_cons_zero, List.setIfInBounds_toArray, List.set_cons_zero, List.set_cons_succ]
    refine wpAnyH_take (i := 7) (v := ?v9) rfl (by kernel_rfl) (by kernel_rfl) (by kernel_rfl) (fun _ _ _ h => h) (Or.inl ⟨by rfl, ?y9⟩) (by assumption) ?_
    case y9 => intro w hSw; (try dsimp only at hSw); go_simp; all_goals first | with_reducible rfl | rw [if_neg (by omega)]
    try simp only [Act.put, List.getElem_toArray, List.getElem_cons_succ, List.getElem_cons_zero, List.getElem?_toArray, List.getElem?_cons_succ, List.getElem?_cons_zero, List.setIfInBounds_toArray, List.set_cons_zero, List.set_cons_succ]
    refine wpAnyH_ready (rs := [10]) (by kernel_rfl) (by simp) ?_
    refine AllReadyH.cons rfl (fun K hK => ?_) AllReadyH.nil
    go_simp
    (go_at_call 15; with_reducible refine (hrm _).mono ?_; rintro e w2 ⟨rfl, m2, rfl⟩)
    go_wp2_with fail
    refine hK.out _ _ ?_ (fun hHeld2 => ?_)
    · exact held5_litk hHeld (by repeat' first | exact Below.refl _ _ | refine below_drewN ?_ _ | refine Below.drew ?_ | refine Below.alloc ?_ (by first | exact Nat.le_refl _ | (simp <;> omega)) _)
    clear hK K hHeld
    try simp only [Act.put, List.getElem_toArray, List.getElem_cons_succ, List.getElem_cons_zero, List.getElem?_toArray, List.getElem?_cons_succ, List.getElem?_cons_zero, List.setIfInBounds_toArray, List.set_cons_zero, List.set_cons_succ]
    refine wpAnyH_any hHeld2 (fun Z hHeld => ?_)
    clear hHeld2
    refine wpAnyH_take (i := 11) (v := ?v10) rfl (by kernel_rfl) (by kernel_rfl) (by kernel_rfl) (fun _ _ _ h => h) (Or.inl ⟨by rfl, ?y10⟩) (by assumption) ?_
    case y10 => intro w hSw; (try dsimp only at hSw); go_simp; all_goals first | with_reducible rfl | rw [if_neg (by omega)]
    try simp only [Act.put, List.getElem_toArray, List.getElem_cons_succ, List.getElem_cons_zero, List.getElem?_toArray, List.getElem?_cons_succ, List.getElem?_cons_zero, List.setIfInBounds_toArray, List.set_cons_zero, List.set_cons_succ]
    refine wpAnyH_take (i := 12) (v := ?v11) rfl (by kernel_rfl) (by kernel_rfl) (by kernel_rfl) (fun _ _ _ h => h) (Or.inl ⟨by rfl, ?y11⟩) (by assumption) ?_
    case y11 => intro w hSw; (try dsimp only at hSw); go_simp; all_goals first | with_reducible rfl | rw [if_neg (by omega)]
    try simp only [Act.put, List.getElem_toArray, List.getElem_cons_succ, List.getElem_cons_zero, List.getElem?_toArray, List.getElem?_cons_succ, List.getElem?_cons_zero, List.setIfInBounds_toArray, List.set_cons_zero, List.set_cons_succ]
    refine wpAnyH_take (i := 13) (v := ?v12) rfl (by kernel_rfl) (by kernel_rfl) (by kernel_rfl) (fun _ _ _ h => h) (Or.inl ⟨by rfl, ?y12⟩) (by assumption) ?_
    case y12 => intro w hSw; (try dsimp only at hSw); go_simp; all_goals first | with_reducible rfl | rw [if_neg (by omega)]
    try simp only [Act.put, List.getElem_toArray, List.getElem_cons_succ, List.getElem_cons_zero, List.getElem?_toArray, List.getElem?_cons_succ, List.getElem?_cons_zero, List.setIfInBounds_toArray, List.set_cons_zero, List.set_cons_succ]
    refine wpAnyH_done (by kernel_rfl) ?_ _
    (go_wp2_with fail; go_ret2; refine ⟨congrArg (fun s => Ending.returned (.tuple #[.string s, .bool true])) ?_, hHeld.2.2.2.2.2.2.1⟩; rw [Hrd.out, Hrm.out]; apply ByteArray.ext; simp [showB, shapesL, wordB, wordsL, alusL, condsL, piece])
  refine AllReadyH.cons rfl (fun K hK => ?_) AllReadyH.nil
  go_simp
  (go_at_call 15; with_reducible refine (hrm _).mono ?_; rintro e w2 ⟨rfl, m2, rfl⟩)
  go_wp2_with fail
  refine hK.out _ _ ?_ (fun hHeld2 => ?_)
  · exact held5_keep hHeld (by repeat' first | exact Below.refl _ _ | refine below_drewN ?_ _ | refine Below.drew ?_ | refine Below.alloc ?_ (by first | exact Nat.le_refl _ | (simp <;> omega)) _)
  clear hK K hHeld
  try simp only [Act.put, List.getElem_toArray, List.getElem_cons_succ, List.getElem_cons_zero, List.getElem?_toArray, List.getElem?_cons_succ, List.getElem?_cons_zero, List.setIfInBounds_toArray, List.set_cons_zero, List.set_cons_succ]
  refine wpAnyH_any hHeld2 (fun Y hHeld => ?_)
  clear hHeld2
  refine wpAnyH_ready (rs := [0]) (by kernel_rfl) (by simp) ?_
  refine AllReadyH.cons rfl (fun K hK => ?_) AllReadyH.nil
  go_simp
  refine hK.out _ _ ?_ (fun hHeld2 => ?_)
  · exact held5_keep hHeld (by repeat' first | exact Below.refl _ _ | refine below_drewN ?_ _ | refine Below.drew ?_ | refine Below.alloc ?_ (by first | exact Nat.le_refl _ | (simp <;> omega)) _)
  clear hK K hHeld
  try simp only [Act.put, List.getElem_toArray, List.getElem_cons_succ, List.getElem_cons_zero, List.getElem?_toArray, List.getElem?_cons_succ, List.getElem?_cons_zero, List.setIfInBounds_toArray, List.set_cons_zero, List.set_cons_succ]
  refine wpAnyH_mono (S' := fun w' => w'.cell? ⟨w.heap.size, 0, none⟩ = some (.int .i64 11) ∧ w'.cell? ⟨w.heap.size, 1, none⟩ = some (.int .i64 d) ∧ w'.cell? ⟨w.heap.size, 2, none⟩ = some (.int .i64 n) ∧ w'.cell? ⟨w.heap.size, 3, none⟩ = some (.int .i64 m) ∧ w'.cell? ⟨w.heap.size, 4, none⟩ = some (.int .i64 10) ∧ w.heap.size < w'.heap.size ∧ Below w.heap.size w w' ∧ w'.cell? ⟨Y.heap.size, 10, none⟩ = some (.string ⟨#[99, 109, 112]⟩) ∧ Y.heap.size < w'.heap.size) (fun _ h => ⟨h.1, h.2.1, h.2.2.1, h.2.2.2.1, h.2.2.2.2.1, h.2.2.2.2.2.1, h.2.2.2.2.2.2.1⟩) ?_
  refine wpAnyH_any (⟨hHeld2.1, hHeld2.2.1, hHeld2.2.2.1, hHeld2.2.2.2.1, hHeld2.2.2.2.2.1, hHeld2.2.2.2.2.2.1, hHeld2.2.2.2.2.2.2, by go_simp, by simp⟩) (fun Z hHeld => ?_)
  clear hHeld2
  refine wpAnyH_take (i := 3) (v := ?v13) rfl (by kernel_rfl) (by kernel_rfl) (by kernel_rfl) (fun _ _ _ h => h) (Or.inl ⟨by rfl, ?y13⟩) (by assumption) ?_
  case y13 => intro w hSw; (try dsimp only at hSw); go_simp; all_goals first | with_reducible rfl | rw [if_neg (by omega)]
  try simp only [Act.put, List.getElem_toArray, List.getElem_cons_succ, List.getElem_cons_zero, List.getElem?_toArray, List.getElem?_cons_succ, List.getElem?_cons_zero, List.setIfInBounds_toArray, List.set_cons_zero, List.set_cons_succ]
  refine wpAnyH_take (i := 4) (v := ?v14) rfl (by kernel_rfl) (by kernel_rfl) (by kernel_rfl) (fun _ _ _ h => h) (Or.inl ⟨by rfl, ?y14⟩) (by assumption) ?_
  case y14 => intro w hSw; (try dsimp only at hSw); go_simp; all_goals first | with_reducible rfl | rw [if_neg (by omega)]
  try simp only [Act.put, List.getElem_toArray, List.getElem_cons_succ, List.getElem_cons_zero, List.getElem?_toArray, List.getElem?_cons_succ, List.getElem?_cons_zero, List.setIfInBounds_toArray, List.set_cons_zero, List.set_cons_succ]
  refine wpAnyH_take (i := 5) (v := ?v15) rfl (by kernel_rfl) (by kernel_rfl) (by kernel_rfl) (fun _ _ _ h => h) (Or.inl ⟨by rfl, ?y15⟩) (by assumption) ?_
  case y15 => intro w hSw; (try dsimp only at hSw); go_simp; all_goals first | with_reducible rfl | rw [if_neg (by omega)]
  try simp only [Act.put, List.getElem_toArray, List.getElem_cons_succ, List.getElem_cons_zero, List.getElem?_toArray, List.getElem?_cons_succ, List.getElem?_cons_zero, List.setIfInBounds_toArray, List.set_cons_zero, List.set_cons_succ]
  refine wpAnyH_take (i := 7) (v := ?v16) rfl (by kernel_rfl) (by kernel_rfl) (by kernel_rfl) (fun _ _ _ h => h) (Or.inl ⟨by rfl, ?y16⟩) (by assumption) ?_
  case y16 => intro w hSw; (try dsimp only at hSw); go_simp; all_goals first | with_reducible rfl | rw [if_neg (by omega)]
  try simp only [Act.put, List.getElem_toArray, List.getElem_cons_succ, List.getElem_cons_zero, List.getElem?_toArray, List.getElem?_cons_succ, List.getElem?_cons_zero, List.setIfInBounds_toArray, List.set_cons_zero, List.set_cons_succ]
  refine wpAnyH_take (i := 11) (v := ?v17) rfl (by kernel_rfl) (by kernel_rfl) (by kernel_rfl) (fun _ _ _ h => h) (Or.inl ⟨by rfl, ?y17⟩) (by assumption) ?_
  case y17 => intro w hSw; (try dsimp only at hSw); go_simp; all_goals first | with_reducible rfl | rw [if_neg (by omega)]
  try simp only [Act.put, List.getElem_toArray, List.getElem_cons_succ, List.getElem_cons_zero, List.getElem?_toArray, List.getElem?_cons_succ, List.getElem?_cons_zero, List.setIfInBounds_toArray, List.set_cons_zero, List.set_cons_succ]
  refine wpAnyH_take (i := 12) (v := ?v18) rfl (by kernel_rfl) (by kernel_rfl) (by kernel_rfl) (fun _ _ _ h => h) (Or.inl ⟨by rfl, ?y18⟩) (by assumption) ?_
  case y18 => intro w hSw; (try dsimp only at hSw); go_simp; all_goals first | with_reducible rfl | rw [if_neg (by omega)]
  try simp only [Act.put, List.getElem_toArray, List.getElem_cons_succ, List.getElem_cons_zero, List.getElem?_toArray, List.getElem?_cons_succ, List.getElem?_cons_zero, List.setIfInBounds_toArray, List.set_cons_zero, List.set_cons_succ]
  refine wpAnyH_take (i := 13) (v := ?v19) rfl (by kernel_rfl) (by kernel_rfl) (by kernel_rfl) (fun _ _ _ h => h) (Or.inl ⟨by rfl, ?y19⟩) (by assumption) ?_
  case y19 => intro w hSw; (try dsimp only at hSw); go_simp; all_goals first | with_reducible rfl | rw [if_neg (by omega)]
  try simp only [Act.put, List.getElem_toArray, List.getElem_cons_succ, List.getElem_cons_zero, List.getElem?_toArray, List.getElem?_cons_succ, List.getElem?_cons_zero, List.setIfInBounds_toArray, List.set_cons_zero, List.set_cons_succ]
  refine wpAnyH_done (by kernel_rfl) ?_ _
  (go_wp2_with fail; go_ret2; refine ⟨congrArg (fun s => Ending.returned (.tuple #[.string s, .bool true])) ?_, hHeld.2.2.2.2.2.2.1⟩; rw [Hrd.out, Hrm.out]; apply ByteArray.ext; simp [showB, shapesL, wordB, wordsL, alusL, condsL, piece])
set_option maxRecDepth 100000 in
set_option maxHeartbeats 8000000 in
theorem rshow_11_11 (d n m imm : Int) (w : World) (hlit : imm = 11) (hc : canB 11 d n m imm = true) (hr : rcanB 11 d n m imm = true) : Calls Tryd.prog 7 #[.agg #[.int .i64 11, .int .i64 d, .int .i64 n, .int .i64 m, .int .i64 imm]] w fun e w' => e = .returned (.tuple #[.string ⟨(showB 11 d n m imm).toArray⟩, .bool true]) ∧ Below w.heap.size w w' := by
  subst hlit
  have hb := can_bounds 11 d n m 11 (by decide) hc
  have hcan : ∀ w, Calls Tryd.prog 14 #[.agg #[.int .i64 11, .int .i64 d, .int .i64 n, .int .i64 m, .int .i64 11]] w fun e w' => e = .returned (.bool true) ∧ Below w.heap.size w w' := fun w => by have := rcan_any 11 (by decide) d n m 11 w; rw [hr] at this; exact this
  clear hr hc
  obtain ⟨rd, hrd, hsrd, Hrd⟩ := reg_str d (by omega) (by omega)
  obtain ⟨rm, hrm, hsrm, Hrm⟩ := reg_str m (by omega) (by omega)
  go_enter Tryd.func7, Tryd.ntmps7
  go_wp2_with fail
  refine (hcan _).mono ?_
  rintro e w1 ⟨rfl, hb1⟩
  have hbx1 := heap_keep (heap_alloc_new w _) hb1
  have hB1 : Below w.heap.size w w1 := (Below.alloc (Below.refl _ w) (Nat.le_refl _) _).trans (hb1.mono (by simp))
  have hc1 := fun j => Lib.cell_of_heap hbx1 j
  go_wp2_with fail
  refine (hrd _).mono ?_
  rintro e w2 ⟨rfl, m1, rfl⟩
  go_wp2_with fail
  have hS0 : (fun w' => w'.cell? ⟨w.heap.size, 0, none⟩ = some (.int .i64 11) ∧ w'.cell? ⟨w.heap.size, 1, none⟩ = some (.int .i64 d) ∧ w'.cell? ⟨w.heap.size, 2, none⟩ = some (.int .i64 n) ∧ w'.cell? ⟨w.heap.size, 3, none⟩ = some (.int .i64 m) ∧ w'.cell? ⟨w.heap.size, 4, none⟩ = some (.int .i64 11) ∧ w.heap.size < w'.heap.size ∧ Below w.heap.size w w') (w1.drewN m1) := ⟨hc1 0, hc1 1, hc1 2, hc1 3, hc1 4, (Array.getElem?_eq_some_iff.1 hbx1).1, below_drewN hB1 m1⟩
  generalize w1.drewN m1 = W at *


  have HS := Lib.hid hS0

  obtain ⟨k0, k1, k2, k3, k4, hlt, -⟩ := hS0
  refine wp_region_held_drew (S := fun w' => w'.cell? ⟨w.heap.size, 0, none⟩ = some (.int .i64 11) ∧ w'.cell? ⟨w.heap.size, 1, none⟩ = some (.int .i64 d) ∧ w'.cell? ⟨w.heap.size, 2, none⟩ = some (.int .i64 n) ∧ w'.cell? ⟨w.heap.size, 3, none⟩ = some (.int .i64 m) ∧ w'.cell? ⟨w.heap.size, 4, none⟩ = some (.int .i64 11) ∧ w.heap.size < w'.heap.size ∧ Below w.heap.size w w') (by kernel_rfl) (held5_keep HS.out ((Below.refl _ _).drew)) (fun hHeld2 => ?_)
  refine wpAnyH_any hHeld2 (fun Y hHeld => ?_)
  clear hHeld2
  refine wpAnyH_take (i := 1) (v := ?v1) rfl (by kernel_rfl) (by kernel_rfl) (by kernel_rfl) (fun _ _ _ h => h) (Or.inl ⟨by rfl, ?y1⟩) (by assumption) ?_
  case y1 => intro w hSw; (try dsimp only at hSw); go_simp; all_goals first | with_reducible rfl | rw [if_neg (by omega)]
  try simp only [Act.put, List.getElem_toArray, List.getElem_cons_succ, List.getElem_cons_zero, List.getElem?_toArray, List.getElem?_cons_succ, List.getElem?_cons_zero, List.setIfInBounds_toArray, List.set_cons_zero, List.set_cons_succ]
  refine wpAnyH_take (i := 2) (v := ?v2) rfl (by kernel_rfl) (by kernel_rfl) (by kernel_rfl) (fun _ _ _ h => h) (Or.inl ⟨by rfl, ?y2⟩) (by assumption) ?_
  case y2 => intro w hSw; (try dsimp only at hSw); go_simp; all_goals first | with_reducible rfl | rw [if_neg (by omega)]
  try simp only [Act.put, List.getElem_toArray, List.getElem_cons_succ, List.getElem_cons_zero, List.getElem?_toArray, List.getElem?_cons_succ, List.getElem?_cons_zero, List.setIfInBounds_toArray, List.set_cons_zero, List.set_cons_succ]
  refine wpAnyH_take (i := 6) (v := ?v3) rfl (by kernel_rfl) (by kernel_rfl) (by kernel_rfl) (fun _ _ _ h => h) (Or.inl ⟨by rfl, ?y3⟩) (by assumption) ?_
  case y3 => intro w hSw; (try dsimp only at hSw); go_simp; all_goals first | with_reducible rfl | rw [if_neg (by omega)]
  try simp only [Act.put, List.getElem_toArray, List.getElem_cons_succ, List.getElem_cons_zero, List.getElem?_toArray, List.getElem?_cons_succ, List.getElem?_cons_zero, List.setIfInBounds_toArray, List.set_cons_zero, List.set_cons_succ]
  refine wpAnyH_take (i := 8) (v := ?v4) rfl (by kernel_rfl) (by kernel_rfl) (by kernel_rfl) (fun _ _ _ h => h) (Or.inl ⟨by rfl, ?y4⟩) (by assumption) ?_
  case y4 => intro w hSw; (try dsimp only at hSw); go_simp; all_goals first | with_reducible rfl | rw [if_neg (by omega)]
  try simp only [Act.put, List.getElem_toArray, List.getElem_cons_succ, List.getElem_cons_zero, List.getElem?_toArray, List.getElem?_cons_succ, List.getElem?_cons_zero, List.setIfInBounds_toArray, List.set_cons_zero, List.set_cons_succ]
  refine wpAnyH_take (i := 9) (v := ?v5) rfl (by kernel_rfl) (by kernel_rfl) (by kernel_rfl) (fun _ _ _ h => h) (Or.inl ⟨by rfl, ?y5⟩) (by assumption) ?_
  case y5 => intro w hSw; (try dsimp only at hSw); go_simp; all_goals first | with_reducible rfl | rw [if_neg (by omega)]
  try simp only [Act.put, List.getElem_toArray, List.getElem_cons_succ, List.getElem_cons_zero, List.getElem?_toArray, List.getElem?_cons_succ, List.getElem?_cons_zero, List.setIfInBounds_toArray, List.set_cons_zero, List.set_cons_succ]
  refine wpAnyH_ready (rs := [0, 10]) (by kernel_rfl) (by simp) ?_
  refine AllReadyH.cons rfl (fun K hK => ?_) ?_
  · skip
    go_simp
    refine hK.out _ _ ?_ (fun hHeld2 => ?_)
    · exact held5_keep hHeld (by repeat' first | exact Below.refl _ _ | refine below_drewN ?_ _ | refine Below.drew ?_ | refine Below.alloc ?_ (by first | exact Nat.le_refl _ | (simp <;> omega)) _)
    clear hK K hHeld
    try simp only [Act.put, List.getElem_toArray, List.getElem_cons_succ, List.getElem_cons_zero, List.getElem?_toArray, List.getElem?_cons_succ, List.getElem?_cons_zero, List.setIfInBounds_toArray, List.set_cons_zero, List.set_cons_succ]
    refine wpAnyH_mono (S' := fun w' => w'.cell? ⟨w.heap.size, 0, none⟩ = some (.int .i64 11) ∧ w'.cell? ⟨w.heap.size, 1, none⟩ = some (.int .i64 d) ∧ w'.cell? ⟨w.heap.size, 2, none⟩ = some (.int .i64 n) ∧ w'.cell? ⟨w.heap.size, 3, none⟩ = some (.int .i64 m) ∧ w'.cell? ⟨w.heap.size, 4, none⟩ = some (.int .i64 11) ∧ w.heap.size < w'.heap.size ∧ Below w.heap.size w w' ∧ w'.cell? ⟨Y.heap.size, 11, none⟩ = some (.string ⟨#[99, 109, 110]⟩) ∧ Y.heap.size < w'.heap.size) (fun _ h => ⟨h.1, h.2.1, h.2.2.1, h.2.2.2.1, h.2.2.2.2.1, h.2.2.2.2.2.1, h.2.2.2.2.2.2.1⟩) ?_
    refine wpAnyH_any (⟨hHeld2.1, hHeld2.2.1, hHeld2.2.2.1, hHeld2.2.2.2.1, hHeld2.2.2.2.2.1, hHeld2.2.2.2.2.2.1, hHeld2.2.2.2.2.2.2, by go_simp, by simp⟩) (fun Z hHeld => ?_)
    clear hHeld2
    refine wpAnyH_take (i := 3) (v := ?v6) rfl (by kernel_rfl) (by kernel_rfl) (by kernel_rfl) (fun _ _ _ h => h) (Or.inl ⟨by rfl, ?y6⟩) (by assumption) ?_
    case y6 => intro w hSw; (try dsimp only at hSw); go_simp; all_goals first | with_reducible rfl | rw [if_neg (by omega)]
    try simp only [Act.put, List.getElem_toArray, List.getElem_cons_succ, List.getElem_cons_zero, List.getElem?_toArray, List.getElem?_cons_succ, List.getElem?_cons_zero, List.setIfInBounds_toArray, List.set_cons_zero, List.set_cons_succ]
    refine wpAnyH_take (i := 4) (v := ?v7) rfl (by kernel_rfl) (by kernel_rfl) (by kernel_rfl) (fun _ _ _ h => h) (Or.inl ⟨by rfl, ?y7⟩) (by assumption) ?_
    case y7 => intro w hSw; (try dsimp only at hSw); go_simp; all_goals first | with_reducible rfl | rw [if_neg (by omega)]
    try simp only [Act.put, List.getElem_toArray, List.getElem_cons_succ, List.getElem_cons_zero, List.getElem?_toArray, List.getElem?_cons_succ, List.getElem?_cons_zero, List.setIfInBounds_toArray, List.set_cons_zero, List.set_cons_succ]
    refine wpAnyH_take (i := 5) (v := ?v8) rfl (by kernel_rfl) (by kernel_rfl) (by kernel_rfl) (fun _ _ _ h => h) (Or.inl ⟨by rfl, ?y8⟩) (by assumption) ?_
    case y8 => intro w hSw; (try dsimp only at hSw); go_simp; all_goals first | with_reducible rfl | rw [if_neg (by omega)]
    try simp only [Act.put, List.getElem_toArray, List.getElem_cons_succ, List.getElem_cons_zero, List.getElem?_toArray, List.getElem?_cons_succ, List.getElem?_cons_zero, List.setIfInBounds_toArray, List.set_cons_zero, List.set_cons_succ]
    refine wpAnyH_take (i := 7) (v := ?v9) rfl (by kernel_rfl) (by kernel_rfl) (by kernel_rfl) (fun _ _ _ h => h) (Or.inl ⟨by rfl, ?y9⟩) (by assumption) ?_
    case y9 => intro w hSw; (try dsimp only at hSw); go_simp; all_goals first | with_reducible rfl | rw [if_neg (by omega)]
    try simp only [Act.put, List.getElem_toArray, List.getElem_cons_succ, List.getElem_cons_zero, List.getElem?_toArray, List.getElem?_cons_succ, List.getElem?_cons_zero, List.setIfInBounds_toArray, List.set_cons_zero, List.set_cons_succ]
    refine wpAnyH_ready (rs := [10]) (by kernel_rfl) (by simp) ?_
    refine AllReadyH.cons rfl (fun K hK => ?_) AllReadyH.nil
    go_simp
    (go_at_call 15; with_reducible refine (hrm _).mono ?_; rintro e w2 ⟨rfl, m2, rfl⟩)
    go_wp2_with fail
    refine hK.out _ _ ?_ (fun hHeld2 => ?_)
    · exact held5_litk hHeld (by repeat' first | exact Below.refl _ _ | refine below_drewN ?_ _ | refine Below.drew ?_ | refine Below.alloc ?_ (by first | exact Nat.le_refl _ | (simp <;> omega)) _)
    clear hK K hHeld
    try simp only [Act.put, List.getElem_toArray, List.getElem_cons_succ, List.getElem_cons_zero, List.getElem?_toArray, List.getElem?_cons_succ, List.getElem?_cons_zero, List.setIfInBounds_toArray, List.set_cons_zero, List.set_cons_succ]
    refine wpAnyH_any hHeld2 (fun Z hHeld => ?_)
    clear hHeld2
    refine wpAnyH_take (i := 11) (v := ?v10) rfl (by kernel_rfl) (by kernel_rfl) (by kernel_rfl) (fun _ _ _ h => h) (Or.inl ⟨by rfl, ?y10⟩) (by assumption) ?_
    case y10 => intro w hSw; (try dsimp only at hSw); go_simp; all_goals first | with_reducible rfl | rw [if_neg (by omega)]
    try simp only [Act.put, List.getElem_toArray, List.getElem_cons_succ, List.getElem_cons_zero, List.getElem?_toArray, List.getElem?_cons_succ, List.getElem?_cons_zero, List.setIfInBounds_toArray, List.set_cons_zero, List.set_cons_succ]
    refine wpAnyH_take (i := 12) (v := ?v11) rfl (by kernel_rfl) (by kernel_rfl) (by kernel_rfl) (fun _ _ _ h => h) (Or.inl ⟨by rfl, ?y11⟩) (by assumption) ?_
    case y11 => intro w hSw; (try dsimp only at hSw); go_simp; all_goals first | with_reducible rfl | rw [if_neg (by omega)]
    try simp only [Act.put, List.getElem_toArray, List.getElem_cons_succ, List.getElem_cons_zero, List.getElem?_toArray, List.getElem?_cons_succ, List.getElem?_cons_zero, List.setIfInBounds_toArray, List.set_cons_zero, List.set_cons_succ]
    refine wpAnyH_take (i := 13) (v := ?v12) rfl (by kernel_rfl) (by kernel_rfl) (by kernel_rfl) (fun _ _ _ h => h) (Or.inl ⟨by rfl, ?y12⟩) (by assumption) ?_
    case y12 => intro w hSw; (try dsimp only at hSw); go_simp; all_goals first | with_reducible rfl | rw [if_neg (by omega)]
    try simp only [Act.put, List.getElem_toArray, List.getElem_cons_succ, List.getElem_cons_zero, List.getElem?_toArray, List.getElem?_cons_succ, List.getElem?_cons_zero, List.setIfInBounds_toArray, List.set_cons_zero, List.set_cons_succ]
    refine wpAnyH_done (by kernel_rfl) ?_ _
    (go_wp2_with fail; go_ret2; refine ⟨congrArg (fun s => Ending.returned (.tuple #[.string s, .bool true])) ?_, hHeld.2.2.2.2.2.2.1⟩; rw [Hrd.out, Hrm.out]; apply ByteArray.ext; simp [showB, shapesL, wordB, wordsL, alusL, condsL, piece])
  refine AllReadyH.cons rfl (fun K hK => ?_) AllReadyH.nil
  go_simp
  (go_at_call 15; with_reducible refine (hrm _).mono ?_; rintro e w2 ⟨rfl, m2, rfl⟩)
  go_wp2_with fail
  refine hK.out _ _ ?_ (fun hHeld2 => ?_)
  · exact held5_keep hHeld (by repeat' first | exact Below.refl _ _ | refine below_drewN ?_ _ | refine Below.drew ?_ | refine Below.alloc ?_ (by first | exact Nat.le_refl _ | (simp <;> omega)) _)
  clear hK K hHeld
  try simp only [Act.put, List.getElem_toArray, List.getElem_cons_succ, List.getElem_cons_zero, List.getElem?_toArray, List.getElem?_cons_succ, List.getElem?_cons_zero, List.setIfInBounds_toArray, List.set_cons_zero, List.set_cons_succ]
  refine wpAnyH_any hHeld2 (fun Y hHeld => ?_)
  clear hHeld2
  refine wpAnyH_ready (rs := [0]) (by kernel_rfl) (by simp) ?_
  refine AllReadyH.cons rfl (fun K hK => ?_) AllReadyH.nil
  go_simp
  refine hK.out _ _ ?_ (fun hHeld2 => ?_)
  · exact held5_keep hHeld (by repeat' first | exact Below.refl _ _ | refine below_drewN ?_ _ | refine Below.drew ?_ | refine Below.alloc ?_ (by first | exact Nat.le_refl _ | (simp <;> omega)) _)
  clear hK K hHeld
  try simp only [Act.put, List.getElem_toArray, List.getElem_cons_succ, List.getElem_cons_zero, List.getElem?_toArray, List.getElem?_cons_succ, List.getElem?_cons_zero, List.setIfInBounds_toArray, List.set_cons_zero, List.set_cons_succ]
  refine wpAnyH_mono (S' := fun w' => w'.cell? ⟨w.heap.size, 0, none⟩ = some (.int .i64 11) ∧ w'.cell? ⟨w.heap.size, 1, none⟩ = some (.int .i64 d) ∧ w'.cell? ⟨w.heap.size, 2, none⟩ = some (.int .i64 n) ∧ w'.cell? ⟨w.heap.size, 3, none⟩ = some (.int .i64 m) ∧ w'.cell? ⟨w.heap.size, 4, none⟩ = some (.int .i64 11) ∧ w.heap.size < w'.heap.size ∧ Below w.heap.size w w' ∧ w'.cell? ⟨Y.heap.size, 11, none⟩ = some (.string ⟨#[99, 109, 110]⟩) ∧ Y.heap.size < w'.heap.size) (fun _ h => ⟨h.1, h.2.1, h.2.2.1, h.2.2.2.1, h.2.2.2.2.1, h.2.2.2.2.2.1, h.2.2.2.2.2.2.1⟩) ?_
  refine wpAnyH_any (⟨hHeld2.1, hHeld2.2.1, hHeld2.2.2.1, hHeld2.2.2.2.1, hHeld2.2.2.2.2.1, hHeld2.2.2.2.2.2.1, hHeld2.2.2.2.2.2.2, by go_simp, by simp⟩) (fun Z hHeld => ?_)
  clear hHeld2
  refine wpAnyH_take (i := 3) (v := ?v13) rfl (by kernel_rfl) (by kernel_rfl) (by kernel_rfl) (fun _ _ _ h => h) (Or.inl ⟨by rfl, ?y13⟩) (by assumption) ?_
  case y13 => intro w hSw; (try dsimp only at hSw); go_simp; all_goals first | with_reducible rfl | rw [if_neg (by omega)]
  try simp only [Act.put, List.getElem_toArray, List.getElem_cons_succ, List.getElem_cons_zero, List.getElem?_toArray, List.getElem?_cons_succ, List.getElem?_cons_zero, List.setIfInBounds_toArray, List.set_cons_zero, List.set_cons_succ]
  refine wpAnyH_take (i := 4) (v := ?v14) rfl (by kernel_rfl) (by kernel_rfl) (by kernel_rfl) (fun _ _ _ h => h) (Or.inl ⟨by rfl, ?y14⟩) (by assumption) ?_
  case y14 => intro w hSw; (try dsimp only at hSw); go_simp; all_goals first | with_reducible rfl | rw [if_neg (by omega)]
  try simp only [Act.put, List.getElem_toArray, List.getElem_cons_succ, List.getElem_cons_zero, List.getElem?_toArray, List.getElem?_cons_succ, List.getElem?_cons_zero, List.setIfInBounds_toArray, List.set_cons_zero, List.set_cons_succ]
  refine wpAnyH_take (i := 5) (v := ?v15) rfl (by kernel_rfl) (by kernel_rfl) (by kernel_rfl) (fun _ _ _ h => h) (Or.inl ⟨by rfl, ?y15⟩) (by assumption) ?_
  case y15 => intro w hSw; (try dsimp only at hSw); go_simp; all_goals first | with_reducible rfl | rw [if_neg (by omega)]
  try simp only [Act.put, List.getElem_toArray, List.getElem_cons_succ, List.getElem_cons_zero, List.getElem?_toArray, List.getElem?_cons_succ, List.getElem?_cons_zero, List.setIfInBounds_toArray, List.set_cons_zero, List.set_cons_succ]
  refine wpAnyH_take (i := 7) (v := ?v16) rfl (by kernel_rfl) (by kernel_rfl) (by kernel_rfl) (fun _ _ _ h => h) (Or.inl ⟨by rfl, ?y16⟩) (by assumption) ?_
  case y16 => intro w hSw; (try dsimp only at hSw); go_simp; all_goals first | with_reducible rfl | rw [if_neg (by omega)]
  try simp only [Act.put, List.getElem_toArray, List.getElem_cons_succ, List.getElem_cons_zero, List.getElem?_toArray, List.getElem?_cons_succ, List.getElem?_cons_zero, List.setIfInBounds_toArray, List.set_cons_zero, List.set_cons_succ]
  refine wpAnyH_take (i := 11) (v := ?v17) rfl (by kernel_rfl) (by kernel_rfl) (by kernel_rfl) (fun _ _ _ h => h) (Or.inl ⟨by rfl, ?y17⟩) (by assumption) ?_
  case y17 => intro w hSw; (try dsimp only at hSw); go_simp; all_goals first | with_reducible rfl | rw [if_neg (by omega)]
  try simp only [Act.put, List.getElem_toArray, List.getElem_cons_succ, List.getElem_cons_zero, List.getElem?_toArray, List.getElem?_cons_succ, List.getElem?_cons_zero, List.setIfInBounds_toArray, List.set_cons_zero, List.set_cons_succ]
  refine wpAnyH_take (i := 12) (v := ?v18) rfl (by kernel_rfl) (by kernel_rfl) (by kernel_rfl) (fun _ _ _ h => h) (Or.inl ⟨by rfl, ?y18⟩) (by assumption) ?_
  case y18 => intro w hSw; (try dsimp only at hSw); go_simp; all_goals first | with_reducible rfl | rw [if_neg (by omega)]
  try simp only [Act.put, List.getElem_toArray, List.getElem_cons_succ, List.getElem_cons_zero, List.getElem?_toArray, List.getElem?_cons_succ, List.getElem?_cons_zero, List.setIfInBounds_toArray, List.set_cons_zero, List.set_cons_succ]
  refine wpAnyH_take (i := 13) (v := ?v19) rfl (by kernel_rfl) (by kernel_rfl) (by kernel_rfl) (fun _ _ _ h => h) (Or.inl ⟨by rfl, ?y19⟩) (by assumption) ?_
  case y19 => intro w hSw; (try dsimp only at hSw); go_simp; all_goals first | with_reducible rfl | rw [if_neg (by omega)]
  try simp only [Act.put, List.getElem_toArray, List.getElem_cons_succ, List.getElem_cons_zero, List.getElem?_toArray, List.getElem?_cons_succ, List.getElem?_cons_zero, List.setIfInBounds_toArray, List.set_cons_zero, List.set_cons_succ]
  refine wpAnyH_done (by kernel_rfl) ?_ _
  (go_wp2_with fail; go_ret2; refine ⟨congrArg (fun s => Ending.returned (.tuple #[.string s, .bool true])) ?_, hHeld.2.2.2.2.2.2.1⟩; rw [Hrd.out, Hrm.out]; apply ByteArray.ext; simp [showB, shapesL, wordB, wordsL, alusL, condsL, piece])
set_option maxRecDepth 100000 in
set_option maxHeartbeats 8000000 in
theorem rshow_11_12 (d n m imm : Int) (w : World) (hlit : imm = 12) (hc : canB 11 d n m imm = true) (hr : rcanB 11 d n m imm = true) : Calls Tryd.prog 7 #[.agg #[.int .i64 11, .int .i64 d, .int .i64 n, .int .i64 m, .int .i64 imm]] w fun e w' => e = .returned (.tuple #[.string ⟨(showB 11 d n m imm).toArray⟩, .bool true]) ∧ Below w.heap.size w w' := by
  subst hlit
  have hb := can_bounds 11 d n m 12 (by decide) hc
  have hcan : ∀ w, Calls Tryd.prog 14 #[.agg #[.int .i64 11, .int .i64 d, .int .i64 n, .int .i64 m, .int .i64 12]] w fun e w' => e = .returned (.bool true) ∧ Below w.heap.size w w' := fun w => by have := rcan_any 11 (by decide) d n m 12 w; rw [hr] at this; exact this
  clear hr hc
  obtain ⟨rd, hrd, hsrd, Hrd⟩ := reg_str d (by omega) (by omega)
  obtain ⟨rm, hrm, hsrm, Hrm⟩ := reg_str m (by omega) (by omega)
  go_enter Tryd.func7, Tryd.ntmps7
  go_wp2_with fail
  refine (hcan _).mono ?_
  rintro e w1 ⟨rfl, hb1⟩
  have hbx1 := heap_keep (heap_alloc_new w _) hb1
  have hB1 : Below w.heap.size w w1 := (Below.alloc (Below.refl _ w) (Nat.le_refl _) _).trans (hb1.mono (by simp))
  have hc1 := fun j => Lib.cell_of_heap hbx1 j
  go_wp2_with fail
  refine (hrd _).mono ?_
  rintro e w2 ⟨rfl, m1, rfl⟩
  go_wp2_with fail
  have hS0 : (fun w' => w'.cell? ⟨w.heap.size, 0, none⟩ = some (.int .i64 11) ∧ w'.cell? ⟨w.heap.size, 1, none⟩ = some (.int .i64 d) ∧ w'.cell? ⟨w.heap.size, 2, none⟩ = some (.int .i64 n) ∧ w'.cell? ⟨w.heap.size, 3, none⟩ = some (.int .i64 m) ∧ w'.cell? ⟨w.heap.size, 4, none⟩ = some (.int .i64 12) ∧ w.heap.size < w'.heap.size ∧ Below w.heap.size w w') (w1.drewN m1) := ⟨hc1 0, hc1 1, hc1 2, hc1 3, hc1 4, (Array.getElem?_eq_some_iff.1 hbx1).1, below_drewN hB1 m1⟩
  generalize w1.drewN m1 = W at *


  have HS := Lib.hid hS0

  obtain ⟨k0, k1, k2, k3, k4, hlt, -⟩ := hS0
  refine wp_region_held_drew (S := fun w' => w'.cell? ⟨w.heap.size, 0, none⟩ = some (.int .i64 11) ∧ w'.cell? ⟨w.heap.size, 1, none⟩ = some (.int .i64 d) ∧ w'.cell? ⟨w.heap.size, 2, none⟩ = some (.int .i64 n) ∧ w'.cell? ⟨w.heap.size, 3, none⟩ = some (.int .i64 m) ∧ w'.cell? ⟨w.heap.size, 4, none⟩ = some (.int .i64 12) ∧ w.heap.size < w'.heap.size ∧ Below w.heap.size w w') (by kernel_rfl) (held5_keep HS.out ((Below.refl _ _).drew)) (fun hHeld2 => ?_)
  refine wpAnyH_any hHeld2 (fun Y hHeld => ?_)
  clear hHeld2
  refine wpAnyH_take (i := 1) (v := ?v1) rfl (by kernel_rfl) (by kernel_rfl) (by kernel_rfl) (fun _ _ _ h => h) (Or.inl ⟨by rfl, ?y1⟩) (by assumption) ?_
  case y1 => intro w hSw; (try dsimp only at hSw); go_simp; all_goals first | with_reducible rfl | rw [if_neg (by omega)]
  try simp only [Act.put, List.getElem_toArray, List.getElem_cons_succ, List.getElem_cons_zero, List.getElem?_toArray, List.getElem?_cons_succ, List.getElem?_cons_zero, List.setIfInBounds_toArray, List.set_cons_zero, List.set_cons_succ]
  refine wpAnyH_take (i := 2) (v := ?v2) rfl (by kernel_rfl) (by kernel_rfl) (by kernel_rfl) (fun _ _ _ h => h) (Or.inl ⟨by rfl, ?y2⟩) (by assumption) ?_
  case y2 => intro w hSw; (try dsimp only at hSw); go_simp; all_goals first | with_reducible rfl | rw [if_neg (by omega)]
  try simp only [Act.put, List.getElem_toArray, List.getElem_cons_succ, List.getElem_cons_zero, List.getElem?_toArray, List.getElem?_cons_succ, List.getElem?_cons_zero, List.setIfInBounds_toArray, List.set_cons_zero, List.set_cons_succ]
  refine wpAnyH_take (i := 6) (v := ?v3) rfl (by kernel_rfl) (by kernel_rfl) (by kernel_rfl) (fun _ _ _ h => h) (Or.inl ⟨by rfl, ?y3⟩) (by assumption) ?_
  case y3 => intro w hSw; (try dsimp only at hSw); go_simp; all_goals first | with_reducible rfl | rw [if_neg (by omega)]
  try simp only [Act.put, List.getElem_toArray, List.getElem_cons_succ, List.getElem_cons_zero, List.getElem?_toArray, List.getElem?_cons_succ, List.getElem?_cons_zero, List.setIfInBounds_toArray, List.set_cons_zero, List.set_cons_succ]
  refine wpAnyH_take (i := 8) (v := ?v4) rfl (by kernel_rfl) (by kernel_rfl) (by kernel_rfl) (fun _ _ _ h => h) (Or.inl ⟨by rfl, ?y4⟩) (by assumption) ?_
  case y4 => intro w hSw; (try dsimp only at hSw); go_simp; all_goals first | with_reducible rfl | rw [if_neg (by omega)]
  try simp only [Act.put, List.getElem_toArray, List.getElem_cons_succ, List.getElem_cons_zero, List.getElem?_toArray, List.getElem?_cons_succ, List.getElem?_cons_zero, List.setIfInBounds_toArray, List.set_cons_zero, List.set_cons_succ]
  refine wpAnyH_take (i := 9) (v := ?v5) rfl (by kernel_rfl) (by kernel_rfl) (by kernel_rfl) (fun _ _ _ h => h) (Or.inl ⟨by rfl, ?y5⟩) (by assumption) ?_
  case y5 => intro w hSw; (try dsimp only at hSw); go_simp; all_goals first | with_reducible rfl | rw [if_neg (by omega)]
  try simp only [Act.put, List.getElem_toArray, List.getElem_cons_succ, List.getElem_cons_zero, List.getElem?_toArray, List.getElem?_cons_succ, List.getElem?_cons_zero, List.setIfInBounds_toArray, List.set_cons_zero, List.set_cons_succ]
  refine wpAnyH_ready (rs := [0, 10]) (by kernel_rfl) (by simp) ?_
  refine AllReadyH.cons rfl (fun K hK => ?_) ?_
  · skip
    go_simp
    refine hK.out _ _ ?_ (fun hHeld2 => ?_)
    · exact held5_keep hHeld (by repeat' first | exact Below.refl _ _ | refine below_drewN ?_ _ | refine Below.drew ?_ | refine Below.alloc ?_ (by first | exact Nat.le_refl _ | (simp <;> omega)) _)
    clear hK K hHeld
    try simp only [Act.put, List.getElem_toArray, List.getElem_cons_succ, List.getElem_cons_zero, List.getElem?_toArray, List.getElem?_cons_succ, List.getElem?_cons_zero, List.setIfInBounds_toArray, List.set_cons_zero, List.set_cons_succ]
    refine wpAnyH_mono (S' := fun w' => w'.cell? ⟨w.heap.size, 0, none⟩ = some (.int .i64 11) ∧ w'.cell? ⟨w.heap.size, 1, none⟩ = some (.int .i64 d) ∧ w'.cell? ⟨w.heap.size, 2, none⟩ = some (.int .i64 n) ∧ w'.cell? ⟨w.heap.size, 3, none⟩ = some (.int .i64 m) ∧ w'.cell? ⟨w.heap.size, 4, none⟩ = some (.int .i64 12) ∧ w.heap.size < w'.heap.size ∧ Below w.heap.size w w' ∧ w'.cell? ⟨Y.heap.size, 12, none⟩ = some (.string ⟨#[111, 114, 114, 115]⟩) ∧ Y.heap.size < w'.heap.size) (fun _ h => ⟨h.1, h.2.1, h.2.2.1, h.2.2.2.1, h.2.2.2.2.1, h.2.2.2.2.2.1, h.2.2.2.2.2.2.1⟩) ?_
    refine wpAnyH_any (⟨hHeld2.1, hHeld2.2.1, hHeld2.2.2.1, hHeld2.2.2.2.1, hHeld2.2.2.2.2.1, hHeld2.2.2.2.2.2.1, hHeld2.2.2.2.2.2.2, by go_simp, by simp⟩) (fun Z hHeld => ?_)
    clear hHeld2
    refine wpAnyH_take (i := 3) (v := ?v6) rfl (by kernel_rfl) (by kernel_rfl) (by kernel_rfl) (fun _ _ _ h => h) (Or.inl ⟨by rfl, ?y6⟩) (by assumption) ?_
    case y6 => intro w hSw; (try dsimp only at hSw); go_simp; all_goals first | with_reducible rfl | rw [if_neg (by omega)]
    try simp only [Act.put, List.getElem_toArray, List.getElem_cons_succ, List.getElem_cons_zero, List.getElem?_toArray, List.getElem?_cons_succ, List.getElem?_cons_zero, List.setIfInBounds_toArray, List.set_cons_zero, List.set_cons_succ]
    refine wpAnyH_take (i := 4) (v := ?v7) rfl (by kernel_rfl) (by kernel_rfl) (by kernel_rfl) (fun _ _ _ h => h) (Or.inl ⟨by rfl, ?y7⟩) (by assumption) ?_
    case y7 => intro w hSw; (try dsimp only at hSw); go_simp; all_goals first | with_reducible rfl | rw [if_neg (by omega)]
    try simp only [Act.put, List.getElem_toArray, List.getElem_cons_succ, List.getElem_cons_zero, List.getElem?_toArray, List.getElem?_cons_succ, List.getElem?_cons_zero, List.setIfInBounds_toArray, List.set_cons_zero, List.set_cons_succ]
    refine wpAnyH_take (i := 5) (v := ?v8) rfl (by kernel_rfl) (by kernel_rfl) (by kernel_rfl) (fun _ _ _ h => h) (Or.inl ⟨by rfl, ?y8⟩) (by assumption) ?_
    case y8 => intro w hSw; (try dsimp only at hSw); go_simp; all_goals first | with_reducible rfl | rw [if_neg (by omega)]
    try simp only [Act.put, List.getElem_toArray, List.getElem_cons_succ, List.getElem_cons_zero, List.getElem?_toArray, List.getElem?_cons_succ, List.getElem?_cons_zero, List.setIfInBounds_toArray, List.set_cons_zero, List.set_cons_succ]
    refine wpAnyH_take (i := 7) (v := ?v9) rfl (by kernel_rfl) (by kernel_rfl) (by kernel_rfl) (fun _ _ _ h => h) (Or.inl ⟨by rfl, ?y9⟩) (by assumption) ?_
    case y9 => intro w hSw; (try dsimp only at hSw); go_simp; all_goals first | with_reducible rfl | rw [if_neg (by omega)]
    try simp only [Act.put, List.getElem_toArray, List.getElem_cons_succ, List.getElem_cons_zero, List.getElem?_toArray, List.getElem?_cons_succ, List.getElem?_cons_zero, List.setIfInBounds_toArray, List.set_cons_zero, List.set_cons_succ]
    refine wpAnyH_ready (rs := [10]) (by kernel_rfl) (by simp) ?_
    refine AllReadyH.cons rfl (fun K hK => ?_) AllReadyH.nil
    go_simp
    (go_at_call 15; with_reducible refine (hrm _).mono ?_; rintro e w2 ⟨rfl, m2, rfl⟩)
    go_wp2_with fail
    refine hK.out _ _ ?_ (fun hHeld2 => ?_)
    · exact held5_litk hHeld (by repeat' first | exact Below.refl _ _ | refine below_drewN ?_ _ | refine Below.drew ?_ | refine Below.alloc ?_ (by first | exact Nat.le_refl _ | (simp <;> omega)) _)
    clear hK K hHeld
    try simp only [Act.put, List.getElem_toArray, List.getElem_cons_succ, List.getElem_cons_zero, List.getElem?_toArray, List.getElem?_cons_succ, List.getElem?_cons_zero, List.setIfInBounds_toArray, List.set_cons_zero, List.set_cons_succ]
    refine wpAnyH_any hHeld2 (fun Z hHeld => ?_)
    clear hHeld2
    refine wpAnyH_take (i := 11) (v := ?v10) rfl (by kernel_rfl) (by kernel_rfl) (by kernel_rfl) (fun _ _ _ h => h) (Or.inl ⟨by rfl, ?y10⟩) (by assumption) ?_
    case y10 => intro w hSw; (try dsimp only at hSw); go_simp; all_goals first | with_reducible rfl | rw [if_neg (by omega)]
    try simp only [Act.put, List.getElem_toArray, List.getElem_cons_succ, List.getElem_cons_zero, List.getElem?_toArray, List.getElem?_cons_succ, List.getElem?_cons_zero, List.setIfInBounds_toArray, List.set_cons_zero, List.set_cons_succ]
    refine wpAnyH_take (i := 12) (v := ?v11) rfl (by kernel_rfl) (by kernel_rfl) (by kernel_rfl) (fun _ _ _ h => h) (Or.inl ⟨by rfl, ?y11⟩) (by assumption) ?_
    case y11 => intro w hSw; (try dsimp only at hSw); go_simp; all_goals first | with_reducible rfl | rw [if_neg (by omega)]
    try simp only [Act.put, List.getElem_toArray, List.getElem_cons_succ, List.getElem_cons_zero, List.getElem?_toArray, List.getElem?_cons_succ, List.getElem?_cons_zero, List.setIfInBounds_toArray, List.set_cons_zero, List.set_cons_succ]
    refine wpAnyH_take (i := 13) (v := ?v12) rfl (by kernel_rfl) (by kernel_rfl) (by kernel_rfl) (fun _ _ _ h => h) (Or.inl ⟨by rfl, ?y12⟩) (by assumption) ?_
    case y12 => intro w hSw; (try dsimp only at hSw); go_simp; all_goals first | with_reducible rfl | rw [if_neg (by omega)]
    try simp only [Act.put, List.getElem_toArray, List.getElem_cons_succ, List.getElem_cons_zero, List.getElem?_toArray, List.getElem?_cons_succ, List.getElem?_cons_zero, List.setIfInBounds_toArray, List.set_cons_zero, List.set_cons_succ]
    refine wpAnyH_done (by kernel_rfl) ?_ _
    (go_wp2_with fail; go_ret2; refine ⟨congrArg (fun s => Ending.returned (.tuple #[.string s, .bool true])) ?_, hHeld.2.2.2.2.2.2.1⟩; rw [Hrd.out, Hrm.out]; apply ByteArray.ext; simp [showB, shapesL, wordB, wordsL, alusL, condsL, piece])
  refine AllReadyH.cons rfl (fun K hK => ?_) AllReadyH.nil
  go_simp
  (go_at_call 15; with_reducible refine (hrm _).mono ?_; rintro e w2 ⟨rfl, m2, rfl⟩)
  go_wp2_with fail
  refine hK.out _ _ ?_ (fun hHeld2 => ?_)
  · exact held5_keep hHeld (by repeat' first | exact Below.refl _ _ | refine below_drewN ?_ _ | refine Below.drew ?_ | refine Below.alloc ?_ (by first | exact Nat.le_refl _ | (simp <;> omega)) _)
  clear hK K hHeld
  try simp only [Act.put, List.getElem_toArray, List.getElem_cons_succ, List.getElem_cons_zero, List.getElem?_toArray, List.getElem?_cons_succ, List.getElem?_cons_zero, List.setIfInBounds_toArray, List.set_cons_zero, List.set_cons_succ]
  refine wpAnyH_any hHeld2 (fun Y hHeld => ?_)
  clear hHeld2
  refine wpAnyH_ready (rs := [0]) (by kernel_rfl) (by simp) ?_
  refine AllReadyH.cons rfl (fun K hK => ?_) AllReadyH.nil
  go_simp
  refine hK.out _ _ ?_ (fun hHeld2 => ?_)
  · exact held5_keep hHeld (by repeat' first | exact Below.refl _ _ | refine below_drewN ?_ _ | refine Below.drew ?_ | refine Below.alloc ?_ (by first | exact Nat.le_refl _ | (simp <;> omega)) _)
  clear hK K hHeld
  try simp only [Act.put, List.getElem_toArray, List.getElem_cons_succ, List.getElem_cons_zero, List.getElem?_toArray, List.getElem?_cons_succ, List.getElem?_cons_zero, List.setIfInBounds_toArray, List.set_cons_zero, List.set_cons_succ]
  refine wpAnyH_mono (S' := fun w' => w'.cell? ⟨w.heap.size, 0, none⟩ = some (.int .i64 11) ∧ w'.cell? ⟨w.heap.size, 1, none⟩ = some (.int .i64 d) ∧ w'.cell? ⟨w.heap.size, 2, none⟩ = some (.int .i64 n) ∧ w'.cell? ⟨w.heap.size, 3, none⟩ = some (.int .i64 m) ∧ w'.cell? ⟨w.heap.size, 4, none⟩ = some (.int .i64 12) ∧ w.heap.size < w'.heap.size ∧ Below w.heap.size w w' ∧ w'.cell? ⟨Y.heap.size, 12, none⟩ = some (.string ⟨#[111, 114, 114, 115]⟩) ∧ Y.heap.size < w'.heap.size) (fun _ h => ⟨h.1, h.2.1, h.2.2.1, h.2.2.2.1, h.2.2.2.2.1, h.2.2.2.2.2.1, h.2.2.2.2.2.2.1⟩) ?_
  refine wpAnyH_any (⟨hHeld2.1, hHeld2.2.1, hHeld2.2.2.1, hHeld2.2.2.2.1, hHeld2.2.2.2.2.1, hHeld2.2.2.2.2.2.1, hHeld2.2.2.2.2.2.2, by go_simp, by simp⟩) (fun Z hHeld => ?_)
  clear hHeld2
  refine wpAnyH_take (i := 3) (v := ?v13) rfl (by kernel_rfl) (by kernel_rfl) (by kernel_rfl) (fun _ _ _ h => h) (Or.inl ⟨by rfl, ?y13⟩) (by assumption) ?_
  case y13 => intro w hSw; (try dsimp only at hSw); go_simp; all_goals first | with_reducible rfl | rw [if_neg (by omega)]
  try simp only [Act.put, List.getElem_toArray, List.getElem_cons_succ, List.getElem_cons_zero, List.getElem?_toArray, List.getElem?_cons_succ, List.getElem?_cons_zero, List.setIfInBounds_toArray, List.set_cons_zero, List.set_cons_succ]
  refine wpAnyH_take (i := 4) (v := ?v14) rfl (by kernel_rfl) (by kernel_rfl) (by kernel_rfl) (fun _ _ _ h => h) (Or.inl ⟨by rfl, ?y14⟩) (by assumption) ?_
  case y14 => intro w hSw; (try dsimp only at hSw); go_simp; all_goals first | with_reducible rfl | rw [if_neg (by omega)]
  try simp only [Act.put, List.getElem_toArray, List.getElem_cons_succ, List.getElem_cons_zero, List.getElem?_toArray, List.getElem?_cons_succ, List.getElem?_cons_zero, List.setIfInBounds_toArray, List.set_cons_zero, List.set_cons_succ]
  refine wpAnyH_take (i := 5) (v := ?v15) rfl (by kernel_rfl) (by kernel_rfl) (by kernel_rfl) (fun _ _ _ h => h) (Or.inl ⟨by rfl, ?y15⟩) (by assumption) ?_
  case y15 => intro w hSw; (try dsimp only at hSw); go_simp; all_goals first | with_reducible rfl | rw [if_neg (by omega)]
  try simp only [Act.put, List.getElem_toArray, List.getElem_cons_succ, List.getElem_cons_zero, List.getElem?_toArray, List.getElem?_cons_succ, List.getElem?_cons_zero, List.setIfInBounds_toArray, List.set_cons_zero, List.set_cons_succ]
  refine wpAnyH_take (i := 7) (v := ?v16) rfl (by kernel_rfl) (by kernel_rfl) (by kernel_rfl) (fun _ _ _ h => h) (Or.inl ⟨by rfl, ?y16⟩) (by assumption) ?_
  case y16 => intro w hSw; (try dsimp only at hSw); go_simp; all_goals first | with_reducible rfl | rw [if_neg (by omega)]
  try simp only [Act.put, List.getElem_toArray, List.getElem_cons_succ, List.getElem_cons_zero, List.getElem?_toArray, List.getElem?_cons_succ, List.getElem?_cons_zero, List.setIfInBounds_toArray, List.set_cons_zero, List.set_cons_succ]
  refine wpAnyH_take (i := 11) (v := ?v17) rfl (by kernel_rfl) (by kernel_rfl) (by kernel_rfl) (fun _ _ _ h => h) (Or.inl ⟨by rfl, ?y17⟩) (by assumption) ?_
  case y17 => intro w hSw; (try dsimp only at hSw); go_simp; all_goals first | with_reducible rfl | rw [if_neg (by omega)]
  try simp only [Act.put, List.getElem_toArray, List.getElem_cons_succ, List.getElem_cons_zero, List.getElem?_toArray, List.getElem?_cons_succ, List.getElem?_cons_zero, List.setIfInBounds_toArray, List.set_cons_zero, List.set_cons_succ]
  refine wpAnyH_take (i := 12) (v := ?v18) rfl (by kernel_rfl) (by kernel_rfl) (by kernel_rfl) (fun _ _ _ h => h) (Or.inl ⟨by rfl, ?y18⟩) (by assumption) ?_
  case y18 => intro w hSw; (try dsimp only at hSw); go_simp; all_goals first | with_reducible rfl | rw [if_neg (by omega)]
  try simp only [Act.put, List.getElem_toArray, List.getElem_cons_succ, List.getElem_cons_zero, List.getElem?_toArray, List.getElem?_cons_succ, List.getElem?_cons_zero, List.setIfInBounds_toArray, List.set_cons_zero, List.set_cons_succ]
  refine wpAnyH_take (i := 13) (v := ?v19) rfl (by kernel_rfl) (by kernel_rfl) (by kernel_rfl) (fun _ _ _ h => h) (Or.inl ⟨by rfl, ?y19⟩) (by assumption) ?_
  case y19 => intro w hSw; (try dsimp only at hSw); go_simp; all_goals first | with_reducible rfl | rw [if_neg (by omega)]
  try simp only [Act.put, List.getElem_toArray, List.getElem_cons_succ, List.getElem_cons_zero, List.getElem?_toArray, List.getElem?_cons_succ, List.getElem?_cons_zero, List.setIfInBounds_toArray, List.set_cons_zero, List.set_cons_succ]
  refine wpAnyH_done (by kernel_rfl) ?_ _
  (go_wp2_with fail; go_ret2; refine ⟨congrArg (fun s => Ending.returned (.tuple #[.string s, .bool true])) ?_, hHeld.2.2.2.2.2.2.1⟩; rw [Hrd.out, Hrm.out]; apply ByteArray.ext; simp [showB, shapesL, wordB, wordsL, alusL, condsL, piece])
set_option maxRecDepth 100000 in
set_option maxHeartbeats 8000000 in
theorem rshow_11_13 (d n m imm : Int) (w : World) (hlit : imm = 13) (hc : canB 11 d n m imm = true) (hr : rcanB 11 d n m imm = true) : Calls Tryd.prog 7 #[.agg #[.int .i64 11, .int .i64 d, .int .i64 n, .int .i64 m, .int .i64 imm]] w fun e w' => e = .returned (.tuple #[.string ⟨(showB 11 d n m imm).toArray⟩, .bool true]) ∧ Below w.heap.size w w' := by
  subst hlit
  have hb := can_bounds 11 d n m 13 (by decide) hc
  have hcan : ∀ w, Calls Tryd.prog 14 #[.agg #[.int .i64 11, .int .i64 d, .int .i64 n, .int .i64 m, .int .i64 13]] w fun e w' => e = .returned (.bool true) ∧ Below w.heap.size w w' := fun w => by have := rcan_any 11 (by decide) d n m 13 w; rw [hr] at this; exact this
  clear hr hc
  obtain ⟨rd, hrd, hsrd, Hrd⟩ := reg_str d (by omega) (by omega)
  obtain ⟨rm, hrm, hsrm, Hrm⟩ := reg_str m (by omega) (by omega)
  go_enter Tryd.func7, Tryd.ntmps7
  go_wp2_with fail
  refine (hcan _).mono ?_
  rintro e w1 ⟨rfl, hb1⟩
  have hbx1 := heap_keep (heap_alloc_new w _) hb1
  have hB1 : Below w.heap.size w w1 := (Below.alloc (Below.refl _ w) (Nat.le_refl _) _).trans (hb1.mono (by simp))
  have hc1 := fun j => Lib.cell_of_heap hbx1 j
  go_wp2_with fail
  refine (hrd _).mono ?_
  rintro e w2 ⟨rfl, m1, rfl⟩
  go_wp2_with fail
  have hS0 : (fun w' => w'.cell? ⟨w.heap.size, 0, none⟩ = some (.int .i64 11) ∧ w'.cell? ⟨w.heap.size, 1, none⟩ = some (.int .i64 d) ∧ w'.cell? ⟨w.heap.size, 2, none⟩ = some (.int .i64 n) ∧ w'.cell? ⟨w.heap.size, 3, none⟩ = some (.int .i64 m) ∧ w'.cell? ⟨w.heap.size, 4, none⟩ = some (.int .i64 13) ∧ w.heap.size < w'.heap.size ∧ Below w.heap.size w w') (w1.drewN m1) := ⟨hc1 0, hc1 1, hc1 2, hc1 3, hc1 4, (Array.getElem?_eq_some_iff.1 hbx1).1, below_drewN hB1 m1⟩
  generalize w1.drewN m1 = W at *


  have HS := Lib.hid hS0

  obtain ⟨k0, k1, k2, k3, k4, hlt, -⟩ := hS0
  refine wp_region_held_drew (S := fun w' => w'.cell? ⟨w.heap.size, 0, none⟩ = some (.int .i64 11) ∧ w'.cell? ⟨w.heap.size, 1, none⟩ = some (.int .i64 d) ∧ w'.cell? ⟨w.heap.size, 2, none⟩ = some (.int .i64 n) ∧ w'.cell? ⟨w.heap.size, 3, none⟩ = some (.int .i64 m) ∧ w'.cell? ⟨w.heap.size, 4, none⟩ = some (.int .i64 13) ∧ w.heap.size < w'.heap.size ∧ Below w.heap.size w w') (by kernel_rfl) (held5_keep HS.out ((Below.refl _ _).drew)) (fun hHeld2 => ?_)
  refine wpAnyH_any hHeld2 (fun Y hHeld => ?_)
  clear hHeld2
  refine wpAnyH_take (i := 1) (v := ?v1) rfl (by kernel_rfl) (by kernel_rfl) (by kernel_rfl) (fun _ _ _ h => h) (Or.inl ⟨by rfl, ?y1⟩) (by assumption) ?_
  case y1 => intro w hSw; (try dsimp only at hSw); go_simp; all_goals first | with_reducible rfl | rw [if_neg (by omega)]
  try simp only [Act.put, List.getElem_toArray, List.getElem_cons_succ, List.getElem_cons_zero, List.getElem?_toArray, List.getElem?_cons_succ, List.getElem?_cons_zero, List.setIfInBounds_toArray, List.set_cons_zero, List.set_cons_succ]
  refine wpAnyH_take (i := 2) (v := ?v2) rfl (by kernel_rfl) (by kernel_rfl) (by kernel_rfl) (fun _ _ _ h => h) (Or.inl ⟨by rfl, ?y2⟩) (by assumption) ?_
  case y2 => intro w hSw; (try dsimp only at hSw); go_simp; all_goals first | with_reducible rfl | rw [if_neg (by omega)]
  try simp only [Act.put, List.getElem_toArray, List.getElem_cons_succ, List.getElem_cons_zero, List.getElem?_toArray, List.getElem?_cons_succ, List.getElem?_cons_zero, List.setIfInBounds_toArray, List.set_cons_zero, List.set_cons_succ]
  refine wpAnyH_take (i := 6) (v := ?v3) rfl (by kernel_rfl) (by kernel_rfl) (by kernel_rfl) (fun _ _ _ h => h) (Or.inl ⟨by rfl, ?y3⟩) (by assumption) ?_
  case y3 => intro w hSw; (try dsimp only at hSw); go_simp; all_goals first | with_reducible rfl | rw [if_neg (by omega)]
  try simp only [Act.put, List.getElem_toArray, List.getElem_cons_succ, List.getElem_cons_zero, List.getElem?_toArray, List.getElem?_cons_succ, List.getElem?_cons_zero, List.setIfInBounds_toArray, List.set_cons_zero, List.set_cons_succ]
  refine wpAnyH_take (i := 8) (v := ?v4) rfl (by kernel_rfl) (by kernel_rfl) (by kernel_rfl) (fun _ _ _ h => h) (Or.inl ⟨by rfl, ?y4⟩) (by assumption) ?_
  case y4 => intro w hSw; (try dsimp only at hSw); go_simp; all_goals first | with_reducible rfl | rw [if_neg (by omega)]
  try simp only [Act.put, List.getElem_toArray, List.getElem_cons_succ, List.getElem_cons_zero, List.getElem?_toArray, List.getElem?_cons_succ, List.getElem?_cons_zero, List.setIfInBounds_toArray, List.set_cons_zero, List.set_cons_succ]
  refine wpAnyH_take (i := 9) (v := ?v5) rfl (by kernel_rfl) (by kernel_rfl) (by kernel_rfl) (fun _ _ _ h => h) (Or.inl ⟨by rfl, ?y5⟩) (by assumption) ?_
  case y5 => intro w hSw; (try dsimp only at hSw); go_simp; all_goals first | with_reducible rfl | rw [if_neg (by omega)]
  try simp only [Act.put, List.getElem_toArray, List.getElem_cons_succ, List.getElem_cons_zero, List.getElem?_toArray, List.getElem?_cons_succ, List.getElem?_cons_zero, List.setIfInBounds_toArray, List.set_cons_zero, List.set_cons_succ]
  refine wpAnyH_ready (rs := [0, 10]) (by kernel_rfl) (by simp) ?_
  refine AllReadyH.cons rfl (fun K hK => ?_) ?_
  · skip
    go_simp
    refine hK.out _ _ ?_ (fun hHeld2 => ?_)
    · exact held5_keep hHeld (by repeat' first | exact Below.refl _ _ | refine below_drewN ?_ _ | refine Below.drew ?_ | refine Below.alloc ?_ (by first | exact Nat.le_refl _ | (simp <;> omega)) _)
    clear hK K hHeld
    try simp only [Act.put, List.getElem_toArray, List.getElem_cons_succ, List.getElem_cons_zero, List.getElem?_toArray, List.getElem?_cons_succ, List.getElem?_cons_zero, List.setIfInBounds_toArray, List.set_cons_zero, List.set_cons_succ]
    refine wpAnyH_mono (S' := fun w' => w'.cell? ⟨w.heap.size, 0, none⟩ = some (.int .i64 11) ∧ w'.cell? ⟨w.heap.size, 1, none⟩ = some (.int .i64 d) ∧ w'.cell? ⟨w.heap.size, 2, none⟩ = some (.int .i64 n) ∧ w'.cell? ⟨w.heap.size, 3, none⟩ = some (.int .i64 m) ∧ w'.cell? ⟨w.heap.size, 4, none⟩ = some (.int .i64 13) ∧ w.heap.size < w'.heap.size ∧ Below w.heap.size w w' ∧ w'.cell? ⟨Y.heap.size, 13, none⟩ = some (.string ⟨#[109, 117, 108, 115]⟩) ∧ Y.heap.size < w'.heap.size) (fun _ h => ⟨h.1, h.2.1, h.2.2.1, h.2.2.2.1, h.2.2.2.2.1, h.2.2.2.2.2.1, h.2.2.2.2.2.2.1⟩) ?_
    refine wpAnyH_any (⟨hHeld2.1, hHeld2.2.1, hHeld2.2.2.1, hHeld2.2.2.2.1, hHeld2.2.2.2.2.1, hHeld2.2.2.2.2.2.1, hHeld2.2.2.2.2.2.2, by go_simp, by simp⟩) (fun Z hHeld => ?_)
    clear hHeld2
    refine wpAnyH_take (i := 3) (v := ?v6) rfl (by kernel_rfl) (by kernel_rfl) (by kernel_rfl) (fun _ _ _ h => h) (Or.inl ⟨by rfl, ?y6⟩) (by assumption) ?_
    case y6 => intro w hSw; (try dsimp only at hSw); go_simp; all_goals first | with_reducible rfl | rw [if_neg (by omega)]
    try simp only [Act.put, List.getElem_toArray, List.getElem_cons_succ, List.getElem_cons_zero, List.getElem?_toArray, List.getElem?_cons_succ, List.getElem?_cons_zero, List.setIfInBounds_toArray, List.set_cons_zero, List.set_cons_succ]
    refine wpAnyH_take (i := 4) (v := ?v7) rfl (by kernel_rfl) (by kernel_rfl) (by kernel_rfl) (fun _ _ _ h => h) (Or.inl ⟨by rfl, ?y7⟩) (by assumption) ?_
    case y7 => intro w hSw; (try dsimp only at hSw); go_simp; all_goals first | with_reducible rfl | rw [if_neg (by omega)]
    try simp only [Act.put, List.getElem_toArray, List.getElem_cons_succ, List.getElem_cons_zero, List.getElem?_toArray, List.getElem?_cons_succ, List.getElem?_cons_zero, List.setIfInBounds_toArray, List.set_cons_zero, List.set_cons_succ]
    refine wpAnyH_take (i := 5) (v := ?v8) rfl (by kernel_rfl) (by kernel_rfl) (by kernel_rfl) (fun _ _ _ h => h) (Or.inl ⟨by rfl, ?y8⟩) (by assumption) ?_
    case y8 => intro w hSw; (try dsimp only at hSw); go_simp; all_goals first | with_reducible rfl | rw [if_neg (by omega)]
    try simp only [Act.put, List.getElem_toArray, List.getElem_cons_succ, List.getElem_cons_zero, List.getElem?_toArray, List.getElem?_cons_succ, List.getElem?_cons_zero, List.setIfInBounds_toArray, List.set_cons_zero, List.set_cons_succ]
    refine wpAnyH_take (i := 7) (v := ?v9) rfl (by kernel_rfl) (by kernel_rfl) (by kernel_rfl) (fun _ _ _ h => h) (Or.inl ⟨by rfl, ?y9⟩) (by assumption) ?_
    case y9 => intro w hSw; (try dsimp only at hSw); go_simp; all_goals first | with_reducible rfl | rw [if_neg (by omega)]
    try simp only [Act.put, List.getElem_toArray, List.getElem_cons_succ, List.getElem_cons_zero, List.getElem?_toArray, List.getElem?_cons_succ, List.getElem?_cons_zero, List.setIfInBounds_toArray, List.set_cons_zero, List.set_cons_succ]
    refine wpAnyH_ready (rs := [10]) (by kernel_rfl) (by simp) ?_
    refine AllReadyH.cons rfl (fun K hK => ?_) AllReadyH.nil
    go_simp
    (go_at_call 15; with_reducible refine (hrm _).mono ?_; rintro e w2 ⟨rfl, m2, rfl⟩)
    go_wp2_with fail
    refine hK.out _ _ ?_ (fun hHeld2 => ?_)
    · exact held5_litk hHeld (by repeat' first | exact Below.refl _ _ | refine below_drewN ?_ _ | refine Below.drew ?_ | refine Below.alloc ?_ (by first | exact Nat.le_refl _ | (simp <;> omega)) _)
    clear hK K hHeld
    try simp only [Act.put, List.getElem_toArray, List.getElem_cons_succ, List.getElem_cons_zero, List.getElem?_toArray, List.getElem?_cons_succ, List.getElem?_cons_zero, List.setIfInBounds_toArray, List.set_cons_zero, List.set_cons_succ]
    refine wpAnyH_any hHeld2 (fun Z hHeld => ?_)
    clear hHeld2
    refine wpAnyH_take (i := 11) (v := ?v10) rfl (by kernel_rfl) (by kernel_rfl) (by kernel_rfl) (fun _ _ _ h => h) (Or.inl ⟨by rfl, ?y10⟩) (by assumption) ?_
    case y10 => intro w hSw; (try dsimp only at hSw); go_simp; all_goals first | with_reducible rfl | rw [if_neg (by omega)]
    try simp only [Act.put, List.getElem_toArray, List.getElem_cons_succ, List.getElem_cons_zero, List.getElem?_toArray, List.getElem?_cons_succ, List.getElem?_cons_zero, List.setIfInBounds_toArray, List.set_cons_zero, List.set_cons_succ]
    refine wpAnyH_take (i := 12) (v := ?v11) rfl (by kernel_rfl) (by kernel_rfl) (by kernel_rfl) (fun _ _ _ h => h) (Or.inl ⟨by rfl, ?y11⟩) (by assumption) ?_
    case y11 => intro w hSw; (try dsimp only at hSw); go_simp; all_goals first | with_reducible rfl | rw [if_neg (by omega)]
    try simp only [Act.put, List.getElem_toArray, List.getElem_cons_succ, List.getElem_cons_zero, List.getElem?_toArray, List.getElem?_cons_succ, List.getElem?_cons_zero, List.setIfInBounds_toArray, List.set_cons_zero, List.set_cons_succ]
    refine wpAnyH_take (i := 13) (v := ?v12) rfl (by kernel_rfl) (by kernel_rfl) (by kernel_rfl) (fun _ _ _ h => h) (Or.inl ⟨by rfl, ?y12⟩) (by assumption) ?_
    case y12 => intro w hSw; (try dsimp only at hSw); go_simp; all_goals first | with_reducible rfl | rw [if_neg (by omega)]
    try simp only [Act.put, List.getElem_toArray, List.getElem_cons_succ, List.getElem_cons_zero, List.getElem?_toArray, List.getElem?_cons_succ, List.getElem?_cons_zero, List.setIfInBounds_toArray, List.set_cons_zero, List.set_cons_succ]
    refine wpAnyH_done (by kernel_rfl) ?_ _
    (go_wp2_with fail; go_ret2; refine ⟨congrArg (fun s => Ending.returned (.tuple #[.string s, .bool true])) ?_, hHeld.2.2.2.2.2.2.1⟩; rw [Hrd.out, Hrm.out]; apply ByteArray.ext; simp [showB, shapesL, wordB, wordsL, alusL, condsL, piece])
  refine AllReadyH.cons rfl (fun K hK => ?_) AllReadyH.nil
  go_simp
  (go_at_call 15; with_reducible refine (hrm _).mono ?_; rintro e w2 ⟨rfl, m2, rfl⟩)
  go_wp2_with fail
  refine hK.out _ _ ?_ (fun hHeld2 => ?_)
  · exact held5_keep hHeld (by repeat' first | exact Below.refl _ _ | refine below_drewN ?_ _ | refine Below.drew ?_ | refine Below.alloc ?_ (by first | exact Nat.le_refl _ | (simp <;> omega)) _)
  clear hK K hHeld
  try simp only [Act.put, List.getElem_toArray, List.getElem_cons_succ, List.getElem_cons_zero, List.getElem?_toArray, List.getElem?_cons_succ, List.getElem?_cons_zero, List.setIfInBounds_toArray, List.set_cons_zero, List.set_cons_succ]
  refine wpAnyH_any hHeld2 (fun Y hHeld => ?_)
  clear hHeld2
  refine wpAnyH_ready (rs := [0]) (by kernel_rfl) (by simp) ?_
  refine AllReadyH.cons rfl (fun K hK => ?_) AllReadyH.nil
  go_simp
  refine hK.out _ _ ?_ (fun hHeld2 => ?_)
  · exact held5_keep hHeld (by repeat' first | exact Below.refl _ _ | refine below_drewN ?_ _ | refine Below.drew ?_ | refine Below.alloc ?_ (by first | exact Nat.le_refl _ | (simp <;> omega)) _)
  clear hK K hHeld
  try simp only [Act.put, List.getElem_toArray, List.getElem_cons_succ, List.getElem_cons_zero, List.getElem?_toArray, List.getElem?_cons_succ, List.getElem?_cons_zero, List.setIfInBounds_toArray, List.set_cons_zero, List.set_cons_succ]
  refine wpAnyH_mono (S' := fun w' => w'.cell? ⟨w.heap.size, 0, none⟩ = some (.int .i64 11) ∧ w'.cell? ⟨w.heap.size, 1, none⟩ = some (.int .i64 d) ∧ w'.cell? ⟨w.heap.size, 2, none⟩ = some (.int .i64 n) ∧ w'.cell? ⟨w.heap.size, 3, none⟩ = some (.int .i64 m) ∧ w'.cell? ⟨w.heap.size, 4, none⟩ = some (.int .i64 13) ∧ w.heap.size < w'.heap.size ∧ Below w.heap.size w w' ∧ w'.cell? ⟨Y.heap.size, 13, none⟩ = some (.string ⟨#[109, 117, 108, 115]⟩) ∧ Y.heap.size < w'.heap.size) (fun _ h => ⟨h.1, h.2.1, h.2.2.1, h.2.2.2.1, h.2.2.2.2.1, h.2.2.2.2.2.1, h.2.2.2.2.2.2.1⟩) ?_
  refine wpAnyH_any (⟨hHeld2.1, hHeld2.2.1, hHeld2.2.2.1, hHeld2.2.2.2.1, hHeld2.2.2.2.2.1, hHeld2.2.2.2.2.2.1, hHeld2.2.2.2.2.2.2, by go_simp, by simp⟩) (fun Z hHeld => ?_)
  clear hHeld2
  refine wpAnyH_take (i := 3) (v := ?v13) rfl (by kernel_rfl) (by kernel_rfl) (by kernel_rfl) (fun _ _ _ h => h) (Or.inl ⟨by rfl, ?y13⟩) (by assumption) ?_
  case y13 => intro w hSw; (try dsimp only at hSw); go_simp; all_goals first | with_reducible rfl | rw [if_neg (by omega)]
  try simp only [Act.put, List.getElem_toArray, List.getElem_cons_succ, List.getElem_cons_zero, List.getElem?_toArray, List.getElem?_cons_succ, List.getElem?_cons_zero, List.setIfInBounds_toArray, List.set_cons_zero, List.set_cons_succ]
  refine wpAnyH_take (i := 4) (v := ?v14) rfl (by kernel_rfl) (by kernel_rfl) (by kernel_rfl) (fun _ _ _ h => h) (Or.inl ⟨by rfl, ?y14⟩) (by assumption) ?_
  case y14 => intro w hSw; (try dsimp only at hSw); go_simp; all_goals first | with_reducible rfl | rw [if_neg (by omega)]
  try simp only [Act.put, List.getElem_toArray, List.getElem_cons_succ, List.getElem_cons_zero, List.getElem?_toArray, List.getElem?_cons_succ, List.getElem?_cons_zero, List.setIfInBounds_toArray, List.set_cons_zero, List.set_cons_succ]
  refine wpAnyH_take (i := 5) (v := ?v15) rfl (by kernel_rfl) (by kernel_rfl) (by kernel_rfl) (fun _ _ _ h => h) (Or.inl ⟨by rfl, ?y15⟩) (by assumption) ?_
  case y15 => intro w hSw; (try dsimp only at hSw); go_simp; all_goals first | with_reducible rfl | rw [if_neg (by omega)]
  try simp only [Act.put, List.getElem_toArray, List.getElem_cons_succ, List.getElem_cons_zero, List.getElem?_toArray, List.getElem?_cons_succ, List.getElem?_cons_zero, List.setIfInBounds_toArray, List.set_cons_zero, List.set_cons_succ]
  refine wpAnyH_take (i := 7) (v := ?v16) rfl (by kernel_rfl) (by kernel_rfl) (by kernel_rfl) (fun _ _ _ h => h) (Or.inl ⟨by rfl, ?y16⟩) (by assumption) ?_
  case y16 => intro w hSw; (try dsimp only at hSw); go_simp; all_goals first | with_reducible rfl | rw [if_neg (by omega)]
  try simp only [Act.put, List.getElem_toArray, List.getElem_cons_succ, List.getElem_cons_zero, List.getElem?_toArray, List.getElem?_cons_succ, List.getElem?_cons_zero, List.setIfInBounds_toArray, List.set_cons_zero, List.set_cons_succ]
  refine wpAnyH_take (i := 11) (v := ?v17) rfl (by kernel_rfl) (by kernel_rfl) (by kernel_rfl) (fun _ _ _ h => h) (Or.inl ⟨by rfl, ?y17⟩) (by assumption) ?_
  case y17 => intro w hSw; (try dsimp only at hSw); go_simp; all_goals first | with_reducible rfl | rw [if_neg (by omega)]
  try simp only [Act.put, List.getElem_toArray, List.getElem_cons_succ, List.getElem_cons_zero, List.getElem?_toArray, List.getElem?_cons_succ, List.getElem?_cons_zero, List.setIfInBounds_toArray, List.set_cons_zero, List.set_cons_succ]
  refine wpAnyH_take (i := 12) (v := ?v18) rfl (by kernel_rfl) (by kernel_rfl) (by kernel_rfl) (fun _ _ _ h => h) (Or.inl ⟨by rfl, ?y18⟩) (by assumption) ?_
  case y18 => intro w hSw; (try dsimp only at hSw); go_simp; all_goals first | with_reducible rfl | rw [if_neg (by omega)]
  try simp only [Act.put, List.getElem_toArray, List.getElem_cons_succ, List.getElem_cons_zero, List.getElem?_toArray, List.getElem?_cons_succ, List.getElem?_cons_zero, List.setIfInBounds_toArray, List.set_cons_zero, List.set_cons_succ]
  refine wpAnyH_take (i := 13) (v := ?v19) rfl (by kernel_rfl) (by kernel_rfl) (by kernel_rfl) (fun _ _ _ h => h) (Or.inl ⟨by rfl, ?y19⟩) (by assumption) ?_
  case y19 => intro w hSw; (try dsimp only at hSw); go_simp; all_goals first | with_reducible rfl | rw [if_neg (by omega)]
  try simp only [Act.put, List.getElem_toArray, List.getElem_cons_succ, List.getElem_cons_zero, List.getElem?_toArray, List.getElem?_cons_succ, List.getElem?_cons_zero, List.setIfInBounds_toArray, List.set_cons_zero, List.set_cons_succ]
  refine wpAnyH_done (by kernel_rfl) ?_ _
  (go_wp2_with fail; go_ret2; refine ⟨congrArg (fun s => Ending.returned (.tuple #[.string s, .bool true])) ?_, hHeld.2.2.2.2.2.2.1⟩; rw [Hrd.out, Hrm.out]; apply ByteArray.ext; simp [showB, shapesL, wordB, wordsL, alusL, condsL, piece])
set_option maxRecDepth 100000 in
set_option maxHeartbeats 8000000 in
theorem rshow_11_14 (d n m imm : Int) (w : World) (hlit : imm = 14) (hc : canB 11 d n m imm = true) (hr : rcanB 11 d n m imm = true) : Calls Tryd.prog 7 #[.agg #[.int .i64 11, .int .i64 d, .int .i64 n, .int .i64 m, .int .i64 imm]] w fun e w' => e = .returned (.tuple #[.string ⟨(showB 11 d n m imm).toArray⟩, .bool true]) ∧ Below w.heap.size w w' := by
  subst hlit
  have hb := can_bounds 11 d n m 14 (by decide) hc
  have hcan : ∀ w, Calls Tryd.prog 14 #[.agg #[.int .i64 11, .int .i64 d, .int .i64 n, .int .i64 m, .int .i64 14]] w fun e w' => e = .returned (.bool true) ∧ Below w.heap.size w w' := fun w => by have := rcan_any 11 (by decide) d n m 14 w; rw [hr] at this; exact this
  clear hr hc
  obtain ⟨rd, hrd, hsrd, Hrd⟩ := reg_str d (by omega) (by omega)
  obtain ⟨rm, hrm, hsrm, Hrm⟩ := reg_str m (by omega) (by omega)
  go_enter Tryd.func7, Tryd.ntmps7
  go_wp2_with fail
  refine (hcan _).mono ?_
  rintro e w1 ⟨rfl, hb1⟩
  have hbx1 := heap_keep (heap_alloc_new w _) hb1
  have hB1 : Below w.heap.size w w1 := (Below.alloc (Below.refl _ w) (Nat.le_refl _) _).trans (hb1.mono (by simp))
  have hc1 := fun j => Lib.cell_of_heap hbx1 j
  go_wp2_with fail
  refine (hrd _).mono ?_
  rintro e w2 ⟨rfl, m1, rfl⟩
  go_wp2_with fail
  have hS0 : (fun w' => w'.cell? ⟨w.heap.size, 0, none⟩ = some (.int .i64 11) ∧ w'.cell? ⟨w.heap.size, 1, none⟩ = some (.int .i64 d) ∧ w'.cell? ⟨w.heap.size, 2, none⟩ = some (.int .i64 n) ∧ w'.cell? ⟨w.heap.size, 3, none⟩ = some (.int .i64 m) ∧ w'.cell? ⟨w.heap.size, 4, none⟩ = some (.int .i64 14) ∧ w.heap.size < w'.heap.size ∧ Below w.heap.size w w') (w1.drewN m1) := ⟨hc1 0, hc1 1, hc1 2, hc1 3, hc1 4, (Array.getElem?_eq_some_iff.1 hbx1).1, below_drewN hB1 m1⟩
  generalize w1.drewN m1 = W at *


  have HS := Lib.hid hS0

  obtain ⟨k0, k1, k2, k3, k4, hlt, -⟩ := hS0
  refine wp_region_held_drew (S := fun w' => w'.cell? ⟨w.heap.size, 0, none⟩ = some (.int .i64 11) ∧ w'.cell? ⟨w.heap.size, 1, none⟩ = some (.int .i64 d) ∧ w'.cell? ⟨w.heap.size, 2, none⟩ = some (.int .i64 n) ∧ w'.cell? ⟨w.heap.size, 3, none⟩ = some (.int .i64 m) ∧ w'.cell? ⟨w.heap.size, 4, none⟩ = some (.int .i64 14) ∧ w.heap.size < w'.heap.size ∧ Below w.heap.size w w') (by kernel_rfl) (held5_keep HS.out ((Below.refl _ _).drew)) (fun hHeld2 => ?_)
  refine wpAnyH_any hHeld2 (fun Y hHeld => ?_)
  clear hHeld2
  refine wpAnyH_take (i := 1) (v := ?v1) rfl (by kernel_rfl) (by kernel_rfl) (by kernel_rfl) (fun _ _ _ h => h) (Or.inl ⟨by rfl, ?y1⟩) (by assumption) ?_
  case y1 => intro w hSw; (try dsimp only at hSw); go_simp; all_goals first | with_reducible rfl | rw [if_neg (by omega)]
  try simp only [Act.put, List.getElem_toArray, List.getElem_cons_succ, List.getElem_cons_zero, List.getElem?_toArray, List.getElem?_cons_succ, List.getElem?_cons_zero, List.setIfInBounds_toArray, List.set_cons_zero, List.set_cons_succ]
  refine wpAnyH_take (i := 2) (v := ?v2) rfl (by kernel_rfl) (by kernel_rfl) (by kernel_rfl) (fun _ _ _ h => h) (Or.inl ⟨by rfl, ?y2⟩) (by assumption) ?_
  case y2 => intro w hSw; (try dsimp only at hSw); go_simp; all_goals first | with_reducible rfl | rw [if_neg (by omega)]
  try simp only [Act.put, List.getElem_toArray, List.getElem_cons_succ, List.getElem_cons_zero, List.getElem?_toArray, List.getElem?_cons_succ, List.getElem?_cons_zero, List.setIfInBounds_toArray, List.set_cons_zero, List.set_cons_succ]
  refine wpAnyH_take (i := 6) (v := ?v3) rfl (by kernel_rfl) (by kernel_rfl) (by kernel_rfl) (fun _ _ _ h => h) (Or.inl ⟨by rfl, ?y3⟩) (by assumption) ?_
  case y3 => intro w hSw; (try dsimp only at hSw); go_simp; all_goals first | with_reducible rfl | rw [if_neg (by omega)]
  try simp only [Act.put, List.getElem_toArray, List.getElem_cons_succ, List.getElem_cons_zero, List.getElem?_toArray, List.getElem?_cons_succ, List.getElem?_cons_zero, List.setIfInBounds_toArray, List.set_cons_zero, List.set_cons_succ]
  refine wpAnyH_take (i := 8) (v := ?v4) rfl (by kernel_rfl) (by kernel_rfl) (by kernel_rfl) (fun _ _ _ h => h) (Or.inl ⟨by rfl, ?y4⟩) (by assumption) ?_
  case y4 => intro w hSw; (try dsimp only at hSw); go_simp; all_goals first | with_reducible rfl | rw [if_neg (by omega)]
  try simp only [Act.put, List.getElem_toArray, List.getElem_cons_succ, List.getElem_cons_zero, List.getElem?_toArray, List.getElem?_cons_succ, List.getElem?_cons_zero, List.setIfInBounds_toArray, List.set_cons_zero, List.set_cons_succ]
  refine wpAnyH_take (i := 9) (v := ?v5) rfl (by kernel_rfl) (by kernel_rfl) (by kernel_rfl) (fun _ _ _ h => h) (Or.inl ⟨by rfl, ?y5⟩) (by assumption) ?_
  case y5 => intro w hSw; (try dsimp only at hSw); go_simp; all_goals first | with_reducible rfl | rw [if_neg (by omega)]
  try simp only [Act.put, List.getElem_toArray, List.getElem_cons_succ, List.getElem_cons_zero, List.getElem?_toArray, List.getElem?_cons_succ, List.getElem?_cons_zero, List.setIfInBounds_toArray, List.set_cons_zero, List.set_cons_succ]
  refine wpAnyH_ready (rs := [0, 10]) (by kernel_rfl) (by simp) ?_
  refine AllReadyH.cons rfl (fun K hK => ?_) ?_
  · skip
    go_simp
    refine hK.out _ _ ?_ (fun hHeld2 => ?_)
    · exact held5_keep hHeld (by repeat' first | exact Below.refl _ _ | refine below_drewN ?_ _ | refine Below.drew ?_ | refine Below.alloc ?_ (by first | exact Nat.le_refl _ | (simp <;> omega)) _)
    clear hK K hHeld
    try simp only [Act.put, List.getElem_toArray, List.getElem_cons_succ, List.getElem_cons_zero, List.getElem?_toArray, List.getElem?_cons_succ, List.getElem?_cons_zero, List.setIfInBounds_toArray, List.set_cons_zero, List.set_cons_succ]
    refine wpAnyH_mono (S' := fun w' => w'.cell? ⟨w.heap.size, 0, none⟩ = some (.int .i64 11) ∧ w'.cell? ⟨w.heap.size, 1, none⟩ = some (.int .i64 d) ∧ w'.cell? ⟨w.heap.size, 2, none⟩ = some (.int .i64 n) ∧ w'.cell? ⟨w.heap.size, 3, none⟩ = some (.int .i64 m) ∧ w'.cell? ⟨w.heap.size, 4, none⟩ = some (.int .i64 14) ∧ w.heap.size < w'.heap.size ∧ Below w.heap.size w w' ∧ w'.cell? ⟨Y.heap.size, 14, none⟩ = some (.string ⟨#[98, 105, 99, 115]⟩) ∧ Y.heap.size < w'.heap.size) (fun _ h => ⟨h.1, h.2.1, h.2.2.1, h.2.2.2.1, h.2.2.2.2.1, h.2.2.2.2.2.1, h.2.2.2.2.2.2.1⟩) ?_
    refine wpAnyH_any (⟨hHeld2.1, hHeld2.2.1, hHeld2.2.2.1, hHeld2.2.2.2.1, hHeld2.2.2.2.2.1, hHeld2.2.2.2.2.2.1, hHeld2.2.2.2.2.2.2, by go_simp, by simp⟩) (fun Z hHeld => ?_)
    clear hHeld2
    refine wpAnyH_take (i := 3) (v := ?v6) rfl (by kernel_rfl) (by kernel_rfl) (by kernel_rfl) (fun _ _ _ h => h) (Or.inl ⟨by rfl, ?y6⟩) (by assumption) ?_
    case y6 => intro w hSw; (try dsimp only at hSw); go_simp; all_goals first | with_reducible rfl | rw [if_neg (by omega)]
    try simp only [Act.put, List.getElem_toArray, List.getElem_cons_succ, List.getElem_cons_zero, List.getElem?_toArray, List.getElem?_cons_succ, List.getElem?_cons_zero, List.setIfInBounds_toArray, List.set_cons_zero, List.set_cons_succ]
    refine wpAnyH_take (i := 4) (v := ?v7) rfl (by kernel_rfl) (by kernel_rfl) (by kernel_rfl) (fun _ _ _ h => h) (Or.inl ⟨by rfl, ?y7⟩) (by assumption) ?_
    case y7 => intro w hSw; (try dsimp only at hSw); go_simp; all_goals first | with_reducible rfl | rw [if_neg (by omega)]
    try simp only [Act.put, List.getElem_toArray, List.getElem_cons_succ, List.getElem_cons_zero, List.getElem?_toArray, List.getElem?_cons_succ, List.getElem?_cons_zero, List.setIfInBounds_toArray, List.set_cons_zero, List.set_cons_succ]
    refine wpAnyH_take (i := 5) (v := ?v8) rfl (by kernel_rfl) (by kernel_rfl) (by kernel_rfl) (fun _ _ _ h => h) (Or.inl ⟨by rfl, ?y8⟩) (by assumption) ?_
    case y8 => intro w hSw; (try dsimp only at hSw); go_simp; all_goals first | with_reducible rfl | rw [if_neg (by omega)]
    try simp only [Act.put, List.getElem_toArray, List.getElem_cons_succ, List.getElem_cons_zero, List.getElem?_toArray, List.getElem?_cons_succ, List.getElem?_cons_zero, List.setIfInBounds_toArray, List.set_cons_zero, List.set_cons_succ]
    refine wpAnyH_take (i := 7) (v := ?v9) rfl (by kernel_rfl) (by kernel_rfl) (by kernel_rfl) (fun _ _ _ h => h) (Or.inl ⟨by rfl, ?y9⟩) (by assumption) ?_
    case y9 => intro w hSw; (try dsimp only at hSw); go_simp; all_goals first | with_reducible rfl | rw [if_neg (by omega)]
    try simp only [Act.put, List.getElem_toArray, List.getElem_cons_succ, List.getElem_cons_zero, List.getElem?_toArray, List.getElem?_cons_succ, List.getElem?_cons_zero, List.setIfInBounds_toArray, List.set_cons_zero, List.set_cons_succ]
    refine wpAnyH_ready (rs := [10]) (by kernel_rfl) (by simp) ?_
    refine AllReadyH.cons rfl (fun K hK => ?_) AllReadyH.nil
    go_simp
    (go_at_call 15; with_reducible refine (hrm _).mono ?_; rintro e w2 ⟨rfl, m2, rfl⟩)
    go_wp2_with fail
    refine hK.out _ _ ?_ (fun hHeld2 => ?_)
    · exact held5_litk hHeld (by repeat' first | exact Below.refl _ _ | refine below_drewN ?_ _ | refine Below.drew ?_ | refine Below.alloc ?_ (by first | exact Nat.le_refl _ | (simp <;> omega)) _)
    clear hK K hHeld
    try simp only [Act.put, List.getElem_toArray, List.getElem_cons_succ, List.getElem_cons_zero, List.getElem?_toArray, List.getElem?_cons_succ, List.getElem?_cons_zero, List.setIfInBounds_toArray, List.set_cons_zero, List.set_cons_succ]
    refine wpAnyH_any hHeld2 (fun Z hHeld => ?_)
    clear hHeld2
    refine wpAnyH_take (i := 11) (v := ?v10) rfl (by kernel_rfl) (by kernel_rfl) (by kernel_rfl) (fun _ _ _ h => h) (Or.inl ⟨by rfl, ?y10⟩) (by assumption) ?_
    case y10 => intro w hSw; (try dsimp only at hSw); go_simp; all_goals first | with_reducible rfl | rw [if_neg (by omega)]
    try simp only [Act.put, List.getElem_toArray, List.getElem_cons_succ, List.getElem_cons_zero, List.getElem?_toArray, List.getElem?_cons_succ, List.getElem?_cons_zero, List.setIfInBounds_toArray, List.set_cons_zero, List.set_cons_succ]
    refine wpAnyH_take (i := 12) (v := ?v11) rfl (by kernel_rfl) (by kernel_rfl) (by kernel_rfl) (fun _ _ _ h => h) (Or.inl ⟨by rfl, ?y11⟩) (by assumption) ?_
    case y11 => intro w hSw; (try dsimp only at hSw); go_simp; all_goals first | with_reducible rfl | rw [if_neg (by omega)]
    try simp only [Act.put, List.getElem_toArray, List.getElem_cons_succ, List.getElem_cons_zero, List.getElem?_toArray, List.getElem?_cons_succ, List.getElem?_cons_zero, List.setIfInBounds_toArray, List.set_cons_zero, List.set_cons_succ]
    refine wpAnyH_take (i := 13) (v := ?v12) rfl (by kernel_rfl) (by kernel_rfl) (by kernel_rfl) (fun _ _ _ h => h) (Or.inl ⟨by rfl, ?y12⟩) (by assumption) ?_
    case y12 => intro w hSw; (try dsimp only at hSw); go_simp; all_goals first | with_reducible rfl | rw [if_neg (by omega)]
    try simp only [Act.put, List.getElem_toArray, List.getElem_cons_succ, List.getElem_cons_zero, List.getElem?_toArray, List.getElem?_cons_succ, List.getElem?_cons_zero, List.setIfInBounds_toArray, List.set_cons_zero, List.set_cons_succ]
    refine wpAnyH_done (by kernel_rfl) ?_ _
    (go_wp2_with fail; go_ret2; refine ⟨congrArg (fun s => Ending.returned (.tuple #[.string s, .bool true])) ?_, hHeld.2.2.2.2.2.2.1⟩; rw [Hrd.out, Hrm.out]; apply ByteArray.ext; simp [showB, shapesL, wordB, wordsL, alusL, condsL, piece])
  refine AllReadyH.cons rfl (fun K hK => ?_) AllReadyH.nil
  go_simp
  (go_at_call 15; with_reducible refine (hrm _).mono ?_; rintro e w2 ⟨rfl, m2, rfl⟩)
  go_wp2_with fail
  refine hK.out _ _ ?_ (fun hHeld2 => ?_)
  · exact held5_keep hHeld (by repeat' first | exact Below.refl _ _ | refine below_drewN ?_ _ | refine Below.drew ?_ | refine Below.alloc ?_ (by first | exact Nat.le_refl _ | (simp <;> omega)) _)
  clear hK K hHeld
  try simp only [Act.put, List.getElem_toArray, List.getElem_cons_succ, List.getElem_cons_zero, List.getElem?_toArray, List.getElem?_cons_succ, List.getElem?_cons_zero, List.setIfInBounds_toArray, List.set_cons_zero, List.set_cons_succ]
  refine wpAnyH_any hHeld2 (fun Y hHeld => ?_)
  clear hHeld2
  refine wpAnyH_ready (rs := [0]) (by kernel_rfl) (by simp) ?_
  refine AllReadyH.cons rfl (fun K hK => ?_) AllReadyH.nil
  go_simp
  refine hK.out _ _ ?_ (fun hHeld2 => ?_)
  · exact held5_keep hHeld (by repeat' first | exact Below.refl _ _ | refine below_drewN ?_ _ | refine Below.drew ?_ | refine Below.alloc ?_ (by first | exact Nat.le_refl _ | (simp <;> omega)) _)
  clear hK K hHeld
  try simp only [Act.put, List.getElem_toArray, List.getElem_cons_succ, List.getElem_cons_zero, List.getElem?_toArray, List.getElem?_cons_succ, List.getElem?_cons_zero, List.setIfInBounds_toArray, List.set_cons_zero, List.set_cons_succ]
  refine wpAnyH_mono (S' := fun w' => w'.cell? ⟨w.heap.size, 0, none⟩ = some (.int .i64 11) ∧ w'.cell? ⟨w.heap.size, 1, none⟩ = some (.int .i64 d) ∧ w'.cell? ⟨w.heap.size, 2, none⟩ = some (.int .i64 n) ∧ w'.cell? ⟨w.heap.size, 3, none⟩ = some (.int .i64 m) ∧ w'.cell? ⟨w.heap.size, 4, none⟩ = some (.int .i64 14) ∧ w.heap.size < w'.heap.size ∧ Below w.heap.size w w' ∧ w'.cell? ⟨Y.heap.size, 14, none⟩ = some (.string ⟨#[98, 105, 99, 115]⟩) ∧ Y.heap.size < w'.heap.size) (fun _ h => ⟨h.1, h.2.1, h.2.2.1, h.2.2.2.1, h.2.2.2.2.1, h.2.2.2.2.2.1, h.2.2.2.2.2.2.1⟩) ?_
  refine wpAnyH_any (⟨hHeld2.1, hHeld2.2.1, hHeld2.2.2.1, hHeld2.2.2.2.1, hHeld2.2.2.2.2.1, hHeld2.2.2.2.2.2.1, hHeld2.2.2.2.2.2.2, by go_simp, by simp⟩) (fun Z hHeld => ?_)
  clear hHeld2
  refine wpAnyH_take (i := 3) (v := ?v13) rfl (by kernel_rfl) (by kernel_rfl) (by kernel_rfl) (fun _ _ _ h => h) (Or.inl ⟨by rfl, ?y13⟩) (by assumption) ?_
  case y13 => intro w hSw; (try dsimp only at hSw); go_simp; all_goals first | with_reducible rfl | rw [if_neg (by omega)]
  try simp only [Act.put, List.getElem_toArray, List.getElem_cons_succ, List.getElem_cons_zero, List.getElem?_toArray, List.getElem?_cons_succ, List.getElem?_cons_zero, List.setIfInBounds_toArray, List.set_cons_zero, List.set_cons_succ]
  refine wpAnyH_take (i := 4) (v := ?v14) rfl (by kernel_rfl) (by kernel_rfl) (by kernel_rfl) (fun _ _ _ h => h) (Or.inl ⟨by rfl, ?y14⟩) (by assumption) ?_
  case y14 => intro w hSw; (try dsimp only at hSw); go_simp; all_goals first | with_reducible rfl | rw [if_neg (by omega)]
  try simp only [Act.put, List.getElem_toArray, List.getElem_cons_succ, List.getElem_cons_zero, List.getElem?_toArray, List.getElem?_cons_succ, List.getElem?_cons_zero, List.setIfInBounds_toArray, List.set_cons_zero, List.set_cons_succ]
  refine wpAnyH_take (i := 5) (v := ?v15) rfl (by kernel_rfl) (by kernel_rfl) (by kernel_rfl) (fun _ _ _ h => h) (Or.inl ⟨by rfl, ?y15⟩) (by assumption) ?_
  case y15 => intro w hSw; (try dsimp only at hSw); go_simp; all_goals first | with_reducible rfl | rw [if_neg (by omega)]
  try simp only [Act.put, List.getElem_toArray, List.getElem_cons_succ, List.getElem_cons_zero, List.getElem?_toArray, List.getElem?_cons_succ, List.getElem?_cons_zero, List.setIfInBounds_toArray, List.set_cons_zero, List.set_cons_succ]
  refine wpAnyH_take (i := 7) (v := ?v16) rfl (by kernel_rfl) (by kernel_rfl) (by kernel_rfl) (fun _ _ _ h => h) (Or.inl ⟨by rfl, ?y16⟩) (by assumption) ?_
  case y16 => intro w hSw; (try dsimp only at hSw); go_simp; all_goals first | with_reducible rfl | rw [if_neg (by omega)]
  try simp only [Act.put, List.getElem_toArray, List.getElem_cons_succ, List.getElem_cons_zero, List.getElem?_toArray, List.getElem?_cons_succ, List.getElem?_cons_zero, List.setIfInBounds_toArray, List.set_cons_zero, List.set_cons_succ]
  refine wpAnyH_take (i := 11) (v := ?v17) rfl (by kernel_rfl) (by kernel_rfl) (by kernel_rfl) (fun _ _ _ h => h) (Or.inl ⟨by rfl, ?y17⟩) (by assumption) ?_
  case y17 => intro w hSw; (try dsimp only at hSw); go_simp; all_goals first | with_reducible rfl | rw [if_neg (by omega)]
  try simp only [Act.put, List.getElem_toArray, List.getElem_cons_succ, List.getElem_cons_zero, List.getElem?_toArray, List.getElem?_cons_succ, List.getElem?_cons_zero, List.setIfInBounds_toArray, List.set_cons_zero, List.set_cons_succ]
  refine wpAnyH_take (i := 12) (v := ?v18) rfl (by kernel_rfl) (by kernel_rfl) (by kernel_rfl) (fun _ _ _ h => h) (Or.inl ⟨by rfl, ?y18⟩) (by assumption) ?_
  case y18 => intro w hSw; (try dsimp only at hSw); go_simp; all_goals first | with_reducible rfl | rw [if_neg (by omega)]
  try simp only [Act.put, List.getElem_toArray, List.getElem_cons_succ, List.getElem_cons_zero, List.getElem?_toArray, List.getElem?_cons_succ, List.getElem?_cons_zero, List.setIfInBounds_toArray, List.set_cons_zero, List.set_cons_succ]
  refine wpAnyH_take (i := 13) (v := ?v19) rfl (by kernel_rfl) (by kernel_rfl) (by kernel_rfl) (fun _ _ _ h => h) (Or.inl ⟨by rfl, ?y19⟩) (by assumption) ?_
  case y19 => intro w hSw; (try dsimp only at hSw); go_simp; all_goals first | with_reducible rfl | rw [if_neg (by omega)]
  try simp only [Act.put, List.getElem_toArray, List.getElem_cons_succ, List.getElem_cons_zero, List.getElem?_toArray, List.getElem?_cons_succ, List.getElem?_cons_zero, List.setIfInBounds_toArray, List.set_cons_zero, List.set_cons_succ]
  refine wpAnyH_done (by kernel_rfl) ?_ _
  (go_wp2_with fail; go_ret2; refine ⟨congrArg (fun s => Ending.returned (.tuple #[.string s, .bool true])) ?_, hHeld.2.2.2.2.2.2.1⟩; rw [Hrd.out, Hrm.out]; apply ByteArray.ext; simp [showB, shapesL, wordB, wordsL, alusL, condsL, piece])
set_option maxRecDepth 100000 in
set_option maxHeartbeats 8000000 in
theorem rshow_11_15 (d n m imm : Int) (w : World) (hlit : imm = 15) (hc : canB 11 d n m imm = true) (hr : rcanB 11 d n m imm = true) : Calls Tryd.prog 7 #[.agg #[.int .i64 11, .int .i64 d, .int .i64 n, .int .i64 m, .int .i64 imm]] w fun e w' => e = .returned (.tuple #[.string ⟨(showB 11 d n m imm).toArray⟩, .bool true]) ∧ Below w.heap.size w w' := by
  subst hlit
  have hb := can_bounds 11 d n m 15 (by decide) hc
  have hcan : ∀ w, Calls Tryd.prog 14 #[.agg #[.int .i64 11, .int .i64 d, .int .i64 n, .int .i64 m, .int .i64 15]] w fun e w' => e = .returned (.bool true) ∧ Below w.heap.size w w' := fun w => by have := rcan_any 11 (by decide) d n m 15 w; rw [hr] at this; exact this
  clear hr hc
  obtain ⟨rd, hrd, hsrd, Hrd⟩ := reg_str d (by omega) (by omega)
  obtain ⟨rm, hrm, hsrm, Hrm⟩ := reg_str m (by omega) (by omega)
  go_enter Tryd.func7, Tryd.ntmps7
  go_wp2_with fail
  refine (hcan _).mono ?_
  rintro e w1 ⟨rfl, hb1⟩
  have hbx1 := heap_keep (heap_alloc_new w _) hb1
  have hB1 : Below w.heap.size w w1 := (Below.alloc (Below.refl _ w) (Nat.le_refl _) _).trans (hb1.mono (by simp))
  have hc1 := fun j => Lib.cell_of_heap hbx1 j
  go_wp2_with fail
  refine (hrd _).mono ?_
  rintro e w2 ⟨rfl, m1, rfl⟩
  go_wp2_with fail
  have hS0 : (fun w' => w'.cell? ⟨w.heap.size, 0, none⟩ = some (.int .i64 11) ∧ w'.cell? ⟨w.heap.size, 1, none⟩ = some (.int .i64 d) ∧ w'.cell? ⟨w.heap.size, 2, none⟩ = some (.int .i64 n) ∧ w'.cell? ⟨w.heap.size, 3, none⟩ = some (.int .i64 m) ∧ w'.cell? ⟨w.heap.size, 4, none⟩ = some (.int .i64 15) ∧ w.heap.size < w'.heap.size ∧ Below w.heap.size w w') (w1.drewN m1) := ⟨hc1 0, hc1 1, hc1 2, hc1 3, hc1 4, (Array.getElem?_eq_some_iff.1 hbx1).1, below_drewN hB1 m1⟩
  generalize w1.drewN m1 = W at *


  have HS := Lib.hid hS0

  obtain ⟨k0, k1, k2, k3, k4, hlt, -⟩ := hS0
  refine wp_region_held_drew (S := fun w' => w'.cell? ⟨w.heap.size, 0, none⟩ = some (.int .i64 11) ∧ w'.cell? ⟨w.heap.size, 1, none⟩ = some (.int .i64 d) ∧ w'.cell? ⟨w.heap.size, 2, none⟩ = some (.int .i64 n) ∧ w'.cell? ⟨w.heap.size, 3, none⟩ = some (.int .i64 m) ∧ w'.cell? ⟨w.heap.size, 4, none⟩ = some (.int .i64 15) ∧ w.heap.size < w'.heap.size ∧ Below w.heap.size w w') (by kernel_rfl) (held5_keep HS.out ((Below.refl _ _).drew)) (fun hHeld2 => ?_)
  refine wpAnyH_any hHeld2 (fun Y hHeld => ?_)
  clear hHeld2
  refine wpAnyH_take (i := 1) (v := ?v1) rfl (by kernel_rfl) (by kernel_rfl) (by kernel_rfl) (fun _ _ _ h => h) (Or.inl ⟨by rfl, ?y1⟩) (by assumption) ?_
  case y1 => intro w hSw; (try dsimp only at hSw); go_simp; all_goals first | with_reducible rfl | rw [if_neg (by omega)]
  try simp only [Act.put, List.getElem_toArray, List.getElem_cons_succ, List.getElem_cons_zero, List.getElem?_toArray, List.getElem?_cons_succ, List.getElem?_cons_zero, List.setIfInBounds_toArray, List.set_cons_zero, List.set_cons_succ]
  refine wpAnyH_take (i := 2) (v := ?v2) rfl (by kernel_rfl) (by kernel_rfl) (by kernel_rfl) (fun _ _ _ h => h) (Or.inl ⟨by rfl, ?y2⟩) (by assumption) ?_
  case y2 => intro w hSw; (try dsimp only at hSw); go_simp; all_goals first | with_reducible rfl | rw [if_neg (by omega)]
  try simp only [Act.put, List.getElem_toArray, List.getElem_cons_succ, List.getElem_cons_zero, List.getElem?_toArray, List.getElem?_cons_succ, List.getElem?_cons_zero, List.setIfInBounds_toArray, List.set_cons_zero, List.set_cons_succ]
  refine wpAnyH_take (i := 6) (v := ?v3) rfl (by kernel_rfl) (by kernel_rfl) (by kernel_rfl) (fun _ _ _ h => h) (Or.inl ⟨by rfl, ?y3⟩) (by assumption) ?_
  case y3 => intro w hSw; (try dsimp only at hSw); go_simp; all_goals first | with_reducible rfl | rw [if_neg (by omega)]
  try simp only [Act.put, List.getElem_toArray, List.getElem_cons_succ, List.getElem_cons_zero, List.getElem?_toArray, List.getElem?_cons_succ, List.getElem?_cons_zero, List.setIfInBounds_toArray, List.set_cons_zero, List.set_cons_succ]
  refine wpAnyH_take (i := 8) (v := ?v4) rfl (by kernel_rfl) (by kernel_rfl) (by kernel_rfl) (fun _ _ _ h => h) (Or.inl ⟨by rfl, ?y4⟩) (by assumption) ?_
  case y4 => intro w hSw; (try dsimp only at hSw); go_simp; all_goals first | with_reducible rfl | rw [if_neg (by omega)]
  try simp only [Act.put, List.getElem_toArray, List.getElem_cons_succ, List.getElem_cons_zero, List.getElem?_toArray, List.getElem?_cons_succ, List.getElem?_cons_zero, List.setIfInBounds_toArray, List.set_cons_zero, List.set_cons_succ]
  refine wpAnyH_take (i := 9) (v := ?v5) rfl (by kernel_rfl) (by kernel_rfl) (by kernel_rfl) (fun _ _ _ h => h) (Or.inl ⟨by rfl, ?y5⟩) (by assumption) ?_
  case y5 => intro w hSw; (try dsimp only at hSw); go_simp; all_goals first | with_reducible rfl | rw [if_neg (by omega)]
  try simp only [Act.put, List.getElem_toArray, List.getElem_cons_succ, List.getElem_cons_zero, List.getElem?_toArray, List.getElem?_cons_succ, List.getElem?_cons_zero, List.setIfInBounds_toArray, List.set_cons_zero, List.set_cons_succ]
  refine wpAnyH_ready (rs := [0, 10]) (by kernel_rfl) (by simp) ?_
  refine AllReadyH.cons rfl (fun K hK => ?_) ?_
  · skip
    go_simp
    refine hK.out _ _ ?_ (fun hHeld2 => ?_)
    · exact held5_keep hHeld (by repeat' first | exact Below.refl _ _ | refine below_drewN ?_ _ | refine Below.drew ?_ | refine Below.alloc ?_ (by first | exact Nat.le_refl _ | (simp <;> omega)) _)
    clear hK K hHeld
    try simp only [Act.put, List.getElem_toArray, List.getElem_cons_succ, List.getElem_cons_zero, List.getElem?_toArray, List.getElem?_cons_succ, List.getElem?_cons_zero, List.setIfInBounds_toArray, List.set_cons_zero, List.set_cons_succ]
    refine wpAnyH_mono (S' := fun w' => w'.cell? ⟨w.heap.size, 0, none⟩ = some (.int .i64 11) ∧ w'.cell? ⟨w.heap.size, 1, none⟩ = some (.int .i64 d) ∧ w'.cell? ⟨w.heap.size, 2, none⟩ = some (.int .i64 n) ∧ w'.cell? ⟨w.heap.size, 3, none⟩ = some (.int .i64 m) ∧ w'.cell? ⟨w.heap.size, 4, none⟩ = some (.int .i64 15) ∧ w.heap.size < w'.heap.size ∧ Below w.heap.size w w' ∧ w'.cell? ⟨Y.heap.size, 15, none⟩ = some (.string ⟨#[109, 118, 110, 115]⟩) ∧ Y.heap.size < w'.heap.size) (fun _ h => ⟨h.1, h.2.1, h.2.2.1, h.2.2.2.1, h.2.2.2.2.1, h.2.2.2.2.2.1, h.2.2.2.2.2.2.1⟩) ?_
    refine wpAnyH_any (⟨hHeld2.1, hHeld2.2.1, hHeld2.2.2.1, hHeld2.2.2.2.1, hHeld2.2.2.2.2.1, hHeld2.2.2.2.2.2.1, hHeld2.2.2.2.2.2.2, by go_simp, by simp⟩) (fun Z hHeld => ?_)
    clear hHeld2
    refine wpAnyH_take (i := 3) (v := ?v6) rfl (by kernel_rfl) (by kernel_rfl) (by kernel_rfl) (fun _ _ _ h => h) (Or.inl ⟨by rfl, ?y6⟩) (by assumption) ?_
    case y6 => intro w hSw; (try dsimp only at hSw); go_simp; all_goals first | with_reducible rfl | rw [if_neg (by omega)]
    try simp only [Act.put, List.getElem_toArray, List.getElem_cons_succ, List.getElem_cons_zero, List.getElem?_toArray, List.getElem?_cons_succ, List.getElem?_cons_zero, List.setIfInBounds_toArray, List.set_cons_zero, List.set_cons_succ]
    refine wpAnyH_take (i := 4) (v := ?v7) rfl (by kernel_rfl) (by kernel_rfl) (by kernel_rfl) (fun _ _ _ h => h) (Or.inl ⟨by rfl, ?y7⟩) (by assumption) ?_
    case y7 => intro w hSw; (try dsimp only at hSw); go_simp; all_goals first | with_reducible rfl | rw [if_neg (by omega)]
    try simp only [Act.put, List.getElem_toArray, List.getElem_cons_succ, List.getElem_cons_zero, List.getElem?_toArray, List.getElem?_cons_succ, List.getElem?_cons_zero, List.setIfInBounds_toArray, List.set_cons_zero, List.set_cons_succ]
    refine wpAnyH_take (i := 5) (v := ?v8) rfl (by kernel_rfl) (by kernel_rfl) (by kernel_rfl) (fun _ _ _ h => h) (Or.inl ⟨by rfl, ?y8⟩) (by assumption) ?_
    case y8 => intro w hSw; (try dsimp only at hSw); go_simp; all_goals first | with_reducible rfl | rw [if_neg (by omega)]
    try simp only [Act.put, List.getElem_toArray, List.getElem_cons_succ, List.getElem_cons_zero, List.getElem?_toArray, List.getElem?_cons_succ, List.getElem?_cons_zero, List.setIfInBounds_toArray, List.set_cons_zero, List.set_cons_succ]
    refine wpAnyH_take (i := 7) (v := ?v9) rfl (by kernel_rfl) (by kernel_rfl) (by kernel_rfl) (fun _ _ _ h => h) (Or.inl ⟨by rfl, ?y9⟩) (by assumption) ?_
    case y9 => intro w hSw; (try dsimp only at hSw); go_simp; all_goals first | with_reducible rfl | rw [if_neg (by omega)]
    try simp only [Act.put, List.getElem_toArray, List.getElem_cons_succ, List.getElem_cons_zero, List.getElem?_toArray, List.getElem?_cons_succ, List.getElem?_cons_zero, List.setIfInBounds_toArray, List.set_cons_zero, List.set_cons_succ]
    refine wpAnyH_ready (rs := [10]) (by kernel_rfl) (by simp) ?_
    refine AllReadyH.cons rfl (fun K hK => ?_) AllReadyH.nil
    go_simp
    (go_at_call 15; with_reducible refine (hrm _).mono ?_; rintro e w2 ⟨rfl, m2, rfl⟩)
    go_wp2_with fail
    refine hK.out _ _ ?_ (fun hHeld2 => ?_)
    · exact held5_litk hHeld (by repeat' first | exact Below.refl _ _ | refine below_drewN ?_ _ | refine Below.drew ?_ | refine Below.alloc ?_ (by first | exact Nat.le_refl _ | (simp <;> omega)) _)
    clear hK K hHeld
    try simp only [Act.put, List.getElem_toArray, List.getElem_cons_succ, List.getElem_cons_zero, List.getElem?_toArray, List.getElem?_cons_succ, List.getElem?_cons_zero, List.setIfInBounds_toArray, List.set_cons_zero, List.set_cons_succ]
    refine wpAnyH_any hHeld2 (fun Z hHeld => ?_)
    clear hHeld2
    refine wpAnyH_take (i := 11) (v := ?v10) rfl (by kernel_rfl) (by kernel_rfl) (by kernel_rfl) (fun _ _ _ h => h) (Or.inl ⟨by rfl, ?y10⟩) (by assumption) ?_
    case y10 => intro w hSw; (try dsimp only at hSw); go_simp; all_goals first | with_reducible rfl | rw [if_neg (by omega)]
    try simp only [Act.put, List.getElem_toArray, List.getElem_cons_succ, List.getElem_cons_zero, List.getElem?_toArray, List.getElem?_cons_succ, List.getElem?_cons_zero, List.setIfInBounds_toArray, List.set_cons_zero, List.set_cons_succ]
    refine wpAnyH_take (i := 12) (v := ?v11) rfl (by kernel_rfl) (by kernel_rfl) (by kernel_rfl) (fun _ _ _ h => h) (Or.inl ⟨by rfl, ?y11⟩) (by assumption) ?_
    case y11 => intro w hSw; (try dsimp only at hSw); go_simp; all_goals first | with_reducible rfl | rw [if_neg (by omega)]
    try simp only [Act.put, List.getElem_toArray, List.getElem_cons_succ, List.getElem_cons_zero, List.getElem?_toArray, List.getElem?_cons_succ, List.getElem?_cons_zero, List.setIfInBounds_toArray, List.set_cons_zero, List.set_cons_succ]
    refine wpAnyH_take (i := 13) (v := ?v12) rfl (by kernel_rfl) (by kernel_rfl) (by kernel_rfl) (fun _ _ _ h => h) (Or.inl ⟨by rfl, ?y12⟩) (by assumption) ?_
    case y12 => intro w hSw; (try dsimp only at hSw); go_simp; all_goals first | with_reducible rfl | rw [if_neg (by omega)]
    try simp only [Act.put, List.getElem_toArray, List.getElem_cons_succ, List.getElem_cons_zero, List.getElem?_toArray, List.getElem?_cons_succ, List.getElem?_cons_zero, List.setIfInBounds_toArray, List.set_cons_zero, List.set_cons_succ]
    refine wpAnyH_done (by kernel_rfl) ?_ _
    (go_wp2_with fail; go_ret2; refine ⟨congrArg (fun s => Ending.returned (.tuple #[.string s, .bool true])) ?_, hHeld.2.2.2.2.2.2.1⟩; rw [Hrd.out, Hrm.out]; apply ByteArray.ext; simp [showB, shapesL, wordB, wordsL, alusL, condsL, piece])
  refine AllReadyH.cons rfl (fun K hK => ?_) AllReadyH.nil
  go_simp
  (go_at_call 15; with_reducible refine (hrm _).mono ?_; rintro e w2 ⟨rfl, m2, rfl⟩)
  go_wp2_with fail
  refine hK.out _ _ ?_ (fun hHeld2 => ?_)
  · exact held5_keep hHeld (by repeat' first | exact Below.refl _ _ | refine below_drewN ?_ _ | refine Below.drew ?_ | refine Below.alloc ?_ (by first | exact Nat.le_refl _ | (simp <;> omega)) _)
  clear hK K hHeld
  try simp only [Act.put, List.getElem_toArray, List.getElem_cons_succ, List.getElem_cons_zero, List.getElem?_toArray, List.getElem?_cons_succ, List.getElem?_cons_zero, List.setIfInBounds_toArray, List.set_cons_zero, List.set_cons_succ]
  refine wpAnyH_any hHeld2 (fun Y hHeld => ?_)
  clear hHeld2
  refine wpAnyH_ready (rs := [0]) (by kernel_rfl) (by simp) ?_
  refine AllReadyH.cons rfl (fun K hK => ?_) AllReadyH.nil
  go_simp
  refine hK.out _ _ ?_ (fun hHeld2 => ?_)
  · exact held5_keep hHeld (by repeat' first | exact Below.refl _ _ | refine below_drewN ?_ _ | refine Below.drew ?_ | refine Below.alloc ?_ (by first | exact Nat.le_refl _ | (simp <;> omega)) _)
  clear hK K hHeld
  try simp only [Act.put, List.getElem_toArray, List.getElem_cons_succ, List.getElem_cons_zero, List.getElem?_toArray, List.getElem?_cons_succ, List.getElem?_cons_zero, List.setIfInBounds_toArray, List.set_cons_zero, List.set_cons_succ]
  refine wpAnyH_mono (S' := fun w' => w'.cell? ⟨w.heap.size, 0, none⟩ = some (.int .i64 11) ∧ w'.cell? ⟨w.heap.size, 1, none⟩ = some (.int .i64 d) ∧ w'.cell? ⟨w.heap.size, 2, none⟩ = some (.int .i64 n) ∧ w'.cell? ⟨w.heap.size, 3, none⟩ = some (.int .i64 m) ∧ w'.cell? ⟨w.heap.size, 4, none⟩ = some (.int .i64 15) ∧ w.heap.size < w'.heap.size ∧ Below w.heap.size w w' ∧ w'.cell? ⟨Y.heap.size, 15, none⟩ = some (.string ⟨#[109, 118, 110, 115]⟩) ∧ Y.heap.size < w'.heap.size) (fun _ h => ⟨h.1, h.2.1, h.2.2.1, h.2.2.2.1, h.2.2.2.2.1, h.2.2.2.2.2.1, h.2.2.2.2.2.2.1⟩) ?_
  refine wpAnyH_any (⟨hHeld2.1, hHeld2.2.1, hHeld2.2.2.1, hHeld2.2.2.2.1, hHeld2.2.2.2.2.1, hHeld2.2.2.2.2.2.1, hHeld2.2.2.2.2.2.2, by go_simp, by simp⟩) (fun Z hHeld => ?_)
  clear hHeld2
  refine wpAnyH_take (i := 3) (v := ?v13) rfl (by kernel_rfl) (by kernel_rfl) (by kernel_rfl) (fun _ _ _ h => h) (Or.inl ⟨by rfl, ?y13⟩) (by assumption) ?_
  case y13 => intro w hSw; (try dsimp only at hSw); go_simp; all_goals first | with_reducible rfl | rw [if_neg (by omega)]
  try simp only [Act.put, List.getElem_toArray, List.getElem_cons_succ, List.getElem_cons_zero, List.getElem?_toArray, List.getElem?_cons_succ, List.getElem?_cons_zero, List.setIfInBounds_toArray, List.set_cons_zero, List.set_cons_succ]
  refine wpAnyH_take (i := 4) (v := ?v14) rfl (by kernel_rfl) (by kernel_rfl) (by kernel_rfl) (fun _ _ _ h => h) (Or.inl ⟨by rfl, ?y14⟩) (by assumption) ?_
  case y14 => intro w hSw; (try dsimp only at hSw); go_simp; all_goals first | with_reducible rfl | rw [if_neg (by omega)]
  try simp only [Act.put, List.getElem_toArray, List.getElem_cons_succ, List.getElem_cons_zero, List.getElem?_toArray, List.getElem?_cons_succ, List.getElem?_cons_zero, List.setIfInBounds_toArray, List.set_cons_zero, List.set_cons_succ]
  refine wpAnyH_take (i := 5) (v := ?v15) rfl (by kernel_rfl) (by kernel_rfl) (by kernel_rfl) (fun _ _ _ h => h) (Or.inl ⟨by rfl, ?y15⟩) (by assumption) ?_
  case y15 => intro w hSw; (try dsimp only at hSw); go_simp; all_goals first | with_reducible rfl | rw [if_neg (by omega)]
  try simp only [Act.put, List.getElem_toArray, List.getElem_cons_succ, List.getElem_cons_zero, List.getElem?_toArray, List.getElem?_cons_succ, List.getElem?_cons_zero, List.setIfInBounds_toArray, List.set_cons_zero, List.set_cons_succ]
  refine wpAnyH_take (i := 7) (v := ?v16) rfl (by kernel_rfl) (by kernel_rfl) (by kernel_rfl) (fun _ _ _ h => h) (Or.inl ⟨by rfl, ?y16⟩) (by assumption) ?_
  case y16 => intro w hSw; (try dsimp only at hSw); go_simp; all_goals first | with_reducible rfl | rw [if_neg (by omega)]
  try simp only [Act.put, List.getElem_toArray, List.getElem_cons_succ, List.getElem_cons_zero, List.getElem?_toArray, List.getElem?_cons_succ, List.getElem?_cons_zero, List.setIfInBounds_toArray, List.set_cons_zero, List.set_cons_succ]
  refine wpAnyH_take (i := 11) (v := ?v17) rfl (by kernel_rfl) (by kernel_rfl) (by kernel_rfl) (fun _ _ _ h => h) (Or.inl ⟨by rfl, ?y17⟩) (by assumption) ?_
  case y17 => intro w hSw; (try dsimp only at hSw); go_simp; all_goals first | with_reducible rfl | rw [if_neg (by omega)]
  try simp only [Act.put, List.getElem_toArray, List.getElem_cons_succ, List.getElem_cons_zero, List.getElem?_toArray, List.getElem?_cons_succ, List.getElem?_cons_zero, List.setIfInBounds_toArray, List.set_cons_zero, List.set_cons_succ]
  refine wpAnyH_take (i := 12) (v := ?v18) rfl (by kernel_rfl) (by kernel_rfl) (by kernel_rfl) (fun _ _ _ h => h) (Or.inl ⟨by rfl, ?y18⟩) (by assumption) ?_
  case y18 => intro w hSw; (try dsimp only at hSw); go_simp; all_goals first | with_reducible rfl | rw [if_neg (by omega)]
  try simp only [Act.put, List.getElem_toArray, List.getElem_cons_succ, List.getElem_cons_zero, List.getElem?_toArray, List.getElem?_cons_succ, List.getElem?_cons_zero, List.setIfInBounds_toArray, List.set_cons_zero, List.set_cons_succ]
  refine wpAnyH_take (i := 13) (v := ?v19) rfl (by kernel_rfl) (by kernel_rfl) (by kernel_rfl) (fun _ _ _ h => h) (Or.inl ⟨by rfl, ?y19⟩) (by assumption) ?_
  case y19 => intro w hSw; (try dsimp only at hSw); go_simp; all_goals first | with_reducible rfl | rw [if_neg (by omega)]
  try simp only [Act.put, List.getElem_toArray, List.getElem_cons_succ, List.getElem_cons_zero, List.getElem?_toArray, List.getElem?_cons_succ, List.getElem?_cons_zero, List.setIfInBounds_toArray, List.set_cons_zero, List.set_cons_succ]
  refine wpAnyH_done (by kernel_rfl) ?_ _
  (go_wp2_with fail; go_ret2; refine ⟨congrArg (fun s => Ending.returned (.tuple #[.string s, .bool true])) ?_, hHeld.2.2.2.2.2.2.1⟩; rw [Hrd.out, Hrm.out]; apply ByteArray.ext; simp [showB, shapesL, wordB, wordsL, alusL, condsL, piece])
theorem rshow_11 : RShowAt 11 := by
  intro d n m imm w hc hr
  have hb : 0 ≤ imm ∧ imm < 16 := by
    simp only [canB, inB, regB, Bool.and_eq_true, decide_eq_true_eq, beq_iff_eq] at hc
    omega
  have h : imm = 0 ∨ imm = 1 ∨ imm = 2 ∨ imm = 3 ∨ imm = 4 ∨ imm = 5 ∨ imm = 6 ∨ imm = 7 ∨ imm = 8 ∨ imm = 9 ∨ imm = 10 ∨ imm = 11 ∨ imm = 12 ∨ imm = 13 ∨ imm = 14 ∨ imm = 15 := by omega
  rcases h with h | h | h | h | h | h | h | h | h | h | h | h | h | h | h | h
  · exact rshow_11_0 d n m imm w h hc hr
  · exact rshow_11_1 d n m imm w h hc hr
  · exact rshow_11_2 d n m imm w h hc hr
  · exact rshow_11_3 d n m imm w h hc hr
  · exact rshow_11_4 d n m imm w h hc hr
  · exact rshow_11_5 d n m imm w h hc hr
  · exact rshow_11_6 d n m imm w h hc hr
  · exact rshow_11_7 d n m imm w h hc hr
  · exact rshow_11_8 d n m imm w h hc hr
  · exact rshow_11_9 d n m imm w h hc hr
  · exact rshow_11_10 d n m imm w h hc hr
  · exact rshow_11_11 d n m imm w h hc hr
  · exact rshow_11_12 d n m imm w h hc hr
  · exact rshow_11_13 d n m imm w h hc hr
  · exact rshow_11_14 d n m imm w h hc hr
  · exact rshow_11_15 d n m imm w h hc hr
end Go.Proofs.YtagjnannnahplaaDoor
