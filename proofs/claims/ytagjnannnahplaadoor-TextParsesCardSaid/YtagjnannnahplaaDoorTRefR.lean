/- bautaref04.Parse. -/
import Derived.Test.YtagjnannnahplaaDoorTRefQ
namespace Go.Proofs.YtagjnannnahplaaDoor
open Go.RowKit
set_option linter.unusedVariables false
set_option linter.unusedSimpArgs false
theorem moreV_le (op : Nat) : moreV op ≤ 16 := by unfold moreV; split; omega; split <;> omega
theorem cls_0 (L : List Int) (op : Nat) (h : op < 4) : moreV op = 1 ∧ setJ op 0 (L.getD 0 0, 0, 0, (L.getD 1 0)) = candV L op 0 := by
  have h2 : op = 0 ∨ op = 1 ∨ op = 2 ∨ op = 3 := by omega
  rcases h2 with rfl | rfl | rfl | rfl <;> exact ⟨rfl, rfl⟩
theorem cls_1 (L : List Int) (op : Nat) (h : op < 7 ∧ 3 < op) : moreV op = 1 ∧ setJ op 0 (L.getD 0 0, 0, (L.getD 1 0), (L.getD 2 0)) = candV L op 0 := by
  have h2 : op = 4 ∨ op = 5 ∨ op = 6 := by omega
  rcases h2 with rfl | rfl | rfl <;> exact ⟨rfl, rfl⟩
theorem cls_2 (L : List Int) (op : Nat) (h : op < 9 ∧ 6 < op) : moreV op = 1 ∧ setJ op 0 (L.getD 0 0, (L.getD 1 0), (L.getD 2 0), 0) = candV L op 0 := by
  have h2 : op = 7 ∨ op = 8 := by omega
  rcases h2 with rfl | rfl <;> exact ⟨rfl, rfl⟩
theorem cls_3 (L : List Int) (op : Nat) (h : op = 14) : moreV op = 1 ∧ setJ op 0 (L.getD 0 0, (L.getD 1 0), (L.getD 2 0), 0) = candV L op 0 := by
  have h2 : op = 14 := by omega
  rcases h2 with rfl <;> exact ⟨rfl, rfl⟩
theorem cls_4 (L : List Int) (op : Nat) (h : op = 15) : moreV op = 1 ∧ setJ op 0 (L.getD 0 0, (L.getD 1 0), (L.getD 2 0), 0) = candV L op 0 := by
  have h2 : op = 15 := by omega
  rcases h2 with rfl <;> exact ⟨rfl, rfl⟩
theorem cls_5 (L : List Int) (op : Nat) (h : op < 11 ∧ 8 < op) : moreV op = 1 ∧ setJ op 0 (L.getD 0 0, (L.getD 1 0), 0, (L.getD 2 0)) = candV L op 0 := by
  have h2 : op = 9 ∨ op = 10 := by omega
  rcases h2 with rfl | rfl <;> exact ⟨rfl, rfl⟩
theorem cls_6 (L : List Int) (op : Nat) (h : op = 11) : moreV op = 16 ∧ setJ op 0 (L.getD 0 0, 0, (L.getD 1 0), 0) = candV L op 0 := by
  have h2 : op = 11 := by omega
  rcases h2 with rfl <;> exact ⟨rfl, rfl⟩
theorem cls_7 (L : List Int) (op : Nat) (h : op < 14 ∧ 11 < op) : moreV op = 1 ∧ setJ op 0 (L.getD 0 0, (L.getD 1 0), 0, ((L.getD 2 0).tdiv 4)) = candV L op 0 := by
  have h2 : op = 12 ∨ op = 13 := by omega
  rcases h2 with rfl | rfl <;> exact ⟨rfl, rfl⟩
theorem cls_8 (L : List Int) (op : Nat) (h : op = 16) : moreV op = 1 ∧ setJ op 0 (L.getD 0 0, 0, 0, ((L.getD 1 0).tdiv 4)) = candV L op 0 := by
  have h2 : op = 16 := by omega
  rcases h2 with rfl <;> exact ⟨rfl, rfl⟩
theorem cls_9 (L : List Int) (op : Nat) (h : op = 17) : moreV op = 1 ∧ setJ op 0 (0, 0, 0, ((L.getD 0 0).tdiv 2)) = candV L op 0 := by
  have h2 : op = 17 := by omega
  rcases h2 with rfl <;> exact ⟨rfl, rfl⟩
theorem cls_10 (L : List Int) (op : Nat) (h : op = 18) : moreV op = 14 ∧ setJ op 0 (0, 0, 0, ((L.getD 0 0).tdiv 2)) = candV L op 0 := by
  have h2 : op = 18 := by omega
  rcases h2 with rfl <;> exact ⟨rfl, rfl⟩
theorem cls_11 (L : List Int) (op : Nat) (h : op = 20) : moreV op = 1 ∧ setJ op 0 (0, 0, 0, (L.getD 0 0)) = candV L op 0 := by
  have h2 : op = 20 := by omega
  rcases h2 with rfl <;> exact ⟨rfl, rfl⟩
theorem cls_12 (L : List Int) (op : Nat) (h : op = 19) : moreV op = 1 ∧ setJ op 0 (0, 0, 0, 0) = candV L op 0 := by
  have h2 : op = 19 := by omega
  rcases h2 with rfl <;> exact ⟨rfl, rfl⟩
set_option maxRecDepth 100000 in
set_option maxHeartbeats 16000000 in
theorem rParse_any (l : List UInt8) (hl : l.length ≤ 100) (w : World) :
    Calls Tryd.prog 10 #[.string ⟨l.toArray⟩] w fun e w' => e = .returned (parOpt (parseV canB l)) ∧ Below w.heap.size w w' := by
  have hsz : (⟨l.toArray⟩ : ByteArray).size = l.length := by show l.toArray.size = _; simp
  have hm := fun w => marks_any ⟨l.toArray⟩ (by rw [hsz]; omega) w
  have hbs : (⟨l.toArray⟩ : ByteArray).data.toList = l := by simp
  rw [hbs] at hm
  clear hbs hsz
  have hB0 : Below w.heap.size w (w.alloc (.cells #[.int .i64 0, .int .i64 0, .int .i64 0, .int .i64 0, .int .i64 0] 23)) := (Below.refl _ _).alloc (Nat.le_refl _) _
  have HB0 := Lib.hid hB0
  clear hB0
  go_enter Tryd.func10, Tryd.ntmps10
  go_wp2_with fail
  refine (hm _).mono ?_
  rintro e w1 ⟨v, rfl, hown, hb1⟩
  have hz1 := heap_keep (heap_alloc_new w _) hb1
  have hs1 := hown.sl
  have hB1 : Below w.heap.size w w1 := HB0.out.trans (hb1.mono HB0.out.size)
  clear hm hb1 hown HB0
  have HM0 : Hid (MissTo (marksV l) l 0 0) := ⟨fun p hp => by omega, fun i hi => by omega⟩
  have hLl : (marksV l).length ≤ 1000 := by have := (marksV_facts l).1; omega
  have hg0 := marks_get l 0
  have hg1 := marks_get l 1
  have hg2 := marks_get l 2
  obtain ⟨L, hL⟩ : ∃ L, L = marksV l := ⟨_, rfl⟩
  rw [← hL] at hs1 HM0 hLl hg0 hg1 hg2
  have HL := Lib.hid hL
  clear hL
  have ha0 := at_any L hLl v 0 (by omega)
  have ha1 := at_any L hLl v 1 (by omega)
  have ha2 := at_any L hLl v 2 (by omega)
  obtain ⟨l0, hl0⟩ : ∃ x, x = L.getD 0 0 := ⟨_, rfl⟩
  obtain ⟨l1, hl1⟩ : ∃ x, x = L.getD 1 0 := ⟨_, rfl⟩
  obtain ⟨l2, hl2⟩ : ∃ x, x = L.getD 2 0 := ⟨_, rfl⟩
  rw [← hl0] at ha0 hg0
  rw [← hl1] at ha1 hg1
  rw [← hl2] at ha2 hg2
  have HL0 := Lib.hid hl0
  have HL1 := Lib.hid hl1
  have HL2 := Lib.hid hl2
  have HA0 : Hid (∀ w', SlAt w' v L → Calls Tryd.prog 19 #[v, .int .i64 0] w' fun e w'' => e = .returned (.int .i64 l0) ∧ w' = w'') := ha0
  have HA1 : Hid (∀ w', SlAt w' v L → Calls Tryd.prog 19 #[v, .int .i64 1] w' fun e w'' => e = .returned (.int .i64 l1) ∧ w' = w'') := ha1
  have HA2 : Hid (∀ w', SlAt w' v L → Calls Tryd.prog 19 #[v, .int .i64 2] w' fun e w'' => e = .returned (.int .i64 l2) ∧ w' = w'') := ha2
  have hd24 : IntKind.i64.wrap (l2.tdiv 4) = l2.tdiv 4 := wrap_tdiv l2 4 (by omega) (by omega)
  have hd14 : IntKind.i64.wrap (l1.tdiv 4) = l1.tdiv 4 := wrap_tdiv l1 4 (by omega) (by omega)
  have hd02 : IntKind.i64.wrap (l0.tdiv 2) = l0.tdiv 2 := wrap_tdiv l0 2 (by omega) (by omega)
  have HD := Lib.hid (And.intro hd24 (And.intro hd14 hd02))
  clear hl0 hl1 hl2 ha0 ha1 ha2 hd24 hd14 hd02
  have HZ1 := Lib.hid hz1
  have HS1 := Lib.hid hs1
  have HB1 := Lib.hid hB1
  clear hz1 hs1 hB1
  go_wp2_with fail
  go_loopw [5] (fun o wr => ∃ op : Nat, o = .int .i64 op ∧ op ≤ 21 ∧ Hid (MissTo L l op 0) ∧ Hid (wr.heap[w.heap.size]? = some (.cells #[.int .i64 0, .int .i64 0, .int .i64 0, .int .i64 0, .int .i64 0] 23 (0, 0))) ∧ Hid (SlAt wr v L) ∧ Hid (Below w.heap.size w wr)) (fun o _ => 21 - (intOf o).toNat)
  case atStart => exact ⟨0, rfl, by omega, HM0, HZ1, HS1, HB1⟩
  case round =>
    clear HM0 HZ1 HS1 HB1
    obtain ⟨op, rfl, hop, HM, HZ, HS, HB⟩ := hrel
    by_cases hlt : op < 21
    · have hlt' : (op : Int) < 21 := by omega
      go_wp2_with fail
      refine (HA0.out _ HS.out).mono ?_
      rintro e wo ⟨rfl, rfl⟩
      have hS1 : SlAt (wr.alloc (.cells #[.int .i64 op, .int .i64 l0, .int .i64 0, .int .i64 0, .int .i64 0] 23)) v L := HS.out.keep ((Below.refl _ _).alloc (Nat.le_refl _) _)
      have HS2 := Lib.hid hS1
      clear hS1
      have hb0 := Box.new wr op l0 0 0 0 23
      have HX := Lib.hid hb0
      clear hb0
      have hBl : Below wr.heap.size wr (wr.alloc (.cells #[.int .i64 op, .int .i64 l0, .int .i64 0, .int .i64 0, .int .i64 0] 23)) := (Below.refl _ _).alloc (Nat.le_refl _) _
      have HBl := Lib.hid hBl
      clear hBl
      go_upto_if 22 with (fail)
      go_cut [7] (fun m wc => m = .int .i64 (moreV op) ∧ Hid (Held L op 0 wr.heap.size wr wc))
      case first =>
        have hcl : (op < 4) ∨ (op < 7 ∧ 3 < op) ∨ (op < 9 ∧ 6 < op) ∨ (op = 14) ∨ (op = 15) ∨ (op < 11 ∧ 8 < op) ∨ (op = 11) ∨ (op < 14 ∧ 11 < op) ∨ (op = 16) ∨ (op = 17) ∨ (op = 18) ∨ (op = 20) ∨ (op = 19) := by omega
        rcases hcl with hcl | hcl | hcl | hcl | hcl | hcl | hcl | hcl | hcl | hcl | hcl | hcl | hcl
        · skip
          have t0 : (op : Int) < 4 := by omega
          obtain ⟨hmo, hca⟩ := cls_0 L op hcl
          try simp only [← HL0.out, ← HL1.out, ← HL2.out] at hca
          have HMO := Lib.hid hmo
          have HCA := Lib.hid hca
          clear hcl hmo hca
          obtain ⟨c0, c1, c2, c3, c4, fz, hlz⟩ := HX.out
          go_wp2_with fail
          refine (HA1.out _ HS2.out).mono ?_
          rintro e wo ⟨rfl, rfl⟩
          go_wp2_with fail
          go_meet
          exact ⟨by rw [HMO.out]; rfl, ⟨l0, 0, 0, l1, HCA.out, Box.new _ _ _ _ _ _ _, (Below.refl _ _).alloc (Nat.le_refl _) _⟩⟩
        · skip
          have t0 : ¬ ((op : Int) < 4) := by omega
          have t1 : (op : Int) < 7 := by omega
          obtain ⟨hmo, hca⟩ := cls_1 L op hcl
          try simp only [← HL0.out, ← HL1.out, ← HL2.out] at hca
          have HMO := Lib.hid hmo
          have HCA := Lib.hid hca
          clear hcl hmo hca
          obtain ⟨c0, c1, c2, c3, c4, fz, hlz⟩ := HX.out
          go_wp2_with fail
          refine (HA1.out _ HS2.out).mono ?_
          rintro e wo ⟨rfl, rfl⟩
          go_wp2_with fail
          refine (HA2.out _ HS2.out).mono ?_
          rintro e wo ⟨rfl, rfl⟩
          go_wp2_with fail
          go_meet
          exact ⟨by rw [HMO.out]; rfl, ⟨l0, 0, l1, l2, HCA.out, Box.new _ _ _ _ _ _ _, (Below.refl _ _).alloc (Nat.le_refl _) _⟩⟩
        · skip
          have t0 : ¬ ((op : Int) < 4) := by omega
          have t1 : ¬ ((op : Int) < 7) := by omega
          have t2 : (op : Int) < 9 := by omega
          obtain ⟨hmo, hca⟩ := cls_2 L op hcl
          try simp only [← HL0.out, ← HL1.out, ← HL2.out] at hca
          have HMO := Lib.hid hmo
          have HCA := Lib.hid hca
          clear hcl hmo hca
          obtain ⟨c0, c1, c2, c3, c4, fz, hlz⟩ := HX.out
          go_wp2_with fail
          refine (HA1.out _ HS2.out).mono ?_
          rintro e wo ⟨rfl, rfl⟩
          go_wp2_with fail
          refine (HA2.out _ HS2.out).mono ?_
          rintro e wo ⟨rfl, rfl⟩
          go_wp2_with fail
          go_meet
          exact ⟨by rw [HMO.out]; rfl, ⟨l0, l1, l2, 0, HCA.out, Box.new _ _ _ _ _ _ _, (Below.refl _ _).alloc (Nat.le_refl _) _⟩⟩
        · skip
          have t0 : ¬ ((op : Int) < 4) := by omega
          have t1 : ¬ ((op : Int) < 7) := by omega
          have t2 : ¬ ((op : Int) < 9) := by omega
          have t3 : ((op : Int) == 14) = true := beq_iff_eq.2 (by omega)
          obtain ⟨hmo, hca⟩ := cls_3 L op hcl
          try simp only [← HL0.out, ← HL1.out, ← HL2.out] at hca
          have HMO := Lib.hid hmo
          have HCA := Lib.hid hca
          clear hcl hmo hca
          obtain ⟨c0, c1, c2, c3, c4, fz, hlz⟩ := HX.out
          go_wp2_with fail
          refine (HA1.out _ HS2.out).mono ?_
          rintro e wo ⟨rfl, rfl⟩
          go_wp2_with fail
          refine (HA2.out _ HS2.out).mono ?_
          rintro e wo ⟨rfl, rfl⟩
          go_wp2_with fail
          go_meet
          exact ⟨by rw [HMO.out]; rfl, ⟨l0, l1, l2, 0, HCA.out, Box.new _ _ _ _ _ _ _, (Below.refl _ _).alloc (Nat.le_refl _) _⟩⟩
        · skip
          have t0 : ¬ ((op : Int) < 4) := by omega
          have t1 : ¬ ((op : Int) < 7) := by omega
          have t2 : ¬ ((op : Int) < 9) := by omega
          have t3 : ((op : Int) == 14) = false := beq_eq_false_iff_ne.2 (by omega)
          have t4 : ((op : Int) == 15) = true := beq_iff_eq.2 (by omega)
          obtain ⟨hmo, hca⟩ := cls_4 L op hcl
          try simp only [← HL0.out, ← HL1.out, ← HL2.out] at hca
          have HMO := Lib.hid hmo
          have HCA := Lib.hid hca
          clear hcl hmo hca
          obtain ⟨c0, c1, c2, c3, c4, fz, hlz⟩ := HX.out
          go_wp2_with fail
          refine (HA1.out _ HS2.out).mono ?_
          rintro e wo ⟨rfl, rfl⟩
          go_wp2_with fail
          refine (HA2.out _ HS2.out).mono ?_
          rintro e wo ⟨rfl, rfl⟩
          go_wp2_with fail
          go_meet
          exact ⟨by rw [HMO.out]; rfl, ⟨l0, l1, l2, 0, HCA.out, Box.new _ _ _ _ _ _ _, (Below.refl _ _).alloc (Nat.le_refl _) _⟩⟩
        · skip
          have t0 : ¬ ((op : Int) < 4) := by omega
          have t1 : ¬ ((op : Int) < 7) := by omega
          have t2 : ¬ ((op : Int) < 9) := by omega
          have t3 : ((op : Int) == 14) = false := beq_eq_false_iff_ne.2 (by omega)
          have t4 : ((op : Int) == 15) = false := beq_eq_false_iff_ne.2 (by omega)
          have t5 : (op : Int) < 11 := by omega
          obtain ⟨hmo, hca⟩ := cls_5 L op hcl
          try simp only [← HL0.out, ← HL1.out, ← HL2.out] at hca
          have HMO := Lib.hid hmo
          have HCA := Lib.hid hca
          clear hcl hmo hca
          obtain ⟨c0, c1, c2, c3, c4, fz, hlz⟩ := HX.out
          go_wp2_with fail
          refine (HA1.out _ HS2.out).mono ?_
          rintro e wo ⟨rfl, rfl⟩
          go_wp2_with fail
          refine (HA2.out _ HS2.out).mono ?_
          rintro e wo ⟨rfl, rfl⟩
          go_wp2_with fail
          go_meet
          exact ⟨by rw [HMO.out]; rfl, ⟨l0, l1, 0, l2, HCA.out, Box.new _ _ _ _ _ _ _, (Below.refl _ _).alloc (Nat.le_refl _) _⟩⟩
        · skip
          have t0 : ¬ ((op : Int) < 4) := by omega
          have t1 : ¬ ((op : Int) < 7) := by omega
          have t2 : ¬ ((op : Int) < 9) := by omega
          have t3 : ((op : Int) == 14) = false := beq_eq_false_iff_ne.2 (by omega)
          have t4 : ((op : Int) == 15) = false := beq_eq_false_iff_ne.2 (by omega)
          have t5 : ¬ ((op : Int) < 11) := by omega
          have t6 : ((op : Int) == 11) = true := beq_iff_eq.2 (by omega)
          obtain ⟨hmo, hca⟩ := cls_6 L op hcl
          try simp only [← HL0.out, ← HL1.out, ← HL2.out] at hca
          have HMO := Lib.hid hmo
          have HCA := Lib.hid hca
          clear hcl hmo hca
          obtain ⟨c0, c1, c2, c3, c4, fz, hlz⟩ := HX.out
          go_wp2_with fail
          refine (HA1.out _ HS2.out).mono ?_
          rintro e wo ⟨rfl, rfl⟩
          go_wp2_with fail
          go_meet
          exact ⟨by rw [HMO.out]; rfl, ⟨l0, 0, l1, 0, HCA.out, Box.new _ _ _ _ _ _ _, (Below.refl _ _).alloc (Nat.le_refl _) _⟩⟩
        · skip
          have t0 : ¬ ((op : Int) < 4) := by omega
          have t1 : ¬ ((op : Int) < 7) := by omega
          have t2 : ¬ ((op : Int) < 9) := by omega
          have t3 : ((op : Int) == 14) = false := beq_eq_false_iff_ne.2 (by omega)
          have t4 : ((op : Int) == 15) = false := beq_eq_false_iff_ne.2 (by omega)
          have t5 : ¬ ((op : Int) < 11) := by omega
          have t6 : ((op : Int) == 11) = false := beq_eq_false_iff_ne.2 (by omega)
          have t7 : (op : Int) < 14 := by omega
          obtain ⟨hmo, hca⟩ := cls_7 L op hcl
          try simp only [← HL0.out, ← HL1.out, ← HL2.out] at hca
          have HMO := Lib.hid hmo
          have HCA := Lib.hid hca
          clear hcl hmo hca
          have hdv := HD.out
          obtain ⟨c0, c1, c2, c3, c4, fz, hlz⟩ := HX.out
          go_wp2_with fail
          refine (HA1.out _ HS2.out).mono ?_
          rintro e wo ⟨rfl, rfl⟩
          go_wp2_with fail
          refine (HA2.out _ HS2.out).mono ?_
          rintro e wo ⟨rfl, rfl⟩
          go_wp2_with fail
          go_meet
          exact ⟨by rw [HMO.out]; rfl, ⟨l0, l1, 0, (l2.tdiv 4), HCA.out, Box.new _ _ _ _ _ _ _, (Below.refl _ _).alloc (Nat.le_refl _) _⟩⟩
        · skip
          have t0 : ¬ ((op : Int) < 4) := by omega
          have t1 : ¬ ((op : Int) < 7) := by omega
          have t2 : ¬ ((op : Int) < 9) := by omega
          have t3 : ((op : Int) == 14) = false := beq_eq_false_iff_ne.2 (by omega)
          have t4 : ((op : Int) == 15) = false := beq_eq_false_iff_ne.2 (by omega)
          have t5 : ¬ ((op : Int) < 11) := by omega
          have t6 : ((op : Int) == 11) = false := beq_eq_false_iff_ne.2 (by omega)
          have t7 : ¬ ((op : Int) < 14) := by omega
          have t8 : ((op : Int) == 16) = true := beq_iff_eq.2 (by omega)
          obtain ⟨hmo, hca⟩ := cls_8 L op hcl
          try simp only [← HL0.out, ← HL1.out, ← HL2.out] at hca
          have HMO := Lib.hid hmo
          have HCA := Lib.hid hca
          clear hcl hmo hca
          have hdv := HD.out
          obtain ⟨c0, c1, c2, c3, c4, fz, hlz⟩ := HX.out
          go_wp2_with fail
          refine (HA1.out _ HS2.out).mono ?_
          rintro e wo ⟨rfl, rfl⟩
          go_wp2_with fail
          go_meet
          exact ⟨by rw [HMO.out]; rfl, ⟨l0, 0, 0, (l1.tdiv 4), HCA.out, Box.new _ _ _ _ _ _ _, (Below.refl _ _).alloc (Nat.le_refl _) _⟩⟩
        · skip
          have t0 : ¬ ((op : Int) < 4) := by omega
          have t1 : ¬ ((op : Int) < 7) := by omega
          have t2 : ¬ ((op : Int) < 9) := by omega
          have t3 : ((op : Int) == 14) = false := beq_eq_false_iff_ne.2 (by omega)
          have t4 : ((op : Int) == 15) = false := beq_eq_false_iff_ne.2 (by omega)
          have t5 : ¬ ((op : Int) < 11) := by omega
          have t6 : ((op : Int) == 11) = false := beq_eq_false_iff_ne.2 (by omega)
          have t7 : ¬ ((op : Int) < 14) := by omega
          have t8 : ((op : Int) == 16) = false := beq_eq_false_iff_ne.2 (by omega)
          have t9 : ((op : Int) == 17) = true := beq_iff_eq.2 (by omega)
          obtain ⟨hmo, hca⟩ := cls_9 L op hcl
          try simp only [← HL0.out, ← HL1.out, ← HL2.out] at hca
          have HMO := Lib.hid hmo
          have HCA := Lib.hid hca
          clear hcl hmo hca
          have hdv := HD.out
          obtain ⟨c0, c1, c2, c3, c4, fz, hlz⟩ := HX.out
          go_wp2_with fail
          refine (HA0.out _ HS2.out).mono ?_
          rintro e wo ⟨rfl, rfl⟩
          go_wp2_with fail
          go_meet
          exact ⟨by rw [HMO.out]; rfl, ⟨0, 0, 0, (l0.tdiv 2), HCA.out, Box.new _ _ _ _ _ _ _, (Below.refl _ _).alloc (Nat.le_refl _) _⟩⟩
        · skip
          have t0 : ¬ ((op : Int) < 4) := by omega
          have t1 : ¬ ((op : Int) < 7) := by omega
          have t2 : ¬ ((op : Int) < 9) := by omega
          have t3 : ((op : Int) == 14) = false := beq_eq_false_iff_ne.2 (by omega)
          have t4 : ((op : Int) == 15) = false := beq_eq_false_iff_ne.2 (by omega)
          have t5 : ¬ ((op : Int) < 11) := by omega
          have t6 : ((op : Int) == 11) = false := beq_eq_false_iff_ne.2 (by omega)
          have t7 : ¬ ((op : Int) < 14) := by omega
          have t8 : ((op : Int) == 16) = false := beq_eq_false_iff_ne.2 (by omega)
          have t9 : ((op : Int) == 17) = false := beq_eq_false_iff_ne.2 (by omega)
          have t10 : ((op : Int) == 18) = true := beq_iff_eq.2 (by omega)
          obtain ⟨hmo, hca⟩ := cls_10 L op hcl
          try simp only [← HL0.out, ← HL1.out, ← HL2.out] at hca
          have HMO := Lib.hid hmo
          have HCA := Lib.hid hca
          clear hcl hmo hca
          have hdv := HD.out
          obtain ⟨c0, c1, c2, c3, c4, fz, hlz⟩ := HX.out
          go_wp2_with fail
          refine (HA0.out _ HS2.out).mono ?_
          rintro e wo ⟨rfl, rfl⟩
          go_wp2_with fail
          go_meet
          exact ⟨by rw [HMO.out]; rfl, ⟨0, 0, 0, (l0.tdiv 2), HCA.out, Box.new _ _ _ _ _ _ _, (Below.refl _ _).alloc (Nat.le_refl _) _⟩⟩
        · skip
          have t0 : ¬ ((op : Int) < 4) := by omega
          have t1 : ¬ ((op : Int) < 7) := by omega
          have t2 : ¬ ((op : Int) < 9) := by omega
          have t3 : ((op : Int) == 14) = false := beq_eq_false_iff_ne.2 (by omega)
          have t4 : ((op : Int) == 15) = false := beq_eq_false_iff_ne.2 (by omega)
          have t5 : ¬ ((op : Int) < 11) := by omega
          have t6 : ((op : Int) == 11) = false := beq_eq_false_iff_ne.2 (by omega)
          have t7 : ¬ ((op : Int) < 14) := by omega
          have t8 : ((op : Int) == 16) = false := beq_eq_false_iff_ne.2 (by omega)
          have t9 : ((op : Int) == 17) = false := beq_eq_false_iff_ne.2 (by omega)
          have t10 : ((op : Int) == 18) = false := beq_eq_false_iff_ne.2 (by omega)
          have t11 : ((op : Int) == 20) = true := beq_iff_eq.2 (by omega)
          obtain ⟨hmo, hca⟩ := cls_11 L op hcl
          try simp only [← HL0.out, ← HL1.out, ← HL2.out] at hca
          have HMO := Lib.hid hmo
          have HCA := Lib.hid hca
          clear hcl hmo hca
          obtain ⟨c0, c1, c2, c3, c4, fz, hlz⟩ := HX.out
          go_wp2_with fail
          refine (HA0.out _ HS2.out).mono ?_
          rintro e wo ⟨rfl, rfl⟩
          go_wp2_with fail
          go_meet
          exact ⟨by rw [HMO.out]; rfl, ⟨0, 0, 0, l0, HCA.out, Box.new _ _ _ _ _ _ _, (Below.refl _ _).alloc (Nat.le_refl _) _⟩⟩
        · skip
          have t0 : ¬ ((op : Int) < 4) := by omega
          have t1 : ¬ ((op : Int) < 7) := by omega
          have t2 : ¬ ((op : Int) < 9) := by omega
          have t3 : ((op : Int) == 14) = false := beq_eq_false_iff_ne.2 (by omega)
          have t4 : ((op : Int) == 15) = false := beq_eq_false_iff_ne.2 (by omega)
          have t5 : ¬ ((op : Int) < 11) := by omega
          have t6 : ((op : Int) == 11) = false := beq_eq_false_iff_ne.2 (by omega)
          have t7 : ¬ ((op : Int) < 14) := by omega
          have t8 : ((op : Int) == 16) = false := beq_eq_false_iff_ne.2 (by omega)
          have t9 : ((op : Int) == 17) = false := beq_eq_false_iff_ne.2 (by omega)
          have t10 : ((op : Int) == 18) = false := beq_eq_false_iff_ne.2 (by omega)
          have t11 : ((op : Int) == 20) = false := beq_eq_false_iff_ne.2 (by omega)
          obtain ⟨hmo, hca⟩ := cls_12 L op hcl
          try simp only [← HL0.out, ← HL1.out, ← HL2.out] at hca
          have HMO := Lib.hid hmo
          have HCA := Lib.hid hca
          clear hcl hmo hca
          obtain ⟨c0, c1, c2, c3, c4, fz, hlz⟩ := HX.out
          go_wp2_with fail
          go_meet
          exact ⟨by rw [HMO.out]; rfl, ⟨0, 0, 0, 0, HCA.out, Box.new _ _ _ _ _ _ _, (Below.refl _ _).alloc (Nat.le_refl _) _⟩⟩
      case rest =>
        obtain ⟨rfl, HH⟩ := hcut
        clear HX HS2 HBl
        obtain ⟨wq, rfl⟩ : ∃ wq : World, wq = wr := ⟨_, rfl⟩
        go_wp2_with fail
        go_loopw [8] (fun j w2 => ∃ k : Nat, j = .int .i64 k ∧ k ≤ moreV op ∧ Hid (MissTo L l op k) ∧ Hid (Held L op k wq.heap.size wq w2)) (fun j _ => moreV op - (intOf j).toNat)
        case atStart => exact ⟨0, rfl, Nat.zero_le _, HM, HH⟩
        case round =>
          clear HM HH
          obtain ⟨k, rfl, hk, HM, HH⟩ := hrel
          by_cases hkl : k < moreV op
          · have hkl' : (k : Int) < (moreV op : Int) := by omega
            have hmb := moreV_le op
            obtain ⟨d, n, m, i, hq, hx, hb⟩ := HH.out
            have HBK := Lib.hid hb
            have HX := Lib.hid hx
            clear hb hx HH
            have hit := hit_iff L l op k hlt
            obtain ⟨⟨c1, c2, c3, c4⟩, hc⟩ : ∃ c, c = candV L op k := ⟨_, rfl⟩
            rw [← hc] at hq hit
            have HC := Lib.hid hc
            clear hc
            simp only at hit
            have hsh : ∀ w, _ := fun w => rShow_any op c1 c2 c3 c4 w
            generalize showI op c1 c2 c3 c4 = S at *
            generalize canI op c1 c2 c3 c4 = C at *
            have HIT := Lib.hid hit
            clear hit
            have hse : Hid (setJ op (k + 1) (c1, c2, c3, c4) = candV L op (k + 1)) := by show _ = _; rw [HC.out]; exact setJ_cand L op (k + 1) k
            have HSH := Lib.hid hsh
            clear hsh
            by_cases h11 : op = 11
            · have e11 : ((op : Int) == 11) = true := beq_iff_eq.2 (by omega)
              have e18 : ((op : Int) == 18) = false := beq_eq_false_iff_ne.2 (by omega)
              unfold setJ at hq
              rw [if_pos h11] at hq
              simp only [Prod.mk.injEq] at hq
              obtain ⟨rfl, rfl, rfl, rfl⟩ := hq
              clear h11
              obtain ⟨b0, b1, b2, b3, b4, fz, hlz⟩ := HX.out
              go_wp2_with fail
              refine (HSH.out _).mono ?_
              rintro e w5 ⟨rfl, hb5⟩
              have hx5 := (HX.out.setI (k : Int)).keep hb5
              have hB5 : Below wq.heap.size wq w5 := (HBK.out.setCell (p := ⟨wq.heap.size, 4, none⟩) (Nat.le_refl _) _).trans (hb5.mono (by have := HBK.out.size; simp <;> omega))
              have HX5 := Lib.hid hx5
              have HB5 := Lib.hid hB5
              clear hx5 hB5 hb5 HX HSH b0 b1 b2 b3 b4 fz hlz
              have hN : Hid (Held L op (k + 1) wq.heap.size wq w5) := ⟨_, _, _, _, hse.out, HX5.out, HB5.out⟩
              cases C
              · have HM2 := Lib.hid (HM.out.next (by rw [HIT.out]; rfl))
                go_wp2_with fail
                go_roundw
                case rel => exact ⟨k + 1, by go_num, hkl, HM2, hN⟩
                case measure => simp [intOf]; omega
              · by_cases heq : S = l
                · have HR : Hid (parOpt (parseV canB l) = .tuple #[.agg #[.int .i64 op, .int .i64 d, .int .i64 n, .int .i64 m, .int .i64 (k : Int)], .int .i64 0]) := by
                    show _ = _
                    have := parOpt_hit L l HL.out op k hlt (by rw [HIT.out, heq]; simp)
                    rw [← HC.out] at this
                    exact this
                  subst heq
                  have hz5 := heap_keep HZ.out HB5.out
                  have hzc := fun i => Lib.cell_of_heap hz5 i
                  have hzf := fun i => Lib.frozen_of_heap hz5 i
                  have HZl := (Array.getElem?_eq_some_iff.1 HZ.out).1
                  obtain ⟨b0, b1, b2, b3, b4, fz, hlz⟩ := HX5.out
                  clear hz5
                  go_wp2_with fail
                  refine bodyPost_ret (v := .tuple #[.agg #[.int .i64 op, .int .i64 d, .int .i64 n, .int .i64 m, .int .i64 (k : Int)], .int .i64 0]) (by simp [results, Tryd.results10, go_sem, hzc]) rfl ?_
                  rw [HR.out]
                  refine ⟨rfl, ?_⟩
                  have hBw : Below w.heap.size w w5 := HB.out.trans (HB5.out.mono HB.out.size)
                  exact (((((hBw.setCell (p := ⟨w.heap.size, 0, none⟩) (Nat.le_refl _) _).setCell (p := ⟨w.heap.size, 1, none⟩) (Nat.le_refl _) _).setCell (p := ⟨w.heap.size, 2, none⟩) (Nat.le_refl _) _).setCell (p := ⟨w.heap.size, 3, none⟩) (Nat.le_refl _) _).setCell (p := ⟨w.heap.size, 4, none⟩) (Nat.le_refl _) _)
                · have hne2 : (S == l) = false := by simpa using heq
                  have HM2 := Lib.hid (HM.out.next (by rw [HIT.out, hne2]; rfl))
                  clear heq
                  go_wp2_with fail
                  go_roundw
                  case rel => exact ⟨k + 1, by go_num, hkl, HM2, hN⟩
                  case measure => simp [intOf]; omega
            · have e11 : ((op : Int) == 11) = false := beq_eq_false_iff_ne.2 (by omega)
              unfold setJ at hq
              rw [if_neg h11] at hq
              by_cases h18 : op = 18
              · have e18 : ((op : Int) == 18) = true := beq_iff_eq.2 (by omega)
                rw [if_pos h18] at hq
                simp only [Prod.mk.injEq] at hq
                obtain ⟨rfl, rfl, rfl, rfl⟩ := hq
                clear h11 h18
                obtain ⟨b0, b1, b2, b3, b4, fz, hlz⟩ := HX.out
                go_wp2_with fail
                refine (HSH.out _).mono ?_
                rintro e w5 ⟨rfl, hb5⟩
                have hx5 := (HX.out.setD (k : Int)).keep hb5
                have hB5 : Below wq.heap.size wq w5 := (HBK.out.setCell (p := ⟨wq.heap.size, 1, none⟩) (Nat.le_refl _) _).trans (hb5.mono (by have := HBK.out.size; simp <;> omega))
                have HX5 := Lib.hid hx5
                have HB5 := Lib.hid hB5
                clear hx5 hB5 hb5 HX HSH b0 b1 b2 b3 b4 fz hlz
                have hN : Hid (Held L op (k + 1) wq.heap.size wq w5) := ⟨_, _, _, _, hse.out, HX5.out, HB5.out⟩
                cases C
                · have HM2 := Lib.hid (HM.out.next (by rw [HIT.out]; rfl))
                  go_wp2_with fail
                  go_roundw
                  case rel => exact ⟨k + 1, by go_num, hkl, HM2, hN⟩
                  case measure => simp [intOf]; omega
                · by_cases heq : S = l
                  · have HR : Hid (parOpt (parseV canB l) = .tuple #[.agg #[.int .i64 op, .int .i64 (k : Int), .int .i64 n, .int .i64 m, .int .i64 i], .int .i64 0]) := by
                      show _ = _
                      have := parOpt_hit L l HL.out op k hlt (by rw [HIT.out, heq]; simp)
                      rw [← HC.out] at this
                      exact this
                    subst heq
                    have hz5 := heap_keep HZ.out HB5.out
                    have hzc := fun i => Lib.cell_of_heap hz5 i
                    have hzf := fun i => Lib.frozen_of_heap hz5 i
                    have HZl := (Array.getElem?_eq_some_iff.1 HZ.out).1
                    obtain ⟨b0, b1, b2, b3, b4, fz, hlz⟩ := HX5.out
                    clear hz5
                    go_wp2_with fail
                    refine bodyPost_ret (v := .tuple #[.agg #[.int .i64 op, .int .i64 (k : Int), .int .i64 n, .int .i64 m, .int .i64 i], .int .i64 0]) (by simp [results, Tryd.results10, go_sem, hzc]) rfl ?_
                    rw [HR.out]
                    refine ⟨rfl, ?_⟩
                    have hBw : Below w.heap.size w w5 := HB.out.trans (HB5.out.mono HB.out.size)
                    exact (((((hBw.setCell (p := ⟨w.heap.size, 0, none⟩) (Nat.le_refl _) _).setCell (p := ⟨w.heap.size, 1, none⟩) (Nat.le_refl _) _).setCell (p := ⟨w.heap.size, 2, none⟩) (Nat.le_refl _) _).setCell (p := ⟨w.heap.size, 3, none⟩) (Nat.le_refl _) _).setCell (p := ⟨w.heap.size, 4, none⟩) (Nat.le_refl _) _)
                  · have hne2 : (S == l) = false := by simpa using heq
                    have HM2 := Lib.hid (HM.out.next (by rw [HIT.out, hne2]; rfl))
                    clear heq
                    go_wp2_with fail
                    go_roundw
                    case rel => exact ⟨k + 1, by go_num, hkl, HM2, hN⟩
                    case measure => simp [intOf]; omega
              · have e18 : ((op : Int) == 18) = false := beq_eq_false_iff_ne.2 (by omega)
                rw [if_neg h18] at hq
                simp only [Prod.mk.injEq] at hq
                obtain ⟨rfl, rfl, rfl, rfl⟩ := hq
                clear h11 h18
                obtain ⟨b0, b1, b2, b3, b4, fz, hlz⟩ := HX.out
                go_wp2_with fail
                refine (HSH.out _).mono ?_
                rintro e w5 ⟨rfl, hb5⟩
                have hx5 := (HX.out).keep hb5
                have hB5 : Below wq.heap.size wq w5 := (HBK.out).trans (hb5.mono (by have := HBK.out.size; simp <;> omega))
                have HX5 := Lib.hid hx5
                have HB5 := Lib.hid hB5
                clear hx5 hB5 hb5 HX HSH b0 b1 b2 b3 b4 fz hlz
                have hN : Hid (Held L op (k + 1) wq.heap.size wq w5) := ⟨_, _, _, _, hse.out, HX5.out, HB5.out⟩
                cases C
                · have HM2 := Lib.hid (HM.out.next (by rw [HIT.out]; rfl))
                  go_wp2_with fail
                  go_roundw
                  case rel => exact ⟨k + 1, by go_num, hkl, HM2, hN⟩
                  case measure => simp [intOf]; omega
                · by_cases heq : S = l
                  · have HR : Hid (parOpt (parseV canB l) = .tuple #[.agg #[.int .i64 op, .int .i64 d, .int .i64 n, .int .i64 m, .int .i64 i], .int .i64 0]) := by
                      show _ = _
                      have := parOpt_hit L l HL.out op k hlt (by rw [HIT.out, heq]; simp)
                      rw [← HC.out] at this
                      exact this
                    subst heq
                    have hz5 := heap_keep HZ.out HB5.out
                    have hzc := fun i => Lib.cell_of_heap hz5 i
                    have hzf := fun i => Lib.frozen_of_heap hz5 i
                    have HZl := (Array.getElem?_eq_some_iff.1 HZ.out).1
                    obtain ⟨b0, b1, b2, b3, b4, fz, hlz⟩ := HX5.out
                    clear hz5
                    go_wp2_with fail
                    refine bodyPost_ret (v := .tuple #[.agg #[.int .i64 op, .int .i64 d, .int .i64 n, .int .i64 m, .int .i64 i], .int .i64 0]) (by simp [results, Tryd.results10, go_sem, hzc]) rfl ?_
                    rw [HR.out]
                    refine ⟨rfl, ?_⟩
                    have hBw : Below w.heap.size w w5 := HB.out.trans (HB5.out.mono HB.out.size)
                    exact (((((hBw.setCell (p := ⟨w.heap.size, 0, none⟩) (Nat.le_refl _) _).setCell (p := ⟨w.heap.size, 1, none⟩) (Nat.le_refl _) _).setCell (p := ⟨w.heap.size, 2, none⟩) (Nat.le_refl _) _).setCell (p := ⟨w.heap.size, 3, none⟩) (Nat.le_refl _) _).setCell (p := ⟨w.heap.size, 4, none⟩) (Nat.le_refl _) _)
                  · have hne2 : (S == l) = false := by simpa using heq
                    have HM2 := Lib.hid (HM.out.next (by rw [HIT.out, hne2]; rfl))
                    clear heq
                    go_wp2_with fail
                    go_roundw
                    case rel => exact ⟨k + 1, by go_num, hkl, HM2, hN⟩
                    case measure => simp [intOf]; omega
          · obtain rfl : k = moreV op := by omega
            have HN := Lib.hid (HM.out.up (Nat.le_refl _))
            obtain ⟨d, n, m, i, hq, hx, hb⟩ := HH.out
            have HBK := Lib.hid hb
            clear hq hx hb HH HM hkl
            go_wp2_with fail
            go_roundw
            case rel => exact ⟨op + 1, by go_num, hlt, HN, heap_keep HZ.out HBK.out, HS.out.keep HBK.out, HB.out.trans (HBK.out.mono HB.out.size)⟩
            case measure => simp [intOf]; omega
    · obtain rfl : op = 21 := by omega
      have HR : Hid (parOpt none = parOpt (parseV canB l)) := by show _ = _; rw [miss_parse l (fun op h j hj => by rw [← HL.out]; exact HM.out.1 op h j hj)]
      clear hlt HM
      have hzc := fun i => Lib.cell_of_heap HZ.out i
      have hzf := fun i => Lib.frozen_of_heap HZ.out i
      have HZl := (Array.getElem?_eq_some_iff.1 HZ.out).1
      go_wp2_with fail
      refine bodyPost_ret (v := parOpt none) (by simp [results, Tryd.results10, go_sem, parOpt, hzc]) rfl ?_
      rw [HR.out]
      refine ⟨rfl, ?_⟩
      exact (((((HB.out.setCell (p := ⟨w.heap.size, 0, none⟩) (Nat.le_refl _) _).setCell (p := ⟨w.heap.size, 1, none⟩) (Nat.le_refl _) _).setCell (p := ⟨w.heap.size, 2, none⟩) (Nat.le_refl _) _).setCell (p := ⟨w.heap.size, 3, none⟩) (Nat.le_refl _) _).setCell (p := ⟨w.heap.size, 4, none⟩) (Nat.le_refl _) _)
end Go.Proofs.YtagjnannnahplaaDoor
