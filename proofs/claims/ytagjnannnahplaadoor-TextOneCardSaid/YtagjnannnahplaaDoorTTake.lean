/- thumb.Take. -/
import Derived.Test.YtagjnannnahplaaDoorTPure8
import Derived.Test.YtagjnannnahplaaDoorTShowAny
import Derived.Test.YtagjnannnahplaaDoorTBox
import Derived.Laws.BitsLemmas
import Derived.Deep.DeepCutAuto
import Derived.Deep.CutBlock
import Derived.Deep.QuietTactic
import Derived.BigQuiet
import Derived.Test.YtagjnannnahplaaDoorTPutA
import Derived.Test.YtagjnannnahplaaDoorTPutB
import Derived.Test.YtagjnannnahplaaDoorTPutC
import Derived.Test.YtagjnannnahplaaDoorTPutD
import Derived.Test.YtagjnannnahplaaDoorTTop
namespace Go.Proofs.YtagjnannnahplaaDoor
open Go.RowKit
set_option linter.unusedVariables false
set_option linter.unusedSimpArgs false
theorem shapes_any (k : Nat) (hk : k < 21) : ShapesAt k := by
  match k, hk with
  | 0, _ => exact shapes_0
  | 1, _ => exact shapes_1
  | 2, _ => exact shapes_2
  | 3, _ => exact shapes_3
  | 4, _ => exact shapes_4
  | 5, _ => exact shapes_5
  | 6, _ => exact shapes_6
  | 7, _ => exact shapes_7
  | 8, _ => exact shapes_8
  | 9, _ => exact shapes_9
  | 10, _ => exact shapes_10
  | 11, _ => exact shapes_11
  | 12, _ => exact shapes_12
  | 13, _ => exact shapes_13
  | 14, _ => exact shapes_14
  | 15, _ => exact shapes_15
  | 16, _ => exact shapes_16
  | 17, _ => exact shapes_17
  | 18, _ => exact shapes_18
  | 19, _ => exact shapes_19
  | 20, _ => exact shapes_20
  | k + 21, h => exact absurd h (by omega)
theorem put_any (k : Nat) (hk : k < 21) : PutAt k := by
  match k, hk with
  | 0, _ => exact put_0
  | 1, _ => exact put_1
  | 2, _ => exact put_2
  | 3, _ => exact put_3
  | 4, _ => exact put_4
  | 5, _ => exact put_5
  | 6, _ => exact put_6
  | 7, _ => exact put_7
  | 8, _ => exact put_8
  | 9, _ => exact put_9
  | 10, _ => exact put_10
  | 11, _ => exact put_11
  | 12, _ => exact put_12
  | 13, _ => exact put_13
  | 14, _ => exact put_14
  | 15, _ => exact put_15
  | 16, _ => exact put_16
  | 17, _ => exact put_17
  | 18, _ => exact put_18
  | 19, _ => exact put_19
  | 20, _ => exact put_20
  | k + 21, h => exact absurd h (by omega)
theorem shp_A (op : Nat) (h : op < 4 ∨ op = 16) : ∃ b, shapeOf op = ⟨b, ⟨100, 8, 3⟩, ⟨105, 0, 8⟩, ⟨0, 0, 0⟩, 0, 255⟩ := by
  have h2 : op = 0 ∨ op = 1 ∨ op = 2 ∨ op = 3 ∨ op = 16 := by omega
  rcases h2 with rfl | rfl | rfl | rfl | rfl <;> exact ⟨_, rfl⟩
theorem dec_A (op : Nat) (hc : op < 4 ∨ op = 16) (h : Int) : decV op h = (h / 256 % 8, 0, 0, h % 256) := by
  have h2 : op = 0 ∨ op = 1 ∨ op = 2 ∨ op = 3 ∨ op = 16 := by omega
  rcases h2 with rfl | rfl | rfl | rfl | rfl <;> rfl
theorem shp_B (op : Nat) (h : op = 4) : ∃ b, shapeOf op = ⟨b, ⟨105, 6, 5⟩, ⟨109, 3, 3⟩, ⟨100, 0, 3⟩, 0, 31⟩ := by
  have h2 : op = 4 := by omega
  rcases h2 with rfl <;> exact ⟨_, rfl⟩
theorem dec_B (op : Nat) (hc : op = 4) (h : Int) : decV op h = (h % 8, 0, h / 8 % 8, h / 64 % 32) := by
  have h2 : op = 4 := by omega
  rcases h2 with rfl <;> rfl
theorem shp_C (op : Nat) (h : op = 5 ∨ op = 6) : ∃ b, shapeOf op = ⟨b, ⟨105, 6, 5⟩, ⟨109, 3, 3⟩, ⟨100, 0, 3⟩, 1, 32⟩ := by
  have h2 : op = 5 ∨ op = 6 := by omega
  rcases h2 with rfl | rfl <;> exact ⟨_, rfl⟩
theorem dec_C (op : Nat) (hc : op = 5 ∨ op = 6) (h : Int) : decV op h = (h % 8, 0, h / 8 % 8, (if h / 64 % 32 = 0 then 32 else h / 64 % 32)) := by
  have h2 : op = 5 ∨ op = 6 := by omega
  rcases h2 with rfl | rfl <;> rfl
theorem shp_D (op : Nat) (h : op = 7 ∨ op = 8 ∨ op = 14 ∨ op = 15) : ∃ b, shapeOf op = ⟨b, ⟨109, 6, 3⟩, ⟨110, 3, 3⟩, ⟨100, 0, 3⟩, 0, 0⟩ := by
  have h2 : op = 7 ∨ op = 8 ∨ op = 14 ∨ op = 15 := by omega
  rcases h2 with rfl | rfl | rfl | rfl <;> exact ⟨_, rfl⟩
theorem dec_D (op : Nat) (hc : op = 7 ∨ op = 8 ∨ op = 14 ∨ op = 15) (h : Int) : decV op h = (h % 8, h / 8 % 8, h / 64 % 8, 0) := by
  have h2 : op = 7 ∨ op = 8 ∨ op = 14 ∨ op = 15 := by omega
  rcases h2 with rfl | rfl | rfl | rfl <;> rfl
theorem shp_E (op : Nat) (h : op = 9 ∨ op = 10) : ∃ b, shapeOf op = ⟨b, ⟨105, 6, 3⟩, ⟨110, 3, 3⟩, ⟨100, 0, 3⟩, 0, 7⟩ := by
  have h2 : op = 9 ∨ op = 10 := by omega
  rcases h2 with rfl | rfl <;> exact ⟨_, rfl⟩
theorem dec_E (op : Nat) (hc : op = 9 ∨ op = 10) (h : Int) : decV op h = (h % 8, h / 8 % 8, 0, h / 64 % 8) := by
  have h2 : op = 9 ∨ op = 10 := by omega
  rcases h2 with rfl | rfl <;> rfl
theorem shp_F (op : Nat) (h : op = 11) : ∃ b, shapeOf op = ⟨b, ⟨105, 6, 4⟩, ⟨109, 3, 3⟩, ⟨100, 0, 3⟩, 0, 15⟩ := by
  have h2 : op = 11 := by omega
  rcases h2 with rfl <;> exact ⟨_, rfl⟩
theorem dec_F (op : Nat) (hc : op = 11) (h : Int) : decV op h = (h % 8, 0, h / 8 % 8, h / 64 % 16) := by
  have h2 : op = 11 := by omega
  rcases h2 with rfl <;> rfl
theorem shp_G (op : Nat) (h : op = 12 ∨ op = 13) : ∃ b, shapeOf op = ⟨b, ⟨105, 6, 5⟩, ⟨110, 3, 3⟩, ⟨100, 0, 3⟩, 0, 31⟩ := by
  have h2 : op = 12 ∨ op = 13 := by omega
  rcases h2 with rfl | rfl <;> exact ⟨_, rfl⟩
theorem dec_G (op : Nat) (hc : op = 12 ∨ op = 13) (h : Int) : decV op h = (h % 8, h / 8 % 8, 0, h / 64 % 32) := by
  have h2 : op = 12 ∨ op = 13 := by omega
  rcases h2 with rfl | rfl <;> rfl
theorem shp_H (op : Nat) (h : op = 17) : ∃ b, shapeOf op = ⟨b, ⟨105, 0, 11⟩, ⟨0, 0, 0⟩, ⟨0, 0, 0⟩, -1024, 1023⟩ := by
  have h2 : op = 17 := by omega
  rcases h2 with rfl <;> exact ⟨_, rfl⟩
theorem dec_H (op : Nat) (hc : op = 17) (h : Int) : decV op h = (0, 0, 0, (if 1023 < h % 2048 then h % 2048 - 2048 else h % 2048)) := by
  have h2 : op = 17 := by omega
  rcases h2 with rfl <;> rfl
theorem shp_I (op : Nat) (h : op = 18) : ∃ b, shapeOf op = ⟨b, ⟨99, 8, 4⟩, ⟨105, 0, 8⟩, ⟨0, 0, 0⟩, -128, 127⟩ := by
  have h2 : op = 18 := by omega
  rcases h2 with rfl <;> exact ⟨_, rfl⟩
theorem dec_I (op : Nat) (hc : op = 18) (h : Int) : decV op h = (h / 256 % 16, 0, 0, (if 127 < h % 256 then h % 256 - 256 else h % 256)) := by
  have h2 : op = 18 := by omega
  rcases h2 with rfl <;> rfl
theorem shp_J (op : Nat) (h : op = 19) : ∃ b, shapeOf op = ⟨b, ⟨0, 0, 0⟩, ⟨0, 0, 0⟩, ⟨0, 0, 0⟩, 0, 0⟩ := by
  have h2 : op = 19 := by omega
  rcases h2 with rfl <;> exact ⟨_, rfl⟩
theorem dec_J (op : Nat) (hc : op = 19) (h : Int) : decV op h = (0, 0, 0, 0) := by
  have h2 : op = 19 := by omega
  rcases h2 with rfl <;> rfl
theorem shp_K (op : Nat) (h : op = 20) : ∃ b, shapeOf op = ⟨b, ⟨105, 0, 8⟩, ⟨0, 0, 0⟩, ⟨0, 0, 0⟩, 0, 255⟩ := by
  have h2 : op = 20 := by omega
  rcases h2 with rfl <;> exact ⟨_, rfl⟩
theorem dec_K (op : Nat) (hc : op = 20) (h : Int) : decV op h = (0, 0, 0, h % 256) := by
  have h2 : op = 20 := by omega
  rcases h2 with rfl <;> rfl
theorem wraps_u16 : ∀ z : Int, 0 ≤ z → z < 2 ^ 16 → IntKind.u16.wrap z = z := fun z h0 h1 => by rw [IntKind.wrap_u16]; omega
theorem u16_mask (x m : Int) (k : Nat) (hk : k ≤ 16) (hm : m = 2 ^ k - 1) (h0 : 0 ≤ x) (h1 : x < 65536) : bits .and .u16 x m = x % 2 ^ k := by
  subst hm
  exact bits_mask .u16 16 (by decide) wraps_u16 k hk x h0 h1
/-- Behind the parts' loop: the instruction that the halfword holds as this sort. -/
def TakeHeld (h : Int) (op : Nat) (w1 wc : World) : Prop := ∃ d n m i, (d, n, m, i) = decV op h ∧ IBox wc (w1.heap.size + 1) op d n m i ∧ Below w1.heap.size w1 wc
/-- Take's answer as a value. -/
def takeOpt : Option (Nat × Int × Int × Int × Int) → Value
  | some (k, d, n, m, imm) => .tuple #[.agg #[.int .i64 k, .int .i64 d, .int .i64 n, .int .i64 m, .int .i64 imm], .int .i64 0]
  | none => .tuple #[.agg #[.int .i64 0, .int .i64 0, .int .i64 0, .int .i64 0, .int .i64 0], .int .i64 20]
set_option maxRecDepth 100000 in
set_option maxHeartbeats 16000000 in
theorem take_any (h : Nat) (hh : h < 65536) (w : World) :
    Calls Tryd.prog 37 #[.int .u16 h] w fun e w' => e = .returned (takeOpt (takeV h)) ∧ Below w.heap.size w w' := by
  have hB0 : Below w.heap.size w (w.alloc (.cells #[.int .i64 0, .int .i64 0, .int .i64 0, .int .i64 0, .int .i64 0] 23)) := (Below.refl _ _).alloc (Nat.le_refl _) _
  have HB0 := Lib.hid hB0
  clear hB0
  have HZ0 := Lib.hid (heap_alloc_new w (.cells #[.int .i64 0, .int .i64 0, .int .i64 0, .int .i64 0, .int .i64 0] 23))
  have HT0 : Hid (takeV (h : Int) = takeFrom (h : Int) (21 - 0) 0) := rfl
  go_enter Tryd.func37, Tryd.ntmps37
  go_wp2_with fail
  go_loopw [10] (fun o wr => ∃ op : Nat, o = .int .i64 op ∧ op ≤ 21 ∧ Hid (takeV (h : Int) = takeFrom (h : Int) (21 - op) op) ∧ Hid (wr.heap[w.heap.size]? = some (.cells #[.int .i64 0, .int .i64 0, .int .i64 0, .int .i64 0, .int .i64 0] 23 (0, 0))) ∧ Hid (Below w.heap.size w wr)) (fun o _ => 21 - (intOf o).toNat)
  case atStart => exact ⟨0, rfl, by omega, HT0, HZ0, HB0⟩
  case round =>
    clear HT0 HZ0 HB0
    obtain ⟨op, rfl, hop, HT, HZ, HB⟩ := hrel
    by_cases hlt : op < 21
    · have hlt' : (op : Int) < 21 := by omega
      go_wp2_with fail
      refine (shapes_any op hlt _).mono ?_
      rintro e w1 ⟨he, hb1⟩
      obtain ⟨⟨bts, ⟨o0, a0, x0⟩, ⟨o1, a1, x1⟩, ⟨o2, a2, x2⟩, low, high⟩, hS⟩ : ∃ S, S = shapeOf op := ⟨_, rfl⟩
      rw [← hS] at he
      simp only [Shape.val] at he
      subst he
      have HS := Lib.hid hS
      have HB1 : Hid (Below w.heap.size w w1) := HB.out.trans (hb1.mono HB.out.size)
      have HZ1 := Lib.hid (heap_keep HZ.out hb1)
      clear hS hb1 HB HZ
      go_upto_block 2 with (fail)
      go_cut [19] (fun v wc => Hid (TakeHeld h op w1 wc))
      case first =>
        have i0 := idx_0
        have i1 := idx_1
        have i2 := idx_2
        have hcl : (op < 4 ∨ op = 16) ∨ (op = 4) ∨ (op = 5 ∨ op = 6) ∨ (op = 7 ∨ op = 8 ∨ op = 14 ∨ op = 15) ∨ (op = 9 ∨ op = 10) ∨ (op = 11) ∨ (op = 12 ∨ op = 13) ∨ (op = 17) ∨ (op = 18) ∨ (op = 19) ∨ (op = 20) := by omega
        rcases hcl with hcl | hcl | hcl | hcl | hcl | hcl | hcl | hcl | hcl | hcl | hcl
        · skip
          obtain ⟨bt, hs⟩ := shp_A op hcl
          rw [← HS.out] at hs
          simp only [Shape.mk.injEq, Part.mk.injEq] at hs
          obtain ⟨rfl, ⟨rfl, rfl, rfl⟩, ⟨rfl, rfl, rfl⟩, ⟨rfl, rfl, rfl⟩, rfl, rfl⟩ := hs
          have HD := Lib.hid (dec_A op hcl (h : Int))
          clear hcl
          have e0 : bits BinOp.and IntKind.u16 ((h : Int) / 256) 7 = (h : Int) / 256 % 8 := u16_mask _ _ 3 (by decide) (by decide) (by omega) (by omega)
          have e1 : bits BinOp.and IntKind.u16 ((h : Int)) 255 = (h : Int) % 256 := u16_mask _ _ 8 (by decide) (by decide) (by omega) (by omega)
          go_wp2_with fail
          refine wp_loop_rounds 4 ?_
          rw [rounds_succ]
          go_wp2_with fail
          go_quiet (fail)
          go_wp2_with fail
          refine (field_d _ _).mono ?_
          rintro e wz ⟨rfl, rfl⟩
          go_wp2_with fail
          rw [rounds_succ]
          go_wp2_with fail
          go_quiet (fail)
          go_wp2_with fail
          refine (field_i _ _).mono ?_
          rintro e wz ⟨rfl, rfl⟩
          go_wp2_with fail
          rw [rounds_succ]
          go_wp2_with fail
          rw [rounds_succ]
          go_wp2_with fail
          go_meet
          refine ⟨((h : Int) / 256 % 8), 0, 0, ((h : Int) % 256), HD.out.symm, ⟨by go_simp, by go_simp, by go_simp, by go_simp, by go_simp, fun j => by go_simp, by simp <;> omega⟩, ?_⟩
          repeat' first | exact Below.refl _ _ | refine Below.alloc ?_ (by first | exact Nat.le_refl _ | (simp <;> omega)) _ | refine below_drewN ?_ _ | refine Below.drew ?_ | refine Below.setCell ?_ (by simp <;> omega) _
        · skip
          obtain ⟨bt, hs⟩ := shp_B op hcl
          rw [← HS.out] at hs
          simp only [Shape.mk.injEq, Part.mk.injEq] at hs
          obtain ⟨rfl, ⟨rfl, rfl, rfl⟩, ⟨rfl, rfl, rfl⟩, ⟨rfl, rfl, rfl⟩, rfl, rfl⟩ := hs
          have HD := Lib.hid (dec_B op hcl (h : Int))
          clear hcl
          have e0 : bits BinOp.and IntKind.u16 ((h : Int) / 64) 31 = (h : Int) / 64 % 32 := u16_mask _ _ 5 (by decide) (by decide) (by omega) (by omega)
          have e1 : bits BinOp.and IntKind.u16 ((h : Int) / 8) 7 = (h : Int) / 8 % 8 := u16_mask _ _ 3 (by decide) (by decide) (by omega) (by omega)
          have e2 : bits BinOp.and IntKind.u16 ((h : Int)) 7 = (h : Int) % 8 := u16_mask _ _ 3 (by decide) (by decide) (by omega) (by omega)
          go_wp2_with fail
          refine wp_loop_rounds 4 ?_
          rw [rounds_succ]
          go_wp2_with fail
          go_quiet (fail)
          go_wp2_with fail
          refine (field_i _ _).mono ?_
          rintro e wz ⟨rfl, rfl⟩
          go_wp2_with fail
          rw [rounds_succ]
          go_wp2_with fail
          go_quiet (fail)
          go_wp2_with fail
          refine (field_m _ _).mono ?_
          rintro e wz ⟨rfl, rfl⟩
          go_wp2_with fail
          rw [rounds_succ]
          go_wp2_with fail
          go_quiet (fail)
          go_wp2_with fail
          refine (field_d _ _).mono ?_
          rintro e wz ⟨rfl, rfl⟩
          go_wp2_with fail
          rw [rounds_succ]
          go_wp2_with fail
          go_meet
          refine ⟨((h : Int) % 8), 0, ((h : Int) / 8 % 8), ((h : Int) / 64 % 32), HD.out.symm, ⟨by go_simp, by go_simp, by go_simp, by go_simp, by go_simp, fun j => by go_simp, by simp <;> omega⟩, ?_⟩
          repeat' first | exact Below.refl _ _ | refine Below.alloc ?_ (by first | exact Nat.le_refl _ | (simp <;> omega)) _ | refine below_drewN ?_ _ | refine Below.drew ?_ | refine Below.setCell ?_ (by simp <;> omega) _
        · skip
          obtain ⟨bt, hs⟩ := shp_C op hcl
          rw [← HS.out] at hs
          simp only [Shape.mk.injEq, Part.mk.injEq] at hs
          obtain ⟨rfl, ⟨rfl, rfl, rfl⟩, ⟨rfl, rfl, rfl⟩, ⟨rfl, rfl, rfl⟩, rfl, rfl⟩ := hs
          have HD := Lib.hid (dec_C op hcl (h : Int))
          clear hcl
          have e0 : bits BinOp.and IntKind.u16 ((h : Int) / 64) 31 = (h : Int) / 64 % 32 := u16_mask _ _ 5 (by decide) (by decide) (by omega) (by omega)
          have e1 : bits BinOp.and IntKind.u16 ((h : Int) / 8) 7 = (h : Int) / 8 % 8 := u16_mask _ _ 3 (by decide) (by decide) (by omega) (by omega)
          have e2 : bits BinOp.and IntKind.u16 ((h : Int)) 7 = (h : Int) % 8 := u16_mask _ _ 3 (by decide) (by decide) (by omega) (by omega)
          by_cases hz : (h : Int) / 64 % 32 = 0
          · have hz2 : ((h : Int) / 64 % 32 == 0) = true := beq_iff_eq.2 hz
            have HD2 := Lib.hid (HD.out.trans (by rw [if_pos hz]))
            clear HD hz
            go_wp2_with fail
            refine wp_loop_rounds 4 ?_
            rw [rounds_succ]
            go_wp2_with fail
            go_quiet (fail)
            go_wp2_with fail
            refine (field_i _ _).mono ?_
            rintro e wz ⟨rfl, rfl⟩
            go_wp2_with fail
            rw [rounds_succ]
            go_wp2_with fail
            go_quiet (fail)
            go_wp2_with fail
            refine (field_m _ _).mono ?_
            rintro e wz ⟨rfl, rfl⟩
            go_wp2_with fail
            rw [rounds_succ]
            go_wp2_with fail
            go_quiet (fail)
            go_wp2_with fail
            refine (field_d _ _).mono ?_
            rintro e wz ⟨rfl, rfl⟩
            go_wp2_with fail
            rw [rounds_succ]
            go_wp2_with fail
            go_meet
            refine ⟨((h : Int) % 8), 0, ((h : Int) / 8 % 8), 32, HD2.out.symm, ⟨by go_simp, by go_simp, by go_simp, by go_simp, by go_simp, fun j => by go_simp, by simp <;> omega⟩, ?_⟩
            repeat' first | exact Below.refl _ _ | refine Below.alloc ?_ (by first | exact Nat.le_refl _ | (simp <;> omega)) _ | refine below_drewN ?_ _ | refine Below.drew ?_ | refine Below.setCell ?_ (by simp <;> omega) _
          · have hz2 : ((h : Int) / 64 % 32 == 0) = false := beq_eq_false_iff_ne.2 hz
            have HD2 := Lib.hid (HD.out.trans (by rw [if_neg hz]))
            clear HD hz
            go_wp2_with fail
            refine wp_loop_rounds 4 ?_
            rw [rounds_succ]
            go_wp2_with fail
            go_quiet (fail)
            go_wp2_with fail
            refine (field_i _ _).mono ?_
            rintro e wz ⟨rfl, rfl⟩
            go_wp2_with fail
            rw [rounds_succ]
            go_wp2_with fail
            go_quiet (fail)
            go_wp2_with fail
            refine (field_m _ _).mono ?_
            rintro e wz ⟨rfl, rfl⟩
            go_wp2_with fail
            rw [rounds_succ]
            go_wp2_with fail
            go_quiet (fail)
            go_wp2_with fail
            refine (field_d _ _).mono ?_
            rintro e wz ⟨rfl, rfl⟩
            go_wp2_with fail
            rw [rounds_succ]
            go_wp2_with fail
            go_meet
            refine ⟨((h : Int) % 8), 0, ((h : Int) / 8 % 8), ((h : Int) / 64 % 32), HD2.out.symm, ⟨by go_simp, by go_simp, by go_simp, by go_simp, by go_simp, fun j => by go_simp, by simp <;> omega⟩, ?_⟩
            repeat' first | exact Below.refl _ _ | refine Below.alloc ?_ (by first | exact Nat.le_refl _ | (simp <;> omega)) _ | refine below_drewN ?_ _ | refine Below.drew ?_ | refine Below.setCell ?_ (by simp <;> omega) _
        · skip
          obtain ⟨bt, hs⟩ := shp_D op hcl
          rw [← HS.out] at hs
          simp only [Shape.mk.injEq, Part.mk.injEq] at hs
          obtain ⟨rfl, ⟨rfl, rfl, rfl⟩, ⟨rfl, rfl, rfl⟩, ⟨rfl, rfl, rfl⟩, rfl, rfl⟩ := hs
          have HD := Lib.hid (dec_D op hcl (h : Int))
          clear hcl
          have e0 : bits BinOp.and IntKind.u16 ((h : Int) / 64) 7 = (h : Int) / 64 % 8 := u16_mask _ _ 3 (by decide) (by decide) (by omega) (by omega)
          have e1 : bits BinOp.and IntKind.u16 ((h : Int) / 8) 7 = (h : Int) / 8 % 8 := u16_mask _ _ 3 (by decide) (by decide) (by omega) (by omega)
          have e2 : bits BinOp.and IntKind.u16 ((h : Int)) 7 = (h : Int) % 8 := u16_mask _ _ 3 (by decide) (by decide) (by omega) (by omega)
          go_wp2_with fail
          refine wp_loop_rounds 4 ?_
          rw [rounds_succ]
          go_wp2_with fail
          go_quiet (fail)
          go_wp2_with fail
          refine (field_m _ _).mono ?_
          rintro e wz ⟨rfl, rfl⟩
          go_wp2_with fail
          rw [rounds_succ]
          go_wp2_with fail
          go_quiet (fail)
          go_wp2_with fail
          refine (field_n _ _).mono ?_
          rintro e wz ⟨rfl, rfl⟩
          go_wp2_with fail
          rw [rounds_succ]
          go_wp2_with fail
          go_quiet (fail)
          go_wp2_with fail
          refine (field_d _ _).mono ?_
          rintro e wz ⟨rfl, rfl⟩
          go_wp2_with fail
          rw [rounds_succ]
          go_wp2_with fail
          go_meet
          refine ⟨((h : Int) % 8), ((h : Int) / 8 % 8), ((h : Int) / 64 % 8), 0, HD.out.symm, ⟨by go_simp, by go_simp, by go_simp, by go_simp, by go_simp, fun j => by go_simp, by simp <;> omega⟩, ?_⟩
          repeat' first | exact Below.refl _ _ | refine Below.alloc ?_ (by first | exact Nat.le_refl _ | (simp <;> omega)) _ | refine below_drewN ?_ _ | refine Below.drew ?_ | refine Below.setCell ?_ (by simp <;> omega) _
        · skip
          obtain ⟨bt, hs⟩ := shp_E op hcl
          rw [← HS.out] at hs
          simp only [Shape.mk.injEq, Part.mk.injEq] at hs
          obtain ⟨rfl, ⟨rfl, rfl, rfl⟩, ⟨rfl, rfl, rfl⟩, ⟨rfl, rfl, rfl⟩, rfl, rfl⟩ := hs
          have HD := Lib.hid (dec_E op hcl (h : Int))
          clear hcl
          have e0 : bits BinOp.and IntKind.u16 ((h : Int) / 64) 7 = (h : Int) / 64 % 8 := u16_mask _ _ 3 (by decide) (by decide) (by omega) (by omega)
          have e1 : bits BinOp.and IntKind.u16 ((h : Int) / 8) 7 = (h : Int) / 8 % 8 := u16_mask _ _ 3 (by decide) (by decide) (by omega) (by omega)
          have e2 : bits BinOp.and IntKind.u16 ((h : Int)) 7 = (h : Int) % 8 := u16_mask _ _ 3 (by decide) (by decide) (by omega) (by omega)
          go_wp2_with fail
          refine wp_loop_rounds 4 ?_
          rw [rounds_succ]
          go_wp2_with fail
          go_quiet (fail)
          go_wp2_with fail
          refine (field_i _ _).mono ?_
          rintro e wz ⟨rfl, rfl⟩
          go_wp2_with fail
          rw [rounds_succ]
          go_wp2_with fail
          go_quiet (fail)
          go_wp2_with fail
          refine (field_n _ _).mono ?_
          rintro e wz ⟨rfl, rfl⟩
          go_wp2_with fail
          rw [rounds_succ]
          go_wp2_with fail
          go_quiet (fail)
          go_wp2_with fail
          refine (field_d _ _).mono ?_
          rintro e wz ⟨rfl, rfl⟩
          go_wp2_with fail
          rw [rounds_succ]
          go_wp2_with fail
          go_meet
          refine ⟨((h : Int) % 8), ((h : Int) / 8 % 8), 0, ((h : Int) / 64 % 8), HD.out.symm, ⟨by go_simp, by go_simp, by go_simp, by go_simp, by go_simp, fun j => by go_simp, by simp <;> omega⟩, ?_⟩
          repeat' first | exact Below.refl _ _ | refine Below.alloc ?_ (by first | exact Nat.le_refl _ | (simp <;> omega)) _ | refine below_drewN ?_ _ | refine Below.drew ?_ | refine Below.setCell ?_ (by simp <;> omega) _
        · skip
          obtain ⟨bt, hs⟩ := shp_F op hcl
          rw [← HS.out] at hs
          simp only [Shape.mk.injEq, Part.mk.injEq] at hs
          obtain ⟨rfl, ⟨rfl, rfl, rfl⟩, ⟨rfl, rfl, rfl⟩, ⟨rfl, rfl, rfl⟩, rfl, rfl⟩ := hs
          have HD := Lib.hid (dec_F op hcl (h : Int))
          clear hcl
          have e0 : bits BinOp.and IntKind.u16 ((h : Int) / 64) 15 = (h : Int) / 64 % 16 := u16_mask _ _ 4 (by decide) (by decide) (by omega) (by omega)
          have e1 : bits BinOp.and IntKind.u16 ((h : Int) / 8) 7 = (h : Int) / 8 % 8 := u16_mask _ _ 3 (by decide) (by decide) (by omega) (by omega)
          have e2 : bits BinOp.and IntKind.u16 ((h : Int)) 7 = (h : Int) % 8 := u16_mask _ _ 3 (by decide) (by decide) (by omega) (by omega)
          go_wp2_with fail
          refine wp_loop_rounds 4 ?_
          rw [rounds_succ]
          go_wp2_with fail
          go_quiet (fail)
          go_wp2_with fail
          refine (field_i _ _).mono ?_
          rintro e wz ⟨rfl, rfl⟩
          go_wp2_with fail
          rw [rounds_succ]
          go_wp2_with fail
          go_quiet (fail)
          go_wp2_with fail
          refine (field_m _ _).mono ?_
          rintro e wz ⟨rfl, rfl⟩
          go_wp2_with fail
          rw [rounds_succ]
          go_wp2_with fail
          go_quiet (fail)
          go_wp2_with fail
          refine (field_d _ _).mono ?_
          rintro e wz ⟨rfl, rfl⟩
          go_wp2_with fail
          rw [rounds_succ]
          go_wp2_with fail
          go_meet
          refine ⟨((h : Int) % 8), 0, ((h : Int) / 8 % 8), ((h : Int) / 64 % 16), HD.out.symm, ⟨by go_simp, by go_simp, by go_simp, by go_simp, by go_simp, fun j => by go_simp, by simp <;> omega⟩, ?_⟩
          repeat' first | exact Below.refl _ _ | refine Below.alloc ?_ (by first | exact Nat.le_refl _ | (simp <;> omega)) _ | refine below_drewN ?_ _ | refine Below.drew ?_ | refine Below.setCell ?_ (by simp <;> omega) _
        · skip
          obtain ⟨bt, hs⟩ := shp_G op hcl
          rw [← HS.out] at hs
          simp only [Shape.mk.injEq, Part.mk.injEq] at hs
          obtain ⟨rfl, ⟨rfl, rfl, rfl⟩, ⟨rfl, rfl, rfl⟩, ⟨rfl, rfl, rfl⟩, rfl, rfl⟩ := hs
          have HD := Lib.hid (dec_G op hcl (h : Int))
          clear hcl
          have e0 : bits BinOp.and IntKind.u16 ((h : Int) / 64) 31 = (h : Int) / 64 % 32 := u16_mask _ _ 5 (by decide) (by decide) (by omega) (by omega)
          have e1 : bits BinOp.and IntKind.u16 ((h : Int) / 8) 7 = (h : Int) / 8 % 8 := u16_mask _ _ 3 (by decide) (by decide) (by omega) (by omega)
          have e2 : bits BinOp.and IntKind.u16 ((h : Int)) 7 = (h : Int) % 8 := u16_mask _ _ 3 (by decide) (by decide) (by omega) (by omega)
          go_wp2_with fail
          refine wp_loop_rounds 4 ?_
          rw [rounds_succ]
          go_wp2_with fail
          go_quiet (fail)
          go_wp2_with fail
          refine (field_i _ _).mono ?_
          rintro e wz ⟨rfl, rfl⟩
          go_wp2_with fail
          rw [rounds_succ]
          go_wp2_with fail
          go_quiet (fail)
          go_wp2_with fail
          refine (field_n _ _).mono ?_
          rintro e wz ⟨rfl, rfl⟩
          go_wp2_with fail
          rw [rounds_succ]
          go_wp2_with fail
          go_quiet (fail)
          go_wp2_with fail
          refine (field_d _ _).mono ?_
          rintro e wz ⟨rfl, rfl⟩
          go_wp2_with fail
          rw [rounds_succ]
          go_wp2_with fail
          go_meet
          refine ⟨((h : Int) % 8), ((h : Int) / 8 % 8), 0, ((h : Int) / 64 % 32), HD.out.symm, ⟨by go_simp, by go_simp, by go_simp, by go_simp, by go_simp, fun j => by go_simp, by simp <;> omega⟩, ?_⟩
          repeat' first | exact Below.refl _ _ | refine Below.alloc ?_ (by first | exact Nat.le_refl _ | (simp <;> omega)) _ | refine below_drewN ?_ _ | refine Below.drew ?_ | refine Below.setCell ?_ (by simp <;> omega) _
        · skip
          obtain ⟨bt, hs⟩ := shp_H op hcl
          rw [← HS.out] at hs
          simp only [Shape.mk.injEq, Part.mk.injEq] at hs
          obtain ⟨rfl, ⟨rfl, rfl, rfl⟩, ⟨rfl, rfl, rfl⟩, ⟨rfl, rfl, rfl⟩, rfl, rfl⟩ := hs
          have HD := Lib.hid (dec_H op hcl (h : Int))
          clear hcl
          have e0 : bits BinOp.and IntKind.u16 ((h : Int)) 2047 = (h : Int) % 2048 := u16_mask _ _ 11 (by decide) (by decide) (by omega) (by omega)
          by_cases hz : 1023 < (h : Int) % 2048
          · have HD2 := Lib.hid (HD.out.trans (by rw [if_pos hz]))
            clear HD
            go_wp2_with fail
            refine wp_loop_rounds 4 ?_
            rw [rounds_succ]
            go_wp2_with fail
            go_quiet (fail)
            go_wp2_with fail
            refine (field_i _ _).mono ?_
            rintro e wz ⟨rfl, rfl⟩
            go_wp2_with fail
            rw [rounds_succ]
            go_wp2_with fail
            rw [rounds_succ]
            go_wp2_with fail
            rw [rounds_succ]
            go_wp2_with fail
            go_meet
            refine ⟨0, 0, 0, ((h : Int) % 2048 - 2048), HD2.out.symm, ⟨by go_simp, by go_simp, by go_simp, by go_simp, by go_simp, fun j => by go_simp, by simp <;> omega⟩, ?_⟩
            repeat' first | exact Below.refl _ _ | refine Below.alloc ?_ (by first | exact Nat.le_refl _ | (simp <;> omega)) _ | refine below_drewN ?_ _ | refine Below.drew ?_ | refine Below.setCell ?_ (by simp <;> omega) _
          · have HD2 := Lib.hid (HD.out.trans (by rw [if_neg hz]))
            clear HD
            go_wp2_with fail
            refine wp_loop_rounds 4 ?_
            rw [rounds_succ]
            go_wp2_with fail
            go_quiet (fail)
            go_wp2_with fail
            refine (field_i _ _).mono ?_
            rintro e wz ⟨rfl, rfl⟩
            go_wp2_with fail
            rw [rounds_succ]
            go_wp2_with fail
            rw [rounds_succ]
            go_wp2_with fail
            rw [rounds_succ]
            go_wp2_with fail
            go_meet
            refine ⟨0, 0, 0, ((h : Int) % 2048), HD2.out.symm, ⟨by go_simp, by go_simp, by go_simp, by go_simp, by go_simp, fun j => by go_simp, by simp <;> omega⟩, ?_⟩
            repeat' first | exact Below.refl _ _ | refine Below.alloc ?_ (by first | exact Nat.le_refl _ | (simp <;> omega)) _ | refine below_drewN ?_ _ | refine Below.drew ?_ | refine Below.setCell ?_ (by simp <;> omega) _
        · skip
          obtain ⟨bt, hs⟩ := shp_I op hcl
          rw [← HS.out] at hs
          simp only [Shape.mk.injEq, Part.mk.injEq] at hs
          obtain ⟨rfl, ⟨rfl, rfl, rfl⟩, ⟨rfl, rfl, rfl⟩, ⟨rfl, rfl, rfl⟩, rfl, rfl⟩ := hs
          have HD := Lib.hid (dec_I op hcl (h : Int))
          clear hcl
          have e0 : bits BinOp.and IntKind.u16 ((h : Int) / 256) 15 = (h : Int) / 256 % 16 := u16_mask _ _ 4 (by decide) (by decide) (by omega) (by omega)
          have e1 : bits BinOp.and IntKind.u16 ((h : Int)) 255 = (h : Int) % 256 := u16_mask _ _ 8 (by decide) (by decide) (by omega) (by omega)
          by_cases hz : 127 < (h : Int) % 256
          · have HD2 := Lib.hid (HD.out.trans (by rw [if_pos hz]))
            clear HD
            go_wp2_with fail
            refine wp_loop_rounds 4 ?_
            rw [rounds_succ]
            go_wp2_with fail
            go_quiet (fail)
            go_wp2_with fail
            refine (field_c _ _).mono ?_
            rintro e wz ⟨rfl, rfl⟩
            go_wp2_with fail
            rw [rounds_succ]
            go_wp2_with fail
            go_quiet (fail)
            go_wp2_with fail
            refine (field_i _ _).mono ?_
            rintro e wz ⟨rfl, rfl⟩
            go_wp2_with fail
            rw [rounds_succ]
            go_wp2_with fail
            rw [rounds_succ]
            go_wp2_with fail
            go_meet
            refine ⟨((h : Int) / 256 % 16), 0, 0, ((h : Int) % 256 - 256), HD2.out.symm, ⟨by go_simp, by go_simp, by go_simp, by go_simp, by go_simp, fun j => by go_simp, by simp <;> omega⟩, ?_⟩
            repeat' first | exact Below.refl _ _ | refine Below.alloc ?_ (by first | exact Nat.le_refl _ | (simp <;> omega)) _ | refine below_drewN ?_ _ | refine Below.drew ?_ | refine Below.setCell ?_ (by simp <;> omega) _
          · have HD2 := Lib.hid (HD.out.trans (by rw [if_neg hz]))
            clear HD
            go_wp2_with fail
            refine wp_loop_rounds 4 ?_
            rw [rounds_succ]
            go_wp2_with fail
            go_quiet (fail)
            go_wp2_with fail
            refine (field_c _ _).mono ?_
            rintro e wz ⟨rfl, rfl⟩
            go_wp2_with fail
            rw [rounds_succ]
            go_wp2_with fail
            go_quiet (fail)
            go_wp2_with fail
            refine (field_i _ _).mono ?_
            rintro e wz ⟨rfl, rfl⟩
            go_wp2_with fail
            rw [rounds_succ]
            go_wp2_with fail
            rw [rounds_succ]
            go_wp2_with fail
            go_meet
            refine ⟨((h : Int) / 256 % 16), 0, 0, ((h : Int) % 256), HD2.out.symm, ⟨by go_simp, by go_simp, by go_simp, by go_simp, by go_simp, fun j => by go_simp, by simp <;> omega⟩, ?_⟩
            repeat' first | exact Below.refl _ _ | refine Below.alloc ?_ (by first | exact Nat.le_refl _ | (simp <;> omega)) _ | refine below_drewN ?_ _ | refine Below.drew ?_ | refine Below.setCell ?_ (by simp <;> omega) _
        · skip
          obtain ⟨bt, hs⟩ := shp_J op hcl
          rw [← HS.out] at hs
          simp only [Shape.mk.injEq, Part.mk.injEq] at hs
          obtain ⟨rfl, ⟨rfl, rfl, rfl⟩, ⟨rfl, rfl, rfl⟩, ⟨rfl, rfl, rfl⟩, rfl, rfl⟩ := hs
          have HD := Lib.hid (dec_J op hcl (h : Int))
          clear hcl
          go_wp2_with fail
          refine wp_loop_rounds 4 ?_
          rw [rounds_succ]
          go_wp2_with fail
          rw [rounds_succ]
          go_wp2_with fail
          rw [rounds_succ]
          go_wp2_with fail
          rw [rounds_succ]
          go_wp2_with fail
          go_meet
          refine ⟨0, 0, 0, 0, HD.out.symm, ⟨by go_simp, by go_simp, by go_simp, by go_simp, by go_simp, fun j => by go_simp, by simp <;> omega⟩, ?_⟩
          repeat' first | exact Below.refl _ _ | refine Below.alloc ?_ (by first | exact Nat.le_refl _ | (simp <;> omega)) _ | refine below_drewN ?_ _ | refine Below.drew ?_ | refine Below.setCell ?_ (by simp <;> omega) _
        · skip
          obtain ⟨bt, hs⟩ := shp_K op hcl
          rw [← HS.out] at hs
          simp only [Shape.mk.injEq, Part.mk.injEq] at hs
          obtain ⟨rfl, ⟨rfl, rfl, rfl⟩, ⟨rfl, rfl, rfl⟩, ⟨rfl, rfl, rfl⟩, rfl, rfl⟩ := hs
          have HD := Lib.hid (dec_K op hcl (h : Int))
          clear hcl
          have e0 : bits BinOp.and IntKind.u16 ((h : Int)) 255 = (h : Int) % 256 := u16_mask _ _ 8 (by decide) (by decide) (by omega) (by omega)
          go_wp2_with fail
          refine wp_loop_rounds 4 ?_
          rw [rounds_succ]
          go_wp2_with fail
          go_quiet (fail)
          go_wp2_with fail
          refine (field_i _ _).mono ?_
          rintro e wz ⟨rfl, rfl⟩
          go_wp2_with fail
          rw [rounds_succ]
          go_wp2_with fail
          rw [rounds_succ]
          go_wp2_with fail
          rw [rounds_succ]
          go_wp2_with fail
          go_meet
          refine ⟨0, 0, 0, ((h : Int) % 256), HD.out.symm, ⟨by go_simp, by go_simp, by go_simp, by go_simp, by go_simp, fun j => by go_simp, by simp <;> omega⟩, ?_⟩
          repeat' first | exact Below.refl _ _ | refine Below.alloc ?_ (by first | exact Nat.le_refl _ | (simp <;> omega)) _ | refine below_drewN ?_ _ | refine Below.drew ?_ | refine Below.setCell ?_ (by simp <;> omega) _
      case rest =>
        obtain ⟨d, n, m, i, hq, hx, hb⟩ := hcut.out
        have HX := Lib.hid hx
        have HBK := Lib.hid hb
        clear hcut hx hb
        have hcan := can_any op hlt d n m i
        have hput := fun w hc => put_any op hlt d n m i w hc
        have hit : isTake op h = (canB op d n m i && (putN op d n m i == (h : Int))) := by unfold isTake; rw [← hq]
        generalize putN op d n m i = PN at *
        generalize canB op d n m i = C at *
        have HIT := Lib.hid hit
        have HQ := Lib.hid hq
        have HCAN := Lib.hid hcan
        have HPUT := Lib.hid hput
        clear hit hq hcan hput
        have HZ2 := Lib.hid (heap_keep HZ1.out HBK.out)
        have HB2 := Lib.hid (HB1.out.trans (HBK.out.mono HB1.out.size))
        clear HZ1 HB1 HBK
        have HT1 : isTake op h = false → Hid (takeV (h : Int) = takeFrom (h : Int) (21 - (op + 1)) (op + 1)) := fun e => by
          show _ = _
          rw [HT.out, show 21 - op = (21 - (op + 1)) + 1 from by omega, takeFrom_miss _ e]
        have HT2 := Lib.hid HT1
        clear HT1
        obtain ⟨b0, b1, b2, b3, b4, fz, hlz⟩ := HX.out
        go_wp2_with fail
        refine (HCAN.out _).mono ?_
        rintro e w2 ⟨rfl, hb2⟩
        have HX2 := Lib.hid (HX.out.keep hb2)
        have HZ3 := Lib.hid (heap_keep HZ2.out hb2)
        have HB3 := Lib.hid (HB2.out.trans (hb2.mono HB2.out.size))
        clear b0 b1 b2 b3 b4 fz hlz hb2 HX HZ2 HB2
        cases C
        · have HN := HT2.out (by rw [HIT.out]; rfl)
          go_wp2_with fail
          go_roundw
          case rel => exact ⟨op + 1, by go_num, hlt, HN, HZ3, HB3⟩
          case measure => simp [intOf]; omega
        · obtain ⟨b0, b1, b2, b3, b4, fz, hlz⟩ := HX2.out
          go_wp2_with fail
          refine (HPUT.out _ (by trivial)).mono ?_
          rintro e w3 ⟨rfl, hb3⟩
          have HX3 := Lib.hid (HX2.out.keep hb3)
          have HZ4 := Lib.hid (heap_keep HZ3.out hb3)
          have HB4 := Lib.hid (HB3.out.trans (hb3.mono HB3.out.size))
          clear b0 b1 b2 b3 b4 fz hlz hb3 HX2 HZ3 HB3
          by_cases heq : PN = (h : Int)
          · have HR : Hid (takeOpt (takeV (h : Int)) = .tuple #[.agg #[.int .i64 op, .int .i64 d, .int .i64 n, .int .i64 m, .int .i64 i], .int .i64 0]) := by
              show _ = _
              rw [HT.out, show 21 - op = (21 - (op + 1)) + 1 from by omega, takeFrom_hit _ (by rw [HIT.out, heq]; simp), ← HQ.out]
              rfl
            have hne2 : (PN == (h : Int)) = true := by rw [heq]; simp
            clear heq
            have hz5 := HZ4.out
            have hzc := fun i => Lib.cell_of_heap hz5 i
            have hzf := fun i => Lib.frozen_of_heap hz5 i
            have HZl := (Array.getElem?_eq_some_iff.1 hz5).1
            obtain ⟨b0, b1, b2, b3, b4, fz, hlz⟩ := HX3.out
            clear hz5
            go_wp2_with fail
            refine bodyPost_ret (v := .tuple #[.agg #[.int .i64 op, .int .i64 d, .int .i64 n, .int .i64 m, .int .i64 i], .int .i64 0]) (by simp [results, Tryd.results37, go_sem, hzc]) rfl ?_
            rw [HR.out]
            refine ⟨rfl, ?_⟩
            exact (((((HB4.out.setCell (p := ⟨w.heap.size, 0, none⟩) (Nat.le_refl _) _).setCell (p := ⟨w.heap.size, 1, none⟩) (Nat.le_refl _) _).setCell (p := ⟨w.heap.size, 2, none⟩) (Nat.le_refl _) _).setCell (p := ⟨w.heap.size, 3, none⟩) (Nat.le_refl _) _).setCell (p := ⟨w.heap.size, 4, none⟩) (Nat.le_refl _) _)
          · have hne2 : (PN == (h : Int)) = false := by simpa using heq
            have HN := HT2.out (by rw [HIT.out, hne2]; rfl)
            clear heq
            go_wp2_with fail
            go_roundw
            case rel => exact ⟨op + 1, by go_num, hlt, HN, HZ4, HB4⟩
            case measure => simp [intOf]; omega
    · obtain rfl : op = 21 := by omega
      have HR : Hid (takeOpt none = takeOpt (takeV (h : Int))) := by show _ = _; rw [HT.out]; rfl
      clear hlt HT
      have hzc := fun i => Lib.cell_of_heap HZ.out i
      have hzf := fun i => Lib.frozen_of_heap HZ.out i
      have HZl := (Array.getElem?_eq_some_iff.1 HZ.out).1
      go_wp2_with fail
      refine bodyPost_ret (v := takeOpt none) (by simp [results, Tryd.results37, go_sem, takeOpt, hzc]) rfl ?_
      rw [HR.out]
      refine ⟨rfl, ?_⟩
      exact (((((HB.out.setCell (p := ⟨w.heap.size, 0, none⟩) (Nat.le_refl _) _).setCell (p := ⟨w.heap.size, 1, none⟩) (Nat.le_refl _) _).setCell (p := ⟨w.heap.size, 2, none⟩) (Nat.le_refl _) _).setCell (p := ⟨w.heap.size, 3, none⟩) (Nat.le_refl _) _).setCell (p := ⟨w.heap.size, 4, none⟩) (Nat.le_refl _) _)
end Go.Proofs.YtagjnannnahplaaDoor
