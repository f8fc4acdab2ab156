/- text.four, line. -/
import Derived.Test.YtagjnannnahplaaDoorTPure8
import Derived.Test.YtagjnannnahplaaDoorTShowAny
import Derived.Laws.BitsLemmas
import Derived.RegionTactic
import Derived.Outline
import Derived.Laws.IdiomStrings
import Derived.Laws.BytesString
namespace Go.Proofs.YtagjnannnahplaaDoor
open Go.RowKit
set_option linter.unusedVariables false
set_option linter.unusedSimpArgs false
theorem wraps16 : ∀ z : Int, 0 ≤ z → z < 2 ^ 16 → IntKind.u16.wrap z = z := fun z h0 h1 => by rw [IntKind.wrap_u16]; omega
theorem u16_15 (x : Int) (h0 : 0 ≤ x) (h1 : x < 65536) : bits .and .u16 x 15 = x % 16 := bits_mask .u16 16 (by decide) wraps16 4 (by decide) x h0 h1
def hexS : ByteArray := ⟨#[48, 49, 50, 51, 52, 53, 54, 55, 56, 57, 97, 98, 99, 100, 101, 102]⟩
theorem hex_0 (w : World) : (Instr.index 9 (.string ⟨#[48, 49, 50, 51, 52, 53, 54, 55, 56, 57, 97, 98, 99, 100, 101, 102]⟩) (.int .u16 0)).run Tryd.prog w = .ok (.int .u8 48) w := by kernel_rfl
theorem hex_1 (w : World) : (Instr.index 9 (.string ⟨#[48, 49, 50, 51, 52, 53, 54, 55, 56, 57, 97, 98, 99, 100, 101, 102]⟩) (.int .u16 1)).run Tryd.prog w = .ok (.int .u8 49) w := by kernel_rfl
theorem hex_2 (w : World) : (Instr.index 9 (.string ⟨#[48, 49, 50, 51, 52, 53, 54, 55, 56, 57, 97, 98, 99, 100, 101, 102]⟩) (.int .u16 2)).run Tryd.prog w = .ok (.int .u8 50) w := by kernel_rfl
theorem hex_3 (w : World) : (Instr.index 9 (.string ⟨#[48, 49, 50, 51, 52, 53, 54, 55, 56, 57, 97, 98, 99, 100, 101, 102]⟩) (.int .u16 3)).run Tryd.prog w = .ok (.int .u8 51) w := by kernel_rfl
theorem hex_4 (w : World) : (Instr.index 9 (.string ⟨#[48, 49, 50, 51, 52, 53, 54, 55, 56, 57, 97, 98, 99, 100, 101, 102]⟩) (.int .u16 4)).run Tryd.prog w = .ok (.int .u8 52) w := by kernel_rfl
theorem hex_5 (w : World) : (Instr.index 9 (.string ⟨#[48, 49, 50, 51, 52, 53, 54, 55, 56, 57, 97, 98, 99, 100, 101, 102]⟩) (.int .u16 5)).run Tryd.prog w = .ok (.int .u8 53) w := by kernel_rfl
theorem hex_6 (w : World) : (Instr.index 9 (.string ⟨#[48, 49, 50, 51, 52, 53, 54, 55, 56, 57, 97, 98, 99, 100, 101, 102]⟩) (.int .u16 6)).run Tryd.prog w = .ok (.int .u8 54) w := by kernel_rfl
theorem hex_7 (w : World) : (Instr.index 9 (.string ⟨#[48, 49, 50, 51, 52, 53, 54, 55, 56, 57, 97, 98, 99, 100, 101, 102]⟩) (.int .u16 7)).run Tryd.prog w = .ok (.int .u8 55) w := by kernel_rfl
theorem hex_8 (w : World) : (Instr.index 9 (.string ⟨#[48, 49, 50, 51, 52, 53, 54, 55, 56, 57, 97, 98, 99, 100, 101, 102]⟩) (.int .u16 8)).run Tryd.prog w = .ok (.int .u8 56) w := by kernel_rfl
theorem hex_9 (w : World) : (Instr.index 9 (.string ⟨#[48, 49, 50, 51, 52, 53, 54, 55, 56, 57, 97, 98, 99, 100, 101, 102]⟩) (.int .u16 9)).run Tryd.prog w = .ok (.int .u8 57) w := by kernel_rfl
theorem hex_10 (w : World) : (Instr.index 9 (.string ⟨#[48, 49, 50, 51, 52, 53, 54, 55, 56, 57, 97, 98, 99, 100, 101, 102]⟩) (.int .u16 10)).run Tryd.prog w = .ok (.int .u8 97) w := by kernel_rfl
theorem hex_11 (w : World) : (Instr.index 9 (.string ⟨#[48, 49, 50, 51, 52, 53, 54, 55, 56, 57, 97, 98, 99, 100, 101, 102]⟩) (.int .u16 11)).run Tryd.prog w = .ok (.int .u8 98) w := by kernel_rfl
theorem hex_12 (w : World) : (Instr.index 9 (.string ⟨#[48, 49, 50, 51, 52, 53, 54, 55, 56, 57, 97, 98, 99, 100, 101, 102]⟩) (.int .u16 12)).run Tryd.prog w = .ok (.int .u8 99) w := by kernel_rfl
theorem hex_13 (w : World) : (Instr.index 9 (.string ⟨#[48, 49, 50, 51, 52, 53, 54, 55, 56, 57, 97, 98, 99, 100, 101, 102]⟩) (.int .u16 13)).run Tryd.prog w = .ok (.int .u8 100) w := by kernel_rfl
theorem hex_14 (w : World) : (Instr.index 9 (.string ⟨#[48, 49, 50, 51, 52, 53, 54, 55, 56, 57, 97, 98, 99, 100, 101, 102]⟩) (.int .u16 14)).run Tryd.prog w = .ok (.int .u8 101) w := by kernel_rfl
theorem hex_15 (w : World) : (Instr.index 9 (.string ⟨#[48, 49, 50, 51, 52, 53, 54, 55, 56, 57, 97, 98, 99, 100, 101, 102]⟩) (.int .u16 15)).run Tryd.prog w = .ok (.int .u8 102) w := by kernel_rfl
theorem hex_index (x : Int) (h0 : 0 ≤ x) (h1 : x < 16) (w : World) : (Instr.index 9 (.string ⟨#[48, 49, 50, 51, 52, 53, 54, 55, 56, 57, 97, 98, 99, 100, 101, 102]⟩) (.int .u16 x)).run Tryd.prog w = .ok (.int .u8 ((hexD x.toNat).toNat : Int)) w := by
  have h : x = 0 ∨ x = 1 ∨ x = 2 ∨ x = 3 ∨ x = 4 ∨ x = 5 ∨ x = 6 ∨ x = 7 ∨ x = 8 ∨ x = 9 ∨ x = 10 ∨ x = 11 ∨ x = 12 ∨ x = 13 ∨ x = 14 ∨ x = 15 := by omega
  rcases h with rfl | rfl | rfl | rfl | rfl | rfl | rfl | rfl | rfl | rfl | rfl | rfl | rfl | rfl | rfl | rfl
  · exact hex_0 w
  · exact hex_1 w
  · exact hex_2 w
  · exact hex_3 w
  · exact hex_4 w
  · exact hex_5 w
  · exact hex_6 w
  · exact hex_7 w
  · exact hex_8 w
  · exact hex_9 w
  · exact hex_10 w
  · exact hex_11 w
  · exact hex_12 w
  · exact hex_13 w
  · exact hex_14 w
  · exact hex_15 w
set_option maxRecDepth 100000 in
set_option maxHeartbeats 4000000 in
theorem four_any (h : Nat) (hh : h < 65536) (w : World) :
    Calls Tryd.prog 38 #[.int .u16 h] w fun e w' => e = .returned (.string ⟨(fourB h).toArray⟩) ∧ Below w.heap.size w w' := by
  have e1 := u16_15 ((h : Int) / 256) (by omega) (by omega)
  have e2 := u16_15 ((h : Int) / 16) (by omega) (by omega)
  have e3 := u16_15 (h : Int) (by omega) (by omega)
  have i0 := hex_index ((h : Int) / 4096) (by omega) (by omega)
  have i1 := hex_index ((h : Int) / 256 % 16) (by omega) (by omega)
  have i2 := hex_index ((h : Int) / 16 % 16) (by omega) (by omega)
  have i3 := hex_index ((h : Int) % 16) (by omega) (by omega)
  obtain ⟨c0, hc0⟩ : ∃ c, c = hexD ((h : Int) / 4096).toNat := ⟨_, rfl⟩
  obtain ⟨c1, hc1⟩ : ∃ c, c = hexD ((h : Int) / 256 % 16).toNat := ⟨_, rfl⟩
  obtain ⟨c2, hc2⟩ : ∃ c, c = hexD ((h : Int) / 16 % 16).toNat := ⟨_, rfl⟩
  obtain ⟨c3, hc3⟩ : ∃ c, c = hexD ((h : Int) % 16).toNat := ⟨_, rfl⟩
  rw [← hc0] at i0
  rw [← hc1] at i1
  rw [← hc2] at i2
  rw [← hc3] at i3
  have HF : Hid (fourB h = [c0, c1, c2, c3]) := by
    show _ = _
    unfold fourB
    rw [hc0, hc1, hc2, hc3]
    have a0 : ((h : Int) / 4096).toNat = h / 4096 % 16 := by omega
    have a1 : ((h : Int) / 256 % 16).toNat = h / 256 % 16 := by omega
    have a2 : ((h : Int) / 16 % 16).toNat = h / 16 % 16 := by omega
    have a3 : ((h : Int) % 16).toNat = h % 16 := by omega
    rw [a0, a1, a2, a3]
  clear hc0 hc1 hc2 hc3
  have hcv : (convert 45 9 (.slice (some ⟨w.heap.size, 0, none⟩) 4 4)).run Tryd.prog ((w.alloc (.cells #[.int .u8 (c0.toNat : Int), .int .u8 (c1.toNat : Int), .int .u8 (c2.toNat : Int), .int .u8 (c3.toNat : Int)] 5)).drew) = .ok (.string ⟨[c0, c1, c2, c3].toArray⟩) ((w.alloc (.cells #[.int .u8 (c0.toNat : Int), .int .u8 (c1.toNat : Int), .int .u8 (c2.toNat : Int), .int .u8 (c3.toNat : Int)] 5)).drew) :=
    run_convert_bytes_back (P := Tryd.prog) _ _ _ 5 ⟨w.heap.size, 0, none⟩ 4 [c0, c1, c2, c3] Tryd.underlying45 Tryd.underlying5 Tryd.underlying9 (fun j hj => by
      have hw := heap_alloc_new w (.cells #[.int .u8 (c0.toNat : Int), .int .u8 (c1.toNat : Int), .int .u8 (c2.toNat : Int), .int .u8 (c3.toNat : Int)] 5)
      match j, hj with
      | 0, _ => exact Lib.cell_of_heap hw 0
      | 1, _ => exact Lib.cell_of_heap hw 1
      | 2, _ => exact Lib.cell_of_heap hw 2
      | 3, _ => exact Lib.cell_of_heap hw 3
      | j + 4, h => exact absurd h (by simp))
  go_enter Tryd.func38, Tryd.ntmps38
  go_wp2
  go_region
  all_goals (go_wp2; go_ret; exact ⟨congrArg (fun s : List UInt8 => Ending.returned (.string ⟨s.toArray⟩)) HF.out.symm, by repeat' first | exact Below.refl _ _ | refine Below.drew ?_ | refine Below.alloc ?_ (by first | exact Nat.le_refl _ | (simp <;> omega)) _⟩)
end Go.Proofs.YtagjnannnahplaaDoor
