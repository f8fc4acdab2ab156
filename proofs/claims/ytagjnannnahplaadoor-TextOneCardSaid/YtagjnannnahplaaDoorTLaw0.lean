/- lives. -/
import Derived.Test.YtagjnannnahplaaDoorTTop
namespace Go.Proofs.YtagjnannnahplaaDoor
open Go.RowKit
set_option linter.unusedVariables false
set_option linter.unusedSimpArgs false
def liveS : List UInt8 := [108, 100, 114, 32, 114, 49, 44, 32, 91, 114, 50, 44, 32, 35, 49, 50, 93]
def liveT : List UInt8 := [109, 111, 118, 115, 32, 114, 49, 44, 32, 35, 53]
theorem live_show : showI 12 1 2 0 3 = liveS := by
  unfold showI
  rw [show canI 12 1 2 0 3 = true from rfl]
  show showB 12 1 2 0 3 = liveS
  have h12 : Lib.itoa 12 = [49, 50] := by rw [itoaC_eq 12 (by decide) (by decide)]; rfl
  have h1 : Lib.itoa 1 = [49] := by rw [itoaC_eq 1 (by decide) (by decide)]; rfl
  have h2 : Lib.itoa 2 = [50] := by rw [itoaC_eq 2 (by decide) (by decide)]; rfl
  simp [showB, shapesL, wordB, wordsL, piece, h12, h1, h2, liveS]
theorem live_parse : parseV canB liveT = some (0, 1, 0, 0, 5) := by
  have h1 : Lib.itoa 1 = [49] := by rw [itoaC_eq 1 (by decide) (by decide)]; rfl
  have h5 : Lib.itoa 5 = [53] := by rw [itoaC_eq 5 (by decide) (by decide)]; rfl
  have h : showB 0 1 0 0 5 = liveT := by simp [showB, shapesL, wordB, wordsL, piece, h1, h5, liveT]
  rw [← h]
  exact parseV_show 0 (by decide) 1 0 0 5 rfl
set_option maxRecDepth 100000 in
set_option maxHeartbeats 4000000 in
theorem lives_any (w : World) (ht : Tabs w) : Calls Tryd.prog 8 #[] w fun e w' => e = .returned (.bool true) ∧ Below w.heap.size w w' := by
  have hs := fun w t => Show_any 12 1 2 0 3 w t
  have hp := fun w t => Parse_any liveT w t (by decide)
  rw [live_show] at hs
  rw [live_parse] at hp
  rw [show canI 12 1 2 0 3 = true from rfl] at hs
  unfold liveS at hs
  unfold liveT at hp
  unfold parOpt at hp
  go_enter Tryd.func8, Tryd.ntmps8
  go_wp2_with fail
  refine (hs _ ht).mono ?_
  rintro e w1 ⟨rfl, hb1⟩
  go_wp2_with fail
  refine (hp _ (ht.below hb1)).mono ?_
  rintro e w2 ⟨rfl, hb2⟩
  have hB2 : Below w.heap.size w w2 := hb1.trans (hb2.mono hb1.size)
  go_wp2_with fail
  go_ret
  exact ⟨rfl, hB2.alloc hB2.size _⟩
end Go.Proofs.YtagjnannnahplaaDoor
