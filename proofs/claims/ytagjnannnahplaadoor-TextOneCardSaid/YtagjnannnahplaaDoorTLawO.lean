/- TextOne: the walk. -/
import Derived.Test.YtagjnannnahplaaDoorTLine
import Derived.Test.YtagjnannnahplaaDoorTLaw0
namespace Go.Proofs.YtagjnannnahplaaDoor
open Go.RowKit
set_option linter.unusedVariables false
set_option linter.unusedSimpArgs false
theorem list_one (a cap : Nat) (ha : a < 65536) (b : Nat) (w : World) (ht : Tabs w) (hb : w.heap[b]? = some (.cells #[.int .u16 (a : Int)] 32 (0, 0))) :
    Calls Tryd.prog 11 #[.slice (some ⟨b, 0, none⟩) 1 cap] w fun e w' => e = .returned (.string ⟨(lineB a ++ [10]).toArray⟩) ∧ Below w.heap.size w w' := by
  have h := list_any b 0 cap [a] (by simpa using ha) (by simp) w ht (Array.getElem?_eq_some_iff.1 hb).1 (fun j hj => by
    obtain rfl : j = 0 := by simpa using hj
    exact Lib.cell_of_heap hb 0)
  have e : listB [a] = lineB a ++ [10] := by simp [listB]
  rw [e] at h
  exact h
set_option maxRecDepth 100000 in
set_option maxHeartbeats 4000000 in
theorem textOne_any (a b : Nat) (ha : a < 65536) (hb : b < 65536) (w : World) (ht : Tabs w) :
    Calls Tryd.prog 5 #[.int .u16 a, .int .u16 b] w fun e w' => e = .returned (.bool true) ∧ Below w.heap.size w w' := by
  have h1 := list_one a 1 ha
  have h2 := list_one b 1 hb
  have hlv := lives_any
  obtain ⟨q, hq⟩ : ∃ q : Bool, q = ((a : Int) == (b : Int)) := ⟨_, rfl⟩
  have hs : (lineB a ++ [10] == lineB b ++ [10]) = q := by
    rw [hq]
    by_cases e : a = b
    · subst e; simp
    · have e1 : lineB a ++ [10] ≠ lineB b ++ [10] := fun h => e (lineB_inj a b ha hb (List.append_cancel_right h))
      have e2 : ¬ ((a : Int) = (b : Int)) := by omega
      rw [beq_eq_false_iff_ne.2 e1, beq_eq_false_iff_ne.2 e2]
  have hq2 : ((a : Int) == (b : Int)) = q := hq.symm
  clear hq
  generalize lineB a ++ [10] = X at *
  generalize lineB b ++ [10] = Y at *
  have H1 := Lib.hid h1
  have H2 := Lib.hid h2
  have HL := Lib.hid hlv
  clear h1 h2 hlv
  go_enter Tryd.func5, Tryd.ntmps5
  go_wp2_with fail
  have hbb : Below w.heap.size w (w.alloc (.cells #[.int .u16 (a : Int)] 32)) := (Below.refl _ _).alloc (Nat.le_refl _) _
  refine (H1.out _ _ (ht.below hbb) (heap_alloc_new w _)).mono ?_
  rintro e w1 ⟨rfl, hb1⟩
  have hB1 : Below w.heap.size w w1 := hbb.trans (hb1.mono hbb.size)
  have HB1 := Lib.hid hB1
  clear hbb hb1 hB1
  go_wp2_with fail
  have hbc : Below w.heap.size w (w1.alloc (.cells #[.int .u16 (b : Int)] 32)) := HB1.out.alloc HB1.out.size _
  refine (H2.out _ _ (ht.below hbc) (heap_alloc_new w1 _)).mono ?_
  rintro e w2 ⟨rfl, hb2⟩
  have hB2 : Below w.heap.size w w2 := hbc.trans (hb2.mono hbc.size)
  have HB2 := Lib.hid hB2
  clear hbc hb2 hB2 HB1
  go_wp2_with fail
  refine (HL.out _ (ht.below HB2.out)).mono ?_
  rintro e w3 ⟨rfl, hb3⟩
  go_wp2_with fail
  go_ret
  exact ⟨rfl, HB2.out.trans (hb3.mono HB2.out.size)⟩
end Go.Proofs.YtagjnannnahplaaDoor
