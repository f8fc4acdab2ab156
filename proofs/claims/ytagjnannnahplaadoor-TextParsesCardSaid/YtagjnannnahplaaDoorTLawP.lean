/- TextParses: the walk. -/
import Derived.Test.YtagjnannnahplaaDoorTLaw0
import Derived.Test.YtagjnannnahplaaDoorTRefR
namespace Go.Proofs.YtagjnannnahplaaDoor
open Go.RowKit
set_option linter.unusedVariables false
set_option linter.unusedSimpArgs false
set_option maxRecDepth 100000 in
set_option maxHeartbeats 8000000 in
theorem textParses_long (s : ByteArray) (w : World) (ht : Tabs w) (h : 60 < s.size) : Calls Tryd.prog 4 #[.string s] w fun e w' => e = .returned (.bool true) ∧ Below w.heap.size w w' := by
  have h' : (60 : Int) < (s.size : Int) := by omega
  go_enter Tryd.func4, Tryd.ntmps4
  go_wp2_with fail
  refine (lives_any _ ht).mono ?_
  rintro e w1 ⟨rfl, hb⟩
  go_wp2_with fail
  go_ret
  exact ⟨rfl, hb⟩
set_option maxRecDepth 100000 in
set_option maxHeartbeats 8000000 in
theorem textParses_short (l : List UInt8) (w : World) (ht : Tabs w) (h : l.length ≤ 60) : Calls Tryd.prog 4 #[.string ⟨l.toArray⟩] w fun e w' => e = .returned (.bool true) ∧ Below w.heap.size w w' := by
  have h' : ¬ ((60 : Int) < (l.length : Int)) := by omega
  have hp := fun w t => Parse_any l w t (by omega)
  have hr := fun w => rParse_any l (by omega) w
  generalize parseV canB l = R at *
  cases R with
  | none =>
    unfold parOpt at hp hr
    go_enter Tryd.func4, Tryd.ntmps4
    go_wp2_with fail
    refine (hp _ ht).mono ?_
    rintro e w1 ⟨rfl, hb1⟩
    go_wp2_with fail
    have hB1 := Lib.hid ((hb1.alloc hb1.size (.cells #[.int .i64 0, .int .i64 0, .int .i64 0, .int .i64 0, .int .i64 0] 23)))
    have hx := heap_alloc_new w1 (.cells #[.int .i64 0, .int .i64 0, .int .i64 0, .int .i64 0, .int .i64 0] 23)
    refine (hr _).mono ?_
    rintro e w2 ⟨rfl, hb2⟩
    have hx2 := heap_keep hx hb2
    have hB2 : Below w.heap.size w w2 := hB1.out.trans (hb2.mono hB1.out.size)
    have HB2 := Lib.hid hB2
    have hc2 := fun j => Lib.cell_of_heap hx2 j
    have hlt2 := (Array.getElem?_eq_some_iff.1 hx2).1
    clear hx hx2 hb2 hb1 hB2
    go_wp2_with fail
    refine (lives_any _ (ht.below (HB2.out.alloc HB2.out.size _))).mono ?_
    rintro e w3 ⟨rfl, hb3⟩
    go_wp2_with fail
    go_ret
    exact ⟨rfl, (HB2.out.alloc HB2.out.size _).trans (hb3.mono (by have := HB2.out.size; simp; omega))⟩
  | some r =>
    obtain ⟨k, d, n, m, imm⟩ := r
    unfold parOpt at hp hr
    go_enter Tryd.func4, Tryd.ntmps4
    go_wp2_with fail
    refine (hp _ ht).mono ?_
    rintro e w1 ⟨rfl, hb1⟩
    go_wp2_with fail
    have hB1 := Lib.hid ((hb1.alloc hb1.size (.cells #[.int .i64 k, .int .i64 d, .int .i64 n, .int .i64 m, .int .i64 imm] 23)))
    have hx := heap_alloc_new w1 (.cells #[.int .i64 k, .int .i64 d, .int .i64 n, .int .i64 m, .int .i64 imm] 23)
    refine (hr _).mono ?_
    rintro e w2 ⟨rfl, hb2⟩
    have hx2 := heap_keep hx hb2
    have hB2 : Below w.heap.size w w2 := hB1.out.trans (hb2.mono hB1.out.size)
    have HB2 := Lib.hid hB2
    have hc2 := fun j => Lib.cell_of_heap hx2 j
    have hlt2 := (Array.getElem?_eq_some_iff.1 hx2).1
    clear hx hx2 hb2 hb1 hB2
    go_wp2_with fail
    refine (lives_any _ (ht.below (HB2.out.alloc HB2.out.size _))).mono ?_
    rintro e w3 ⟨rfl, hb3⟩
    go_wp2_with fail
    go_ret
    exact ⟨rfl, (HB2.out.alloc HB2.out.size _).trans (hb3.mono (by have := HB2.out.size; simp; omega))⟩
theorem textParses_any (s : ByteArray) (w : World) (ht : Tabs w) : Calls Tryd.prog 4 #[.string s] w fun e w' => e = .returned (.bool true) ∧ Below w.heap.size w w' := by
  by_cases h : 60 < s.size
  · exact textParses_long s w ht h
  · obtain ⟨⟨l⟩⟩ := s
    exact textParses_short l w ht (by have e : (⟨⟨l⟩⟩ : ByteArray).size = l.length := rfl; omega)
end Go.Proofs.YtagjnannnahplaaDoor
