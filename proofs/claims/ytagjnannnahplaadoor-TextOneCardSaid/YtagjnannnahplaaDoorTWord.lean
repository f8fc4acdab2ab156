/- text.word: an instruction's word. -/
import Derived.Test.YtagjnannnahplaaDoorShelf
import Derived.Test.YtagjnannnahplaaDoorTPure
import Derived.Test.YtagjnannnahplaaDoorTPut
import Derived.Test.YtagjnannnahplaaDoorTBld
import Derived.Deep.RegionHeld3
import Derived.Deep.RegionWith
namespace Go.Proofs.YtagjnannnahplaaDoor
open Go.RowKit
set_option linter.unusedVariables false
set_option linter.unusedSimpArgs false
/-- What the library's variables hold. -/
structure Tabs (w : World) : Prop where
  asc : Lib.TabIs Tryd.prog w "strings.asciiSpace" .u8 Lib.asciiSpaceTab
  pow : Lib.TabIs Tryd.prog w "internal/strconv.uint64pow10" .u64 Lib.pow10Tab
  len : ∃ m, w.cell? ⟨2, 0, none⟩ = some (.int .i64 m)
  syn : ∃ ev, w.cell? ⟨4, 0, none⟩ = some ev ∧ (ev = .nilIface ∨ ∃ te pe, ev = .iface te pe)
  ran : ∃ ev, w.cell? ⟨5, 0, none⟩ = some ev ∧ (ev = .nilIface ∨ ∃ te pe, ev = .iface te pe)
theorem cell_kept' {w w' : World} {p : Addr} {v : Value} (hb : Below w.heap.size w w') (h : w.cell? p = some v) : w'.cell? p = some v := (hb.cell (World.block_lt_of_cell? w p h)).trans h
theorem tab_below {n : String} {g : Nat} {k : IntKind} {zs : List Int} {w w' : World} (hg : Tryd.prog.globalNamed n = some g) (h : Lib.TabIs Tryd.prog w n k zs) (hb : Below w.heap.size w w') : Lib.TabIs Tryd.prog w' n k zs := by
  unfold Lib.TabIs World.var? at h ⊢
  rw [hg] at h ⊢
  simp only [Option.bind_some] at h ⊢
  have hlt : g < w.heap.size := by
    rcases Nat.lt_or_ge g w.heap.size with h' | h'
    · exact h'
    · rw [Array.getElem?_eq_none h'] at h; cases h
  rw [hb.block g hlt]
  exact h
theorem gAsc : Tryd.prog.globalNamed "strings.asciiSpace" = some 0 := by kernel_rfl
theorem gPow : Tryd.prog.globalNamed "internal/strconv.uint64pow10" = some 3 := by kernel_rfl
theorem Tabs.below {w w' : World} (h : Tabs w) (hb : Below w.heap.size w w') : Tabs w' where
  asc := tab_below gAsc h.asc hb
  pow := tab_below gPow h.pow hb
  len := let ⟨m, hm⟩ := h.len; ⟨m, cell_kept' hb hm⟩
  syn := let ⟨m, hm, hv⟩ := h.syn; ⟨m, cell_kept' hb hm, hv⟩
  ran := let ⟨m, hm, hv⟩ := h.ran; ⟨m, cell_kept' hb hm, hv⟩
def strCells (L : List (List UInt8)) : Array Value := (L.map fun l => Value.string ⟨l.toArray⟩).toArray
theorem strCells_at (L : List (List UInt8)) (W : World) (j : Nat) (hj : j < L.length) : (W.alloc (.cells (strCells L) 9)).cell? ⟨W.heap.size, j, none⟩ = some (.string ⟨(L.getD j []).toArray⟩) := by
  rw [Lib.cell_of_heap (heap_alloc_new W _) j]
  simp [strCells, hj, List.getD_eq_getElem?_getD]
theorem fields_at (s : ByteArray) (L : List (List UInt8)) (n : Nat) (h : (decide (L.length = n) && decide (s.size < 4294967281) && s.data.toList.all (fun b => decide (b.toNat < 128)) && (Lib.fields s.data.toList == L)) = true) (w : World) (ht : Tabs w) :
    Calls Tryd.prog 24 #[.string s] w fun e w' => e = .returned (.slice (some ⟨w.heap.size, 0, none⟩) n n) ∧ w' = w.alloc (.cells (strCells L) 9) := by
  simp only [Bool.and_eq_true, decide_eq_true_eq, List.all_eq_true, beq_iff_eq] at h
  obtain ⟨⟨⟨h0, h1⟩, h2⟩, h3⟩ := h
  subst h0
  have := Tryd.strings_Fields s w h1 (fun j b hb => h2 b (List.mem_of_getElem? hb)) ht.asc
  rw [h3] at this
  exact this
set_option maxRecDepth 100000 in
set_option maxHeartbeats 2000000 in
theorem word_11 (d n m : Int) (j : Nat) (w : World) (ht : Tabs w) (h1 : (j : Int) < 16) : Calls Tryd.prog 25 #[.agg #[.int .i64 11, .int .i64 d, .int .i64 n, .int .i64 m, .int .i64 (j : Int)]] w fun e w' => e = .returned (.string ⟨(alusL.getD j []).toArray⟩) ∧ Below w.heap.size w w' := by
  go_enter Tryd.func25, Tryd.ntmps25
  go_wp2
  have hc : (w.alloc (.cells #[.int .i64 11, .int .i64 d, .int .i64 n, .int .i64 m, .int .i64 (j : Int)] 23)).cell? ⟨w.heap.size, 4, none⟩ = some (.int .i64 (j : Int)) := by simp [go_sem]
  have hBW : Below w.heap.size w (w.alloc (.cells #[.int .i64 11, .int .i64 d, .int .i64 n, .int .i64 m, .int .i64 (j : Int)] 23)) := (Below.refl _ _).alloc (Nat.le_refl _) _
  have ht' : Tabs (w.alloc (.cells #[.int .i64 11, .int .i64 d, .int .i64 n, .int .i64 m, .int .i64 (j : Int)] 23)) := ht.below hBW
  have hsz : (w.alloc (.cells #[.int .i64 11, .int .i64 d, .int .i64 n, .int .i64 m, .int .i64 (j : Int)] 23)).heap.size = w.heap.size + 1 := by simp
  generalize w.alloc (.cells #[.int .i64 11, .int .i64 d, .int .i64 n, .int .i64 m, .int .i64 (j : Int)] 23) = W at *
  have hj0 : (0 : Int) ≤ (j : Int) := Int.natCast_nonneg _
  have hj1 : (j : Int) < 16 := h1
  have hj2 : (j : Int) < ((16 : Nat) : Int) := h1
  have hcell : (W.alloc (.cells (strCells alusL) 9)).cell? ⟨w.heap.size + 1, j, none⟩ = some (.string ⟨(alusL.getD j []).toArray⟩) := by rw [← hsz]; exact strCells_at alusL W j (by have : alusL.length = 16 := rfl; omega)
  have hx : (strCells alusL)[j]? = some (.string ⟨(alusL.getD j []).toArray⟩) := by rw [← hcell, ← hsz, Lib.cell_of_heap (heap_alloc_new W _) j]
  go_region_with (go_at_call 24; refine (fields_at _ alusL 16 (by kernel_rfl) _ (ht'.below (Below.refl _ _).drew)).mono ?_; rintro e w1 ⟨rfl, rfl⟩)
  all_goals go_wp2
  all_goals go_ret
  all_goals exact ⟨rfl, by repeat' first | exact hBW | refine Below.alloc ?_ (by first | omega | (simp <;> omega)) _ | refine Below.drew ?_⟩
set_option maxRecDepth 100000 in
set_option maxHeartbeats 2000000 in
theorem word_18 (n m imm : Int) (j : Nat) (w : World) (ht : Tabs w) (h1 : (j : Int) < 14) : Calls Tryd.prog 25 #[.agg #[.int .i64 18, .int .i64 (j : Int), .int .i64 n, .int .i64 m, .int .i64 imm]] w fun e w' => e = .returned (.string ⟨(condsL.getD j []).toArray⟩) ∧ Below w.heap.size w w' := by
  go_enter Tryd.func25, Tryd.ntmps25
  go_wp2
  have hc : (w.alloc (.cells #[.int .i64 18, .int .i64 (j : Int), .int .i64 n, .int .i64 m, .int .i64 imm] 23)).cell? ⟨w.heap.size, 1, none⟩ = some (.int .i64 (j : Int)) := by simp [go_sem]
  have hBW : Below w.heap.size w (w.alloc (.cells #[.int .i64 18, .int .i64 (j : Int), .int .i64 n, .int .i64 m, .int .i64 imm] 23)) := (Below.refl _ _).alloc (Nat.le_refl _) _
  have ht' : Tabs (w.alloc (.cells #[.int .i64 18, .int .i64 (j : Int), .int .i64 n, .int .i64 m, .int .i64 imm] 23)) := ht.below hBW
  have hsz : (w.alloc (.cells #[.int .i64 18, .int .i64 (j : Int), .int .i64 n, .int .i64 m, .int .i64 imm] 23)).heap.size = w.heap.size + 1 := by simp
  generalize w.alloc (.cells #[.int .i64 18, .int .i64 (j : Int), .int .i64 n, .int .i64 m, .int .i64 imm] 23) = W at *
  have hj0 : (0 : Int) ≤ (j : Int) := Int.natCast_nonneg _
  have hj1 : (j : Int) < 14 := h1
  have hj2 : (j : Int) < ((14 : Nat) : Int) := h1
  have hcell : (W.alloc (.cells (strCells condsL) 9)).cell? ⟨w.heap.size + 1, j, none⟩ = some (.string ⟨(condsL.getD j []).toArray⟩) := by rw [← hsz]; exact strCells_at condsL W j (by have : condsL.length = 14 := rfl; omega)
  have hx : (strCells condsL)[j]? = some (.string ⟨(condsL.getD j []).toArray⟩) := by rw [← hcell, ← hsz, Lib.cell_of_heap (heap_alloc_new W _) j]
  go_region_with (go_at_call 24; refine (fields_at _ condsL 14 (by kernel_rfl) _ (ht'.below (Below.refl _ _).drew)).mono ?_; rintro e w1 ⟨rfl, rfl⟩)
  all_goals go_wp2
  all_goals go_ret
  all_goals exact ⟨rfl, by repeat' first | exact hBW | refine Below.alloc ?_ (by first | omega | (simp <;> omega)) _ | refine Below.drew ?_⟩
set_option maxRecDepth 100000 in
set_option maxHeartbeats 2000000 in
theorem word_k (d n m imm : Int) (j : Nat) (w : World) (ht : Tabs w) (h1 : (j : Int) < 21) (n11 : j ≠ 11) (n18 : j ≠ 18) : Calls Tryd.prog 25 #[.agg #[.int .i64 (j : Int), .int .i64 d, .int .i64 n, .int .i64 m, .int .i64 imm]] w fun e w' => e = .returned (.string ⟨(wordsL.getD j []).toArray⟩) ∧ Below w.heap.size w w' := by
  have e11 : ((j : Int) == 11) = false := beq_eq_false_iff_ne.2 (by omega)
  have e18 : ((j : Int) == 18) = false := beq_eq_false_iff_ne.2 (by omega)
  go_enter Tryd.func25, Tryd.ntmps25
  go_wp2
  have hc : (w.alloc (.cells #[.int .i64 (j : Int), .int .i64 d, .int .i64 n, .int .i64 m, .int .i64 imm] 23)).cell? ⟨w.heap.size, 0, none⟩ = some (.int .i64 (j : Int)) := by simp [go_sem]
  have hBW : Below w.heap.size w (w.alloc (.cells #[.int .i64 (j : Int), .int .i64 d, .int .i64 n, .int .i64 m, .int .i64 imm] 23)) := (Below.refl _ _).alloc (Nat.le_refl _) _
  have ht' : Tabs (w.alloc (.cells #[.int .i64 (j : Int), .int .i64 d, .int .i64 n, .int .i64 m, .int .i64 imm] 23)) := ht.below hBW
  have hsz : (w.alloc (.cells #[.int .i64 (j : Int), .int .i64 d, .int .i64 n, .int .i64 m, .int .i64 imm] 23)).heap.size = w.heap.size + 1 := by simp
  generalize w.alloc (.cells #[.int .i64 (j : Int), .int .i64 d, .int .i64 n, .int .i64 m, .int .i64 imm] 23) = W at *
  have hj0 : (0 : Int) ≤ (j : Int) := Int.natCast_nonneg _
  have hj1 : (j : Int) < 21 := h1
  have hj2 : (j : Int) < ((21 : Nat) : Int) := h1
  have hcell : (W.alloc (.cells (strCells wordsL) 9)).cell? ⟨w.heap.size + 1, j, none⟩ = some (.string ⟨(wordsL.getD j []).toArray⟩) := by rw [← hsz]; exact strCells_at wordsL W j (by have : wordsL.length = 21 := rfl; omega)
  have hx : (strCells wordsL)[j]? = some (.string ⟨(wordsL.getD j []).toArray⟩) := by rw [← hcell, ← hsz, Lib.cell_of_heap (heap_alloc_new W _) j]
  go_region_with (go_at_call 24; refine (fields_at _ wordsL 21 (by kernel_rfl) _ (ht'.below (Below.refl _ _).drew)).mono ?_; rintro e w1 ⟨rfl, rfl⟩)
  all_goals go_wp2
  all_goals go_ret
  all_goals exact ⟨rfl, by repeat' first | exact hBW | refine Below.alloc ?_ (by first | omega | (simp <;> omega)) _ | refine Below.drew ?_⟩
/-- An instruction's word. -/
theorem word_any (k : Nat) (d n m imm : Int) (w : World) (ht : Tabs w) (hk : k < 21) (hc : canB k d n m imm = true) : Calls Tryd.prog 25 #[.agg #[.int .i64 k, .int .i64 d, .int .i64 n, .int .i64 m, .int .i64 imm]] w fun e w' => e = .returned (.string ⟨(wordB k d imm).toArray⟩) ∧ Below w.heap.size w w' := by
  unfold wordB
  by_cases h11 : k = 11
  · subst h11
    simp only [canB, inB, regB, Bool.and_eq_true, decide_eq_true_eq, beq_iff_eq] at hc
    obtain ⟨j, rfl⟩ := Int.eq_ofNat_of_zero_le (show 0 ≤ imm by omega)
    rw [if_pos rfl, Int.toNat_natCast]
    exact word_11 d n m j w ht (by omega)
  · rw [if_neg h11]
    by_cases h18 : k = 18
    · subst h18
      simp only [canB, inB, regB, Bool.and_eq_true, decide_eq_true_eq, beq_iff_eq] at hc
      obtain ⟨j, rfl⟩ := Int.eq_ofNat_of_zero_le (show 0 ≤ d by omega)
      rw [if_pos rfl, Int.toNat_natCast]
      exact word_18 n m imm j w ht (by omega)
    · rw [if_neg h18]
      exact word_k d n m imm k w ht (by omega) h11 h18
end Go.Proofs.YtagjnannnahplaaDoor
