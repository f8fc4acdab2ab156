/- An instruction in a box of the call's own. -/
import Derived.Test.YtagjnannnahplaaDoorTShow0
namespace Go.Proofs.YtagjnannnahplaaDoor
open Go.RowKit
set_option linter.unusedVariables false
set_option linter.unusedSimpArgs false
/-- An instruction in a box of the call's own. -/
structure IBox (w : World) (b : Nat) (op : Nat) (d n m i : Int) : Prop where
  c0 : w.cell? ⟨b, 0, none⟩ = some (.int .i64 op)
  c1 : w.cell? ⟨b, 1, none⟩ = some (.int .i64 d)
  c2 : w.cell? ⟨b, 2, none⟩ = some (.int .i64 n)
  c3 : w.cell? ⟨b, 3, none⟩ = some (.int .i64 m)
  c4 : w.cell? ⟨b, 4, none⟩ = some (.int .i64 i)
  fz : ∀ j, w.frozen? ⟨b, j, none⟩ = false
  lt : b < w.heap.size
theorem IBox.new (w : World) (op : Nat) (d n m i : Int) (T : TypeId) : IBox (w.alloc (.cells #[.int .i64 op, .int .i64 d, .int .i64 n, .int .i64 m, .int .i64 i] T)) w.heap.size op d n m i :=
  ⟨Lib.cell_of_heap (heap_alloc_new w _) 0, Lib.cell_of_heap (heap_alloc_new w _) 1, Lib.cell_of_heap (heap_alloc_new w _) 2, Lib.cell_of_heap (heap_alloc_new w _) 3, Lib.cell_of_heap (heap_alloc_new w _) 4, fun j => Lib.frozen_of_heap (heap_alloc_new w _) j, by simp⟩
theorem IBox.keep {w w' : World} {b op : Nat} {d n m i : Int} (h : IBox w b op d n m i) (hb : Below w.heap.size w w') : IBox w' b op d n m i :=
  ⟨(hb.cell (p := ⟨b, 0, none⟩) h.lt).trans h.c0, (hb.cell (p := ⟨b, 1, none⟩) h.lt).trans h.c1, (hb.cell (p := ⟨b, 2, none⟩) h.lt).trans h.c2, (hb.cell (p := ⟨b, 3, none⟩) h.lt).trans h.c3, (hb.cell (p := ⟨b, 4, none⟩) h.lt).trans h.c4, fun j => (hb.frozen (p := ⟨b, j, none⟩) h.lt).trans (h.fz j), Nat.lt_of_lt_of_le h.lt hb.size⟩
theorem IBox.setD {w : World} {b op : Nat} {d n m i : Int} (h : IBox w b op d n m i) (x : Int) : IBox (w.setCell ⟨b, 1, none⟩ (.int .i64 x)) b op x n m i :=
  ⟨by rw [World.cell?_setCell_other _ _ _ _ (by simp)]; exact h.c0, World.cell?_setCell_same' _ _ _ (by rw [h.c1]; rfl), by rw [World.cell?_setCell_other _ _ _ _ (by simp)]; exact h.c2, by rw [World.cell?_setCell_other _ _ _ _ (by simp)]; exact h.c3, by rw [World.cell?_setCell_other _ _ _ _ (by simp)]; exact h.c4, fun j => by rw [World.frozen?_setCell]; exact h.fz j, by simpa using h.lt⟩
theorem IBox.setN {w : World} {b op : Nat} {d n m i : Int} (h : IBox w b op d n m i) (x : Int) : IBox (w.setCell ⟨b, 2, none⟩ (.int .i64 x)) b op d x m i :=
  ⟨by rw [World.cell?_setCell_other _ _ _ _ (by simp)]; exact h.c0, by rw [World.cell?_setCell_other _ _ _ _ (by simp)]; exact h.c1, World.cell?_setCell_same' _ _ _ (by rw [h.c2]; rfl), by rw [World.cell?_setCell_other _ _ _ _ (by simp)]; exact h.c3, by rw [World.cell?_setCell_other _ _ _ _ (by simp)]; exact h.c4, fun j => by rw [World.frozen?_setCell]; exact h.fz j, by simpa using h.lt⟩
theorem IBox.setM {w : World} {b op : Nat} {d n m i : Int} (h : IBox w b op d n m i) (x : Int) : IBox (w.setCell ⟨b, 3, none⟩ (.int .i64 x)) b op d n x i :=
  ⟨by rw [World.cell?_setCell_other _ _ _ _ (by simp)]; exact h.c0, by rw [World.cell?_setCell_other _ _ _ _ (by simp)]; exact h.c1, by rw [World.cell?_setCell_other _ _ _ _ (by simp)]; exact h.c2, World.cell?_setCell_same' _ _ _ (by rw [h.c3]; rfl), by rw [World.cell?_setCell_other _ _ _ _ (by simp)]; exact h.c4, fun j => by rw [World.frozen?_setCell]; exact h.fz j, by simpa using h.lt⟩
theorem IBox.setI {w : World} {b op : Nat} {d n m i : Int} (h : IBox w b op d n m i) (x : Int) : IBox (w.setCell ⟨b, 4, none⟩ (.int .i64 x)) b op d n m x :=
  ⟨by rw [World.cell?_setCell_other _ _ _ _ (by simp)]; exact h.c0, by rw [World.cell?_setCell_other _ _ _ _ (by simp)]; exact h.c1, by rw [World.cell?_setCell_other _ _ _ _ (by simp)]; exact h.c2, by rw [World.cell?_setCell_other _ _ _ _ (by simp)]; exact h.c3, World.cell?_setCell_same' _ _ _ (by rw [h.c4]; rfl), fun j => by rw [World.frozen?_setCell]; exact h.fz j, by simpa using h.lt⟩
end Go.Proofs.YtagjnannnahplaaDoor
