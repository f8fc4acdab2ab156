/- Words for text.show. -/
import Derived.Test.YtagjnannnahplaaDoorTWord
import Derived.Deep.DeepCutAuto
import Derived.Lib.ItoaLen
namespace Go.Proofs.YtagjnannnahplaaDoor
open Go.RowKit
set_option linter.unusedVariables false
set_option linter.unusedSimpArgs false
theorem grownBy_of_below {w w1 : World} (h : Below w.heap.size w w1) (row : Option Nat) : w.grownBy w1 row := ⟨h.os, h.tape, h.output, h.size, fun i hi _ => h.block i hi⟩
theorem below_grow {B : Nat} {a w : World} (h : Below B a w) (hB : B ≤ w.heap.size) (os : Array Obj) : Below B a (Sort.grow w os) :=
  h.trans ⟨rfl, rfl, rfl, by simp [Sort.grow], fun k hk => by simp only [Sort.grow]; rw [Array.getElem?_append_left (by omega)]⟩
theorem bat_keep {B b : Nat} {p : Value} {bs : List Value} {w w' : World} (h : BAt B b p bs w) (hb : Below w.heap.size w w') : BAt B b p bs w' := by
  have hlt := Lib.BuilderAtF.lt h
  obtain ⟨hB, v, hbk, hown, hne⟩ := h
  exact ⟨hB, v, (hb.block b hlt).trans hbk, hown.kept (grownBy_of_below hb none) (by cases v.ownBlock <;> simp), hne⟩
theorem isb_keep {B b : Nat} {bs : List Value} {w w' : World} (h : IsB B b bs w) (hb : Below w.heap.size w w') : IsB B b bs w' := h.elim (fun h => .inl (bat_keep h hb)) (fun h => .inr (bat_keep h hb))
theorem heap_keep {w w' : World} {k : Nat} {o : Obj} (h : w.heap[k]? = some o) (hb : Below w.heap.size w w') : w'.heap[k]? = some o := (hb.block k (Array.getElem?_eq_some_iff.1 h).1).trans h
/-- strconv.Itoa, its world in one word. -/
theorem itoa_any (n : Int) (h0 : -9223372036854775808 ≤ n) (h1 : n ≤ 9223372036854775807) (w : World) (ht : Tabs w) :
    Calls Tryd.prog 26 #[.int .i64 n] w fun e w' => e = .returned (.string ⟨(Lib.itoa n).toArray⟩) ∧ Below w.heap.size w w' :=
  (Tryd.strconv_Itoa n h0 h1 w ht.pow).mono fun e w' ⟨he, k, os, hw⟩ => ⟨he, by rw [hw]; exact below_grow (below_drewN (Below.refl _ _) k) (by simp) os⟩
theorem cat_cells (c : UInt8) (l : List UInt8) : Lib.strCells ((⟨#[c]⟩ : ByteArray) ++ ⟨l.toArray⟩) = Lib.byteCells (c :: l) := by
  simp [Lib.strCells, Lib.byteCells]
theorem cat_size (c : UInt8) (l : List UInt8) : ((⟨#[c]⟩ : ByteArray) ++ ⟨l.toArray⟩).size = l.length + 1 := by
  rw [ByteArray.size_append]; show 1 + l.toArray.size = _; simp; omega
/-- The shapes' bytes are ASCII; none is longer than 8. -/
theorem shapes_ascii : ∀ k < 21, ((shapesL.getD k []).all fun c => decide (c.toNat < 128)) = true ∧ (shapesL.getD k []).length ≤ 8 := by decide +kernel
theorem shapes_dash : ∀ k < 21, (shapesL.getD k [] = [45]) ↔ k = 19 := by decide +kernel
theorem word_len : (∀ k < 21, (wordsL.getD k []).length ≤ 8) ∧ (∀ k < 16, (alusL.getD k []).length ≤ 8) ∧ (∀ k < 14, (condsL.getD k []).length ≤ 8) := by decide +kernel
theorem getD_len {l : List (List UInt8)} {b : Nat} (h : ∀ k < l.length, (l.getD k []).length ≤ b) (k : Nat) : (l.getD k []).length ≤ b := by
  rcases Nat.lt_or_ge k l.length with hk | hk
  · exact h k hk
  · simp [List.getD_eq_getElem?_getD, List.getElem?_eq_none hk]
theorem wordB_len (k : Nat) (d imm : Int) : (wordB k d imm).length ≤ 8 := by
  unfold wordB
  split
  · exact getD_len (b := 8) (l := alusL) word_len.2.1 _
  · split
    · exact getD_len (b := 8) (l := condsL) word_len.2.2 _
    · exact getD_len (b := 8) (l := wordsL) word_len.1 _
end Go.Proofs.YtagjnannnahplaaDoor
