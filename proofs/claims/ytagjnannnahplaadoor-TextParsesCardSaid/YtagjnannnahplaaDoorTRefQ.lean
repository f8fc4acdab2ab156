/- bautaref04.at, Parse. -/
import Derived.Test.YtagjnannnahplaaDoorTRefM
import Derived.Test.YtagjnannnahplaaDoorTRefP
import Derived.Deep.DeepCutAuto
import Derived.Deep.CutBlock
namespace Go.Proofs.YtagjnannnahplaaDoor
open Go.RowKit
set_option linter.unusedVariables false
set_option linter.unusedSimpArgs false
/-- A list of numbers that lies in memory. -/
def SlAt (w : World) (v : Value) (xs : List Int) : Prop :=
  (v = .slice none 0 0 ∧ xs = []) ∨ ∃ (g cap : Nat) (cur : Array Value) (T : TypeId), v = .slice (some ⟨g, 0, none⟩) xs.length cap ∧ w.heap[g]? = some (.cells cur T (0, 0)) ∧ cur.toList.take xs.length = xs.map (Value.int .i64)
theorem IntsAt.sl {w : World} {B : Nat} {v : Value} {xs : List Int} (h : IntsAt w B v xs) : SlAt w v xs := by
  obtain ⟨h1, h2⟩ := h
  rcases h2 with ⟨rfl, h3⟩ | ⟨g, cap, cur, rfl, h3, h4, h5, h6, h7, h8⟩
  · exact Or.inl ⟨rfl, List.length_eq_zero_iff.1 h3⟩
  · exact Or.inr ⟨g, cap, cur, _, rfl, h4, by simpa using h8⟩
theorem SlAt.keep {w w' : World} {v : Value} {xs : List Int} (h : SlAt w v xs) (hb : Below w.heap.size w w') : SlAt w' v xs := by
  rcases h with h | ⟨g, cap, cur, T, h1, h2, h3⟩
  · exact Or.inl h
  · exact Or.inr ⟨g, cap, cur, T, h1, heap_keep h2 hb, h3⟩
theorem SlAt.cell {w : World} {g : Nat} (cap : Nat) {cur : Array Value} {T : TypeId} {xs : List Int} (h2 : w.heap[g]? = some (.cells cur T (0, 0))) (h3 : cur.toList.take xs.length = xs.map (Value.int .i64)) (i : Nat) (hi : i < xs.length) :
    w.cell? ⟨g, i, none⟩ = some (.int .i64 (xs.getD i 0)) := by
  rw [Lib.cell_of_heap h2 i]
  have : (cur.toList.take xs.length)[i]? = (xs.map (Value.int .i64))[i]? := by rw [h3]
  rw [List.getElem?_take, if_pos hi] at this
  rw [List.getElem?_map, List.getElem?_eq_getElem hi] at this
  simp only [Array.getElem?_toList, Option.map_some] at this
  rw [this, List.getD_eq_getElem?_getD, List.getElem?_eq_getElem hi]
  rfl
set_option maxRecDepth 100000 in
set_option maxHeartbeats 2000000 in
theorem at_any (xs : List Int) (hl : xs.length ≤ 1000) (v : Value) (i : Nat) (hi : i < 100) (w : World) (h : SlAt w v xs) :
    Calls Tryd.prog 19 #[v, .int .i64 i] w fun e w' => e = .returned (.int .i64 (xs.getD i 0)) ∧ w = w' := by
  have HR : Hid (Ending.returned (.int .i64 (xs.getD i 0)) = Ending.returned (.int .i64 (xs.getD i 0))) := rfl
  rcases h with ⟨rfl, rfl⟩ | ⟨g, cap, cur, T, rfl, h2, h3⟩
  · have h0 : ¬ ((i : Int) < 0) := by omega
    go_enter Tryd.func19, Tryd.ntmps19
    go_wp2_with fail
    go_ret
    exact ⟨rfl, rfl⟩
  · have hc := SlAt.cell cap h2 h3 i
    by_cases hlt : i < xs.length
    · have hc' := hc hlt
      have hlt' : (i : Int) < (xs.length : Int) := by omega
      generalize xs.getD i 0 = X at *
      clear h2 h3 hc
      go_enter Tryd.func19, Tryd.ntmps19
      go_wp2_with fail
      go_ret
      exact ⟨rfl, rfl⟩
    · have hlt' : ¬ ((i : Int) < (xs.length : Int)) := by omega
      have hz : xs.getD i 0 = 0 := by rw [List.getD_eq_getElem?_getD, List.getElem?_eq_none (by omega)]; rfl
      rw [hz]
      clear h2 h3 hc hz HR
      go_enter Tryd.func19, Tryd.ntmps19
      go_wp2_with fail
      go_ret
      exact ⟨rfl, rfl⟩
/-- The j-th try's number is put in. -/
def setJ (op j : Nat) (q : Int × Int × Int × Int) : Int × Int × Int × Int := if op = 11 then (q.1, q.2.1, q.2.2.1, j) else if op = 18 then (j, q.2.1, q.2.2.1, q.2.2.2) else q
theorem setJ_cand (L : List Int) (op j j' : Nat) : setJ op j (candV L op j') = candV L op j := by
  unfold setJ
  by_cases h : op = 11
  · subst h; simp [candV]
  · by_cases h' : op = 18
    · subst h'; simp [candV]
    · rw [if_neg h, if_neg h']; simp [candV, h, h']
theorem hit_iff (L : List Int) (l : List UInt8) (op j : Nat) (hop : op < 21) : isHit L l op j = (canI op (candV L op j).1 (candV L op j).2.1 (candV L op j).2.2.1 (candV L op j).2.2.2 && (showI op (candV L op j).1 (candV L op j).2.1 (candV L op j).2.2.1 (candV L op j).2.2.2 == l)) := by
  unfold isHit canI showI canI
  have h : (decide (0 ≤ (op : Int) ∧ (op : Int) < 21)) = true := by simp; omega
  rw [h]
  simp only [Bool.true_and, Int.toNat_natCast]
  cases hc : canB op (candV L op j).1 (candV L op j).2.1 (candV L op j).2.2.1 (candV L op j).2.2.2
  · simp
  · simp
/-- No try has hit so far. -/
def MissTo (L : List Int) (l : List UInt8) (op j : Nat) : Prop := (∀ p < op, ∀ i < moreV p, isHit L l p i = false) ∧ ∀ i < j, isHit L l op i = false
theorem MissTo.next {L : List Int} {l : List UInt8} {op j : Nat} (h : MissTo L l op j) (hm : isHit L l op j = false) : MissTo L l op (j + 1) :=
  ⟨h.1, fun i hi => by by_cases e : i = j; · subst e; exact hm
                       · exact h.2 i (by omega)⟩
theorem MissTo.up {L : List Int} {l : List UInt8} {op j : Nat} (h : MissTo L l op j) (hj : moreV op ≤ j) : MissTo L l (op + 1) 0 :=
  ⟨fun p hp i hi => by by_cases e : p = op; · subst e; exact h.2 i (by omega)
                       · exact h.1 p (by omega) i hi, fun i hi => by omega⟩
/-- An instruction in a box of the call's own. -/
structure Box (w : World) (b : Nat) (op : Nat) (d n m i : Int) : Prop where
  c0 : w.cell? ⟨b, 0, none⟩ = some (.int .i64 op)
  c1 : w.cell? ⟨b, 1, none⟩ = some (.int .i64 d)
  c2 : w.cell? ⟨b, 2, none⟩ = some (.int .i64 n)
  c3 : w.cell? ⟨b, 3, none⟩ = some (.int .i64 m)
  c4 : w.cell? ⟨b, 4, none⟩ = some (.int .i64 i)
  fz : ∀ j, w.frozen? ⟨b, j, none⟩ = false
  lt : b < w.heap.size
theorem Box.new (w : World) (op : Nat) (d n m i : Int) (T : TypeId) : Box (w.alloc (.cells #[.int .i64 op, .int .i64 d, .int .i64 n, .int .i64 m, .int .i64 i] T)) w.heap.size op d n m i :=
  ⟨Lib.cell_of_heap (heap_alloc_new w _) 0, Lib.cell_of_heap (heap_alloc_new w _) 1, Lib.cell_of_heap (heap_alloc_new w _) 2, Lib.cell_of_heap (heap_alloc_new w _) 3, Lib.cell_of_heap (heap_alloc_new w _) 4, fun j => Lib.frozen_of_heap (heap_alloc_new w _) j, by simp⟩
theorem Box.keep {w w' : World} {b op : Nat} {d n m i : Int} (h : Box w b op d n m i) (hb : Below w.heap.size w w') : Box w' b op d n m i :=
  ⟨(hb.cell (p := ⟨b, 0, none⟩) h.lt).trans h.c0, (hb.cell (p := ⟨b, 1, none⟩) h.lt).trans h.c1, (hb.cell (p := ⟨b, 2, none⟩) h.lt).trans h.c2, (hb.cell (p := ⟨b, 3, none⟩) h.lt).trans h.c3, (hb.cell (p := ⟨b, 4, none⟩) h.lt).trans h.c4, fun j => (hb.frozen (p := ⟨b, j, none⟩) h.lt).trans (h.fz j), Nat.lt_of_lt_of_le h.lt hb.size⟩
theorem Box.setD {w : World} {b op : Nat} {d n m i : Int} (h : Box w b op d n m i) (x : Int) : Box (w.setCell ⟨b, 1, none⟩ (.int .i64 x)) b op x n m i :=
  ⟨by rw [World.cell?_setCell_other _ _ _ _ (by simp)]; exact h.c0, World.cell?_setCell_same' _ _ _ (by rw [h.c1]; rfl), by rw [World.cell?_setCell_other _ _ _ _ (by simp)]; exact h.c2, by rw [World.cell?_setCell_other _ _ _ _ (by simp)]; exact h.c3, by rw [World.cell?_setCell_other _ _ _ _ (by simp)]; exact h.c4, fun j => by rw [World.frozen?_setCell]; exact h.fz j, by simpa using h.lt⟩
theorem Box.setN {w : World} {b op : Nat} {d n m i : Int} (h : Box w b op d n m i) (x : Int) : Box (w.setCell ⟨b, 2, none⟩ (.int .i64 x)) b op d x m i :=
  ⟨by rw [World.cell?_setCell_other _ _ _ _ (by simp)]; exact h.c0, by rw [World.cell?_setCell_other _ _ _ _ (by simp)]; exact h.c1, World.cell?_setCell_same' _ _ _ (by rw [h.c2]; rfl), by rw [World.cell?_setCell_other _ _ _ _ (by simp)]; exact h.c3, by rw [World.cell?_setCell_other _ _ _ _ (by simp)]; exact h.c4, fun j => by rw [World.frozen?_setCell]; exact h.fz j, by simpa using h.lt⟩
theorem Box.setM {w : World} {b op : Nat} {d n m i : Int} (h : Box w b op d n m i) (x : Int) : Box (w.setCell ⟨b, 3, none⟩ (.int .i64 x)) b op d n x i :=
  ⟨by rw [World.cell?_setCell_other _ _ _ _ (by simp)]; exact h.c0, by rw [World.cell?_setCell_other _ _ _ _ (by simp)]; exact h.c1, by rw [World.cell?_setCell_other _ _ _ _ (by simp)]; exact h.c2, World.cell?_setCell_same' _ _ _ (by rw [h.c3]; rfl), by rw [World.cell?_setCell_other _ _ _ _ (by simp)]; exact h.c4, fun j => by rw [World.frozen?_setCell]; exact h.fz j, by simpa using h.lt⟩
theorem Box.setI {w : World} {b op : Nat} {d n m i : Int} (h : Box w b op d n m i) (x : Int) : Box (w.setCell ⟨b, 4, none⟩ (.int .i64 x)) b op d n m x :=
  ⟨by rw [World.cell?_setCell_other _ _ _ _ (by simp)]; exact h.c0, by rw [World.cell?_setCell_other _ _ _ _ (by simp)]; exact h.c1, by rw [World.cell?_setCell_other _ _ _ _ (by simp)]; exact h.c2, by rw [World.cell?_setCell_other _ _ _ _ (by simp)]; exact h.c3, World.cell?_setCell_same' _ _ _ (by rw [h.c4]; rfl), fun j => by rw [World.frozen?_setCell]; exact h.fz j, by simpa using h.lt⟩
/-- At the head of an inner round: the box, what lay before. -/
def Held (L : List Int) (op j b : Nat) (wr w' : World) : Prop := ∃ d n m i, setJ op j (d, n, m, i) = candV L op j ∧ Box w' b op d n m i ∧ Below b wr w'
theorem parOpt_hit (L : List Int) (l : List UInt8) (hL : L = marksV l) (op j : Nat) (hop : op < 21) (h : isHit L l op j = true) : parOpt (parseV canB l) = .tuple #[.agg #[.int .i64 op, .int .i64 (candV L op j).1, .int .i64 (candV L op j).2.1, .int .i64 (candV L op j).2.2.1, .int .i64 (candV L op j).2.2.2], .int .i64 0] := by
  subst hL
  rw [hit_parse l op j hop h]
  rfl
theorem wrap_tdiv (x k : Int) (h0 : -1000000 < x ∧ x < 1000000) (h1 : 0 < k ∧ k < 100) : IntKind.i64.wrap (x.tdiv k) = x.tdiv k := by
  have h2 := Int.natAbs_tdiv_le_natAbs x k
  rw [IntKind.wrap_i64]
  omega
theorem markV_bd (t : List UInt8) (x : Int) (h : markV t = some x) : -1000000 < x ∧ x < 1000000 := by
  have hs : ∀ t, 0 ≤ numD (digs6 t) 0 ∧ numD (digs6 t) 0 < 1000000 := fun t => by
    have gen : ∀ (ds : List UInt8) (n : Int), ds.all isDig = true → 0 ≤ n → 0 ≤ numD ds n ∧ numD ds n < (n + 1) * 10 ^ ds.length := by
      intro ds
      induction ds with
      | nil => intro n _ h; simp [numD]; omega
      | cons c ds ih =>
        intro n ha h
        simp only [List.all_cons, Bool.and_eq_true] at ha
        have hc := (isDig_iff c).1 ha.1
        have ih := ih (n * 10 + ((c.toNat : Int) - 48)) ha.2 (by omega)
        rw [numD_cons, List.length_cons, Int.pow_succ]
        refine ⟨ih.1, Int.lt_of_lt_of_le ih.2 ?_⟩
        have hp : (0 : Int) ≤ 10 ^ ds.length := Int.pow_nonneg (by omega)
        have h1 : n * 10 + ((c.toNat : Int) - 48) + 1 ≤ (n + 1) * 10 := by omega
        have h2 := Int.mul_le_mul_of_nonneg_right h1 hp
        rw [Int.mul_assoc, Int.mul_comm 10] at h2
        exact h2
    have ha : (digs6 t).all isDig = true := by unfold digs6; exact List.all_takeWhile
    have hl : (digs6 t).length ≤ 6 := by
      unfold digs6
      have := (List.takeWhile_sublist isDig (l := t.take 6)).length_le
      simp at this; omega
    have := gen (digs6 t) 0 ha (by omega)
    have := pow_le6 _ hl
    omega
  unfold markV at h
  by_cases h1 : t.head? = some 45
  · rw [if_pos h1] at h
    by_cases h2 : digs6 t.tail = []
    · rw [if_pos h2] at h; cases h
    · rw [if_neg h2] at h
      have := hs t.tail
      injection h with h
      omega
  · rw [if_neg h1] at h
    by_cases h2 : digs6 t = []
    · rw [if_pos h2] at h; cases h
    · rw [if_neg h2] at h
      have := hs t
      injection h with h
      omega
theorem marksV_facts : ∀ l : List UInt8, (marksV l).length ≤ l.length ∧ ∀ x ∈ marksV l, -1000000 < x ∧ x < 1000000
  | [] => ⟨Nat.le_refl _, fun x h => by cases h⟩
  | c :: r => by
    have ih := marksV_facts r
    unfold marksV
    by_cases hc : isMark c = true
    · rw [if_pos hc]
      cases hv : markV r with
      | none => simpa using ⟨by have := ih.1; omega, ih.2⟩
      | some x =>
        have hb := markV_bd r x hv
        refine ⟨by have := ih.1; simp; omega, fun y hy => ?_⟩
        simp at hy
        rcases hy with rfl | hy
        · exact hb
        · exact ih.2 y hy
    · rw [if_neg hc]
      exact ⟨by have := ih.1; simp; omega, by simpa using ih.2⟩
theorem marks_get (l : List UInt8) (i : Nat) : -1000000 < (marksV l).getD i 0 ∧ (marksV l).getD i 0 < 1000000 := by
  rw [List.getD_eq_getElem?_getD]
  by_cases h : i < (marksV l).length
  · rw [List.getElem?_eq_getElem h]; exact (marksV_facts l).2 _ (List.getElem_mem h)
  · rw [List.getElem?_eq_none (by omega)]; simp
end Go.Proofs.YtagjnannnahplaaDoor
