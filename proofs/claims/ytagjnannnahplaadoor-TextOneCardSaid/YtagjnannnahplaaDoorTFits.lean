/- text.fits: a text read by a shape. -/
import Derived.Test.YtagjnannnahplaaDoorTNum
import Derived.Lib.ConvBytes
namespace Go.Proofs.YtagjnannnahplaaDoor
open Go.RowKit
set_option linter.unusedVariables false
set_option linter.unusedSimpArgs false
theorem blk_put {w : World} {g : Nat} {t : TypeId} {cs : Array Value} (h : w.heap[g]? = some (.cells cs t (0, 0))) (i : Nat) (u : Value) : (w.setCell ⟨g, i, none⟩ u).heap[g]? = some (.cells (cs.setIfInBounds i u) t (0, 0)) := by
  simp [World.setCell, Array.getElem?_modify, h]
theorem register_below (l : List UInt8) (w : World) (hl : l.length ≤ 9223372036854775807) :
    Calls Tryd.prog 46 #[.string ⟨l.toArray⟩] w fun e w' => e = .returned (.tuple #[.int .i64 (regV l).1, .string ⟨(regV l).2.1.toArray⟩, .bool (regV l).2.2]) ∧ Below w.heap.size w w' :=
  (register_any l w hl).mono fun e w' ⟨he, n, hw⟩ => ⟨he, by rw [hw]; exact below_drewN (Below.refl _ _) n⟩
theorem regV_len (l : List UInt8) : (regV l).2.1.length ≤ l.length := by
  unfold regV
  split
  · simp
  · simp
  · split <;> simp <;> omega
theorem numV_len (l : List UInt8) (t : Int) : (numV l t).2.1.length ≤ l.length := by
  simp only [numV, List.length_drop]
  have : (Lib.trimPrefix l [35]).length ≤ l.length := by unfold Lib.trimPrefix; split <;> simp
  omega
theorem trimPrefix_len (l p : List UInt8) : (Lib.trimPrefix l p).length ≤ l.length := by unfold Lib.trimPrefix; split <;> simp
def QBox (op : Int) (q : Int × Int × Int × Int) : Obj := .cells #[.int .i64 op, .int .i64 q.1, .int .i64 q.2.1, .int .i64 q.2.2.1, .int .i64 q.2.2.2] 23 (0, 0)
theorem rune_str (c : UInt8) (hc : c.toNat < 128) : ∀ W : World, (convert 21 9 (.int .i32 (c.toNat : Int))).run Tryd.prog W = .ok (.string ⟨#[c]⟩) W := by
  intro W
  rw [run_convert_int_string W _ _ .i32 _ (by rw [Tryd.underlying21]; rfl) Tryd.underlying9]
  have h : ∀ n < 128, Utf8.encode ((n : Nat) : Int) = ⟨#[UInt8.ofNat n]⟩ := by decide +kernel
  rw [h _ hc]
  simp
set_option maxRecDepth 100000 in
set_option maxHeartbeats 8000000 in
theorem fits_any (b : Nat) (op : Int) (q : Int × Int × Int × Int) (sh l : List UInt8) (w0 w : World) (ht : Tabs w0) (hw0 : Below w0.heap.size w0 w) (hb0 : w0.heap.size ≤ b) (hbk : w.heap[b]? = some (QBox op q))
    (hsh : sh.length ≤ 100) (hasc : (sh.all fun c => decide (c.toNat < 128)) = true) (hl : l.length ≤ 281474976710656) :
    Calls Tryd.prog 34 #[.pointer (some ⟨b, 0, none⟩), .string ⟨sh.toArray⟩, .string ⟨l.toArray⟩] w fun e w' => e = .returned (.bool (fitsV sh q l).2) ∧ Below b w w' ∧ w'.heap[b]? = some (QBox op (fitsV sh q l).1) := by
  have hcv : ∀ W : World, (convert 9 45 (.string ⟨sh.toArray⟩)).run Tryd.prog W = _ := fun W => Lib.run_convert_string_bytes W 9 45 5 ⟨sh.toArray⟩ Tryd.underlying9 Tryd.underlying45 Tryd.underlying5
  have hssz : (⟨sh.toArray⟩ : ByteArray).size = sh.length := by show sh.toArray.size = _; simp
  rw [hssz] at hcv
  have hblt : b < w.heap.size := (Array.getElem?_eq_some_iff.1 hbk).1
  go_enter Tryd.func34, Tryd.ntmps34
  go_wp2_with fail
  clear hcv
  have HF : Hid (∃ z, z = fitsV sh q l) := ⟨_, rfl⟩
  go_loopw [13, 2] (fun i s wr => ∃ (j : Nat) (q' : Int × Int × Int × Int) (r : List UInt8), j ≤ sh.length ∧ i = .int .i64 j ∧ s = .string ⟨r.toArray⟩ ∧ r.length ≤ 281474976710656 ∧ fitsV sh q l = fitsV (sh.drop j) q' r ∧ wr.heap[b]? = some (QBox op q') ∧ Below b w wr ∧ wr.heap[w.heap.size]? = (Lib.bytesWorld w 5 ⟨sh.toArray⟩).heap[w.heap.size]?) (fun i _ _ => sh.length - (intOf i).toNat)
  case atStart =>
    refine ⟨0, q, l, Nat.zero_le _, rfl, rfl, hl, rfl, ?_, ?_, rfl⟩
    · rw [Lib.bytesWorld_at_old _ _ _ _ hblt]; exact hbk
    · exact (bytesWorld_below w _).mono (by omega)
  case round =>
    obtain ⟨j, q', r, hj, rfl, rfl, hrl, hfit, hbk', hBw, hbyt⟩ := hrel
    have HR : Hid (fitsV sh q l = fitsV (sh.drop j) q' r) := hfit
    clear hfit
    have hltw : w.heap.size < wr.heap.size := by
      rw [Lib.bytesWorld_at_new] at hbyt
      exact (Array.getElem?_eq_some_iff.1 hbyt).1
    have HY : Hid (wr.heap[w.heap.size]? = (Lib.bytesWorld w 5 ⟨sh.toArray⟩).heap[w.heap.size]?) := hbyt
    have hcell : ∀ j', j' < sh.length → wr.cell? ⟨w.heap.size, j', none⟩ = some (.int .u8 ((sh.getD j' 0).toNat : Int)) := fun j' h => by
      have h1 := Lib.bytesWorld_cell w 5 ⟨sh.toArray⟩ j' (by rw [hssz]; exact h)
      rw [← h1]
      exact World.cell?_of_block (w := Lib.bytesWorld w 5 ⟨sh.toArray⟩) hbyt
    clear hbyt
    have htr : Tabs wr := ht.below (hw0.trans (hBw.mono hb0))
    by_cases hlt : j < sh.length
    · have hcj := hcell j hlt
      clear hcell
      obtain ⟨c, hc⟩ : ∃ c, c = sh.getD j 0 := ⟨_, rfl⟩
      rw [← hc] at hcj
      have hca : c.toNat < 128 := by
        have := List.all_eq_true.1 hasc (sh[j]) (List.getElem_mem hlt)
        rw [hc, List.getD_eq_getElem?_getD, List.getElem?_eq_getElem hlt]; simpa using this
      have HD : Hid (sh.drop j = c :: sh.drop (j + 1)) := by
        show _ = _
        rw [List.drop_eq_getElem_cons hlt, hc, List.getD_eq_getElem?_getD, List.getElem?_eq_getElem hlt]; rfl
      clear hc
      have hj0 : (0 : Int) ≤ (j : Int) := Int.natCast_nonneg _
      have hj1 : (j : Int) < (sh.length : Int) := by omega
      by_cases c100 : c = 100
      · subst c100
        have HS : Hid (stepV 100 q' r = (((regV r).1, q'.2.1, q'.2.2.1, q'.2.2.2), (regV r).2)) := rfl
        go_wp2_with fail
        refine (register_below r _ (by omega)).mono ?_
        rintro e w3 ⟨rfl, hb3⟩
        have hvl := regV_len r
        generalize hv : regV r = v at *
        clear hv
        obtain ⟨x, r', ok⟩ := v
        simp only at hvl
        have hbk3 := heap_keep hbk' hb3
        have hc3 := fun j => Lib.cell_of_heap hbk3 j
        have hf3 := fun j => Lib.frozen_of_heap hbk3 j
        have hB3 : Below b w w3 := hBw.trans (hb3.mono (by have := (Array.getElem?_eq_some_iff.1 hbk').1; omega))
        cases ok
        · go_wp2_with fail
          go_ret
          rw [HR.out, HD.out]
          simp only [fitsV, HS.out]
          exact ⟨rfl, hB3.setCell (p := ⟨b, 1, none⟩) (Nat.le_refl _) _, blk_put hbk3 1 _⟩
        · go_wp2_with fail
          go_roundw
          case rel =>
            refine ⟨j + 1, (stepV 100 q' r).1, r', by omega, by go_num, rfl, by omega, ?_, ?_, hB3.setCell (p := ⟨b, 1, none⟩) (Nat.le_refl _) _, ?_⟩
            · rw [HR.out, HD.out]; simp only [fitsV, HS.out, if_true]
            · rw [HS.out]; exact blk_put hbk3 1 _
            · rw [Below.heap_setCell _ _ _ _ (by show _ ≠ b; omega), hb3.block _ hltw]; exact HY.out
          case measure => simp [intOf]; omega
      by_cases c110 : c = 110
      · subst c110
        have HS : Hid (stepV 110 q' r = ((q'.1, (regV r).1, q'.2.2.1, q'.2.2.2), (regV r).2)) := rfl
        go_wp2_with fail
        refine (register_below r _ (by omega)).mono ?_
        rintro e w3 ⟨rfl, hb3⟩
        have hvl := regV_len r
        generalize hv : regV r = v at *
        clear hv
        obtain ⟨x, r', ok⟩ := v
        simp only at hvl
        have hbk3 := heap_keep hbk' hb3
        have hc3 := fun j => Lib.cell_of_heap hbk3 j
        have hf3 := fun j => Lib.frozen_of_heap hbk3 j
        have hB3 : Below b w w3 := hBw.trans (hb3.mono (by have := (Array.getElem?_eq_some_iff.1 hbk').1; omega))
        cases ok
        · go_wp2_with fail
          go_ret
          rw [HR.out, HD.out]
          simp only [fitsV, HS.out]
          exact ⟨rfl, hB3.setCell (p := ⟨b, 2, none⟩) (Nat.le_refl _) _, blk_put hbk3 2 _⟩
        · go_wp2_with fail
          go_roundw
          case rel =>
            refine ⟨j + 1, (stepV 110 q' r).1, r', by omega, by go_num, rfl, by omega, ?_, ?_, hB3.setCell (p := ⟨b, 2, none⟩) (Nat.le_refl _) _, ?_⟩
            · rw [HR.out, HD.out]; simp only [fitsV, HS.out, if_true]
            · rw [HS.out]; exact blk_put hbk3 2 _
            · rw [Below.heap_setCell _ _ _ _ (by show _ ≠ b; omega), hb3.block _ hltw]; exact HY.out
          case measure => simp [intOf]; omega
      by_cases c109 : c = 109
      · subst c109
        have HS : Hid (stepV 109 q' r = ((q'.1, q'.2.1, (regV r).1, q'.2.2.2), (regV r).2)) := rfl
        go_wp2_with fail
        refine (register_below r _ (by omega)).mono ?_
        rintro e w3 ⟨rfl, hb3⟩
        have hvl := regV_len r
        generalize hv : regV r = v at *
        clear hv
        obtain ⟨x, r', ok⟩ := v
        simp only at hvl
        have hbk3 := heap_keep hbk' hb3
        have hc3 := fun j => Lib.cell_of_heap hbk3 j
        have hf3 := fun j => Lib.frozen_of_heap hbk3 j
        have hB3 : Below b w w3 := hBw.trans (hb3.mono (by have := (Array.getElem?_eq_some_iff.1 hbk').1; omega))
        cases ok
        · go_wp2_with fail
          go_ret
          rw [HR.out, HD.out]
          simp only [fitsV, HS.out]
          exact ⟨rfl, hB3.setCell (p := ⟨b, 3, none⟩) (Nat.le_refl _) _, blk_put hbk3 3 _⟩
        · go_wp2_with fail
          go_roundw
          case rel =>
            refine ⟨j + 1, (stepV 109 q' r).1, r', by omega, by go_num, rfl, by omega, ?_, ?_, hB3.setCell (p := ⟨b, 3, none⟩) (Nat.le_refl _) _, ?_⟩
            · rw [HR.out, HD.out]; simp only [fitsV, HS.out, if_true]
            · rw [HS.out]; exact blk_put hbk3 3 _
            · rw [Below.heap_setCell _ _ _ _ (by show _ ≠ b; omega), hb3.block _ hltw]; exact HY.out
          case measure => simp [intOf]; omega
      by_cases c105 : c = 105
      · subst c105
        have HS : Hid (stepV 105 q' r = ((q'.1, q'.2.1, q'.2.2.1, (numV r 1).1), (numV r 1).2)) := rfl
        go_wp2_with fail
        refine (number_any r 1 _ htr hrl (by omega) (by omega)).mono ?_
        rintro e w3 ⟨rfl, hb3⟩
        have hvl := numV_len r 1
        generalize hv : numV r 1 = v at *
        clear hv
        obtain ⟨x, r', ok⟩ := v
        simp only at hvl
        have hbk3 := heap_keep hbk' hb3
        have hc3 := fun j => Lib.cell_of_heap hbk3 j
        have hf3 := fun j => Lib.frozen_of_heap hbk3 j
        have hB3 : Below b w w3 := hBw.trans (hb3.mono (by have := (Array.getElem?_eq_some_iff.1 hbk').1; omega))
        cases ok
        · go_wp2_with fail
          go_ret
          rw [HR.out, HD.out]
          simp only [fitsV, HS.out]
          exact ⟨rfl, hB3.setCell (p := ⟨b, 4, none⟩) (Nat.le_refl _) _, blk_put hbk3 4 _⟩
        · go_wp2_with fail
          go_roundw
          case rel =>
            refine ⟨j + 1, (stepV 105 q' r).1, r', by omega, by go_num, rfl, by omega, ?_, ?_, hB3.setCell (p := ⟨b, 4, none⟩) (Nat.le_refl _) _, ?_⟩
            · rw [HR.out, HD.out]; simp only [fitsV, HS.out, if_true]
            · rw [HS.out]; exact blk_put hbk3 4 _
            · rw [Below.heap_setCell _ _ _ _ (by show _ ≠ b; omega), hb3.block _ hltw]; exact HY.out
          case measure => simp [intOf]; omega
      by_cases c50 : c = 50
      · subst c50
        have HS : Hid (stepV 50 q' r = ((q'.1, q'.2.1, q'.2.2.1, (numV r 2).1), (numV r 2).2)) := rfl
        go_wp2_with fail
        refine (number_any r 2 _ htr hrl (by omega) (by omega)).mono ?_
        rintro e w3 ⟨rfl, hb3⟩
        have hvl := numV_len r 2
        generalize hv : numV r 2 = v at *
        clear hv
        obtain ⟨x, r', ok⟩ := v
        simp only at hvl
        have hbk3 := heap_keep hbk' hb3
        have hc3 := fun j => Lib.cell_of_heap hbk3 j
        have hf3 := fun j => Lib.frozen_of_heap hbk3 j
        have hB3 : Below b w w3 := hBw.trans (hb3.mono (by have := (Array.getElem?_eq_some_iff.1 hbk').1; omega))
        cases ok
        · go_wp2_with fail
          go_ret
          rw [HR.out, HD.out]
          simp only [fitsV, HS.out]
          exact ⟨rfl, hB3.setCell (p := ⟨b, 4, none⟩) (Nat.le_refl _) _, blk_put hbk3 4 _⟩
        · go_wp2_with fail
          go_roundw
          case rel =>
            refine ⟨j + 1, (stepV 50 q' r).1, r', by omega, by go_num, rfl, by omega, ?_, ?_, hB3.setCell (p := ⟨b, 4, none⟩) (Nat.le_refl _) _, ?_⟩
            · rw [HR.out, HD.out]; simp only [fitsV, HS.out, if_true]
            · rw [HS.out]; exact blk_put hbk3 4 _
            · rw [Below.heap_setCell _ _ _ _ (by show _ ≠ b; omega), hb3.block _ hltw]; exact HY.out
          case measure => simp [intOf]; omega
      by_cases c52 : c = 52
      · subst c52
        have HS : Hid (stepV 52 q' r = ((q'.1, q'.2.1, q'.2.2.1, (numV r 4).1), (numV r 4).2)) := rfl
        go_wp2_with fail
        refine (number_any r 4 _ htr hrl (by omega) (by omega)).mono ?_
        rintro e w3 ⟨rfl, hb3⟩
        have hvl := numV_len r 4
        generalize hv : numV r 4 = v at *
        clear hv
        obtain ⟨x, r', ok⟩ := v
        simp only at hvl
        have hbk3 := heap_keep hbk' hb3
        have hc3 := fun j => Lib.cell_of_heap hbk3 j
        have hf3 := fun j => Lib.frozen_of_heap hbk3 j
        have hB3 : Below b w w3 := hBw.trans (hb3.mono (by have := (Array.getElem?_eq_some_iff.1 hbk').1; omega))
        cases ok
        · go_wp2_with fail
          go_ret
          rw [HR.out, HD.out]
          simp only [fitsV, HS.out]
          exact ⟨rfl, hB3.setCell (p := ⟨b, 4, none⟩) (Nat.le_refl _) _, blk_put hbk3 4 _⟩
        · go_wp2_with fail
          go_roundw
          case rel =>
            refine ⟨j + 1, (stepV 52 q' r).1, r', by omega, by go_num, rfl, by omega, ?_, ?_, hB3.setCell (p := ⟨b, 4, none⟩) (Nat.le_refl _) _, ?_⟩
            · rw [HR.out, HD.out]; simp only [fitsV, HS.out, if_true]
            · rw [HS.out]; exact blk_put hbk3 4 _
            · rw [Below.heap_setCell _ _ _ _ (by show _ ≠ b; omega), hb3.block _ hltw]; exact HY.out
          case measure => simp [intOf]; omega
      by_cases c44 : c = 44
      · subst c44
        have HS : Hid (stepV 44 q' r = (q', Lib.trimPrefix r [44, 32], Lib.hasPrefix r [44, 32])) := rfl
        have hcp := cutPrefix_any r ⟨#[44, 32]⟩ wr
        have e1 : (⟨#[44, 32]⟩ : ByteArray).data.toList = [44, 32] := rfl
        rw [e1] at hcp
        clear e1
        have hvl := trimPrefix_len r [44, 32]
        generalize hv1 : Lib.trimPrefix r [44, 32] = r' at *
        generalize hv2 : Lib.hasPrefix r [44, 32] = ok at *
        clear hv1 hv2
        have HC := Lib.hid hcp
        clear hcp
        go_wp2_with fail
        refine HC.out.mono ?_
        rintro e w3 ⟨rfl, rfl⟩
        cases ok
        · go_wp2_with fail
          go_ret
          rw [HR.out, HD.out]
          simp only [fitsV, HS.out]
          exact ⟨rfl, hBw, hbk'⟩
        · go_wp2_with fail
          go_roundw
          case rel =>
            refine ⟨j + 1, q', r', by omega, by go_num, rfl, by omega, ?_, hbk', hBw, HY.out⟩
            rw [HR.out, HD.out]; simp only [fitsV, HS.out, if_true]
          case measure => simp [intOf]; omega
      have e100 : ((c.toNat : Int) == 100) = false := beq_eq_false_iff_ne.2 (fun h => c100 (UInt8.toNat_inj.1 (by show _ = 100; omega)))
      have e110 : ((c.toNat : Int) == 110) = false := beq_eq_false_iff_ne.2 (fun h => c110 (UInt8.toNat_inj.1 (by show _ = 110; omega)))
      have e109 : ((c.toNat : Int) == 109) = false := beq_eq_false_iff_ne.2 (fun h => c109 (UInt8.toNat_inj.1 (by show _ = 109; omega)))
      have e105 : ((c.toNat : Int) == 105) = false := beq_eq_false_iff_ne.2 (fun h => c105 (UInt8.toNat_inj.1 (by show _ = 105; omega)))
      have e50 : ((c.toNat : Int) == 50) = false := beq_eq_false_iff_ne.2 (fun h => c50 (UInt8.toNat_inj.1 (by show _ = 50; omega)))
      have e52 : ((c.toNat : Int) == 52) = false := beq_eq_false_iff_ne.2 (fun h => c52 (UInt8.toNat_inj.1 (by show _ = 52; omega)))
      have e44 : ((c.toNat : Int) == 44) = false := beq_eq_false_iff_ne.2 (fun h => c44 (UInt8.toNat_inj.1 (by show _ = 44; omega)))
      have HS : Hid (stepV c q' r = (q', Lib.trimPrefix r [c], Lib.hasPrefix r [c])) := by show _ = _; simp [stepV, c100, c110, c109, c105, c50, c52, c44]
      clear c100 c110 c109 c105 c50 c52 c44
      have hrs := rune_str c hca
      have hcp := cutPrefix_any r ⟨#[c]⟩ wr
      have e1 : (⟨#[c]⟩ : ByteArray).data.toList = [c] := rfl
      rw [e1] at hcp
      clear e1
      have hvl := trimPrefix_len r [c]
      generalize hv1 : Lib.trimPrefix r [c] = r' at *
      generalize hv2 : Lib.hasPrefix r [c] = ok at *
      clear hv1 hv2
      have HC := Lib.hid hcp
      clear hcp
      go_wp2_with fail
      refine HC.out.mono ?_
      rintro e w3 ⟨rfl, rfl⟩
      cases ok
      · go_wp2_with fail
        go_ret
        rw [HR.out, HD.out]
        simp only [fitsV, HS.out]
        exact ⟨rfl, hBw, hbk'⟩
      · go_wp2_with fail
        go_roundw
        case rel =>
          refine ⟨j + 1, q', r', by omega, by go_num, rfl, by omega, ?_, hbk', hBw, HY.out⟩
          rw [HR.out, HD.out]; simp only [fitsV, HS.out, if_true]
        case measure => simp [intOf]; omega
    · go_wp2
      go_ret
      have hje : sh.drop j = [] := List.drop_eq_nil_of_le (by omega)
      rw [HR.out, hje]
      refine ⟨?_, hBw, hbk'⟩
      simp [fitsV]
end Go.Proofs.YtagjnannnahplaaDoor
