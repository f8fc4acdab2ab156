/- text.show: an instruction's text. -/
import Derived.Test.YtagjnannnahplaaDoorTShow0
namespace Go.Proofs.YtagjnannnahplaaDoor
open Go.RowKit
set_option linter.unusedVariables false
set_option linter.unusedSimpArgs false
set_option maxRecDepth 100000 in
set_option maxHeartbeats 4000000 in
theorem show_go (k : Nat) (d n m imm : Int) (w : World) (ht : Tabs w) (hk : k < 21) (hk19 : k ≠ 19) (hcan : canB k d n m imm = true)
    (hd : -100000 ≤ d ∧ d ≤ 100000) (hn : -100000 ≤ n ∧ n ≤ 100000) (hm : -100000 ≤ m ∧ m ≤ 100000) (hi : -100000 ≤ imm ∧ imm ≤ 100000) :
    Calls Tryd.prog 13 #[.agg #[.int .i64 k, .int .i64 d, .int .i64 n, .int .i64 m, .int .i64 imm]] w fun e w' => e = .returned (.string ⟨(showB k d n m imm).toArray⟩) ∧ Below w.heap.size w w' := by
  have hj0 : (0 : Int) ≤ (k : Int) := Int.natCast_nonneg _
  have hj1 : (k : Int) < 21 := by omega
  have hj2 : (k : Int) < ((21 : Nat) : Int) := by omega
  go_enter Tryd.func13, Tryd.ntmps13
  go_upto_region 1 with fail
  go_cut [3] (fun s3 wx => s3 = .string ⟨(shapesL.getD k []).toArray⟩ ∧ Below w.heap.size w wx ∧ wx.heap[w.heap.size]? = some (.cells #[.int .i64 k, .int .i64 d, .int .i64 n, .int .i64 m, .int .i64 imm] 23 (0, 0)))
  case first =>
    have hc : (w.alloc (.cells #[.int .i64 k, .int .i64 d, .int .i64 n, .int .i64 m, .int .i64 imm] 23)).cell? ⟨w.heap.size, 0, none⟩ = some (.int .i64 (k : Int)) := by simp [go_sem]
    have hbx : (w.alloc (.cells #[.int .i64 k, .int .i64 d, .int .i64 n, .int .i64 m, .int .i64 imm] 23)).heap[w.heap.size]? = some (.cells #[.int .i64 k, .int .i64 d, .int .i64 n, .int .i64 m, .int .i64 imm] 23 (0, 0)) := heap_alloc_new w _
    have hBW : Below w.heap.size w (w.alloc (.cells #[.int .i64 k, .int .i64 d, .int .i64 n, .int .i64 m, .int .i64 imm] 23)) := (Below.refl _ _).alloc (Nat.le_refl _) _
    have ht' := ht.below hBW
    have hsz : (w.alloc (.cells #[.int .i64 k, .int .i64 d, .int .i64 n, .int .i64 m, .int .i64 imm] 23)).heap.size = w.heap.size + 1 := by simp
    generalize w.alloc (.cells #[.int .i64 k, .int .i64 d, .int .i64 n, .int .i64 m, .int .i64 imm] 23) = W at *
    have hcell : (W.alloc (.cells (strCells shapesL) 9)).cell? ⟨w.heap.size + 1, k, none⟩ = some (.string ⟨(shapesL.getD k []).toArray⟩) := by rw [← hsz]; exact strCells_at shapesL W k (by have : shapesL.length = 21 := rfl; omega)
    have hx : (strCells shapesL)[k]? = some (.string ⟨(shapesL.getD k []).toArray⟩) := by rw [← hcell, ← hsz, Lib.cell_of_heap (heap_alloc_new W _) k]
    have hbx' := Hid.out (p := _) hbx
    have HB : Hid (W.heap[w.heap.size]? = some (.cells #[.int .i64 k, .int .i64 d, .int .i64 n, .int .i64 m, .int .i64 imm] 23 (0, 0))) := hbx
    clear hbx hbx'
    go_region_with (go_at_call 24; refine (fields_at _ shapesL 21 (by kernel_rfl) _ (ht'.below (Below.refl _ _).drew)).mono ?_; rintro e w1 ⟨rfl, rfl⟩)
    all_goals go_wp2
    all_goals go_meet
    all_goals exact ⟨rfl, by repeat' first | exact hBW | refine Below.alloc ?_ (by first | omega | (simp <;> omega)) _ | refine Below.drew ?_, heap_keep HB.out (by repeat' first | exact Below.refl _ _ | refine Below.alloc ?_ (by first | omega | (simp <;> omega)) _ | refine Below.drew ?_)⟩
  case rest =>
    obtain ⟨rfl, hBx, hbx⟩ := hcut
    have hsh := (not_congr (shapes_dash k hk)).2 hk19
    obtain ⟨hasc, hlen⟩ := shapes_ascii k hk
    have HF : Hid (showB k d n m imm = wordB k d imm ++ [32] ++ (shapesL.getD k []).flatMap fun c => piece c d n m imm) := by unfold showB Hid; rw [if_neg hsh]
    generalize hL : shapesL.getD k [] = L at *
    clear hL
    have hne : (L == [45]) = false := by simpa using hsh
    clear hsh
    have hz0 : w.heap.size < wc.heap.size := (Array.getElem?_eq_some_iff.1 hbx).1
    have hz1 : w.heap.size < wc.heap.size + 1 := by omega
    have hc0 := fun j => Lib.cell_of_heap hbx j
    go_wp2_with fail
    -- the word
    have hBb : Below wc.heap.size wc (wc.alloc (.cells #[.pointer none, .slice none 0 0] 47)) := (Below.refl _ _).alloc (Nat.le_refl _) _
    refine (word_any k d n m imm _ ((ht.below hBx).below hBb) hk hcan).mono ?_
    rintro e w1 ⟨rfl, hb1⟩
    have hB1 : Below wc.heap.size wc w1 := hBb.trans (hb1.mono (by simp))
    have hI1 : IsB wc.heap.size wc.heap.size (Lib.byteCells []) w1 := isb_keep (Lib.IsBuilderF.of (Lib.fresh_isBuilder _ _ wc)) hb1
    have hwl := wordB_len k d imm
    have HW : Hid (wordB k d imm = wordB k d imm) := rfl
    generalize hWd : wordB k d imm = wd at *
    clear hWd HW
    have hbx1 := heap_keep hbx hB1
    have ht1 := (ht.below hBx).below hB1
    have hsz1 := hB1.size
    clear hc0
    go_wp2_with (go_at_call 20; refine (writeString wc.heap.size wc.heap.size _ _ _ hI1 ?_ hsz1).mono ?_)
    · simp [Lib.byteCells]; show wd.toArray.size + 1 ≤ _; simp; omega
    rintro e w2 ⟨rfl, hA2, hb2, hk2⟩
    have hcells : Lib.byteCells [] ++ Lib.strCells ((⟨wd.toArray⟩ : ByteArray) ++ ⟨#[32]⟩) = Lib.byteCells (wd ++ [32]) := by simp [Lib.strCells, Lib.byteCells]
    rw [hcells] at hA2
    clear hcells
    have hB2 : Below wc.heap.size wc w2 := hB1.trans hb2
    have hbx2 : w2.heap[w.heap.size]? = some (.cells #[.int .i64 k, .int .i64 d, .int .i64 n, .int .i64 m, .int .i64 imm] 23 (0, 0)) := (hB2.block _ hz0).trans hbx
    have ht2 := (ht.below hBx).below hB2
    have hsz2 := hB2.size
    have hlt2 := Lib.BuilderAtF.lt hA2
    go_wp2_with fail
    go_loopw [] (fun wr => ∃ (pos : Nat) (acc : List UInt8), IsB wc.heap.size wc.heap.size (Lib.byteCells acc) wr ∧ wr.heap[w2.heap.size]? = some (.stringIter ⟨L.toArray⟩ pos) ∧ Below wc.heap.size wc wr ∧ acc = wd ++ [32] ++ (L.take pos).flatMap (fun c => piece c d n m imm) ∧ pos ≤ L.length ∧ acc.length ≤ 9 + 25 * pos) (fun wr => L.length - wr.iterPos w2.heap.size)
    case atStart =>
      refine ⟨0, wd ++ [32], (Lib.IsBuilderF.alloc (.inr hA2) _), ?_, hB2.alloc hsz2 _, by simp, Nat.zero_le _, by simp; omega⟩
      have := World.iter_heap w2 (⟨L.toArray⟩ : ByteArray) 0
      simpa using this
    case round =>
      obtain ⟨pos, acc, hI, hit, hBw, hacc, hpl, hal⟩ := hrel
      have HA : Hid (acc = wd ++ [32] ++ (L.take pos).flatMap (fun c => piece c d n m imm)) := hacc
      clear hacc
      have hszL : (⟨L.toArray⟩ : ByteArray).size = L.length := by show L.toArray.size = _; simp
      have hsw := hBw.size
      by_cases hp : pos < L.length
      · obtain ⟨s, hs⟩ : ∃ s : ByteArray, s = ⟨L.toArray⟩ := ⟨_, rfl⟩
        have hps : pos < s.size := by rw [hs, hszL]; exact hp
        have hgc : (s[pos]'hps) = L[pos] := by subst hs; rfl
        have ha : (L[pos]).toNat < 128 := by have := List.all_eq_true.1 hasc _ (List.getElem_mem hp); simpa using this
        obtain ⟨c, hc⟩ : ∃ c : UInt8, c = L[pos] := ⟨_, rfl⟩
        rw [← hs] at hit
        have hnx : ∀ ty, (Instr.next (.pointer (some ⟨w2.heap.size, 0, none⟩)) true ty).run Tryd.prog wr = _ := fun ty => Lib.run_next_ascii_at wr w2.heap.size s pos ty hit hps (by rw [hgc]; exact ha)
        rw [hgc, ← hc] at hnx
        rw [← hc] at ha
        have hlw2 : w2.heap.size < wr.heap.size := (Array.getElem?_eq_some_iff.1 hit).1
        obtain ⟨W, hW⟩ : ∃ W, W = wr.iterAt w2.heap.size s (pos + 1) := ⟨_, rfl⟩
        have hI2 : IsB wc.heap.size wc.heap.size (Lib.byteCells acc) W := by rw [hW]; exact hI.iterAt hit (pos + 1)
        have hit2 : W.heap[w2.heap.size]? = some (.stringIter s (pos + 1)) := by rw [hW]; exact Lib.iterAt_heap wr w2.heap.size s pos (pos + 1) hit
        have hBW : Below wc.heap.size wc W := by rw [hW]; exact Lib.below_iterAt hBw (k := w2.heap.size) (by omega) s (pos + 1)
        rw [← hW] at hnx
        have hbxW : W.heap[w.heap.size]? = some (.cells #[.int .i64 k, .int .i64 d, .int .i64 n, .int .i64 m, .int .i64 imm] 23 (0, 0)) := (hBW.block _ hz0).trans hbx
        have hcW := fun j => Lib.cell_of_heap hbxW j
        have htW := (ht.below hBx).below hBW
        have hszW := hBW.size
        have HA2 : Hid (acc ++ piece c d n m imm = wd ++ [32] ++ (L.take (pos + 1)).flatMap (fun c => piece c d n m imm)) := by
          show _ = _
          rw [HA.out, List.take_succ_eq_append_getElem hp, List.flatMap_append, ← hc]; simp
        have HM : Hid (s = ⟨L.toArray⟩) := hs
        have hld := Lib.itoa_length_le d (by omega) (by omega)
        have hln := Lib.itoa_length_le n (by omega) (by omega)
        have hlm := Lib.itoa_length_le m (by omega) (by omega)
        have hli := Lib.itoa_length_le imm (by omega) (by omega)
        have hl2 := Lib.itoa_length_le (2 * imm) (by omega) (by omega)
        have hl4 := Lib.itoa_length_le (4 * imm) (by omega) (by omega)
        obtain ⟨hd0, hd1⟩ := hd
        obtain ⟨hn0, hn1⟩ := hn
        obtain ⟨hm0, hm1⟩ := hm
        obtain ⟨hi0, hi1⟩ := hi
        have HWI : Hid (wr.heap[w2.heap.size]? = some (.stringIter s pos)) := hit
        clear hW hs hgc hc hbxW hszL hit hI hbx hbx1 hbx2 hne
        by_cases c100 : c = 100
        · subst c100
          go_wp2_with (go_at_call 26; refine (itoa_any _ (by omega) (by omega) _ htW).mono ?_; rintro e w3 ⟨rfl, hb3⟩)
          have hI3 := isb_keep hI2 hb3
          have hit3 := heap_keep hit2 hb3
          have hB3 := hBW.trans (hb3.mono hszW)
          have hsz3 := hB3.size
          clear hcW
          go_wp2_with fail
          refine (writeString wc.heap.size wc.heap.size _ _ _ hI3 (by rw [Lib.byteCells_length, cat_size]; omega) hsz3).mono ?_
          rintro e w4 ⟨rfl, hA4, hb4, hk4⟩
          rw [cat_cells, ← Lib.byteCells_append] at hA4
          have hit4 := hk4.iter hit3 (by omega)
          go_wp2
          go_roundw
          case rel => exact ⟨pos + 1, acc ++ piece 100 d n m imm, by exact .inr (by simpa [piece] using hA4), by rw [← HM.out]; exact hit4, hB3.trans hb4, HA2.out, by omega, by simp [piece]; omega⟩
          case measure => simp only [World.iterPos, hit4, HWI.out]; omega
        by_cases c110 : c = 110
        · subst c110
          go_wp2_with (go_at_call 26; refine (itoa_any _ (by omega) (by omega) _ htW).mono ?_; rintro e w3 ⟨rfl, hb3⟩)
          have hI3 := isb_keep hI2 hb3
          have hit3 := heap_keep hit2 hb3
          have hB3 := hBW.trans (hb3.mono hszW)
          have hsz3 := hB3.size
          clear hcW
          go_wp2_with fail
          refine (writeString wc.heap.size wc.heap.size _ _ _ hI3 (by rw [Lib.byteCells_length, cat_size]; omega) hsz3).mono ?_
          rintro e w4 ⟨rfl, hA4, hb4, hk4⟩
          rw [cat_cells, ← Lib.byteCells_append] at hA4
          have hit4 := hk4.iter hit3 (by omega)
          go_wp2
          go_roundw
          case rel => exact ⟨pos + 1, acc ++ piece 110 d n m imm, by exact .inr (by simpa [piece] using hA4), by rw [← HM.out]; exact hit4, hB3.trans hb4, HA2.out, by omega, by simp [piece]; omega⟩
          case measure => simp only [World.iterPos, hit4, HWI.out]; omega
        by_cases c109 : c = 109
        · subst c109
          go_wp2_with (go_at_call 26; refine (itoa_any _ (by omega) (by omega) _ htW).mono ?_; rintro e w3 ⟨rfl, hb3⟩)
          have hI3 := isb_keep hI2 hb3
          have hit3 := heap_keep hit2 hb3
          have hB3 := hBW.trans (hb3.mono hszW)
          have hsz3 := hB3.size
          clear hcW
          go_wp2_with fail
          refine (writeString wc.heap.size wc.heap.size _ _ _ hI3 (by rw [Lib.byteCells_length, cat_size]; omega) hsz3).mono ?_
          rintro e w4 ⟨rfl, hA4, hb4, hk4⟩
          rw [cat_cells, ← Lib.byteCells_append] at hA4
          have hit4 := hk4.iter hit3 (by omega)
          go_wp2
          go_roundw
          case rel => exact ⟨pos + 1, acc ++ piece 109 d n m imm, by exact .inr (by simpa [piece] using hA4), by rw [← HM.out]; exact hit4, hB3.trans hb4, HA2.out, by omega, by simp [piece]; omega⟩
          case measure => simp only [World.iterPos, hit4, HWI.out]; omega
        by_cases c105 : c = 105
        · subst c105
          go_wp2_with (go_at_call 26; refine (itoa_any _ (by omega) (by omega) _ htW).mono ?_; rintro e w3 ⟨rfl, hb3⟩)
          have hI3 := isb_keep hI2 hb3
          have hit3 := heap_keep hit2 hb3
          have hB3 := hBW.trans (hb3.mono hszW)
          have hsz3 := hB3.size
          clear hcW
          go_wp2_with fail
          refine (writeString wc.heap.size wc.heap.size _ _ _ hI3 (by rw [Lib.byteCells_length, cat_size]; omega) hsz3).mono ?_
          rintro e w4 ⟨rfl, hA4, hb4, hk4⟩
          rw [cat_cells, ← Lib.byteCells_append] at hA4
          have hit4 := hk4.iter hit3 (by omega)
          go_wp2
          go_roundw
          case rel => exact ⟨pos + 1, acc ++ piece 105 d n m imm, by exact .inr (by simpa [piece] using hA4), by rw [← HM.out]; exact hit4, hB3.trans hb4, HA2.out, by omega, by simp [piece]; omega⟩
          case measure => simp only [World.iterPos, hit4, HWI.out]; omega
        by_cases c50 : c = 50
        · subst c50
          go_wp2_with (go_at_call 26; refine (itoa_any _ (by omega) (by omega) _ htW).mono ?_; rintro e w3 ⟨rfl, hb3⟩)
          have hI3 := isb_keep hI2 hb3
          have hit3 := heap_keep hit2 hb3
          have hB3 := hBW.trans (hb3.mono hszW)
          have hsz3 := hB3.size
          clear hcW
          go_wp2_with fail
          refine (writeString wc.heap.size wc.heap.size _ _ _ hI3 (by rw [Lib.byteCells_length, cat_size]; omega) hsz3).mono ?_
          rintro e w4 ⟨rfl, hA4, hb4, hk4⟩
          rw [cat_cells, ← Lib.byteCells_append] at hA4
          have hit4 := hk4.iter hit3 (by omega)
          go_wp2
          go_roundw
          case rel => exact ⟨pos + 1, acc ++ piece 50 d n m imm, by exact .inr (by simpa [piece] using hA4), by rw [← HM.out]; exact hit4, hB3.trans hb4, HA2.out, by omega, by simp [piece]; omega⟩
          case measure => simp only [World.iterPos, hit4, HWI.out]; omega
        by_cases c52 : c = 52
        · subst c52
          go_wp2_with (go_at_call 26; refine (itoa_any _ (by omega) (by omega) _ htW).mono ?_; rintro e w3 ⟨rfl, hb3⟩)
          have hI3 := isb_keep hI2 hb3
          have hit3 := heap_keep hit2 hb3
          have hB3 := hBW.trans (hb3.mono hszW)
          have hsz3 := hB3.size
          clear hcW
          go_wp2_with fail
          refine (writeString wc.heap.size wc.heap.size _ _ _ hI3 (by rw [Lib.byteCells_length, cat_size]; omega) hsz3).mono ?_
          rintro e w4 ⟨rfl, hA4, hb4, hk4⟩
          rw [cat_cells, ← Lib.byteCells_append] at hA4
          have hit4 := hk4.iter hit3 (by omega)
          go_wp2
          go_roundw
          case rel => exact ⟨pos + 1, acc ++ piece 52 d n m imm, by exact .inr (by simpa [piece] using hA4), by rw [← HM.out]; exact hit4, hB3.trans hb4, HA2.out, by omega, by simp [piece]; omega⟩
          case measure => simp only [World.iterPos, hit4, HWI.out]; omega
        by_cases c44 : c = 44
        · subst c44
          go_wp2_with (go_at_call 20; refine (writeString wc.heap.size wc.heap.size _ _ _ hI2 (by rw [Lib.byteCells_length]; show _ + 2 ≤ _; omega) hszW).mono ?_; rintro e w4 ⟨rfl, hA4, hb4, hk4⟩)
          have hst : Lib.strCells (⟨#[44, 32]⟩ : ByteArray) = Lib.byteCells [44, 32] := rfl
          rw [hst, ← Lib.byteCells_append] at hA4
          clear hst
          have hit4 := hk4.iter hit2 (by omega)
          go_wp2
          go_roundw
          case rel => exact ⟨pos + 1, acc ++ piece 44 d n m imm, by exact .inr (by simpa [piece] using hA4), by rw [← HM.out]; exact hit4, hBW.trans hb4, HA2.out, by omega, by simp [piece]; omega⟩
          case measure => simp only [World.iterPos, hit4, HWI.out]; omega
        have e100 : ((c.toNat : Int) == 100) = false := beq_eq_false_iff_ne.2 (fun h => c100 (UInt8.toNat_inj.1 (by show _ = 100; omega)))
        have e110 : ((c.toNat : Int) == 110) = false := beq_eq_false_iff_ne.2 (fun h => c110 (UInt8.toNat_inj.1 (by show _ = 110; omega)))
        have e109 : ((c.toNat : Int) == 109) = false := beq_eq_false_iff_ne.2 (fun h => c109 (UInt8.toNat_inj.1 (by show _ = 109; omega)))
        have e105 : ((c.toNat : Int) == 105) = false := beq_eq_false_iff_ne.2 (fun h => c105 (UInt8.toNat_inj.1 (by show _ = 105; omega)))
        have e50 : ((c.toNat : Int) == 50) = false := beq_eq_false_iff_ne.2 (fun h => c50 (UInt8.toNat_inj.1 (by show _ = 50; omega)))
        have e52 : ((c.toNat : Int) == 52) = false := beq_eq_false_iff_ne.2 (fun h => c52 (UInt8.toNat_inj.1 (by show _ = 52; omega)))
        have e44 : ((c.toNat : Int) == 44) = false := beq_eq_false_iff_ne.2 (fun h => c44 (UInt8.toNat_inj.1 (by show _ = 44; omega)))
        have hpc : piece c d n m imm = [c] := by simp [piece, c100, c110, c109, c105, c50, c52, c44]
        have HP : Hid (piece c d n m imm = [c]) := hpc
        clear hpc c100 c110 c109 c105 c50 c52 c44
        go_wp2_with (go_at_call 27; refine (writeRune_a wc.heap.size wc.heap.size _ _ (by omega) (by omega) _ hI2 (by rw [Lib.byteCells_length]; omega) hszW).mono ?_; rintro e w4 ⟨rfl, hA4, hb4, hk4⟩)
        have hst : Lib.byteCells acc ++ [Value.int .u8 (c.toNat : Int)] = Lib.byteCells (acc ++ [c]) := by rw [Lib.byteCells_append]; rfl
        rw [hst] at hA4
        clear hst
        have hit4 := hk4.iter hit2 (by omega)
        go_wp2
        go_roundw
        case rel => exact ⟨pos + 1, acc ++ piece c d n m imm, by rw [HP.out]; exact .inr hA4, by rw [← HM.out]; exact hit4, hBW.trans hb4, HA2.out, by omega, by rw [HP.out]; simp; omega⟩
        case measure => simp only [World.iterPos, hit4, HWI.out]; omega
      · have hnx : ∀ ty, (Instr.next (.pointer (some ⟨w2.heap.size, 0, none⟩)) true ty).run Tryd.prog wr = _ := fun ty => Lib.run_next_end_at wr w2.heap.size ⟨L.toArray⟩ pos ty hit (by rw [hszL]; exact hp)
        go_wp2_with (go_at_call 22; refine (Tryd.Builder_String_any_k wc.heap.size wc.heap.size acc _ hI hsw).mono ?_)
        rintro e W1 ⟨rfl, _, b1, _⟩
        go_wp2
        go_ret
        have hpe : pos = L.length := by omega
        have hacc := HA.out
        rw [hpe, List.take_length] at hacc
        rw [HF.out, ← hacc]
        exact ⟨rfl, hBx.trans ((hBw.trans b1).mono (by omega))⟩
end Go.Proofs.YtagjnannnahplaaDoor
