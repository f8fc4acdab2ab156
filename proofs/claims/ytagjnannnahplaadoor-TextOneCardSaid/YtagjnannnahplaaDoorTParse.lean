/- text.parse: the instruction that a text is. -/
import Derived.Test.YtagjnannnahplaaDoorTFits
import Derived.Test.YtagjnannnahplaaDoorTShowAny
import Derived.Test.YtagjnannnahplaaDoorTPure3
namespace Go.Proofs.YtagjnannnahplaaDoor
open Go.RowKit
set_option linter.unusedVariables false
set_option linter.unusedSimpArgs false
set_option maxRecDepth 100000 in
theorem Can_any (k : Nat) (d n m imm : Int) (w : World) (hk : k < 21) : Calls Tryd.prog 12 #[.agg #[.int .i64 k, .int .i64 d, .int .i64 n, .int .i64 m, .int .i64 imm]] w fun e w' => e = .returned (.bool (canB k d n m imm)) ∧ Below w.heap.size w w' := by
  go_enter Tryd.func12, Tryd.ntmps12
  go_wp2_with (go_at_call 23; refine (can_any k hk d n m imm _).mono ?_; rintro e w1 ⟨rfl, hb⟩)
  go_ret
  exact ⟨rfl, ((Below.refl _ _).alloc (Nat.le_refl _) _).trans (hb.mono (by simp))⟩
theorem cut_any (l : List UInt8) (p : ByteArray) (w : World) (ht : Tabs w) (hl : l.length < 4294967281) : Calls Tryd.prog 33 #[.string ⟨l.toArray⟩, .string p] w fun e w' => e = .returned (.tuple #[.string ⟨(Lib.cut l p.data.toList).1.toArray⟩, .string ⟨(Lib.cut l p.data.toList).2.1.toArray⟩, .bool (Lib.cut l p.data.toList).2.2]) ∧ Below w.heap.size w w' := by
  obtain ⟨m, hm⟩ := ht.len
  refine (Tryd.strings_Cut ⟨l.toArray⟩ p m w (by show l.toArray.size < _; simpa using hl) hm).mono ?_
  rintro e w' ⟨rfl, n, rfl⟩
  exact ⟨rfl, below_drewN (Below.refl _ _) n⟩
theorem cut_len (l s : List UInt8) : (Lib.cut l s).1.length ≤ l.length ∧ (Lib.cut l s).2.1.length ≤ l.length := by
  unfold Lib.cut
  split <;> simp <;> omega
theorem idx_at (L : List (List UInt8)) (n : Nat) (x : List UInt8) (F : Nat) (w : World) (hn : L.length = n) (hF : w.heap[F]? = some (.cells (strCells L) 9 (0, 0))) (hb : n ≤ 1000) :
    Calls Tryd.prog 35 #[.slice (some ⟨F, 0, none⟩) n n, .string ⟨x.toArray⟩] w fun e w' => e = .returned (.int .i64 (idxV L x)) ∧ w = w' := by
  subst hn
  refine (Tryd.slices_Index_string F 0 L.length L.length (L.map fun l => ⟨l.toArray⟩) ⟨x.toArray⟩ w (by simp) (by omega) (fun j hj => ?_)).mono ?_
  · have hj' : j < L.length := by simpa using hj
    rw [Nat.zero_add, Lib.cell_of_heap hF j]
    simp [strCells, hj', List.getD_eq_getElem?_getD]
  · rintro e w' ⟨rfl, rfl⟩
    refine ⟨?_, rfl⟩
    unfold idxV
    rw [List.take_of_length_le (by simp)]
def zeroIns : Obj := .cells #[.int .i64 0, .int .i64 0, .int .i64 0, .int .i64 0, .int .i64 0] 23 (0, 0)
def insOpt : Option (Nat × Int × Int × Int × Int) → Value
  | some (k, d, n, m, imm) => .tuple #[.agg #[.int .i64 k, .int .i64 d, .int .i64 n, .int .i64 m, .int .i64 imm], .bool true]
  | none => .tuple #[.agg #[.int .i64 0, .int .i64 0, .int .i64 0, .int .i64 0, .int .i64 0], .bool false]
theorem try_next {first rest l : List UInt8} {j : Nat} (h : attV canB j first rest l = none) (hj : j < 21) : tryV canB first rest l (21 - j) j = tryV canB first rest l (21 - (j + 1)) (j + 1) := by
  obtain ⟨m, hm⟩ : ∃ m, 21 - j = m + 1 := ⟨20 - j, by omega⟩
  rw [hm, show 21 - (j + 1) = m by omega]
  simp [tryV, h]
theorem try_hit {first rest l : List UInt8} {j : Nat} {q : Int × Int × Int × Int} (h : attV canB j first rest l = some q) (hj : j < 21) : tryV canB first rest l (21 - j) j = some (j, q) := by
  obtain ⟨m, hm⟩ : ∃ m, 21 - j = m + 1 := ⟨20 - j, by omega⟩
  rw [hm]
  simp [tryV, h]
set_option maxRecDepth 100000 in
set_option maxHeartbeats 16000000 in
theorem parse_any (l : List UInt8) (w : World) (ht : Tabs w) (hl : l.length < 4294967281) :
    Calls Tryd.prog 17 #[.string ⟨l.toArray⟩] w fun e w' => e = .returned (insOpt (parseV canB l)) ∧ Below w.heap.size w w' := by
  obtain ⟨first, hfst⟩ : ∃ x, x = (Lib.cut l [32]).1 := ⟨_, rfl⟩
  obtain ⟨rest, hrst⟩ : ∃ x, x = (Lib.cut l [32]).2.1 := ⟨_, rfl⟩
  obtain ⟨fd, hfd⟩ : ∃ x, x = (Lib.cut l [32]).2.2 := ⟨_, rfl⟩
  have HP : Hid (parseV canB l = tryV canB first rest l 21 0) := by show _ = _; rw [hfst, hrst]; rfl
  have hrl : rest.length ≤ l.length := by rw [hrst]; exact (cut_len l [32]).2
  go_enter Tryd.func17, Tryd.ntmps17
  go_wp2_with fail
  have hB0 : Below w.heap.size w (w.alloc (.cells #[.int .i64 0, .int .i64 0, .int .i64 0, .int .i64 0, .int .i64 0] 23)) := (Below.refl _ _).alloc (Nat.le_refl _) _
  have hz0 : (w.alloc (.cells #[.int .i64 0, .int .i64 0, .int .i64 0, .int .i64 0, .int .i64 0] 23)).heap[w.heap.size]? = some zeroIns := heap_alloc_new w _
  refine (cut_any l ⟨#[32]⟩ _ (ht.below hB0) hl).mono ?_
  rintro e w1 ⟨rfl, hb1⟩
  have e32 : (⟨#[32]⟩ : ByteArray).data.toList = [32] := rfl
  rw [e32, ← hfst, ← hrst, ← hfd]
  clear e32 hfst hrst hfd
  have hz1 := heap_keep hz0 hb1
  have hB1 : Below w.heap.size w w1 := hB0.trans (hb1.mono hB0.size)
  go_wp2_with fail
  refine (fields_at _ shapesL 21 (by kernel_rfl) _ (ht.below hB1)).mono ?_
  rintro e w2 ⟨rfl, rfl⟩
  have hB2 : Below w.heap.size w (w1.alloc (.cells (strCells shapesL) 9)) := hB1.alloc hB1.size _
  have hz2 : (w1.alloc (.cells (strCells shapesL) 9)).heap[w.heap.size]? = some zeroIns := heap_keep hz1 ((Below.refl _ _).alloc (Nat.le_refl _) _)
  have hF2 : (w1.alloc (.cells (strCells shapesL) 9)).heap[w1.heap.size]? = some (.cells (strCells shapesL) 9 (0, 0)) := heap_alloc_new w1 _
  have hsz2 : (w1.alloc (.cells (strCells shapesL) 9)).heap.size = w1.heap.size + 1 := by simp
  have hlt1 : w.heap.size < w1.heap.size := (Array.getElem?_eq_some_iff.1 hz1).1
  obtain ⟨F, hF⟩ : ∃ F, F = w1.heap.size := ⟨_, rfl⟩
  rw [← hF] at hF2 hsz2 hlt1 ⊢
  generalize w1.alloc (.cells (strCells shapesL) 9) = w2 at *
  clear hF hz1 hb1 hB1 hz0 hB0
  go_wp2_with fail
  go_loopw [18] (fun i wr => ∃ (j : Nat), j ≤ 21 ∧ i = .int .i64 j ∧ parseV canB l = tryV canB first rest l (21 - j) j ∧ wr.heap[w.heap.size]? = some zeroIns ∧ wr.heap[F]? = some (.cells (strCells shapesL) 9 (0, 0)) ∧ Below w.heap.size w wr) (fun i _ => 21 - (intOf i).toNat)
  case atStart => exact ⟨0, by omega, rfl, HP.out, hz2, hF2, hB2⟩
  case round =>
    obtain ⟨j, hj, rfl, hr, hz, hFr, hBr⟩ := hrel
    have HR : Hid (parseV canB l = tryV canB first rest l (21 - j) j) := hr
    clear hr HP
    have hszr := hBr.size
    by_cases hlt : j < 21
    · have hj0 : (0 : Int) ≤ (j : Int) := Int.natCast_nonneg _
      have hj1 : (j : Int) < 21 := by omega
      have hcF : wr.cell? ⟨F, j, none⟩ = some (.string ⟨(shapesL.getD j []).toArray⟩) := by
        rw [Lib.cell_of_heap hFr j]
        have : j < shapesL.length := hlt
        simp [strCells, this, List.getD_eq_getElem?_getD]
      have HA : Hid (((shapesL.getD j []).all fun c => decide (c.toNat < 128)) = true ∧ (shapesL.getD j []).length ≤ 8 ∧ ∀ q1, fitsV (if shapesL.getD j [] = [45] then [] else shapesL.getD j []) (0, 0, 0, 0) rest = q1 → attV canB j first rest l = if q1.2 then finV canB j (adjV j first q1.1) l else none) := by
        refine ⟨(shapes_ascii j hlt).1, (shapes_ascii j hlt).2, ?_⟩
        intro q1 h; subst h; rfl
      generalize hL : shapesL.getD j [] = L at *
      clear hL
      by_cases hd : L = [45]
      · subst hd
        go_wp2_with fail
        have hfits := fits_any wr.heap.size j (0, 0, 0, 0) [] rest w _ ht (hBr.alloc hszr (QBox j (0, 0, 0, 0))) hszr (heap_alloc_new wr _) (by simp) (by simp) (by omega)
        refine hfits.mono ?_
        rintro e w4 ⟨rfl, hb4, hbk4⟩
        have HT : Hid (attV canB j first rest l = if (fitsV [] (0, 0, 0, 0) rest).2 then finV canB j (adjV j first (fitsV [] (0, 0, 0, 0) rest).1) l else none) := by
          obtain ⟨_, _, h3⟩ := HA.out
          exact h3 _ (by simp)
        clear HA hfits
        generalize hq : fitsV [] (0, 0, 0, 0) rest = q1 at *
        clear hq
        obtain ⟨q1, ok⟩ := q1
        simp only at hbk4
        have hz4 := (hb4.block _ (Array.getElem?_eq_some_iff.1 hz).1).trans (heap_keep hz ((Below.refl _ _).alloc (Nat.le_refl _) (QBox j (0, 0, 0, 0))))
        have hF4 := (hb4.block _ (Array.getElem?_eq_some_iff.1 hFr).1).trans (heap_keep hFr ((Below.refl _ _).alloc (Nat.le_refl _) (QBox j (0, 0, 0, 0))))
        have hB4 : Below w.heap.size w w4 := (hBr.alloc hszr _).trans (hb4.mono hszr)
        have hb0 : w.heap.size ≤ wr.heap.size := hszr
        have hne0 : w.heap.size ≠ wr.heap.size := Nat.ne_of_lt (Array.getElem?_eq_some_iff.1 hz).1
        have hne1 : F ≠ wr.heap.size := Nat.ne_of_lt (Array.getElem?_eq_some_iff.1 hFr).1
        generalize wr.heap.size = b at *
        clear hb4
        cases ok with
        | false =>
          go_wp2_with fail
          go_roundw
          case rel => exact ⟨j + 1, by omega, by go_num, by rw [HR.out]; exact try_next (by rw [HT.out]; simp) (by omega), hz4, hF4, hB4⟩
          case measure => simp [intOf]; omega
        | true =>
          simp only [if_true] at HT
          have hbk4 : w4.heap[b]? = some (.cells #[.int .i64 j, .int .i64 q1.1, .int .i64 q1.2.1, .int .i64 q1.2.2.1, .int .i64 q1.2.2.2] 23 (0, 0)) := hbk4
          by_cases h11 : j = 11
          · have e11 : ((j : Int) == 11) = true := beq_iff_eq.2 (by omega)
            have HT : Hid (attV canB j first rest l = finV canB j (q1.1, q1.2.1, q1.2.2.1, idxV alusL first) l) := by show _ = _; rw [HT.out]; simp [adjV, h11]
            clear h11
            go_wp2_with fail
            refine (fields_at _ alusL 16 (by kernel_rfl) _ (ht.below hB4)).mono ?_
            rintro e w5 ⟨rfl, rfl⟩
            have hG : (w4.alloc (.cells (strCells alusL) 9)).heap[w4.heap.size]? = some (.cells (strCells alusL) 9 (0, 0)) := heap_alloc_new w4 _
            have hBa : Below w4.heap.size w4 (w4.alloc (.cells (strCells alusL) 9)) := (Below.refl _ _).alloc (Nat.le_refl _) _
            have hbka := heap_keep hbk4 hBa
            have hza := heap_keep hz4 hBa
            have hFa := heap_keep hF4 hBa
            have hB5a : Below w.heap.size w (w4.alloc (.cells (strCells alusL) 9)) := hB4.trans (hBa.mono hB4.size)
            obtain ⟨G, hGe⟩ : ∃ G, G = w4.heap.size := ⟨_, rfl⟩
            rw [← hGe] at hG ⊢
            generalize w4.alloc (.cells (strCells alusL) 9) = w5 at *
            clear hBa hGe
            go_wp2_with fail
            refine (idx_at alusL 16 first G _ rfl hG (by omega)).mono ?_
            rintro e w5' ⟨rfl, rfl⟩
            have hca := fun i => Lib.cell_of_heap hbka i
            have hfa := fun i => Lib.frozen_of_heap hbka i
            generalize idxV alusL first = ix at *
            go_wp2_with fail
            have hbk5 := blk_put hbka 4 (.int .i64 ix)
            have hbne : w.heap.size ≠ b := hne0
            have hz5 : (w5.setCell ⟨b, 4, none⟩ (.int .i64 ix)).heap[w.heap.size]? = some zeroIns := (Below.heap_setCell _ _ _ _ hne0).trans hza
            have hF5 : (w5.setCell ⟨b, 4, none⟩ (.int .i64 ix)).heap[F]? = some (.cells (strCells shapesL) 9 (0, 0)) := (Below.heap_setCell _ _ _ _ hne1).trans hFa
            have hB5 : Below w.heap.size w (w5.setCell ⟨b, 4, none⟩ (.int .i64 ix)) := hB5a.setCell (p := ⟨b, 4, none⟩) hb0 _
            clear hca hfa hbne
            refine (Can_any j _ _ _ _ _ hlt).mono ?_
            rintro e w6 ⟨rfl, hb6⟩
            have hbk6 := heap_keep hbk5 hb6
            have hz6 := heap_keep hz5 hb6
            have hF6 := heap_keep hF5 hb6
            have hB6 : Below w.heap.size w w6 := hB5.trans (hb6.mono hB5.size)
            have hsz6 := hB6.size
            have hc6 := fun i => Lib.cell_of_heap hbk6 i
            clear hbk5 hz5 hF5 hb6 hB5
            cases hcan : canB j q1.1 q1.2.1 q1.2.2.1 ix with
            | false =>
              have HC : Hid (canB j q1.1 q1.2.1 q1.2.2.1 ix = false) := hcan
              clear hcan
              go_wp2_with fail
              go_roundw
              case rel => exact ⟨j + 1, by omega, by go_num, by rw [HR.out]; exact try_next (by rw [HT.out]; simp [finV, HC.out]) (by omega), hz6, hF6, hB6⟩
              case measure => simp [intOf]; omega
            | true =>
              have HC : Hid (canB j q1.1 q1.2.1 q1.2.2.1 ix = true) := hcan
              clear hcan
              go_wp2_with fail
              refine (show_any j _ _ _ _ _ (ht.below hB6) hlt HC.out).mono ?_
              rintro e w7 ⟨rfl, hb7⟩
              have hz7 := heap_keep hz6 hb7
              have hF7 := heap_keep hF6 hb7
              have hbk7 := heap_keep hbk6 hb7
              have hB7 : Below w.heap.size w w7 := hB6.trans (hb7.mono hB6.size)
              have hc7 := fun i => Lib.cell_of_heap hbk7 i
              clear hc6 hbk6 hz6 hF6
              obtain ⟨sb, hsb⟩ : ∃ sb, sb = showB j q1.1 q1.2.1 q1.2.2.1 ix := ⟨_, rfl⟩
              rw [← hsb]
              have HB : Hid (sb = showB j q1.1 q1.2.1 q1.2.2.1 ix) := hsb
              clear hsb
              by_cases heq : sb = l
              · have HE : Hid (parseV canB l = some (j, q1.1, q1.2.1, q1.2.2.1, ix)) := by
                  show _ = _
                  rw [HR.out]
                  refine try_hit ?_ hlt
                  rw [HT.out]
                  have h1 := HC.out
                  have h3 := HB.out
                  subst h3
                  simp [finV, h1, heq]
                subst heq
                unfold zeroIns at hz7
                have hzc := fun i => Lib.cell_of_heap hz7 i
                have hzf := fun i => Lib.frozen_of_heap hz7 i
                go_wp2_with fail
                refine bodyPost_ret (v := insOpt (some (j, q1.1, q1.2.1, q1.2.2.1, ix))) (by simp [results, Tryd.results17, go_sem, insOpt, hzc]) rfl ?_
                rw [HE.out]
                refine ⟨rfl, ?_⟩
                exact (((((hB7.setCell (p := ⟨w.heap.size, 0, none⟩) (Nat.le_refl _) _).setCell (p := ⟨w.heap.size, 1, none⟩) (Nat.le_refl _) _).setCell (p := ⟨w.heap.size, 2, none⟩) (Nat.le_refl _) _).setCell (p := ⟨w.heap.size, 3, none⟩) (Nat.le_refl _) _).setCell (p := ⟨w.heap.size, 4, none⟩) (Nat.le_refl _) _)
              · have hne2 : (sb == l) = false := by simpa using heq
                have HN : Hid (sb ≠ l) := heq
                clear heq
                go_wp2_with fail
                go_roundw
                case rel => exact ⟨j + 1, by omega, by go_num, by rw [HR.out]; exact try_next (by rw [HT.out]; have h1 := HC.out; have h2 := HN.out; have h3 := HB.out; subst h3; simp [finV, h1, h2]) (by omega), hz7, hF7, hB7⟩
                case measure => simp [intOf]; omega
          · have e11 : ((j : Int) == 11) = false := beq_eq_false_iff_ne.2 (by omega)
            by_cases h18 : j = 18
            · have e18 : ((j : Int) == 18) = true := beq_iff_eq.2 (by omega)
              have HT : Hid (attV canB j first rest l = finV canB j (idxV condsL first, q1.2.1, q1.2.2.1, q1.2.2.2) l) := by show _ = _; rw [HT.out]; simp [adjV, h18]
              clear h11 h18
              go_wp2_with fail
              refine (fields_at _ condsL 14 (by kernel_rfl) _ (ht.below hB4)).mono ?_
              rintro e w5 ⟨rfl, rfl⟩
              have hG : (w4.alloc (.cells (strCells condsL) 9)).heap[w4.heap.size]? = some (.cells (strCells condsL) 9 (0, 0)) := heap_alloc_new w4 _
              have hBa : Below w4.heap.size w4 (w4.alloc (.cells (strCells condsL) 9)) := (Below.refl _ _).alloc (Nat.le_refl _) _
              have hbka := heap_keep hbk4 hBa
              have hza := heap_keep hz4 hBa
              have hFa := heap_keep hF4 hBa
              have hB5a : Below w.heap.size w (w4.alloc (.cells (strCells condsL) 9)) := hB4.trans (hBa.mono hB4.size)
              obtain ⟨G, hGe⟩ : ∃ G, G = w4.heap.size := ⟨_, rfl⟩
              rw [← hGe] at hG ⊢
              generalize w4.alloc (.cells (strCells condsL) 9) = w5 at *
              clear hBa hGe
              go_wp2_with fail
              refine (idx_at condsL 14 first G _ rfl hG (by omega)).mono ?_
              rintro e w5' ⟨rfl, rfl⟩
              have hca := fun i => Lib.cell_of_heap hbka i
              have hfa := fun i => Lib.frozen_of_heap hbka i
              generalize idxV condsL first = ix at *
              go_wp2_with fail
              have hbk5 := blk_put hbka 1 (.int .i64 ix)
              have hz5 : (w5.setCell ⟨b, 1, none⟩ (.int .i64 ix)).heap[w.heap.size]? = some zeroIns := (Below.heap_setCell _ _ _ _ hne0).trans hza
              have hF5 : (w5.setCell ⟨b, 1, none⟩ (.int .i64 ix)).heap[F]? = some (.cells (strCells shapesL) 9 (0, 0)) := (Below.heap_setCell _ _ _ _ hne1).trans hFa
              have hB5 : Below w.heap.size w (w5.setCell ⟨b, 1, none⟩ (.int .i64 ix)) := hB5a.setCell (p := ⟨b, 1, none⟩) hb0 _
              clear hca hfa
              refine (Can_any j _ _ _ _ _ hlt).mono ?_
              rintro e w6 ⟨rfl, hb6⟩
              have hbk6 := heap_keep hbk5 hb6
              have hz6 := heap_keep hz5 hb6
              have hF6 := heap_keep hF5 hb6
              have hB6 : Below w.heap.size w w6 := hB5.trans (hb6.mono hB5.size)
              have hsz6 := hB6.size
              have hc6 := fun i => Lib.cell_of_heap hbk6 i
              clear hbk5 hz5 hF5 hb6 hB5
              cases hcan : canB j ix q1.2.1 q1.2.2.1 q1.2.2.2 with
              | false =>
                have HC : Hid (canB j ix q1.2.1 q1.2.2.1 q1.2.2.2 = false) := hcan
                clear hcan
                go_wp2_with fail
                go_roundw
                case rel => exact ⟨j + 1, by omega, by go_num, by rw [HR.out]; exact try_next (by rw [HT.out]; simp [finV, HC.out]) (by omega), hz6, hF6, hB6⟩
                case measure => simp [intOf]; omega
              | true =>
                have HC : Hid (canB j ix q1.2.1 q1.2.2.1 q1.2.2.2 = true) := hcan
                clear hcan
                go_wp2_with fail
                refine (show_any j _ _ _ _ _ (ht.below hB6) hlt HC.out).mono ?_
                rintro e w7 ⟨rfl, hb7⟩
                have hz7 := heap_keep hz6 hb7
                have hF7 := heap_keep hF6 hb7
                have hbk7 := heap_keep hbk6 hb7
                have hB7 : Below w.heap.size w w7 := hB6.trans (hb7.mono hB6.size)
                have hc7 := fun i => Lib.cell_of_heap hbk7 i
                clear hc6 hbk6 hz6 hF6
                obtain ⟨sb, hsb⟩ : ∃ sb, sb = showB j ix q1.2.1 q1.2.2.1 q1.2.2.2 := ⟨_, rfl⟩
                rw [← hsb]
                have HB : Hid (sb = showB j ix q1.2.1 q1.2.2.1 q1.2.2.2) := hsb
                clear hsb
                by_cases heq : sb = l
                · have HE : Hid (parseV canB l = some (j, ix, q1.2.1, q1.2.2.1, q1.2.2.2)) := by
                    show _ = _
                    rw [HR.out]
                    refine try_hit ?_ hlt
                    rw [HT.out]
                    have h1 := HC.out
                    have h3 := HB.out
                    subst h3
                    simp [finV, h1, heq]
                  subst heq
                  unfold zeroIns at hz7
                  have hzc := fun i => Lib.cell_of_heap hz7 i
                  have hzf := fun i => Lib.frozen_of_heap hz7 i
                  go_wp2_with fail
                  refine bodyPost_ret (v := insOpt (some (j, ix, q1.2.1, q1.2.2.1, q1.2.2.2))) (by simp [results, Tryd.results17, go_sem, insOpt, hzc]) rfl ?_
                  rw [HE.out]
                  refine ⟨rfl, ?_⟩
                  exact (((((hB7.setCell (p := ⟨w.heap.size, 0, none⟩) (Nat.le_refl _) _).setCell (p := ⟨w.heap.size, 1, none⟩) (Nat.le_refl _) _).setCell (p := ⟨w.heap.size, 2, none⟩) (Nat.le_refl _) _).setCell (p := ⟨w.heap.size, 3, none⟩) (Nat.le_refl _) _).setCell (p := ⟨w.heap.size, 4, none⟩) (Nat.le_refl _) _)
                · have hne2 : (sb == l) = false := by simpa using heq
                  have HN : Hid (sb ≠ l) := heq
                  clear heq
                  go_wp2_with fail
                  go_roundw
                  case rel => exact ⟨j + 1, by omega, by go_num, by rw [HR.out]; exact try_next (by rw [HT.out]; have h1 := HC.out; have h2 := HN.out; have h3 := HB.out; subst h3; simp [finV, h1, h2]) (by omega), hz7, hF7, hB7⟩
                  case measure => simp [intOf]; omega
            · have e18 : ((j : Int) == 18) = false := beq_eq_false_iff_ne.2 (by omega)
              have HT : Hid (attV canB j first rest l = finV canB j (q1.1, q1.2.1, q1.2.2.1, q1.2.2.2) l) := by show _ = _; rw [HT.out]; simp [adjV, h11, h18]
              clear h11 h18
              have hca := fun i => Lib.cell_of_heap hbk4 i
              go_wp2_with fail
              have hbk5 := hbk4
              have hz5 := hz4
              have hF5 := hF4
              have hB5 := hB4
              clear hca hbk4 hz4 hF4 hB4
              refine (Can_any j _ _ _ _ _ hlt).mono ?_
              rintro e w6 ⟨rfl, hb6⟩
              have hbk6 := heap_keep hbk5 hb6
              have hz6 := heap_keep hz5 hb6
              have hF6 := heap_keep hF5 hb6
              have hB6 : Below w.heap.size w w6 := hB5.trans (hb6.mono hB5.size)
              have hsz6 := hB6.size
              have hc6 := fun i => Lib.cell_of_heap hbk6 i
              clear hbk5 hz5 hF5 hb6 hB5
              cases hcan : canB j q1.1 q1.2.1 q1.2.2.1 q1.2.2.2 with
              | false =>
                have HC : Hid (canB j q1.1 q1.2.1 q1.2.2.1 q1.2.2.2 = false) := hcan
                clear hcan
                go_wp2_with fail
                go_roundw
                case rel => exact ⟨j + 1, by omega, by go_num, by rw [HR.out]; exact try_next (by rw [HT.out]; simp [finV, HC.out]) (by omega), hz6, hF6, hB6⟩
                case measure => simp [intOf]; omega
              | true =>
                have HC : Hid (canB j q1.1 q1.2.1 q1.2.2.1 q1.2.2.2 = true) := hcan
                clear hcan
                go_wp2_with fail
                refine (show_any j _ _ _ _ _ (ht.below hB6) hlt HC.out).mono ?_
                rintro e w7 ⟨rfl, hb7⟩
                have hz7 := heap_keep hz6 hb7
                have hF7 := heap_keep hF6 hb7
                have hbk7 := heap_keep hbk6 hb7
                have hB7 : Below w.heap.size w w7 := hB6.trans (hb7.mono hB6.size)
                have hc7 := fun i => Lib.cell_of_heap hbk7 i
                clear hc6 hbk6 hz6 hF6
                obtain ⟨sb, hsb⟩ : ∃ sb, sb = showB j q1.1 q1.2.1 q1.2.2.1 q1.2.2.2 := ⟨_, rfl⟩
                rw [← hsb]
                have HB : Hid (sb = showB j q1.1 q1.2.1 q1.2.2.1 q1.2.2.2) := hsb
                clear hsb
                by_cases heq : sb = l
                · have HE : Hid (parseV canB l = some (j, q1.1, q1.2.1, q1.2.2.1, q1.2.2.2)) := by
                    show _ = _
                    rw [HR.out]
                    refine try_hit ?_ hlt
                    rw [HT.out]
                    have h1 := HC.out
                    have h3 := HB.out
                    subst h3
                    simp [finV, h1, heq]
                  subst heq
                  unfold zeroIns at hz7
                  have hzc := fun i => Lib.cell_of_heap hz7 i
                  have hzf := fun i => Lib.frozen_of_heap hz7 i
                  go_wp2_with fail
                  refine bodyPost_ret (v := insOpt (some (j, q1.1, q1.2.1, q1.2.2.1, q1.2.2.2))) (by simp [results, Tryd.results17, go_sem, insOpt, hzc]) rfl ?_
                  rw [HE.out]
                  refine ⟨rfl, ?_⟩
                  exact (((((hB7.setCell (p := ⟨w.heap.size, 0, none⟩) (Nat.le_refl _) _).setCell (p := ⟨w.heap.size, 1, none⟩) (Nat.le_refl _) _).setCell (p := ⟨w.heap.size, 2, none⟩) (Nat.le_refl _) _).setCell (p := ⟨w.heap.size, 3, none⟩) (Nat.le_refl _) _).setCell (p := ⟨w.heap.size, 4, none⟩) (Nat.le_refl _) _)
                · have hne2 : (sb == l) = false := by simpa using heq
                  have HN : Hid (sb ≠ l) := heq
                  clear heq
                  go_wp2_with fail
                  go_roundw
                  case rel => exact ⟨j + 1, by omega, by go_num, by rw [HR.out]; exact try_next (by rw [HT.out]; have h1 := HC.out; have h2 := HN.out; have h3 := HB.out; subst h3; simp [finV, h1, h2]) (by omega), hz7, hF7, hB7⟩
                  case measure => simp [intOf]; omega
      · have hne : (L == [45]) = false := by simpa using hd
        go_wp2_with fail
        obtain ⟨ha1, ha2, _⟩ := HA.out
        have hfits := fits_any wr.heap.size j (0, 0, 0, 0) L rest w _ ht (hBr.alloc hszr (QBox j (0, 0, 0, 0))) hszr (heap_alloc_new wr _) (by omega) ha1 (by omega)
        clear ha1 ha2
        refine hfits.mono ?_
        rintro e w4 ⟨rfl, hb4, hbk4⟩
        have HT : Hid (attV canB j first rest l = if (fitsV L (0, 0, 0, 0) rest).2 then finV canB j (adjV j first (fitsV L (0, 0, 0, 0) rest).1) l else none) := by
          obtain ⟨_, _, h3⟩ := HA.out
          exact h3 _ (by rw [if_neg hd])
        clear HA hfits
        generalize hq : fitsV L (0, 0, 0, 0) rest = q1 at *
        clear hq
        obtain ⟨q1, ok⟩ := q1
        simp only at hbk4
        have hz4 := (hb4.block _ (Array.getElem?_eq_some_iff.1 hz).1).trans (heap_keep hz ((Below.refl _ _).alloc (Nat.le_refl _) (QBox j (0, 0, 0, 0))))
        have hF4 := (hb4.block _ (Array.getElem?_eq_some_iff.1 hFr).1).trans (heap_keep hFr ((Below.refl _ _).alloc (Nat.le_refl _) (QBox j (0, 0, 0, 0))))
        have hB4 : Below w.heap.size w w4 := (hBr.alloc hszr _).trans (hb4.mono hszr)
        have hb0 : w.heap.size ≤ wr.heap.size := hszr
        have hne0 : w.heap.size ≠ wr.heap.size := Nat.ne_of_lt (Array.getElem?_eq_some_iff.1 hz).1
        have hne1 : F ≠ wr.heap.size := Nat.ne_of_lt (Array.getElem?_eq_some_iff.1 hFr).1
        generalize wr.heap.size = b at *
        clear hb4
        cases ok with
        | false =>
          go_wp2_with fail
          go_roundw
          case rel => exact ⟨j + 1, by omega, by go_num, by rw [HR.out]; exact try_next (by rw [HT.out]; simp) (by omega), hz4, hF4, hB4⟩
          case measure => simp [intOf]; omega
        | true =>
          simp only [if_true] at HT
          have hbk4 : w4.heap[b]? = some (.cells #[.int .i64 j, .int .i64 q1.1, .int .i64 q1.2.1, .int .i64 q1.2.2.1, .int .i64 q1.2.2.2] 23 (0, 0)) := hbk4
          by_cases h11 : j = 11
          · have e11 : ((j : Int) == 11) = true := beq_iff_eq.2 (by omega)
            have HT : Hid (attV canB j first rest l = finV canB j (q1.1, q1.2.1, q1.2.2.1, idxV alusL first) l) := by show _ = _; rw [HT.out]; simp [adjV, h11]
            clear h11
            go_wp2_with fail
            refine (fields_at _ alusL 16 (by kernel_rfl) _ (ht.below hB4)).mono ?_
            rintro e w5 ⟨rfl, rfl⟩
            have hG : (w4.alloc (.cells (strCells alusL) 9)).heap[w4.heap.size]? = some (.cells (strCells alusL) 9 (0, 0)) := heap_alloc_new w4 _
            have hBa : Below w4.heap.size w4 (w4.alloc (.cells (strCells alusL) 9)) := (Below.refl _ _).alloc (Nat.le_refl _) _
            have hbka := heap_keep hbk4 hBa
            have hza := heap_keep hz4 hBa
            have hFa := heap_keep hF4 hBa
            have hB5a : Below w.heap.size w (w4.alloc (.cells (strCells alusL) 9)) := hB4.trans (hBa.mono hB4.size)
            obtain ⟨G, hGe⟩ : ∃ G, G = w4.heap.size := ⟨_, rfl⟩
            rw [← hGe] at hG ⊢
            generalize w4.alloc (.cells (strCells alusL) 9) = w5 at *
            clear hBa hGe
            go_wp2_with fail
            refine (idx_at alusL 16 first G _ rfl hG (by omega)).mono ?_
            rintro e w5' ⟨rfl, rfl⟩
            have hca := fun i => Lib.cell_of_heap hbka i
            have hfa := fun i => Lib.frozen_of_heap hbka i
            generalize idxV alusL first = ix at *
            go_wp2_with fail
            have hbk5 := blk_put hbka 4 (.int .i64 ix)
            have hbne : w.heap.size ≠ b := hne0
            have hz5 : (w5.setCell ⟨b, 4, none⟩ (.int .i64 ix)).heap[w.heap.size]? = some zeroIns := (Below.heap_setCell _ _ _ _ hne0).trans hza
            have hF5 : (w5.setCell ⟨b, 4, none⟩ (.int .i64 ix)).heap[F]? = some (.cells (strCells shapesL) 9 (0, 0)) := (Below.heap_setCell _ _ _ _ hne1).trans hFa
            have hB5 : Below w.heap.size w (w5.setCell ⟨b, 4, none⟩ (.int .i64 ix)) := hB5a.setCell (p := ⟨b, 4, none⟩) hb0 _
            clear hca hfa hbne
            refine (Can_any j _ _ _ _ _ hlt).mono ?_
            rintro e w6 ⟨rfl, hb6⟩
            have hbk6 := heap_keep hbk5 hb6
            have hz6 := heap_keep hz5 hb6
            have hF6 := heap_keep hF5 hb6
            have hB6 : Below w.heap.size w w6 := hB5.trans (hb6.mono hB5.size)
            have hsz6 := hB6.size
            have hc6 := fun i => Lib.cell_of_heap hbk6 i
            clear hbk5 hz5 hF5 hb6 hB5
            cases hcan : canB j q1.1 q1.2.1 q1.2.2.1 ix with
            | false =>
              have HC : Hid (canB j q1.1 q1.2.1 q1.2.2.1 ix = false) := hcan
              clear hcan
              go_wp2_with fail
              go_roundw
              case rel => exact ⟨j + 1, by omega, by go_num, by rw [HR.out]; exact try_next (by rw [HT.out]; simp [finV, HC.out]) (by omega), hz6, hF6, hB6⟩
              case measure => simp [intOf]; omega
            | true =>
              have HC : Hid (canB j q1.1 q1.2.1 q1.2.2.1 ix = true) := hcan
              clear hcan
              go_wp2_with fail
              refine (show_any j _ _ _ _ _ (ht.below hB6) hlt HC.out).mono ?_
              rintro e w7 ⟨rfl, hb7⟩
              have hz7 := heap_keep hz6 hb7
              have hF7 := heap_keep hF6 hb7
              have hbk7 := heap_keep hbk6 hb7
              have hB7 : Below w.heap.size w w7 := hB6.trans (hb7.mono hB6.size)
              have hc7 := fun i => Lib.cell_of_heap hbk7 i
              clear hc6 hbk6 hz6 hF6
              obtain ⟨sb, hsb⟩ : ∃ sb, sb = showB j q1.1 q1.2.1 q1.2.2.1 ix := ⟨_, rfl⟩
              rw [← hsb]
              have HB : Hid (sb = showB j q1.1 q1.2.1 q1.2.2.1 ix) := hsb
              clear hsb
              by_cases heq : sb = l
              · have HE : Hid (parseV canB l = some (j, q1.1, q1.2.1, q1.2.2.1, ix)) := by
                  show _ = _
                  rw [HR.out]
                  refine try_hit ?_ hlt
                  rw [HT.out]
                  have h1 := HC.out
                  have h3 := HB.out
                  subst h3
                  simp [finV, h1, heq]
                subst heq
                unfold zeroIns at hz7
                have hzc := fun i => Lib.cell_of_heap hz7 i
                have hzf := fun i => Lib.frozen_of_heap hz7 i
                go_wp2_with fail
                refine bodyPost_ret (v := insOpt (some (j, q1.1, q1.2.1, q1.2.2.1, ix))) (by simp [results, Tryd.results17, go_sem, insOpt, hzc]) rfl ?_
                rw [HE.out]
                refine ⟨rfl, ?_⟩
                exact (((((hB7.setCell (p := ⟨w.heap.size, 0, none⟩) (Nat.le_refl _) _).setCell (p := ⟨w.heap.size, 1, none⟩) (Nat.le_refl _) _).setCell (p := ⟨w.heap.size, 2, none⟩) (Nat.le_refl _) _).setCell (p := ⟨w.heap.size, 3, none⟩) (Nat.le_refl _) _).setCell (p := ⟨w.heap.size, 4, none⟩) (Nat.le_refl _) _)
              · have hne2 : (sb == l) = false := by simpa using heq
                have HN : Hid (sb ≠ l) := heq
                clear heq
                go_wp2_with fail
                go_roundw
                case rel => exact ⟨j + 1, by omega, by go_num, by rw [HR.out]; exact try_next (by rw [HT.out]; have h1 := HC.out; have h2 := HN.out; have h3 := HB.out; subst h3; simp [finV, h1, h2]) (by omega), hz7, hF7, hB7⟩
                case measure => simp [intOf]; omega
          · have e11 : ((j : Int) == 11) = false := beq_eq_false_iff_ne.2 (by omega)
            by_cases h18 : j = 18
            · have e18 : ((j : Int) == 18) = true := beq_iff_eq.2 (by omega)
              have HT : Hid (attV canB j first rest l = finV canB j (idxV condsL first, q1.2.1, q1.2.2.1, q1.2.2.2) l) := by show _ = _; rw [HT.out]; simp [adjV, h18]
              clear h11 h18
              go_wp2_with fail
              refine (fields_at _ condsL 14 (by kernel_rfl) _ (ht.below hB4)).mono ?_
              rintro e w5 ⟨rfl, rfl⟩
              have hG : (w4.alloc (.cells (strCells condsL) 9)).heap[w4.heap.size]? = some (.cells (strCells condsL) 9 (0, 0)) := heap_alloc_new w4 _
              have hBa : Below w4.heap.size w4 (w4.alloc (.cells (strCells condsL) 9)) := (Below.refl _ _).alloc (Nat.le_refl _) _
              have hbka := heap_keep hbk4 hBa
              have hza := heap_keep hz4 hBa
              have hFa := heap_keep hF4 hBa
              have hB5a : Below w.heap.size w (w4.alloc (.cells (strCells condsL) 9)) := hB4.trans (hBa.mono hB4.size)
              obtain ⟨G, hGe⟩ : ∃ G, G = w4.heap.size := ⟨_, rfl⟩
              rw [← hGe] at hG ⊢
              generalize w4.alloc (.cells (strCells condsL) 9) = w5 at *
              clear hBa hGe
              go_wp2_with fail
              refine (idx_at condsL 14 first G _ rfl hG (by omega)).mono ?_
              rintro e w5' ⟨rfl, rfl⟩
              have hca := fun i => Lib.cell_of_heap hbka i
              have hfa := fun i => Lib.frozen_of_heap hbka i
              generalize idxV condsL first = ix at *
              go_wp2_with fail
              have hbk5 := blk_put hbka 1 (.int .i64 ix)
              have hz5 : (w5.setCell ⟨b, 1, none⟩ (.int .i64 ix)).heap[w.heap.size]? = some zeroIns := (Below.heap_setCell _ _ _ _ hne0).trans hza
              have hF5 : (w5.setCell ⟨b, 1, none⟩ (.int .i64 ix)).heap[F]? = some (.cells (strCells shapesL) 9 (0, 0)) := (Below.heap_setCell _ _ _ _ hne1).trans hFa
              have hB5 : Below w.heap.size w (w5.setCell ⟨b, 1, none⟩ (.int .i64 ix)) := hB5a.setCell (p := ⟨b, 1, none⟩) hb0 _
              clear hca hfa
              refine (Can_any j _ _ _ _ _ hlt).mono ?_
              rintro e w6 ⟨rfl, hb6⟩
              have hbk6 := heap_keep hbk5 hb6
              have hz6 := heap_keep hz5 hb6
              have hF6 := heap_keep hF5 hb6
              have hB6 : Below w.heap.size w w6 := hB5.trans (hb6.mono hB5.size)
              have hsz6 := hB6.size
              have hc6 := fun i => Lib.cell_of_heap hbk6 i
              clear hbk5 hz5 hF5 hb6 hB5
              cases hcan : canB j ix q1.2.1 q1.2.2.1 q1.2.2.2 with
              | false =>
                have HC : Hid (canB j ix q1.2.1 q1.2.2.1 q1.2.2.2 = false) := hcan
                clear hcan
                go_wp2_with fail
                go_roundw
                case rel => exact ⟨j + 1, by omega, by go_num, by rw [HR.out]; exact try_next (by rw [HT.out]; simp [finV, HC.out]) (by omega), hz6, hF6, hB6⟩
                case measure => simp [intOf]; omega
              | true =>
                have HC : Hid (canB j ix q1.2.1 q1.2.2.1 q1.2.2.2 = true) := hcan
                clear hcan
                go_wp2_with fail
                refine (show_any j _ _ _ _ _ (ht.below hB6) hlt HC.out).mono ?_
                rintro e w7 ⟨rfl, hb7⟩
                have hz7 := heap_keep hz6 hb7
                have hF7 := heap_keep hF6 hb7
                have hbk7 := heap_keep hbk6 hb7
                have hB7 : Below w.heap.size w w7 := hB6.trans (hb7.mono hB6.size)
                have hc7 := fun i => Lib.cell_of_heap hbk7 i
                clear hc6 hbk6 hz6 hF6
                obtain ⟨sb, hsb⟩ : ∃ sb, sb = showB j ix q1.2.1 q1.2.2.1 q1.2.2.2 := ⟨_, rfl⟩
                rw [← hsb]
                have HB : Hid (sb = showB j ix q1.2.1 q1.2.2.1 q1.2.2.2) := hsb
                clear hsb
                by_cases heq : sb = l
                · have HE : Hid (parseV canB l = some (j, ix, q1.2.1, q1.2.2.1, q1.2.2.2)) := by
                    show _ = _
                    rw [HR.out]
                    refine try_hit ?_ hlt
                    rw [HT.out]
                    have h1 := HC.out
                    have h3 := HB.out
                    subst h3
                    simp [finV, h1, heq]
                  subst heq
                  unfold zeroIns at hz7
                  have hzc := fun i => Lib.cell_of_heap hz7 i
                  have hzf := fun i => Lib.frozen_of_heap hz7 i
                  go_wp2_with fail
                  refine bodyPost_ret (v := insOpt (some (j, ix, q1.2.1, q1.2.2.1, q1.2.2.2))) (by simp [results, Tryd.results17, go_sem, insOpt, hzc]) rfl ?_
                  rw [HE.out]
                  refine ⟨rfl, ?_⟩
                  exact (((((hB7.setCell (p := ⟨w.heap.size, 0, none⟩) (Nat.le_refl _) _).setCell (p := ⟨w.heap.size, 1, none⟩) (Nat.le_refl _) _).setCell (p := ⟨w.heap.size, 2, none⟩) (Nat.le_refl _) _).setCell (p := ⟨w.heap.size, 3, none⟩) (Nat.le_refl _) _).setCell (p := ⟨w.heap.size, 4, none⟩) (Nat.le_refl _) _)
                · have hne2 : (sb == l) = false := by simpa using heq
                  have HN : Hid (sb ≠ l) := heq
                  clear heq
                  go_wp2_with fail
                  go_roundw
                  case rel => exact ⟨j + 1, by omega, by go_num, by rw [HR.out]; exact try_next (by rw [HT.out]; have h1 := HC.out; have h2 := HN.out; have h3 := HB.out; subst h3; simp [finV, h1, h2]) (by omega), hz7, hF7, hB7⟩
                  case measure => simp [intOf]; omega
            · have e18 : ((j : Int) == 18) = false := beq_eq_false_iff_ne.2 (by omega)
              have HT : Hid (attV canB j first rest l = finV canB j (q1.1, q1.2.1, q1.2.2.1, q1.2.2.2) l) := by show _ = _; rw [HT.out]; simp [adjV, h11, h18]
              clear h11 h18
              have hca := fun i => Lib.cell_of_heap hbk4 i
              go_wp2_with fail
              have hbk5 := hbk4
              have hz5 := hz4
              have hF5 := hF4
              have hB5 := hB4
              clear hca hbk4 hz4 hF4 hB4
              refine (Can_any j _ _ _ _ _ hlt).mono ?_
              rintro e w6 ⟨rfl, hb6⟩
              have hbk6 := heap_keep hbk5 hb6
              have hz6 := heap_keep hz5 hb6
              have hF6 := heap_keep hF5 hb6
              have hB6 : Below w.heap.size w w6 := hB5.trans (hb6.mono hB5.size)
              have hsz6 := hB6.size
              have hc6 := fun i => Lib.cell_of_heap hbk6 i
              clear hbk5 hz5 hF5 hb6 hB5
              cases hcan : canB j q1.1 q1.2.1 q1.2.2.1 q1.2.2.2 with
              | false =>
                have HC : Hid (canB j q1.1 q1.2.1 q1.2.2.1 q1.2.2.2 = false) := hcan
                clear hcan
                go_wp2_with fail
                go_roundw
                case rel => exact ⟨j + 1, by omega, by go_num, by rw [HR.out]; exact try_next (by rw [HT.out]; simp [finV, HC.out]) (by omega), hz6, hF6, hB6⟩
                case measure => simp [intOf]; omega
              | true =>
                have HC : Hid (canB j q1.1 q1.2.1 q1.2.2.1 q1.2.2.2 = true) := hcan
                clear hcan
                go_wp2_with fail
                refine (show_any j _ _ _ _ _ (ht.below hB6) hlt HC.out).mono ?_
                rintro e w7 ⟨rfl, hb7⟩
                have hz7 := heap_keep hz6 hb7
                have hF7 := heap_keep hF6 hb7
                have hbk7 := heap_keep hbk6 hb7
                have hB7 : Below w.heap.size w w7 := hB6.trans (hb7.mono hB6.size)
                have hc7 := fun i => Lib.cell_of_heap hbk7 i
                clear hc6 hbk6 hz6 hF6
                obtain ⟨sb, hsb⟩ : ∃ sb, sb = showB j q1.1 q1.2.1 q1.2.2.1 q1.2.2.2 := ⟨_, rfl⟩
                rw [← hsb]
                have HB : Hid (sb = showB j q1.1 q1.2.1 q1.2.2.1 q1.2.2.2) := hsb
                clear hsb
                by_cases heq : sb = l
                · have HE : Hid (parseV canB l = some (j, q1.1, q1.2.1, q1.2.2.1, q1.2.2.2)) := by
                    show _ = _
                    rw [HR.out]
                    refine try_hit ?_ hlt
                    rw [HT.out]
                    have h1 := HC.out
                    have h3 := HB.out
                    subst h3
                    simp [finV, h1, heq]
                  subst heq
                  unfold zeroIns at hz7
                  have hzc := fun i => Lib.cell_of_heap hz7 i
                  have hzf := fun i => Lib.frozen_of_heap hz7 i
                  go_wp2_with fail
                  refine bodyPost_ret (v := insOpt (some (j, q1.1, q1.2.1, q1.2.2.1, q1.2.2.2))) (by simp [results, Tryd.results17, go_sem, insOpt, hzc]) rfl ?_
                  rw [HE.out]
                  refine ⟨rfl, ?_⟩
                  exact (((((hB7.setCell (p := ⟨w.heap.size, 0, none⟩) (Nat.le_refl _) _).setCell (p := ⟨w.heap.size, 1, none⟩) (Nat.le_refl _) _).setCell (p := ⟨w.heap.size, 2, none⟩) (Nat.le_refl _) _).setCell (p := ⟨w.heap.size, 3, none⟩) (Nat.le_refl _) _).setCell (p := ⟨w.heap.size, 4, none⟩) (Nat.le_refl _) _)
                · have hne2 : (sb == l) = false := by simpa using heq
                  have HN : Hid (sb ≠ l) := heq
                  clear heq
                  go_wp2_with fail
                  go_roundw
                  case rel => exact ⟨j + 1, by omega, by go_num, by rw [HR.out]; exact try_next (by rw [HT.out]; have h1 := HC.out; have h2 := HN.out; have h3 := HB.out; subst h3; simp [finV, h1, h2]) (by omega), hz7, hF7, hB7⟩
                  case measure => simp [intOf]; omega
    · have hje : j = 21 := by omega
      have HE : Hid (parseV canB l = none) := by show _ = _; rw [HR.out, hje]; rfl
      clear hje
      unfold zeroIns at hz
      have hzc := fun i => Lib.cell_of_heap hz i
      have hzf := fun i => Lib.frozen_of_heap hz i
      go_wp2_with fail
      refine bodyPost_ret (v := insOpt none) (by simp [results, Tryd.results17, go_sem, insOpt, hzc]) rfl ?_
      rw [HE.out]
      refine ⟨rfl, ?_⟩
      exact (((((hBr.setCell (p := ⟨w.heap.size, 0, none⟩) (Nat.le_refl _) _).setCell (p := ⟨w.heap.size, 1, none⟩) (Nat.le_refl _) _).setCell (p := ⟨w.heap.size, 2, none⟩) (Nat.le_refl _) _).setCell (p := ⟨w.heap.size, 3, none⟩) (Nat.le_refl _) _).setCell (p := ⟨w.heap.size, 4, none⟩) (Nat.le_refl _) _)
end Go.Proofs.YtagjnannnahplaaDoor
