/- text.line, List. -/
import Derived.Test.YtagjnannnahplaaDoorTFour
import Derived.Test.YtagjnannnahplaaDoorTTake
namespace Go.Proofs.YtagjnannnahplaaDoor
open Go.RowKit
set_option linter.unusedVariables false
set_option linter.unusedSimpArgs false
theorem showB_len2 (k : Nat) (hk : k < 21) (d n m imm : Int) (h : canB k d n m imm = true) : (showB k d n m imm).length ≤ 400 := by
  have hb := can_bounds k d n m imm hk h
  have hp : ∀ c, (piece c d n m imm).length ≤ 22 := by
    intro c
    have l1 := Lib.itoa_length_le d (by omega) (by omega)
    have l2 := Lib.itoa_length_le n (by omega) (by omega)
    have l3 := Lib.itoa_length_le m (by omega) (by omega)
    have l4 := Lib.itoa_length_le imm (by omega) (by omega)
    have l5 := Lib.itoa_length_le (2 * imm) (by omega) (by omega)
    have l6 := Lib.itoa_length_le (4 * imm) (by omega) (by omega)
    unfold piece
    repeat' split
    all_goals (simp; try omega)
  have hf : ∀ L : List UInt8, (L.flatMap fun c => piece c d n m imm).length ≤ 22 * L.length := by
    intro L
    induction L with
    | nil => simp
    | cons c t ih => rw [List.flatMap_cons, List.length_append, List.length_cons]; have := hp c; omega
  have hw := wordB_len k d imm
  have hs := (shapes_ascii k hk).2
  have := hf (shapesL.getD k [])
  unfold showB
  split
  · omega
  · simp only [List.length_append, List.length_cons, List.length_nil]; omega
theorem lineB_len (h : Nat) : (lineB h).length ≤ 400 := by
  unfold lineB
  cases e : takeV (h : Int) with
  | none => simp [fourB]
  | some q =>
    obtain ⟨k, d, n, m, imm⟩ := q
    have hs := takeV_some e
    exact showB_len2 k hs.1 d n m imm hs.2.1
set_option maxRecDepth 100000 in
set_option maxHeartbeats 4000000 in
theorem line_any (h : Nat) (hh : h < 65536) (w : World) (ht : Tabs w) :
    Calls Tryd.prog 21 #[.int .u16 h] w fun e w' => e = .returned (.string ⟨(lineB h).toArray⟩) ∧ Below w.heap.size w w' := by
  have htk := take_any h hh
  have hf := four_any h hh
  have HL : Hid (lineB h = match takeV (h : Int) with | some (k, d, n, m, imm) => showB k d n m imm | none => 63 :: fourB h) := rfl
  cases e : takeV (h : Int) with
  | none =>
    rw [e] at htk HL
    have HL2 : Hid (lineB h = 63 :: fourB h) := HL.out
    have hsz : (fourB h).length = 4 := rfl
    have HC : Hid ((⟨#[63]⟩ : ByteArray) ++ ⟨(fourB h).toArray⟩ = ⟨(lineB h).toArray⟩) := by
      show _ = _
      rw [HL2.out]; apply ByteArray.ext; simp
    have hss : (⟨(fourB h).toArray⟩ : ByteArray).size = 4 := rfl
    obtain ⟨F, hF⟩ : ∃ F : ByteArray, F = ⟨(fourB h).toArray⟩ := ⟨_, rfl⟩
    rw [← hF] at hf HC hss
    have hss2 : F.size ≤ 4 := by omega
    clear hF hss hsz HL e HL2
    unfold takeOpt at htk
    have HTK := Lib.hid htk
    have HF := Lib.hid hf
    clear htk hf
    go_enter Tryd.func21, Tryd.ntmps21
    go_wp2_with fail
    refine (HTK.out _).mono ?_
    rintro e w1 ⟨rfl, hb1⟩
    go_wp2_with fail
    refine (HF.out _).mono ?_
    rintro e w2 ⟨rfl, hb2⟩
    go_wp2_with fail
    go_ret
    exact ⟨congrArg (fun s => Ending.returned (.string s)) HC.out, (hb1.alloc hb1.size _).trans (hb2.mono (by have := hb1.size; simp; omega))⟩
  | some q =>
    obtain ⟨k, d, n, m, imm⟩ := q
    rw [e] at htk HL
    have HL2 : Hid (showB k d n m imm = lineB h) := HL.out.symm
    have hs := takeV_some e
    have hsh := fun w t => show_any k d n m imm w t hs.1 hs.2.1
    rw [HL2.out] at hsh
    clear HL e hs hf HL2
    unfold takeOpt at htk
    have HTK := Lib.hid htk
    have HSH := Lib.hid hsh
    clear htk hsh
    go_enter Tryd.func21, Tryd.ntmps21
    go_wp2_with fail
    refine (HTK.out _).mono ?_
    rintro e w1 ⟨rfl, hb1⟩
    go_wp2_with fail
    refine (HSH.out _ (ht.below (hb1.alloc hb1.size _))).mono ?_
    rintro e w2 ⟨rfl, hb2⟩
    go_wp2_with fail
    go_ret
    exact ⟨rfl, (hb1.alloc hb1.size _).trans (hb2.mono (by have := hb1.size; simp; omega))⟩
/-- Code's lines. -/
def listB (L : List Nat) : List UInt8 := L.flatMap fun h => lineB h ++ [10]
theorem listB_len (L : List Nat) : (listB L).length ≤ 401 * L.length := by
  unfold listB
  induction L with
  | nil => simp
  | cons h t ih => rw [List.flatMap_cons, List.length_append, List.length_cons, List.length_append]; have := lineB_len h; simp only [List.length_cons, List.length_nil]; omega
theorem listB_snoc (L : List Nat) (k : Nat) (hk : k < L.length) : listB (L.take (k + 1)) = listB (L.take k) ++ (lineB (L.getD k 0) ++ [10]) := by
  unfold listB
  rw [List.take_succ_eq_append_getElem hk, List.flatMap_append, List.getD_eq_getElem?_getD, List.getElem?_eq_getElem hk]
  simp
set_option maxRecDepth 100000 in
set_option maxHeartbeats 4000000 in
theorem list_any (b off cap : Nat) (L : List Nat) (hL : ∀ x ∈ L, x < 65536) (hn : L.length ≤ 1000) (w : World) (ht : Tabs w) (hb : b < w.heap.size)
    (hc : ∀ j, j < L.length → w.cell? ⟨b, off + j, none⟩ = some (.int .u16 ((L.getD j 0 : Nat) : Int))) :
    Calls Tryd.prog 11 #[.slice (some ⟨b, off, none⟩) L.length cap] w fun e w' => e = .returned (.string ⟨(listB L).toArray⟩) ∧ Below w.heap.size w w' := by
  have HCC := Lib.hid hc
  have hBb : Below w.heap.size w (w.alloc (.cells #[.pointer none, .slice none 0 0] 47)) := (Below.refl _ _).alloc (Nat.le_refl _) _
  have HI0 : Hid (IsB w.heap.size w.heap.size (Lib.byteCells []) (w.alloc (.cells #[.pointer none, .slice none 0 0] 47))) := Lib.IsBuilderF.of (Lib.fresh_isBuilder _ _ w)
  have HBb := Lib.hid hBb
  clear hc hBb
  go_enter Tryd.func11, Tryd.ntmps11
  go_wp2_with fail
  go_loopw [8] (fun i wr => ∃ k : Nat, i = .int .i64 k ∧ k ≤ L.length ∧ Hid (IsB w.heap.size w.heap.size (Lib.byteCells (listB (L.take k))) wr) ∧ Hid (Below w.heap.size w wr)) (fun i _ => L.length - (intOf i).toNat)
  case atStart => exact ⟨0, rfl, Nat.zero_le _, HI0, HBb⟩
  case round =>
    clear HI0 HBb
    obtain ⟨k, rfl, hk, HI, HB⟩ := hrel
    by_cases hlt : k < L.length
    · have hlt' : (k : Int) < (L.length : Int) := by omega
      have hx : L.getD k 0 < 65536 := by
        rw [List.getD_eq_getElem?_getD, List.getElem?_eq_getElem hlt]; exact hL _ (List.getElem_mem hlt)
      have hcell : wr.cell? ⟨b, off + k, none⟩ = some (.int .u16 ((L.getD k 0 : Nat) : Int)) := (HB.out.cell (p := ⟨b, off + k, none⟩) hb).trans (HCC.out k hlt)
      have hln := lineB_len (L.getD k 0)
      have hla := listB_len (L.take k)
      have HSN := Lib.hid (listB_snoc L k hlt)
      have hli := line_any (L.getD k 0) hx
      generalize L.getD k 0 = X at *
      have htk : (L.take k).length ≤ 1000 := by simp; omega
      generalize listB (L.take k) = acc at *
      obtain ⟨S, hS⟩ : ∃ S, S = lineB X := ⟨_, rfl⟩
      rw [← hS] at hli hln HSN
      have HLI := Lib.hid hli
      clear hS hli
      go_wp2_with fail
      refine (HLI.out _ (ht.below HB.out)).mono ?_
      rintro e w3 ⟨rfl, hb3⟩
      have hI3 := isb_keep HI.out hb3
      have hB3 := HB.out.trans (hb3.mono HB.out.size)
      have hsz3 := hB3.size
      clear hcell HI
      have hSs : (⟨S.toArray⟩ : ByteArray).size = S.length := by show S.toArray.size = _; simp
      have hSz : (⟨S.toArray⟩ : ByteArray).size ≤ 400 := by omega
      have HSs := Lib.hid hSs
      clear hSs
      go_wp2_with (go_at_call 20; refine (writeString w.heap.size w.heap.size _ _ _ hI3 ?_ hsz3).mono ?_)
      · rw [Lib.byteCells_length]; show _ + ((⟨S.toArray⟩ : ByteArray) ++ ⟨#[10]⟩).size ≤ _; rw [ByteArray.size_append]; show _ + (_ + 1) ≤ _; omega
      rintro e w4 ⟨rfl, hA4, hb4, hk4⟩
      have hcs : Lib.byteCells acc ++ Lib.strCells ((⟨S.toArray⟩ : ByteArray) ++ ⟨#[10]⟩) = Lib.byteCells (listB (L.take (k + 1))) := by
        rw [HSN.out]; simp [Lib.strCells, Lib.byteCells]
      rw [hcs] at hA4
      have HI4 : Hid (IsB w.heap.size w.heap.size (Lib.byteCells (listB (L.take (k + 1)))) w4) := .inr hA4
      have HB4 := Lib.hid (hB3.trans hb4)
      clear hcs hA4 hb4 hk4 hI3 hB3 HSN
      go_wp2_with fail
      go_roundw
      case rel => exact ⟨k + 1, by go_num, hlt, HI4, HB4⟩
      case measure => simp [intOf]; omega
    · obtain rfl : k = L.length := by omega
      have hI := HI.out
      rw [List.take_length] at hI
      have HI2 := Lib.hid hI
      have hsw := HB.out.size
      clear HI hI hlt
      go_wp2_with (go_at_call 22; refine (Tryd.Builder_String_any_k w.heap.size w.heap.size (listB L) _ HI2.out hsw).mono ?_)
      rintro e W1 ⟨rfl, _, b1, _⟩
      go_wp2
      go_ret
      exact ⟨rfl, HB.out.trans b1⟩
end Go.Proofs.YtagjnannnahplaaDoor
