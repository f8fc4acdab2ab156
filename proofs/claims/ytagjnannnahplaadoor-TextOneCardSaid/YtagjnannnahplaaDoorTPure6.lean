/- The text of an instruction is read as the instruction: parseV (showB i) = i. -/
import Derived.Test.YtagjnannnahplaaDoorTPure5
import Derived.Lib.IndexLaws
namespace Go.Proofs.YtagjnannnahplaaDoor
set_option linter.unusedVariables false
set_option linter.unusedSimpArgs false
theorem index_one_hit : ∀ (a r : List UInt8) (c : UInt8), a.contains c = false → Lib.index (a ++ c :: r) [c] = a.length
  | [], r, c, _ => by simp [Lib.index, List.isPrefixOf]
  | b :: a, r, c, h => by
    simp only [List.contains_cons, Bool.or_eq_false_iff] at h
    have ih := index_one_hit a r c h.2
    have hb : (c == b) = false := h.1
    simp only [List.cons_append, Lib.index, List.isPrefixOf, hb, Bool.false_and, Bool.false_eq_true, if_false, ih]
    rw [if_neg (by simp)]
    simp
theorem index_one_miss : ∀ (a : List UInt8) (c : UInt8), a.contains c = false → Lib.index a [c] = -1
  | [], c, _ => rfl
  | b :: a, c, h => by
    simp only [List.contains_cons, Bool.or_eq_false_iff] at h
    have ih := index_one_miss a c h.2
    have hb : (c == b) = false := h.1
    simp [Lib.index, List.isPrefixOf, hb, ih]
theorem cut_hit (a r : List UInt8) (c : UInt8) (h : a.contains c = false) : Lib.cut (a ++ c :: r) [c] = (a, r, true) := by
  unfold Lib.cut
  rw [index_one_hit a r c h, if_pos (by omega)]
  simp
theorem cut_miss (a : List UInt8) (c : UInt8) (h : a.contains c = false) : Lib.cut a [c] = (a, [], false) := by
  unfold Lib.cut
  rw [index_one_miss a c h]; rfl
/-- The words of an instruction that is one. -/
def nameI (k : Nat) (d imm : Int) : Nat := if k = 11 then imm.toNat else if k = 18 then d.toNat else 0
theorem wordB_name (k : Nat) (d imm : Int) : wordB k d imm = wordB k (nameI k d imm) (nameI k d imm) := by
  unfold wordB nameI
  by_cases h : k = 11
  · rw [if_pos h, if_pos h, if_pos h, Int.toNat_natCast]
  · by_cases h' : k = 18
    · rw [if_neg h, if_pos h', if_neg h, if_pos h', if_neg h, if_pos h', Int.toNat_natCast]
    · rw [if_neg h, if_neg h', if_neg h, if_neg h']
def names : List (Nat × Nat) := (List.range 21).flatMap fun k => (List.range (if k = 11 then 16 else if k = 18 then 14 else 1)).map fun j => (k, j)
theorem names_mem (k : Nat) (hk : k < 21) (d n m imm : Int) (h : canB k d n m imm = true) : (k, nameI k d imm) ∈ names := by
  match k, hk with
  | 0, _ | 1, _ | 2, _ | 3, _ | 4, _ | 5, _ | 6, _ | 7, _ | 8, _ | 9, _ | 10, _ | 12, _ | 13, _ | 14, _ | 15, _ | 16, _ | 17, _ | 19, _ | 20, _ => simp [names, nameI, List.mem_flatMap]
  | 11, _ =>
    simp only [canB, inB, regB, Bool.and_eq_true, decide_eq_true_eq, beq_iff_eq] at h
    simp [names, nameI, List.mem_flatMap]; omega
  | 18, _ =>
    simp only [canB, inB, regB, Bool.and_eq_true, decide_eq_true_eq, beq_iff_eq] at h
    simp [names, nameI, List.mem_flatMap]; omega
  | k + 21, h' => exact absurd h' (by omega)
theorem names_word : ∀ p ∈ names, ((wordB p.1 p.2 p.2).contains 32 = false ∧ idxV alusL (alusL.getD p.2 []) = (if p.1 = 11 then (p.2 : Int) else idxV alusL (alusL.getD p.2 []))) ∧ (p.1 = 18 → idxV condsL (condsL.getD p.2 []) = (p.2 : Int)) := by decide +kernel
theorem word_32 (k : Nat) (hk : k < 21) (d n m imm : Int) (h : canB k d n m imm = true) : (wordB k d imm).contains 32 = false := by
  rw [wordB_name]; exact (names_word _ (names_mem k hk d n m imm h)).1.1
theorem showB_ops (k : Nat) (hk : k < 21) (d n m imm : Int) : showB k d n m imm = if k = 19 then wordB k d imm else wordB k d imm ++ 32 :: opsB k d n m imm := by
  have hd : shapesL.getD k [] = [45] ↔ k = 19 := by
    have : ∀ k < 21, (shapesL.getD k [] = [45]) ↔ k = 19 := by decide +kernel
    exact this k hk
  unfold showB opsB
  by_cases h : k = 19
  · rw [if_pos (hd.2 h), if_pos h]
  · rw [if_neg (mt hd.1 h), if_neg h, if_neg h]; simp
theorem cut_show (k : Nat) (hk : k < 21) (d n m imm : Int) (h : canB k d n m imm = true) : (Lib.cut (showB k d n m imm) [32]).1 = wordB k d imm ∧ (Lib.cut (showB k d n m imm) [32]).2.1 = opsB k d n m imm := by
  have hw := word_32 k hk d n m imm h
  rw [showB_ops k hk]
  by_cases h19 : k = 19
  · rw [if_pos h19, cut_miss _ _ hw]; exact ⟨rfl, by unfold opsB; rw [if_pos h19]⟩
  · rw [if_neg h19, cut_hit _ _ _ hw]; exact ⟨rfl, rfl⟩
theorem attV_back (k : Nat) (hk : k < 21) (d n m imm : Int) (h : canB k d n m imm = true) : attV canB k (wordB k d imm) (opsB k d n m imm) (showB k d n m imm) = some (d, n, m, imm) := by
  have hf := fits_back k hk d n m imm h
  unfold shapeV at hf
  unfold attV
  rw [hf]
  have hadj : adjV k (wordB k d imm) (restV k d n m imm) = (d, n, m, imm) := by
    have hn := names_word _ (names_mem k hk d n m imm h)
    unfold adjV restV
    by_cases h11 : k = 11
    · subst h11
      simp only [canB, inB, regB, Bool.and_eq_true, decide_eq_true_eq, beq_iff_eq] at h
      have h2 := hn.1.2
      simp only [nameI, if_true] at h2
      have h3 : wordB 11 d imm = alusL.getD imm.toNat [] := rfl
      have h4 : ((imm.toNat : Nat) : Int) = imm := by omega
      rw [h3, h2, h4]
      simp
    · by_cases h18 : k = 18
      · subst h18
        simp only [canB, inB, regB, Bool.and_eq_true, decide_eq_true_eq, beq_iff_eq] at h
        have h2 := hn.2 rfl
        have h3 : wordB 18 d imm = condsL.getD d.toNat [] := rfl
        have h4 : ((d.toNat : Nat) : Int) = d := by omega
        have h5 : nameI 18 d imm = d.toNat := rfl
        simp only [h5] at h2
        rw [h3, h2, h4]
        simp
      · simp [h11, h18]
  simp [hadj, finV, h]
/-! No two instructions have one text. -/
def sigL (l : List UInt8) : List UInt8 := l.filter fun c => !digitsL.contains c
theorem sig_app (a b : List UInt8) : sigL (a ++ b) = sigL a ++ sigL b := List.filter_append a b
theorem sig_itoa (x : Int) (h0 : -2100 ≤ x) (h1 : x ≤ 2100) : sigL (Lib.itoa x) = [] := by
  have := (itoa_back x h0 h1).2
  unfold sigL
  rw [List.filter_eq_nil_iff]
  intro c hc
  have := List.all_eq_true.1 this c hc
  simp only [this]; decide
def pieceS (c : UInt8) : List UInt8 := if c = 100 ∨ c = 110 ∨ c = 109 then [114] else if c = 105 ∨ c = 50 ∨ c = 52 then [35] else if c = 44 then [44, 32] else [c]
def sigV (p : Nat × Nat) : List UInt8 := sigL (if p.1 = 19 then wordB p.1 p.2 p.2 else wordB p.1 p.2 p.2 ++ 32 :: (shapesL.getD p.1 []).flatMap pieceS)
theorem names_sig : ∀ p ∈ names, ∀ q ∈ names, sigV p = sigV q → p = q := by decide +kernel
theorem sig_piece (c : UInt8) (d n m imm : Int) (hd : -2100 ≤ d ∧ d ≤ 2100) (hn : -2100 ≤ n ∧ n ≤ 2100) (hm : -2100 ≤ m ∧ m ≤ 2100) (hi : -2100 ≤ imm ∧ imm ≤ 2100) (h2 : c = 50 → -1050 ≤ imm ∧ imm ≤ 1050) (h4 : c = 52 → -525 ≤ imm ∧ imm ≤ 525) : sigL (piece c d n m imm) = sigL (pieceS c) := by
  have e114 : ∀ x, -2100 ≤ x → x ≤ 2100 → sigL (114 :: Lib.itoa x) = [114] := fun x a b => by
    rw [show (114 :: Lib.itoa x) = [114] ++ Lib.itoa x from rfl, sig_app, sig_itoa x a b]; rfl
  have e35 : ∀ x, -2100 ≤ x → x ≤ 2100 → sigL (35 :: Lib.itoa x) = [35] := fun x a b => by
    rw [show (35 :: Lib.itoa x) = [35] ++ Lib.itoa x from rfl, sig_app, sig_itoa x a b]; rfl
  unfold piece pieceS
  by_cases c1 : c = 100
  · subst c1; simp [e114 d hd.1 hd.2]; rfl
  by_cases c2 : c = 110
  · subst c2; simp [e114 n hn.1 hn.2]; rfl
  by_cases c3 : c = 109
  · subst c3; simp [e114 m hm.1 hm.2]; rfl
  by_cases c4 : c = 105
  · subst c4; simp [e35 imm hi.1 hi.2]; rfl
  by_cases c5 : c = 50
  · subst c5; simp [e35 (2 * imm) (by have := h2 rfl; omega) (by have := h2 rfl; omega)]; rfl
  by_cases c6 : c = 52
  · subst c6; simp [e35 (4 * imm) (by have := h4 rfl; omega) (by have := h4 rfl; omega)]; rfl
  simp [c1, c2, c3, c4, c5, c6]
theorem sig_pieces (L : List UInt8) (d n m imm : Int) (hd : -2100 ≤ d ∧ d ≤ 2100) (hn : -2100 ≤ n ∧ n ≤ 2100) (hm : -2100 ≤ m ∧ m ≤ 2100) (hi : -2100 ≤ imm ∧ imm ≤ 2100) (h2 : 50 ∈ L → -1050 ≤ imm ∧ imm ≤ 1050) (h4 : 52 ∈ L → -525 ≤ imm ∧ imm ≤ 525) : sigL (L.flatMap fun c => piece c d n m imm) = sigL (L.flatMap pieceS) := by
  induction L with
  | nil => rfl
  | cons c t ih =>
    rw [List.flatMap_cons, List.flatMap_cons, sig_app, sig_app, sig_piece c d n m imm hd hn hm hi (fun e => h2 (by rw [e]; simp)) (fun e => h4 (by rw [e]; simp)), ih (fun e => h2 (by simp [e])) (fun e => h4 (by simp [e]))]
theorem sig_cons32 (a b : List UInt8) : sigL (a ++ 32 :: b) = sigL a ++ ([32] ++ sigL b) := by
  rw [show a ++ 32 :: b = a ++ ([32] ++ b) from rfl, sig_app, sig_app]; rfl
theorem sig_show (k : Nat) (hk : k < 21) (d n m imm : Int) (h : canB k d n m imm = true) : sigL (showB k d n m imm) = sigV (k, nameI k d imm) := by
  rw [showB_ops k hk]
  unfold sigV
  simp only
  by_cases h19 : k = 19
  · rw [if_pos h19, if_pos h19, wordB_name]
  · rw [if_neg h19, if_neg h19, ← wordB_name]
    rw [sig_cons32, sig_cons32]
    refine congrArg (fun x => sigL (wordB k d imm) ++ ([32] ++ x)) ?_
    unfold opsB
    rw [if_neg h19]
    match k, hk with
    | 0, _ | 1, _ | 2, _ | 3, _ | 4, _ | 5, _ | 6, _ | 7, _ | 8, _ | 9, _ | 10, _ | 11, _ | 12, _ | 13, _ | 14, _ | 15, _ | 16, _ | 17, _ | 18, _ | 19, _ | 20, _ =>
      simp only [canB, inB, regB, Bool.and_eq_true, decide_eq_true_eq, beq_iff_eq] at h
      refine sig_pieces _ d n m imm (by omega) (by omega) (by omega) (by omega) ?_ ?_
      all_goals first | (intro _; omega) | (intro e; exact absurd e (by decide))
    | k + 21, h' => exact absurd h' (by omega)
/-- Two instructions of one text are one. -/
theorem showB_inj (k k' : Nat) (hk : k < 21) (hk' : k' < 21) (d n m imm d' n' m' imm' : Int) (h : canB k d n m imm = true) (h' : canB k' d' n' m' imm' = true) (he : showB k d n m imm = showB k' d' n' m' imm') : k = k' ∧ d = d' ∧ n = n' ∧ m = m' ∧ imm = imm' := by
  have hs := names_sig _ (names_mem k hk d n m imm h) _ (names_mem k' hk' d' n' m' imm' h') (by rw [← sig_show k hk d n m imm h, ← sig_show k' hk' d' n' m' imm' h', he])
  obtain ⟨rfl, -⟩ := Prod.mk.inj hs
  have ha := attV_back k hk d n m imm h
  have hb := attV_back k hk d' n' m' imm' h'
  rw [← (cut_show k hk d n m imm h).1, ← (cut_show k hk d n m imm h).2, he, (cut_show k hk d' n' m' imm' h').1, (cut_show k hk d' n' m' imm' h').2, hb] at ha
  simp at ha
  exact ⟨rfl, ha.1.symm, ha.2.1.symm, ha.2.2.1.symm, ha.2.2.2.symm⟩
theorem attV_some {can : Nat → Int → Int → Int → Int → Bool} {k : Nat} {f r l : List UInt8} {q : Int × Int × Int × Int} (h : attV can k f r l = some q) : can k q.1 q.2.1 q.2.2.1 q.2.2.2 = true ∧ showB k q.1 q.2.1 q.2.2.1 q.2.2.2 = l := by
  unfold attV at h
  generalize fitsV _ _ _ = fv at h
  by_cases hf : fv.2 = true
  · rw [if_pos hf] at h
    unfold finV at h
    by_cases hc : (can k (adjV k f fv.1).1 (adjV k f fv.1).2.1 (adjV k f fv.1).2.2.1 (adjV k f fv.1).2.2.2 && (showB k (adjV k f fv.1).1 (adjV k f fv.1).2.1 (adjV k f fv.1).2.2.1 (adjV k f fv.1).2.2.2 == l)) = true
    · rw [if_pos hc] at h
      have e := Option.some.inj h
      rw [e] at hc
      simpa using hc
    · rw [if_neg hc] at h; cases h
  · rw [if_neg hf] at h; cases h
/-- What parse answers is an instruction of that text. -/
theorem tryV_some {f r l : List UInt8} : ∀ (N j : Nat) {k : Nat} {q : Int × Int × Int × Int}, tryV canB f r l N j = some (k, q) → j ≤ k ∧ k < j + N ∧ canB k q.1 q.2.1 q.2.2.1 q.2.2.2 = true ∧ showB k q.1 q.2.1 q.2.2.1 q.2.2.2 = l
  | 0, _, _, _, h => by cases h
  | N + 1, j, k, q, h => by
    unfold tryV at h
    cases ha : attV canB j f r l with
    | some q' =>
      rw [ha] at h
      have h2 := Option.some.inj h
      obtain ⟨e1, e2⟩ := Prod.mk.inj h2
      subst e1; subst e2
      exact ⟨Nat.le_refl _, by omega, attV_some ha⟩
    | none =>
      rw [ha] at h
      have := tryV_some N (j + 1) h
      exact ⟨by omega, by omega, this.2.2⟩
theorem tryV_hit {f r l : List UInt8} (k : Nat) (q : Int × Int × Int × Int) (ha : attV canB k f r l = some q) : ∀ (N j : Nat), j ≤ k → k < j + N → ∃ p, tryV canB f r l N j = some p
  | 0, _, h1, h2 => by omega
  | N + 1, j, h1, h2 => by
    unfold tryV
    cases hb : attV canB j f r l with
    | some q' => exact ⟨_, rfl⟩
    | none =>
      have : j ≠ k := fun e => by rw [e, ha] at hb; cases hb
      exact tryV_hit k q ha N (j + 1) (by omega) (by omega)
theorem parseV_some {l : List UInt8} {k : Nat} {q : Int × Int × Int × Int} (h : parseV canB l = some (k, q)) : k < 21 ∧ canB k q.1 q.2.1 q.2.2.1 q.2.2.2 = true ∧ showB k q.1 q.2.1 q.2.2.1 q.2.2.2 = l := by
  have := tryV_some 21 0 h
  exact ⟨by omega, this.2.2⟩
theorem parseV_show (k : Nat) (hk : k < 21) (d n m imm : Int) (h : canB k d n m imm = true) : parseV canB (showB k d n m imm) = some (k, d, n, m, imm) := by
  have hc := cut_show k hk d n m imm h
  have ha := attV_back k hk d n m imm h
  rw [← hc.1, ← hc.2] at ha
  obtain ⟨⟨k', q⟩, hp⟩ := tryV_hit k _ ha 21 0 (by omega) (by omega)
  have hs := parseV_some (l := showB k d n m imm) (k := k') (q := q) hp
  obtain ⟨e1, e2, e3, e4, e5⟩ := showB_inj k' k hs.1 hk _ _ _ _ d n m imm hs.2.1 h hs.2.2
  show tryV _ _ _ _ _ _ = _
  rw [hp]
  obtain ⟨q1, q2, q3, q4⟩ := q
  simp only at e2 e3 e4 e5
  subst e1; subst e2; subst e3; subst e4; subst e5
  rfl
/-- A text is an instruction's, or none's. -/
theorem parseV_none {l : List UInt8} (h : parseV canB l = none) (k : Nat) (hk : k < 21) (d n m imm : Int) (hc : canB k d n m imm = true) : showB k d n m imm ≠ l := by
  rintro rfl
  rw [parseV_show k hk d n m imm hc] at h
  cases h
end Go.Proofs.YtagjnannnahplaaDoor
