/- The numbers in a text, and what the reference's Parse answers, in plain Lean. -/
import Derived.Test.YtagjnannnahplaaDoorTPure6
namespace Go.Proofs.YtagjnannnahplaaDoor
set_option linter.unusedVariables false
set_option linter.unusedSimpArgs false
def isDig (c : UInt8) : Bool := decide (48 ≤ c.toNat) && decide (c.toNat ≤ 57)
def numD (ds : List UInt8) (acc : Int) : Int := ds.foldl (fun n c => n * 10 + ((c.toNat : Int) - 48)) acc
/-- The digits at a text's beginning, at most six. -/
def digs6 (l : List UInt8) : List UInt8 := (l.take 6).takeWhile isDig
/-- The number behind an r or #. -/
def markV (l : List UInt8) : Option Int :=
  if l.head? = some 45 then (if digs6 l.tail = [] then none else some (-(numD (digs6 l.tail) 0)))
  else (if digs6 l = [] then none else some (numD (digs6 l) 0))
def isMark (c : UInt8) : Bool := c == 114 || c == 35
def marksV : List UInt8 → List Int
  | [] => []
  | c :: r => (if isMark c then (markV r).toList else []) ++ marksV r
/-- Which instruction the reference tries at op, at the j-th of its tries. -/
def candV (l : List Int) (op j : Nat) : Int × Int × Int × Int :=
  let at_ := fun i => l.getD i 0
  if op < 4 then (at_ 0, 0, 0, at_ 1) else if op < 7 then (at_ 0, 0, at_ 1, at_ 2) else if op < 9 ∨ op = 14 ∨ op = 15 then (at_ 0, at_ 1, at_ 2, 0)
  else if op < 11 then (at_ 0, at_ 1, 0, at_ 2) else if op = 11 then (at_ 0, 0, at_ 1, j) else if op < 14 then (at_ 0, at_ 1, 0, (at_ 2).tdiv 4)
  else if op = 16 then (at_ 0, 0, 0, (at_ 1).tdiv 4) else if op = 17 then (0, 0, 0, (at_ 0).tdiv 2) else if op = 18 then (j, 0, 0, (at_ 0).tdiv 2)
  else if op = 20 then (0, 0, 0, at_ 0) else (0, 0, 0, 0)
def moreV (op : Nat) : Nat := if op = 11 then 16 else if op = 18 then 14 else 1
/-- Is the try at (op, j) the text? -/
def isHit (l : List Int) (s : List UInt8) (op j : Nat) : Bool :=
  canB op (candV l op j).1 (candV l op j).2.1 (candV l op j).2.2.1 (candV l op j).2.2.2 && (showB op (candV l op j).1 (candV l op j).2.1 (candV l op j).2.2.1 (candV l op j).2.2.2 == s)
theorem mark_skip (c : UInt8) (r : List UInt8) (h : isMark c = false) : marksV (c :: r) = marksV r := by simp [marksV, h]
theorem mark_word (b c : UInt8) (r : List UInt8) (h : (isDig c || c == 45) = false) : marksV (b :: c :: r) = marksV (c :: r) := by
  simp only [Bool.or_eq_false_iff] at h
  have hd : digs6 (c :: r) = [] := by unfold digs6; rw [List.take_succ_cons, List.takeWhile_cons, h.1]; rfl
  have hc : c ≠ 45 := by simpa using h.2
  have hm : markV (c :: r) = none := by unfold markV; rw [hd]; simp [hc]
  conv => lhs; unfold marksV
  rw [hm]; simp
theorem marks_digs : ∀ (a r : List UInt8), a.all (digitsL.contains ·) = true → marksV (a ++ r) = marksV r
  | [], r, _ => rfl
  | c :: a, r, h => by
    simp only [List.all_cons, Bool.and_eq_true] at h
    have hc : isMark c = false := by
      have : ∀ c ∈ digitsL, isMark c = false := by decide
      exact this c (by simpa using h.1)
    rw [List.cons_append, mark_skip c _ hc]
    exact marks_digs a r h.2
theorem isDig_in (c : UInt8) (h : isDig c = true) : digitsL.contains c = true := by
  unfold isDig at h
  simp only [Bool.and_eq_true, decide_eq_true_eq] at h
  have : c = 48 ∨ c = 49 ∨ c = 50 ∨ c = 51 ∨ c = 52 ∨ c = 53 ∨ c = 54 ∨ c = 55 ∨ c = 56 ∨ c = 57 := by
    have h' : c.toNat = 48 ∨ c.toNat = 49 ∨ c.toNat = 50 ∨ c.toNat = 51 ∨ c.toNat = 52 ∨ c.toNat = 53 ∨ c.toNat = 54 ∨ c.toNat = 55 ∨ c.toNat = 56 ∨ c.toNat = 57 := by omega
    rcases h' with h | h | h | h | h | h | h | h | h | h <;> simp [← UInt8.toNat_inj, h]
  rcases this with rfl | rfl | rfl | rfl | rfl | rfl | rfl | rfl | rfl | rfl <;> decide
theorem takeWhile_app (a r : List UInt8) (ha : a.all isDig = true) (hr : ∀ c, r.head? = some c → isDig c = false) : (a ++ r).takeWhile isDig = a := by
  induction a with
  | nil =>
    cases r with
    | nil => rfl
    | cons c t => rw [List.nil_append, List.takeWhile_cons, hr c rfl]; rfl
  | cons c t ih =>
    simp only [List.all_cons, Bool.and_eq_true] at ha
    rw [List.cons_append, List.takeWhile_cons, if_pos ha.1, ih ha.2]
theorem digs6_app (a r : List UInt8) (hl : a.length ≤ 6) (ha : a.all isDig = true) (hr : noDig r) : digs6 (a ++ r) = a := by
  unfold digs6
  rw [List.take_append, List.take_of_length_le hl]
  refine takeWhile_app a _ ha fun c hc => ?_
  cases r with
  | nil => simp at hc
  | cons b t =>
    cases hk : 6 - a.length with
    | zero => rw [hk] at hc; simp at hc
    | succ k =>
      rw [hk] at hc
      simp only [List.take_succ_cons, List.head?_cons, Option.some.injEq] at hc
      subst hc
      cases hd : isDig b with
      | false => rfl
      | true => have := hr b rfl; rw [isDig_in b hd] at this; cases this
/-- A number's sign and digits. -/
def partsC (x : Int) : Bool × List UInt8 := if x < 0 then (true, natC x.natAbs) else (false, natC x.toNat)
set_option maxRecDepth 100000 in
theorem natC_facts : ∀ u < 2200, ((natC u).all isDig && decide ((natC u).length ≤ 6) && decide (natC u ≠ []) && decide ((natC u).head? ≠ some 45) && (numD (natC u) 0 == (u : Int))) = true := by decide +kernel
theorem markV_itoa (x : Int) (r : List UInt8) (h0 : -2100 ≤ x) (h1 : x ≤ 2100) (hr : noDig r) : markV (Lib.itoa x ++ r) = some x := by
  rw [itoaC_eq x (by omega) (by omega)]
  unfold itoaC
  by_cases hx : x < 0
  · have h := natC_facts x.natAbs (by omega)
    simp only [Bool.and_eq_true, decide_eq_true_eq, beq_iff_eq] at h
    rw [if_pos hx]
    unfold markV
    rw [List.cons_append, List.head?_cons, if_pos rfl, List.tail_cons, digs6_app _ _ h.1.1.1.2 h.1.1.1.1 hr, if_neg h.1.1.2, h.2]
    congr 1; omega
  · have h := natC_facts x.toNat (by omega)
    simp only [Bool.and_eq_true, decide_eq_true_eq, beq_iff_eq] at h
    rw [if_neg hx]
    unfold markV
    have hh : (natC x.toNat ++ r).head? ≠ some 45 := by
      have h3 := h.1.2; have h4 := h.1.1.2
      cases hn : natC x.toNat with
      | nil => exact absurd hn h4
      | cons c t => rw [hn] at h3; simpa using h3
    rw [if_neg hh, digs6_app _ _ h.1.1.1.2 h.1.1.1.1 hr, if_neg h.1.1.2, h.2]
    congr 1; omega
theorem mark_hit (b : UInt8) (x : Int) (r : List UInt8) (hb : isMark b = true) (h0 : -2100 ≤ x) (h1 : x ≤ 2100) (hr : noDig r) : marksV (b :: (Lib.itoa x ++ r)) = x :: marksV r := by
  conv => lhs; unfold marksV
  rw [if_pos hb, markV_itoa x r h0 h1 hr, marks_digs _ _ (itoa_back x h0 h1).2]
  rfl
theorem mark_hit_e (b : UInt8) (x : Int) (hb : isMark b = true) (h0 : -2100 ≤ x) (h1 : x ≤ 2100) : marksV (b :: Lib.itoa x) = [x] := by
  have := mark_hit b x [] hb h0 h1 noDig_nil
  rwa [List.append_nil] at this
theorem noDig_44 (r : List UInt8) : noDig (44 :: r) := fun c h => by cases h; decide
/-- Words of instructions hold no numbers. -/
def wordFree (w : List UInt8) : Bool := (List.range w.length).all fun i => !isMark (w.getD i 0) || !(isDig (w.getD (i + 1) 32) || w.getD (i + 1) 32 == 45)
theorem marks_word : ∀ (w r : List UInt8), (∀ i < w.length, isMark (w.getD i 0) = true → (isDig (w.getD (i + 1) 32) || w.getD (i + 1) 32 == 45) = false) → marksV (w ++ 32 :: r) = marksV r
  | [], r, _ => mark_skip 32 r (by decide)
  | c :: w, r, h => by
    have ih := marks_word w r (fun i hi hm => by simpa using h (i + 1) (by simpa using hi) (by simpa using hm))
    have h0 := h 0 (by simp)
    by_cases hm : isMark c = true
    · have h1 := h0 (by simpa using hm)
      cases w with
      | nil => rw [List.cons_append, List.nil_append, mark_word c 32 r (by decide)]; exact ih
      | cons d w => rw [List.cons_append, List.cons_append, mark_word c d _ (by simpa using h1)]; exact ih
    · rw [List.cons_append, mark_skip c _ (by simpa using hm)]; exact ih
theorem words_free : ∀ p ∈ names, wordFree (wordB p.1 p.2 p.2) = true := by decide +kernel
theorem marks_show_ops (k : Nat) (hk : k < 21) (d n m imm : Int) (h : canB k d n m imm = true) (h19 : k ≠ 19) : marksV (showB k d n m imm) = marksV (opsB k d n m imm) := by
  have hf := words_free _ (names_mem k hk d n m imm h)
  simp only at hf
  rw [← wordB_name] at hf
  rw [showB_ops k hk, if_neg h19]
  refine marks_word _ _ fun i hi hm => ?_
  unfold wordFree at hf
  rw [List.all_eq_true] at hf
  have := hf i (List.mem_range.2 hi)
  rw [hm] at this
  simpa using this
/-- The numbers of an instruction's text are the instruction's. -/
theorem marks_cand (k : Nat) (hk : k < 21) (d n m imm : Int) (h : canB k d n m imm = true) : candV (marksV (showB k d n m imm)) k (nameI k d imm) = (d, n, m, imm) := by
  by_cases h19 : k = 19
  · subst h19
    simp only [canB, inB, regB, Bool.and_eq_true, decide_eq_true_eq, beq_iff_eq] at h
    simp [candV]; omega
  rw [marks_show_ops k hk d n m imm h h19]
  match k, hk with
  | 19, _ => exact absurd rfl h19
  | 0, _ | 1, _ | 2, _ | 3, _ | 4, _ | 5, _ | 6, _ | 7, _ | 8, _ | 9, _ | 10, _ | 11, _ | 12, _ | 13, _ | 14, _ | 15, _ | 16, _ | 17, _ | 18, _ | 20, _ =>
    simp only [canB, inB, regB, Bool.and_eq_true, decide_eq_true_eq, beq_iff_eq] at h
    simp [opsB, shapesL, piece]
    repeat' first
      | rw [mark_hit 114 _ _ rfl (by omega) (by omega) (noDig_44 _)]
      | rw [mark_hit 114 _ _ rfl (by omega) (by omega) (noDig_93 _)]
      | rw [mark_hit_e 114 _ rfl (by omega) (by omega)]
      | rw [mark_hit 35 _ _ rfl (by omega) (by omega) (noDig_93 _)]
      | rw [mark_hit_e 35 _ rfl (by omega) (by omega)]
      | rw [mark_skip _ _ (by decide)]
    simp [candV, marksV, nameI]
    try omega
  | k + 21, h' => exact absurd h' (by omega)
theorem name_lt (k : Nat) (hk : k < 21) (d n m imm : Int) (h : canB k d n m imm = true) : nameI k d imm < moreV k := by
  match k, hk with
  | 0, _ | 1, _ | 2, _ | 3, _ | 4, _ | 5, _ | 6, _ | 7, _ | 8, _ | 9, _ | 10, _ | 12, _ | 13, _ | 14, _ | 15, _ | 16, _ | 17, _ | 19, _ | 20, _ => simp [nameI, moreV]
  | 11, _ =>
    simp only [canB, inB, regB, Bool.and_eq_true, decide_eq_true_eq, beq_iff_eq] at h
    simp [nameI, moreV]; omega
  | 18, _ =>
    simp only [canB, inB, regB, Bool.and_eq_true, decide_eq_true_eq, beq_iff_eq] at h
    simp [nameI, moreV]; omega
  | k + 21, h' => exact absurd h' (by omega)
/-- A hit is what parse answers. -/
theorem hit_parse (s : List UInt8) (op j : Nat) (hop : op < 21) (h : isHit (marksV s) s op j = true) : parseV canB s = some (op, candV (marksV s) op j) := by
  unfold isHit at h
  simp only [Bool.and_eq_true, beq_iff_eq] at h
  have := parseV_show op hop _ _ _ _ h.1
  rw [h.2] at this
  exact this
/-- No hit: parse answers none. -/
theorem miss_parse (s : List UInt8) (h : ∀ op < 21, ∀ j < moreV op, isHit (marksV s) s op j = false) : parseV canB s = none := by
  cases hp : parseV canB s with
  | none => rfl
  | some r =>
    obtain ⟨k, d, n, m, imm⟩ := r
    obtain ⟨hk, hc, hs⟩ := parseV_some hp
    simp only at hc hs
    have hm := h k hk _ (name_lt k hk d n m imm hc)
    rw [← hs] at hm
    unfold isHit at hm
    rw [marks_cand k hk d n m imm hc] at hm
    simp [hc] at hm
end Go.Proofs.YtagjnannnahplaaDoor
