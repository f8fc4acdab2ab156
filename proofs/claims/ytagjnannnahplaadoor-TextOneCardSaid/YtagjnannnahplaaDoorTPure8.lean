/- Which instruction a halfword is, and its line, in plain Lean. -/
import Derived.Test.YtagjnannnahplaaDoorTPure6
import Derived.Test.YtagjnannnahplaaDoorTPut
namespace Go.Proofs.YtagjnannnahplaaDoor
set_option linter.unusedVariables false
set_option linter.unusedSimpArgs false
/-- What a halfword holds as an instruction of a sort. -/
def decV : Nat → Int → Int × Int × Int × Int
  | 0, h | 1, h | 2, h | 3, h | 16, h => (h / 256 % 8, 0, 0, h % 256)
  | 4, h => (h % 8, 0, h / 8 % 8, h / 64 % 32)
  | 5, h | 6, h => (h % 8, 0, h / 8 % 8, if h / 64 % 32 = 0 then 32 else h / 64 % 32)
  | 7, h | 8, h | 14, h | 15, h => (h % 8, h / 8 % 8, h / 64 % 8, 0)
  | 9, h | 10, h => (h % 8, h / 8 % 8, 0, h / 64 % 8)
  | 11, h => (h % 8, 0, h / 8 % 8, h / 64 % 16)
  | 12, h | 13, h => (h % 8, h / 8 % 8, 0, h / 64 % 32)
  | 17, h => (0, 0, 0, if 1023 < h % 2048 then h % 2048 - 2048 else h % 2048)
  | 18, h => (h / 256 % 16, 0, 0, if 127 < h % 256 then h % 256 - 256 else h % 256)
  | 20, h => (0, 0, 0, h % 256)
  | _, _ => (0, 0, 0, 0)
def isTake (k : Nat) (h : Int) : Bool := canB k (decV k h).1 (decV k h).2.1 (decV k h).2.2.1 (decV k h).2.2.2 && (putN k (decV k h).1 (decV k h).2.1 (decV k h).2.2.1 (decV k h).2.2.2 == h)
/-- The first sort of which it is one, from j on. -/
def takeFrom (h : Int) : Nat → Nat → Option (Nat × Int × Int × Int × Int)
  | 0, _ => none
  | n + 1, j => if isTake j h then some (j, decV j h) else takeFrom h n (j + 1)
def takeV (h : Int) : Option (Nat × Int × Int × Int × Int) := takeFrom h 21 0
theorem takeFrom_some {h : Int} : ∀ (N j : Nat) {k : Nat} {q : Int × Int × Int × Int}, takeFrom h N j = some (k, q) → j ≤ k ∧ k < j + N ∧ isTake k h = true ∧ q = decV k h
  | 0, _, _, _, e => by cases e
  | N + 1, j, k, q, e => by
    unfold takeFrom at e
    by_cases hj : isTake j h = true
    · rw [if_pos hj] at e
      simp only [Option.some.injEq, Prod.mk.injEq] at e
      obtain ⟨rfl, rfl⟩ := e
      exact ⟨Nat.le_refl _, by omega, hj, rfl⟩
    · rw [if_neg hj] at e
      have := takeFrom_some N (j + 1) e
      exact ⟨by omega, by omega, this.2.2⟩
theorem takeV_some {h : Int} {k : Nat} {d n m imm : Int} (e : takeV h = some (k, d, n, m, imm)) : k < 21 ∧ canB k d n m imm = true ∧ putN k d n m imm = h := by
  obtain ⟨-, h1, h2, h3⟩ := takeFrom_some 21 0 e
  unfold isTake at h2
  rw [← h3] at h2
  simp only [Bool.and_eq_true, beq_iff_eq] at h2
  exact ⟨by omega, h2.1, h2.2⟩
theorem takeFrom_miss {h : Int} {j : Nat} (N : Nat) (hm : isTake j h = false) : takeFrom h (N + 1) j = takeFrom h N (j + 1) := by
  conv => lhs; unfold takeFrom
  rw [if_neg (by rw [hm]; decide)]
theorem takeFrom_hit {h : Int} {j : Nat} (N : Nat) (hm : isTake j h = true) : takeFrom h (N + 1) j = some (j, decV j h) := by
  conv => lhs; unfold takeFrom
  rw [if_pos hm]
/-- An instruction's halfword holds it. -/
theorem dec_put (k : Nat) (hk : k < 21) (d n m imm : Int) (h : canB k d n m imm = true) : decV k (putN k d n m imm) = (d, n, m, imm) := by
  match k, hk with
  | 0, _ | 1, _ | 2, _ | 3, _ | 4, _ | 7, _ | 8, _ | 9, _ | 10, _ | 11, _ | 12, _ | 13, _ | 14, _ | 15, _ | 16, _ | 19, _ | 20, _ =>
    simp only [canB, inB, regB, Bool.and_eq_true, decide_eq_true_eq, beq_iff_eq] at h
    simp only [decV, putN, Prod.mk.injEq]
    omega
  | 5, _ | 6, _ | 17, _ | 18, _ =>
    simp only [canB, inB, regB, Bool.and_eq_true, decide_eq_true_eq, beq_iff_eq] at h
    simp only [decV, putN, Prod.mk.injEq]
    split <;> omega
  | k + 21, h' => exact absurd h' (by omega)
def hexL : List UInt8 := [48, 49, 50, 51, 52, 53, 54, 55, 56, 57, 97, 98, 99, 100, 101, 102]
def hexD (x : Nat) : UInt8 := hexL.getD x 0
def fourB (h : Nat) : List UInt8 := [hexD (h / 4096 % 16), hexD (h / 256 % 16), hexD (h / 16 % 16), hexD (h % 16)]
def lineB (h : Nat) : List UInt8 :=
  match takeV (h : Int) with
  | some (k, d, n, m, imm) => showB k d n m imm
  | none => 63 :: fourB h
theorem hexD_inj : ∀ a < 16, ∀ b < 16, hexD a = hexD b → a = b := by decide
theorem fourB_inj (a b : Nat) (ha : a < 65536) (hb : b < 65536) (h : fourB a = fourB b) : a = b := by
  unfold fourB at h
  simp only [List.cons.injEq, and_true] at h
  have h1 := hexD_inj _ (by omega) _ (by omega) h.1
  have h2 := hexD_inj _ (by omega) _ (by omega) h.2.1
  have h3 := hexD_inj _ (by omega) _ (by omega) h.2.2.1
  have h4 := hexD_inj _ (by omega) _ (by omega) h.2.2.2
  omega
theorem names_head : ∀ p ∈ names, (wordB p.1 p.2 p.2).head? ≠ some 63 ∧ wordB p.1 p.2 p.2 ≠ [] := by decide +kernel
theorem show_head (k : Nat) (hk : k < 21) (d n m imm : Int) (h : canB k d n m imm = true) : (showB k d n m imm).head? ≠ some 63 := by
  have hn := names_head _ (names_mem k hk d n m imm h)
  simp only at hn
  rw [← wordB_name] at hn
  rw [showB_ops k hk]
  split
  · exact hn.1
  · cases hw : wordB k d imm with
    | nil => exact absurd hw hn.2
    | cons c t => rw [hw] at hn; simpa using hn.1
/-- No two halfwords have one line. -/
theorem lineB_inj (a b : Nat) (ha : a < 65536) (hb : b < 65536) (h : lineB a = lineB b) : a = b := by
  unfold lineB at h
  cases ea : takeV (a : Int) with
  | none =>
    cases eb : takeV (b : Int) with
    | none =>
      simp only [ea, eb, List.cons.injEq, true_and] at h
      exact fourB_inj a b ha hb h
    | some q =>
      obtain ⟨k, d, n, m, imm⟩ := q
      simp only [ea, eb] at h
      have hs := takeV_some eb
      have := show_head k hs.1 d n m imm hs.2.1
      rw [← h] at this
      exact absurd rfl this
  | some p =>
    obtain ⟨k, d, n, m, imm⟩ := p
    have hs := takeV_some ea
    cases eb : takeV (b : Int) with
    | none =>
      simp only [ea, eb] at h
      have := show_head k hs.1 d n m imm hs.2.1
      rw [h] at this
      exact absurd rfl this
    | some q =>
      obtain ⟨k', d', n', m', imm'⟩ := q
      have hs' := takeV_some eb
      simp only [ea, eb] at h
      obtain ⟨rfl, rfl, rfl, rfl, rfl⟩ := showB_inj k k' hs.1 hs'.1 d n m imm d' n' m' imm' hs.2.1 hs'.2.1 h
      have := hs.2.2.symm.trans hs'.2.2
      omega
end Go.Proofs.YtagjnannnahplaaDoor
