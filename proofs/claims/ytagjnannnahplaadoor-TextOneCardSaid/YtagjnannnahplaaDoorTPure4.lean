/- An instruction's text is read as the instruction, in plain Lean. -/
import Derived.Test.YtagjnannnahplaaDoorTPure3
import Derived.Lib.ItoaMem
namespace Go.Proofs.YtagjnannnahplaaDoor
set_option linter.unusedVariables false
set_option linter.unusedSimpArgs false
def natC (u : Nat) : List UInt8 :=
  if u < 10 then [UInt8.ofNat (48 + u)] else if u < 100 then [UInt8.ofNat (48 + u / 10), UInt8.ofNat (48 + u % 10)]
  else if u < 1000 then [UInt8.ofNat (48 + u / 100), UInt8.ofNat (48 + u / 10 % 10), UInt8.ofNat (48 + u % 10)]
  else [UInt8.ofNat (48 + u / 1000), UInt8.ofNat (48 + u / 100 % 10), UInt8.ofNat (48 + u / 10 % 10), UInt8.ofNat (48 + u % 10)]
theorem natC_eq (u : Nat) (h : u < 10000) : Lib.decDigits u = natC u := by
  unfold natC
  split
  · rw [Lib.decDigits_one (by assumption)]
  · split
    · rw [Lib.decDigits_two (by assumption) (by assumption)]
    · split
      · rename_i h1 h2 h3
        rw [Lib.decDigits, dif_neg h1, Lib.decDigits_two (by omega) (by omega)]
        simp [Nat.div_div_eq_div_mul]
      · rename_i h1 h2 h3
        rw [Lib.decDigits, dif_neg h1, Lib.decDigits, dif_neg (by omega), Lib.decDigits_two (by omega) (by omega)]
        simp [Nat.div_div_eq_div_mul]
def itoaC (x : Int) : List UInt8 := if x < 0 then 45 :: natC x.natAbs else natC x.toNat
theorem itoaC_eq (x : Int) (h0 : -10000 < x) (h1 : x < 10000) : Lib.itoa x = itoaC x := by
  unfold Lib.itoa itoaC
  split
  · rw [natC_eq _ (by omega)]
  · rw [natC_eq _ (by omega)]
set_option maxRecDepth 100000 in
theorem itoaC_back : ∀ u : Nat, u < 4201 → (atoiV (itoaC ((u : Int) - 2100)) == (((u : Int) - 2100), true) && (itoaC ((u : Int) - 2100)).all (digitsL.contains ·)) = true := by decide +kernel
theorem itoa_back (x : Int) (h0 : -2100 ≤ x) (h1 : x ≤ 2100) : atoiV (Lib.itoa x) = (x, true) ∧ (Lib.itoa x).all (digitsL.contains ·) = true := by
  have := itoaC_back (x + 2100).toNat (by omega)
  rw [show (((x + 2100).toNat : Nat) : Int) - 2100 = x from by omega] at this
  rw [itoaC_eq x (by omega) (by omega)]
  simpa using this
theorem regV_back (d : Int) (r : List UInt8) (h0 : 0 ≤ d) (h1 : d < 8) : regV (114 :: (Lib.itoa d ++ r)) = (d, r, true) := by
  rw [itoaC_eq d (by omega) (by omega)]
  have h : d = 0 ∨ d = 1 ∨ d = 2 ∨ d = 3 ∨ d = 4 ∨ d = 5 ∨ d = 6 ∨ d = 7 := by omega
  rcases h with h | h | h | h | h | h | h | h <;> (subst h; rfl)
def noDig (r : List UInt8) : Prop := ∀ c, r.head? = some c → digitsL.contains c = false
theorem trimLeftS_app (a r : List UInt8) (ha : a.all (digitsL.contains ·) = true) (hr : noDig r) : Lib.trimLeftS (a ++ r) digitsL = r := by
  unfold Lib.trimLeftS
  induction a with
  | nil =>
    cases r with
    | nil => rfl
    | cons c t => rw [List.nil_append, List.dropWhile_cons, hr c rfl]; rfl
  | cons c t ih =>
    simp only [List.all_cons, Bool.and_eq_true] at ha
    rw [List.cons_append, List.dropWhile_cons, ha.1]
    exact ih ha.2
theorem numV_back (x t : Int) (r : List UInt8) (h0 : -2100 ≤ x) (h1 : x ≤ 2100) (hr : noDig r) : numV (35 :: (Lib.itoa x ++ r)) t = (x.tdiv t, r, x.tmod t == 0) := by
  obtain ⟨hb, hd⟩ := itoa_back x h0 h1
  have hp : Lib.hasPrefix (35 :: (Lib.itoa x ++ r)) [35] = true := by simp [Lib.hasPrefix, List.isPrefixOf]
  have ht : Lib.trimPrefix (35 :: (Lib.itoa x ++ r)) [35] = Lib.itoa x ++ r := by unfold Lib.trimPrefix; rw [hp]; rfl
  unfold numV
  simp only [ht, hp, trimLeftS_app _ _ hd hr]
  have hn : (Lib.itoa x ++ r).length - r.length = (Lib.itoa x).length := by simp
  rw [hn, List.take_left, List.drop_left, hb]
  simp
end Go.Proofs.YtagjnannnahplaaDoor
