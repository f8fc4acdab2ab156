/- bautaref04.Num, reg, imm. -/
import Derived.Test.YtagjnannnahplaaDoorTRefD
import Derived.Lib.ItoaLen
import Derived.Lib.ItoaMem
import Derived.Deep.QuietTactic
import Derived.BigQuiet
namespace Go.Proofs.YtagjnannnahplaaDoor
open Go.RowKit
set_option linter.unusedVariables false
set_option linter.unusedSimpArgs false
def digs : ByteArray := ⟨#[48, 49, 50, 51, 52, 53, 54, 55, 56, 57]⟩
theorem digs_at : ∀ u < 10, digs.extract u (u + 1) = ⟨(Lib.decDigits u).toArray⟩ := by decide +kernel
theorem cat2 (a b : List UInt8) : (⟨a.toArray⟩ : ByteArray) ++ ⟨b.toArray⟩ = ⟨(a ++ b).toArray⟩ := by
  apply ByteArray.ext; simp
theorem decDigits_step {u : Nat} (h : ¬ u < 10) : Lib.decDigits u = Lib.decDigits (u / 10) ++ Lib.decDigits (u % 10) := by
  rw [Lib.decDigits_one (Nat.mod_lt u (by omega))]
  conv => lhs; rw [Lib.decDigits, dif_neg h]
set_option maxRecDepth 100000 in
set_option maxHeartbeats 4000000 in
theorem num_nat : ∀ (u : Nat) (hu : u ≤ 9000000) (w : World),
    Calls Tryd.prog 32 #[.int .i64 (u : Int)] w fun e w' => e = .returned (.string ⟨(Lib.decDigits u).toArray⟩) ∧ ∃ m, w' = w.drewN m := by
  intro u
  induction u using Nat.strongRecOn with
  | ind u ih =>
    intro hu w
    by_cases h : u < 10
    · have hs := digs_at u h
      unfold digs at hs
      have h1 : ((u : Int) + 1).toNat = u + 1 := by omega
      obtain ⟨D, hD⟩ : ∃ D, D = (⟨(Lib.decDigits u).toArray⟩ : ByteArray) := ⟨_, rfl⟩
      rw [← hD] at hs ⊢
      clear hD
      go_enter Tryd.func32, Tryd.ntmps32
      go_wp2_with fail
      go_ret
      exact ⟨by simp [h1, hs], 0, rfl⟩
    · skip
      have ha : ∀ w, _ := fun w => ih (u / 10) (by omega) (by omega) w
      have hb : ∀ w, _ := fun w => ih (u % 10) (by omega) (by omega) w
      rw [show ((u / 10 : Nat) : Int) = (u : Int) / 10 from by omega] at ha
      rw [show ((u % 10 : Nat) : Int) = (u : Int) % 10 from by omega] at hb
      have HS : Hid (Lib.decDigits u = Lib.decDigits (u / 10) ++ Lib.decDigits (u % 10)) := decDigits_step h
      have hla : (Lib.decDigits (u / 10)).length ≤ 21 := by
        have := Lib.itoa_length_le ((u / 10 : Nat) : Int) (by omega) (by omega); rwa [Lib.itoa_nonneg] at this
      have hlb : (Lib.decDigits (u % 10)).length ≤ 21 := by
        have := Lib.itoa_length_le ((u % 10 : Nat) : Int) (by omega) (by omega); rwa [Lib.itoa_nonneg] at this
      generalize Lib.decDigits (u / 10) = A at *
      generalize Lib.decDigits (u % 10) = B at *
      have hsa : (⟨A.toArray⟩ : ByteArray).size ≤ 21 := by show A.toArray.size ≤ _; simpa using hla
      have hsb : (⟨B.toArray⟩ : ByteArray).size ≤ 21 := by show B.toArray.size ≤ _; simpa using hlb
      have HC := Lib.hid (cat2 A B)
      go_enter Tryd.func32, Tryd.ntmps32
      go_wp2_with fail
      refine (ha _).mono ?_
      rintro e w1 ⟨rfl, m1, rfl⟩
      go_wp2_with fail
      refine (hb _).mono ?_
      rintro e w1 ⟨rfl, m2, rfl⟩
      go_wp2_with fail
      go_ret
      exact ⟨by rw [HS.out]; exact congrArg (fun x => Ending.returned (.string x)) HC.out, m1 + m2, rfl⟩
set_option maxRecDepth 100000 in
set_option maxHeartbeats 4000000 in
theorem num_any (n : Int) (h0 : -9000000 ≤ n) (h1 : n ≤ 9000000) (w : World) :
    Calls Tryd.prog 32 #[.int .i64 n] w fun e w' => e = .returned (.string ⟨(Lib.itoa n).toArray⟩) ∧ ∃ m, w' = w.drewN m := by
  by_cases h : n < 0
  · have ha := fun w => num_nat n.natAbs (by omega) w
    rw [show ((n.natAbs : Nat) : Int) = -n from by omega] at ha
    have HI : Hid (Lib.itoa n = 45 :: Lib.decDigits n.natAbs) := by show _ = _; unfold Lib.itoa; rw [if_pos h]
    have hla : (Lib.decDigits n.natAbs).length ≤ 21 := by
      have := Lib.itoa_length_le ((n.natAbs : Nat) : Int) (by omega) (by omega); rwa [Lib.itoa_nonneg] at this
    generalize Lib.decDigits n.natAbs = A at *
    have hsa : (⟨A.toArray⟩ : ByteArray).size ≤ 21 := by show A.toArray.size ≤ _; simpa using hla
    have HC := Lib.hid (cat2 [45] A)
    go_enter Tryd.func32, Tryd.ntmps32
    go_wp2_with fail
    refine (ha _).mono ?_
    rintro e w1 ⟨rfl, m1, rfl⟩
    go_wp2_with fail
    go_ret
    exact ⟨by rw [HI.out]; exact congrArg (fun x => Ending.returned (.string x)) HC.out, m1, rfl⟩
  · have := num_nat n.toNat (by omega) w
    rw [show ((n.toNat : Nat) : Int) = n from by omega] at this
    rw [show Lib.itoa n = Lib.decDigits n.toNat from by unfold Lib.itoa; rw [if_neg h]]
    exact this
set_option maxRecDepth 100000 in
set_option maxHeartbeats 4000000 in
theorem reg_any (n : Int) (h0 : -9000000 ≤ n) (h1 : n ≤ 9000000) (w : World) :
    Calls Tryd.prog 15 #[.int .i64 n] w fun e w' => e = .returned (.string ⟨(114 :: Lib.itoa n).toArray⟩) ∧ ∃ m, w' = w.drewN m := by
  have ha := fun w => num_any n h0 h1 w
  have hla : (Lib.itoa n).length ≤ 21 := Lib.itoa_length_le _ (by omega) (by omega)
  generalize Lib.itoa n = A at *
  have hsa : (⟨A.toArray⟩ : ByteArray).size ≤ 21 := by show A.toArray.size ≤ _; simpa using hla
  have HC := Lib.hid (cat2 [114] A)
  go_enter Tryd.func15, Tryd.ntmps15
  go_wp2_with fail
  refine (ha _).mono ?_
  rintro e w1 ⟨rfl, m1, rfl⟩
  go_wp2_with fail
  go_ret
  exact ⟨congrArg (fun x => Ending.returned (.string x)) HC.out, m1, rfl⟩
set_option maxRecDepth 100000 in
set_option maxHeartbeats 4000000 in
theorem imm_any (n : Int) (h0 : -9000000 ≤ n) (h1 : n ≤ 9000000) (w : World) :
    Calls Tryd.prog 16 #[.int .i64 n] w fun e w' => e = .returned (.string ⟨(35 :: Lib.itoa n).toArray⟩) ∧ ∃ m, w' = w.drewN m := by
  have ha := fun w => num_any n h0 h1 w
  have hla : (Lib.itoa n).length ≤ 21 := Lib.itoa_length_le _ (by omega) (by omega)
  generalize Lib.itoa n = A at *
  have hsa : (⟨A.toArray⟩ : ByteArray).size ≤ 21 := by show A.toArray.size ≤ _; simpa using hla
  have HC := Lib.hid (cat2 [35] A)
  go_enter Tryd.func16, Tryd.ntmps16
  go_wp2_with fail
  refine (ha _).mono ?_
  rintro e w1 ⟨rfl, m1, rfl⟩
  go_wp2_with fail
  go_ret
  exact ⟨congrArg (fun x => Ending.returned (.string x)) HC.out, m1, rfl⟩
end Go.Proofs.YtagjnannnahplaaDoor
