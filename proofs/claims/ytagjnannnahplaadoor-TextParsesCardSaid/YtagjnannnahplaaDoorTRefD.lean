/- bautaref02.has; bautaref04.Num, reg, imm. -/
import Derived.Test.YtagjnannnahplaaDoorTRef0
import Derived.Lib.ItoaNum
namespace Go.Proofs.YtagjnannnahplaaDoor
open Go.RowKit
set_option linter.unusedVariables false
set_option linter.unusedSimpArgs false
set_option maxRecDepth 100000 in
set_option maxHeartbeats 4000000 in
theorem rhas_any (l : List UInt8) (c : UInt8) (hl : l.length ≤ 1000) (w : World) :
    Calls Tryd.prog 29 #[.string ⟨l.toArray⟩, .int .u8 (c.toNat : Int)] w fun e w' => e = .returned (.bool (l.contains c)) ∧ ∃ n, w' = w.drewN n := by
  have hsz : (⟨l.toArray⟩ : ByteArray).size = l.length := by show l.toArray.size = _; simp
  go_enter Tryd.func29, Tryd.ntmps29
  go_wp2_with fail
  go_loopw [5] (fun i wr => ∃ j : Nat, j ≤ l.length ∧ i = .int .i64 j ∧ l.contains c = (l.drop j).contains c ∧ ∃ n, wr = w.drewN n) (fun i _ => l.length - (intOf i).toNat)
  case atStart => exact ⟨0, Nat.zero_le _, rfl, rfl, 0, rfl⟩
  case round =>
    obtain ⟨j, hj, rfl, hcon, n, rfl⟩ := hrel
    have HR : Hid (l.contains c = (l.drop j).contains c) := hcon
    clear hcon
    by_cases hlt : j < l.length
    · have HD : Hid (l.drop j = l[j] :: l.drop (j + 1)) := List.drop_eq_getElem_cons hlt
      have hlt' : j < (⟨l.toArray⟩ : ByteArray).size := by omega
      have hg : (⟨l.toArray⟩ : ByteArray)[j].toNat = l[j].toNat := rfl
      have hj1 : (j : Int) < ((⟨l.toArray⟩ : ByteArray).size : Int) := by omega
      obtain ⟨x, hx⟩ : ∃ x, x = l[j] := ⟨_, rfl⟩
      rw [← hx] at hg
      have HX : Hid (x = l[j]) := hx
      clear hx
      by_cases hc : x = c
      · have hc' : (x.toNat : Int) = c.toNat := by rw [hc]
        have HC : Hid (x = c) := hc
        clear hc
        go_wp2_with fail
        go_ret
        refine ⟨?_, _, rfl⟩
        rw [HR.out, HD.out, ← HX.out, HC.out]; simp
      · have hc' : ((x.toNat : Int) == c.toNat) = false := by
          rw [beq_eq_false_iff_ne]; intro h; exact hc (UInt8.toNat_inj.1 (by omega))
        have HC : Hid (x ≠ c) := hc
        clear hc
        go_wp2_with fail
        go_roundw
        case rel => exact ⟨j + 1, by omega, by go_num, by rw [HR.out, HD.out, ← HX.out]; simp [Ne.symm HC.out], _, rfl⟩
        case measure => simp [intOf]; omega
    · have hje : j = l.length := by omega
      have HE : Hid (l.contains c = false) := by show _ = _; rw [HR.out, hje]; simp
      have hge : ¬ ((j : Int) < ((⟨l.toArray⟩ : ByteArray).size : Int)) := by omega
      clear hje
      go_wp2_with fail
      go_ret
      exact ⟨by have h := HE.out; simp only [List.contains_eq_mem] at h; rw [h]; rfl, _, rfl⟩
end Go.Proofs.YtagjnannnahplaaDoor
