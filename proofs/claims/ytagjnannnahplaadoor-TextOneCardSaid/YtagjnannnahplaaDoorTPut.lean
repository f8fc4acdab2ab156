/- What thumb.put answers, in plain numbers. -/
import Derived.Test.YtagjnannnahplaaDoorTCan
namespace Go.Proofs.YtagjnannnahplaaDoor
open Go.RowKit
set_option linter.unusedVariables false
set_option linter.unusedSimpArgs false
def putN : Nat → Int → Int → Int → Int → Int
  | 0, d, n, m, imm => 8192 + d * 256 + imm
  | 1, d, n, m, imm => 10240 + d * 256 + imm
  | 2, d, n, m, imm => 12288 + d * 256 + imm
  | 3, d, n, m, imm => 14336 + d * 256 + imm
  | 4, d, n, m, imm => 0 + imm * 64 + m * 8 + d
  | 5, d, n, m, imm => 2048 + (imm % 32) * 64 + m * 8 + d
  | 6, d, n, m, imm => 4096 + (imm % 32) * 64 + m * 8 + d
  | 7, d, n, m, imm => 6144 + m * 64 + n * 8 + d
  | 8, d, n, m, imm => 6656 + m * 64 + n * 8 + d
  | 9, d, n, m, imm => 7168 + imm * 64 + n * 8 + d
  | 10, d, n, m, imm => 7680 + imm * 64 + n * 8 + d
  | 11, d, n, m, imm => 16384 + imm * 64 + m * 8 + d
  | 12, d, n, m, imm => 26624 + imm * 64 + n * 8 + d
  | 13, d, n, m, imm => 24576 + imm * 64 + n * 8 + d
  | 14, d, n, m, imm => 22528 + m * 64 + n * 8 + d
  | 15, d, n, m, imm => 20480 + m * 64 + n * 8 + d
  | 16, d, n, m, imm => 18432 + d * 256 + imm
  | 17, d, n, m, imm => 57344 + (imm % 2048)
  | 18, d, n, m, imm => 53248 + d * 256 + (imm % 256)
  | 19, d, n, m, imm => 48896
  | 20, d, n, m, imm => 48640 + imm
  | _, _, _, _, _ => 0
theorem put_nat_0 : ∀ d < 8, ∀ imm < 256, bits BinOp.or IntKind.u16 (bits BinOp.or IntKind.u16 8192 (IntKind.u16.wrap ((IntKind.u16.wrap (bits BinOp.and IntKind.i64 ((d : Nat) : Int) 7)) * 256))) (IntKind.u16.wrap (IntKind.u16.wrap (bits BinOp.and IntKind.i64 ((imm : Nat) : Int) 255))) = 8192 + ((d : Nat) : Int) * 256 + ((imm : Nat) : Int) := by decide +kernel
theorem put_bits_0 (d imm : Int) (hd0 : 0 ≤ d) (hd1 : d < 8) (himm0 : 0 ≤ imm) (himm1 : imm < 256) : bits BinOp.or IntKind.u16 (bits BinOp.or IntKind.u16 8192 (IntKind.u16.wrap ((IntKind.u16.wrap (bits BinOp.and IntKind.i64 d 7)) * 256))) (IntKind.u16.wrap (IntKind.u16.wrap (bits BinOp.and IntKind.i64 imm 255))) = 8192 + d * 256 + imm := by
  obtain ⟨d, rfl⟩ := Int.eq_ofNat_of_zero_le hd0
  obtain ⟨imm, rfl⟩ := Int.eq_ofNat_of_zero_le himm0
  exact put_nat_0 d (by omega) imm (by omega)
theorem put_nat_1 : ∀ d < 8, ∀ imm < 256, bits BinOp.or IntKind.u16 (bits BinOp.or IntKind.u16 10240 (IntKind.u16.wrap ((IntKind.u16.wrap (bits BinOp.and IntKind.i64 ((d : Nat) : Int) 7)) * 256))) (IntKind.u16.wrap (IntKind.u16.wrap (bits BinOp.and IntKind.i64 ((imm : Nat) : Int) 255))) = 10240 + ((d : Nat) : Int) * 256 + ((imm : Nat) : Int) := by decide +kernel
theorem put_bits_1 (d imm : Int) (hd0 : 0 ≤ d) (hd1 : d < 8) (himm0 : 0 ≤ imm) (himm1 : imm < 256) : bits BinOp.or IntKind.u16 (bits BinOp.or IntKind.u16 10240 (IntKind.u16.wrap ((IntKind.u16.wrap (bits BinOp.and IntKind.i64 d 7)) * 256))) (IntKind.u16.wrap (IntKind.u16.wrap (bits BinOp.and IntKind.i64 imm 255))) = 10240 + d * 256 + imm := by
  obtain ⟨d, rfl⟩ := Int.eq_ofNat_of_zero_le hd0
  obtain ⟨imm, rfl⟩ := Int.eq_ofNat_of_zero_le himm0
  exact put_nat_1 d (by omega) imm (by omega)
theorem put_nat_2 : ∀ d < 8, ∀ imm < 256, bits BinOp.or IntKind.u16 (bits BinOp.or IntKind.u16 12288 (IntKind.u16.wrap ((IntKind.u16.wrap (bits BinOp.and IntKind.i64 ((d : Nat) : Int) 7)) * 256))) (IntKind.u16.wrap (IntKind.u16.wrap (bits BinOp.and IntKind.i64 ((imm : Nat) : Int) 255))) = 12288 + ((d : Nat) : Int) * 256 + ((imm : Nat) : Int) := by decide +kernel
theorem put_bits_2 (d imm : Int) (hd0 : 0 ≤ d) (hd1 : d < 8) (himm0 : 0 ≤ imm) (himm1 : imm < 256) : bits BinOp.or IntKind.u16 (bits BinOp.or IntKind.u16 12288 (IntKind.u16.wrap ((IntKind.u16.wrap (bits BinOp.and IntKind.i64 d 7)) * 256))) (IntKind.u16.wrap (IntKind.u16.wrap (bits BinOp.and IntKind.i64 imm 255))) = 12288 + d * 256 + imm := by
  obtain ⟨d, rfl⟩ := Int.eq_ofNat_of_zero_le hd0
  obtain ⟨imm, rfl⟩ := Int.eq_ofNat_of_zero_le himm0
  exact put_nat_2 d (by omega) imm (by omega)
theorem put_nat_3 : ∀ d < 8, ∀ imm < 256, bits BinOp.or IntKind.u16 (bits BinOp.or IntKind.u16 14336 (IntKind.u16.wrap ((IntKind.u16.wrap (bits BinOp.and IntKind.i64 ((d : Nat) : Int) 7)) * 256))) (IntKind.u16.wrap (IntKind.u16.wrap (bits BinOp.and IntKind.i64 ((imm : Nat) : Int) 255))) = 14336 + ((d : Nat) : Int) * 256 + ((imm : Nat) : Int) := by decide +kernel
theorem put_bits_3 (d imm : Int) (hd0 : 0 ≤ d) (hd1 : d < 8) (himm0 : 0 ≤ imm) (himm1 : imm < 256) : bits BinOp.or IntKind.u16 (bits BinOp.or IntKind.u16 14336 (IntKind.u16.wrap ((IntKind.u16.wrap (bits BinOp.and IntKind.i64 d 7)) * 256))) (IntKind.u16.wrap (IntKind.u16.wrap (bits BinOp.and IntKind.i64 imm 255))) = 14336 + d * 256 + imm := by
  obtain ⟨d, rfl⟩ := Int.eq_ofNat_of_zero_le hd0
  obtain ⟨imm, rfl⟩ := Int.eq_ofNat_of_zero_le himm0
  exact put_nat_3 d (by omega) imm (by omega)
theorem put_nat_4 : ∀ imm < 32, ∀ m < 8, ∀ d < 8, bits BinOp.or IntKind.u16 (bits BinOp.or IntKind.u16 (bits BinOp.or IntKind.u16 0 (IntKind.u16.wrap ((IntKind.u16.wrap (bits BinOp.and IntKind.i64 ((imm : Nat) : Int) 31)) * 64))) (IntKind.u16.wrap ((IntKind.u16.wrap (bits BinOp.and IntKind.i64 ((m : Nat) : Int) 7)) * 8))) (IntKind.u16.wrap (IntKind.u16.wrap (bits BinOp.and IntKind.i64 ((d : Nat) : Int) 7))) = 0 + ((imm : Nat) : Int) * 64 + ((m : Nat) : Int) * 8 + ((d : Nat) : Int) := by decide +kernel
theorem put_bits_4 (imm m d : Int) (himm0 : 0 ≤ imm) (himm1 : imm < 32) (hm0 : 0 ≤ m) (hm1 : m < 8) (hd0 : 0 ≤ d) (hd1 : d < 8) : bits BinOp.or IntKind.u16 (bits BinOp.or IntKind.u16 (bits BinOp.or IntKind.u16 0 (IntKind.u16.wrap ((IntKind.u16.wrap (bits BinOp.and IntKind.i64 imm 31)) * 64))) (IntKind.u16.wrap ((IntKind.u16.wrap (bits BinOp.and IntKind.i64 m 7)) * 8))) (IntKind.u16.wrap (IntKind.u16.wrap (bits BinOp.and IntKind.i64 d 7))) = 0 + imm * 64 + m * 8 + d := by
  obtain ⟨imm, rfl⟩ := Int.eq_ofNat_of_zero_le himm0
  obtain ⟨m, rfl⟩ := Int.eq_ofNat_of_zero_le hm0
  obtain ⟨d, rfl⟩ := Int.eq_ofNat_of_zero_le hd0
  exact put_nat_4 imm (by omega) m (by omega) d (by omega)
theorem put_nat_5 : ∀ imm < 32, ∀ m < 8, ∀ d < 8, bits BinOp.or IntKind.u16 (bits BinOp.or IntKind.u16 (bits BinOp.or IntKind.u16 2048 (IntKind.u16.wrap ((IntKind.u16.wrap (bits BinOp.and IntKind.i64 (((imm : Nat) : Int) + 1) 31)) * 64))) (IntKind.u16.wrap ((IntKind.u16.wrap (bits BinOp.and IntKind.i64 ((m : Nat) : Int) 7)) * 8))) (IntKind.u16.wrap (IntKind.u16.wrap (bits BinOp.and IntKind.i64 ((d : Nat) : Int) 7))) = 2048 + ((((imm : Nat) : Int) + 1) % 32) * 64 + ((m : Nat) : Int) * 8 + ((d : Nat) : Int) := by decide +kernel
theorem put_bits_5 (imm m d : Int) (himm0 : 1 ≤ imm) (himm1 : imm < 33) (hm0 : 0 ≤ m) (hm1 : m < 8) (hd0 : 0 ≤ d) (hd1 : d < 8) : bits BinOp.or IntKind.u16 (bits BinOp.or IntKind.u16 (bits BinOp.or IntKind.u16 2048 (IntKind.u16.wrap ((IntKind.u16.wrap (bits BinOp.and IntKind.i64 imm 31)) * 64))) (IntKind.u16.wrap ((IntKind.u16.wrap (bits BinOp.and IntKind.i64 m 7)) * 8))) (IntKind.u16.wrap (IntKind.u16.wrap (bits BinOp.and IntKind.i64 d 7))) = 2048 + (imm % 32) * 64 + m * 8 + d := by
  obtain ⟨imm, rfl⟩ : ∃ z : Nat, imm = (z : Int) + 1 := ⟨(imm - 1).toNat, by omega⟩
  obtain ⟨m, rfl⟩ := Int.eq_ofNat_of_zero_le hm0
  obtain ⟨d, rfl⟩ := Int.eq_ofNat_of_zero_le hd0
  exact put_nat_5 imm (by omega) m (by omega) d (by omega)
theorem put_nat_6 : ∀ imm < 32, ∀ m < 8, ∀ d < 8, bits BinOp.or IntKind.u16 (bits BinOp.or IntKind.u16 (bits BinOp.or IntKind.u16 4096 (IntKind.u16.wrap ((IntKind.u16.wrap (bits BinOp.and IntKind.i64 (((imm : Nat) : Int) + 1) 31)) * 64))) (IntKind.u16.wrap ((IntKind.u16.wrap (bits BinOp.and IntKind.i64 ((m : Nat) : Int) 7)) * 8))) (IntKind.u16.wrap (IntKind.u16.wrap (bits BinOp.and IntKind.i64 ((d : Nat) : Int) 7))) = 4096 + ((((imm : Nat) : Int) + 1) % 32) * 64 + ((m : Nat) : Int) * 8 + ((d : Nat) : Int) := by decide +kernel
theorem put_bits_6 (imm m d : Int) (himm0 : 1 ≤ imm) (himm1 : imm < 33) (hm0 : 0 ≤ m) (hm1 : m < 8) (hd0 : 0 ≤ d) (hd1 : d < 8) : bits BinOp.or IntKind.u16 (bits BinOp.or IntKind.u16 (bits BinOp.or IntKind.u16 4096 (IntKind.u16.wrap ((IntKind.u16.wrap (bits BinOp.and IntKind.i64 imm 31)) * 64))) (IntKind.u16.wrap ((IntKind.u16.wrap (bits BinOp.and IntKind.i64 m 7)) * 8))) (IntKind.u16.wrap (IntKind.u16.wrap (bits BinOp.and IntKind.i64 d 7))) = 4096 + (imm % 32) * 64 + m * 8 + d := by
  obtain ⟨imm, rfl⟩ : ∃ z : Nat, imm = (z : Int) + 1 := ⟨(imm - 1).toNat, by omega⟩
  obtain ⟨m, rfl⟩ := Int.eq_ofNat_of_zero_le hm0
  obtain ⟨d, rfl⟩ := Int.eq_ofNat_of_zero_le hd0
  exact put_nat_6 imm (by omega) m (by omega) d (by omega)
theorem put_nat_7 : ∀ m < 8, ∀ n < 8, ∀ d < 8, bits BinOp.or IntKind.u16 (bits BinOp.or IntKind.u16 (bits BinOp.or IntKind.u16 6144 (IntKind.u16.wrap ((IntKind.u16.wrap (bits BinOp.and IntKind.i64 ((m : Nat) : Int) 7)) * 64))) (IntKind.u16.wrap ((IntKind.u16.wrap (bits BinOp.and IntKind.i64 ((n : Nat) : Int) 7)) * 8))) (IntKind.u16.wrap (IntKind.u16.wrap (bits BinOp.and IntKind.i64 ((d : Nat) : Int) 7))) = 6144 + ((m : Nat) : Int) * 64 + ((n : Nat) : Int) * 8 + ((d : Nat) : Int) := by decide +kernel
theorem put_bits_7 (m n d : Int) (hm0 : 0 ≤ m) (hm1 : m < 8) (hn0 : 0 ≤ n) (hn1 : n < 8) (hd0 : 0 ≤ d) (hd1 : d < 8) : bits BinOp.or IntKind.u16 (bits BinOp.or IntKind.u16 (bits BinOp.or IntKind.u16 6144 (IntKind.u16.wrap ((IntKind.u16.wrap (bits BinOp.and IntKind.i64 m 7)) * 64))) (IntKind.u16.wrap ((IntKind.u16.wrap (bits BinOp.and IntKind.i64 n 7)) * 8))) (IntKind.u16.wrap (IntKind.u16.wrap (bits BinOp.and IntKind.i64 d 7))) = 6144 + m * 64 + n * 8 + d := by
  obtain ⟨m, rfl⟩ := Int.eq_ofNat_of_zero_le hm0
  obtain ⟨n, rfl⟩ := Int.eq_ofNat_of_zero_le hn0
  obtain ⟨d, rfl⟩ := Int.eq_ofNat_of_zero_le hd0
  exact put_nat_7 m (by omega) n (by omega) d (by omega)
theorem put_nat_8 : ∀ m < 8, ∀ n < 8, ∀ d < 8, bits BinOp.or IntKind.u16 (bits BinOp.or IntKind.u16 (bits BinOp.or IntKind.u16 6656 (IntKind.u16.wrap ((IntKind.u16.wrap (bits BinOp.and IntKind.i64 ((m : Nat) : Int) 7)) * 64))) (IntKind.u16.wrap ((IntKind.u16.wrap (bits BinOp.and IntKind.i64 ((n : Nat) : Int) 7)) * 8))) (IntKind.u16.wrap (IntKind.u16.wrap (bits BinOp.and IntKind.i64 ((d : Nat) : Int) 7))) = 6656 + ((m : Nat) : Int) * 64 + ((n : Nat) : Int) * 8 + ((d : Nat) : Int) := by decide +kernel
theorem put_bits_8 (m n d : Int) (hm0 : 0 ≤ m) (hm1 : m < 8) (hn0 : 0 ≤ n) (hn1 : n < 8) (hd0 : 0 ≤ d) (hd1 : d < 8) : bits BinOp.or IntKind.u16 (bits BinOp.or IntKind.u16 (bits BinOp.or IntKind.u16 6656 (IntKind.u16.wrap ((IntKind.u16.wrap (bits BinOp.and IntKind.i64 m 7)) * 64))) (IntKind.u16.wrap ((IntKind.u16.wrap (bits BinOp.and IntKind.i64 n 7)) * 8))) (IntKind.u16.wrap (IntKind.u16.wrap (bits BinOp.and IntKind.i64 d 7))) = 6656 + m * 64 + n * 8 + d := by
  obtain ⟨m, rfl⟩ := Int.eq_ofNat_of_zero_le hm0
  obtain ⟨n, rfl⟩ := Int.eq_ofNat_of_zero_le hn0
  obtain ⟨d, rfl⟩ := Int.eq_ofNat_of_zero_le hd0
  exact put_nat_8 m (by omega) n (by omega) d (by omega)
theorem put_nat_9 : ∀ imm < 8, ∀ n < 8, ∀ d < 8, bits BinOp.or IntKind.u16 (bits BinOp.or IntKind.u16 (bits BinOp.or IntKind.u16 7168 (IntKind.u16.wrap ((IntKind.u16.wrap (bits BinOp.and IntKind.i64 ((imm : Nat) : Int) 7)) * 64))) (IntKind.u16.wrap ((IntKind.u16.wrap (bits BinOp.and IntKind.i64 ((n : Nat) : Int) 7)) * 8))) (IntKind.u16.wrap (IntKind.u16.wrap (bits BinOp.and IntKind.i64 ((d : Nat) : Int) 7))) = 7168 + ((imm : Nat) : Int) * 64 + ((n : Nat) : Int) * 8 + ((d : Nat) : Int) := by decide +kernel
theorem put_bits_9 (imm n d : Int) (himm0 : 0 ≤ imm) (himm1 : imm < 8) (hn0 : 0 ≤ n) (hn1 : n < 8) (hd0 : 0 ≤ d) (hd1 : d < 8) : bits BinOp.or IntKind.u16 (bits BinOp.or IntKind.u16 (bits BinOp.or IntKind.u16 7168 (IntKind.u16.wrap ((IntKind.u16.wrap (bits BinOp.and IntKind.i64 imm 7)) * 64))) (IntKind.u16.wrap ((IntKind.u16.wrap (bits BinOp.and IntKind.i64 n 7)) * 8))) (IntKind.u16.wrap (IntKind.u16.wrap (bits BinOp.and IntKind.i64 d 7))) = 7168 + imm * 64 + n * 8 + d := by
  obtain ⟨imm, rfl⟩ := Int.eq_ofNat_of_zero_le himm0
  obtain ⟨n, rfl⟩ := Int.eq_ofNat_of_zero_le hn0
  obtain ⟨d, rfl⟩ := Int.eq_ofNat_of_zero_le hd0
  exact put_nat_9 imm (by omega) n (by omega) d (by omega)
theorem put_nat_10 : ∀ imm < 8, ∀ n < 8, ∀ d < 8, bits BinOp.or IntKind.u16 (bits BinOp.or IntKind.u16 (bits BinOp.or IntKind.u16 7680 (IntKind.u16.wrap ((IntKind.u16.wrap (bits BinOp.and IntKind.i64 ((imm : Nat) : Int) 7)) * 64))) (IntKind.u16.wrap ((IntKind.u16.wrap (bits BinOp.and IntKind.i64 ((n : Nat) : Int) 7)) * 8))) (IntKind.u16.wrap (IntKind.u16.wrap (bits BinOp.and IntKind.i64 ((d : Nat) : Int) 7))) = 7680 + ((imm : Nat) : Int) * 64 + ((n : Nat) : Int) * 8 + ((d : Nat) : Int) := by decide +kernel
theorem put_bits_10 (imm n d : Int) (himm0 : 0 ≤ imm) (himm1 : imm < 8) (hn0 : 0 ≤ n) (hn1 : n < 8) (hd0 : 0 ≤ d) (hd1 : d < 8) : bits BinOp.or IntKind.u16 (bits BinOp.or IntKind.u16 (bits BinOp.or IntKind.u16 7680 (IntKind.u16.wrap ((IntKind.u16.wrap (bits BinOp.and IntKind.i64 imm 7)) * 64))) (IntKind.u16.wrap ((IntKind.u16.wrap (bits BinOp.and IntKind.i64 n 7)) * 8))) (IntKind.u16.wrap (IntKind.u16.wrap (bits BinOp.and IntKind.i64 d 7))) = 7680 + imm * 64 + n * 8 + d := by
  obtain ⟨imm, rfl⟩ := Int.eq_ofNat_of_zero_le himm0
  obtain ⟨n, rfl⟩ := Int.eq_ofNat_of_zero_le hn0
  obtain ⟨d, rfl⟩ := Int.eq_ofNat_of_zero_le hd0
  exact put_nat_10 imm (by omega) n (by omega) d (by omega)
theorem put_nat_11 : ∀ imm < 16, ∀ m < 8, ∀ d < 8, bits BinOp.or IntKind.u16 (bits BinOp.or IntKind.u16 (bits BinOp.or IntKind.u16 16384 (IntKind.u16.wrap ((IntKind.u16.wrap (bits BinOp.and IntKind.i64 ((imm : Nat) : Int) 15)) * 64))) (IntKind.u16.wrap ((IntKind.u16.wrap (bits BinOp.and IntKind.i64 ((m : Nat) : Int) 7)) * 8))) (IntKind.u16.wrap (IntKind.u16.wrap (bits BinOp.and IntKind.i64 ((d : Nat) : Int) 7))) = 16384 + ((imm : Nat) : Int) * 64 + ((m : Nat) : Int) * 8 + ((d : Nat) : Int) := by decide +kernel
theorem put_bits_11 (imm m d : Int) (himm0 : 0 ≤ imm) (himm1 : imm < 16) (hm0 : 0 ≤ m) (hm1 : m < 8) (hd0 : 0 ≤ d) (hd1 : d < 8) : bits BinOp.or IntKind.u16 (bits BinOp.or IntKind.u16 (bits BinOp.or IntKind.u16 16384 (IntKind.u16.wrap ((IntKind.u16.wrap (bits BinOp.and IntKind.i64 imm 15)) * 64))) (IntKind.u16.wrap ((IntKind.u16.wrap (bits BinOp.and IntKind.i64 m 7)) * 8))) (IntKind.u16.wrap (IntKind.u16.wrap (bits BinOp.and IntKind.i64 d 7))) = 16384 + imm * 64 + m * 8 + d := by
  obtain ⟨imm, rfl⟩ := Int.eq_ofNat_of_zero_le himm0
  obtain ⟨m, rfl⟩ := Int.eq_ofNat_of_zero_le hm0
  obtain ⟨d, rfl⟩ := Int.eq_ofNat_of_zero_le hd0
  exact put_nat_11 imm (by omega) m (by omega) d (by omega)
theorem put_nat_12 : ∀ imm < 32, ∀ n < 8, ∀ d < 8, bits BinOp.or IntKind.u16 (bits BinOp.or IntKind.u16 (bits BinOp.or IntKind.u16 26624 (IntKind.u16.wrap ((IntKind.u16.wrap (bits BinOp.and IntKind.i64 ((imm : Nat) : Int) 31)) * 64))) (IntKind.u16.wrap ((IntKind.u16.wrap (bits BinOp.and IntKind.i64 ((n : Nat) : Int) 7)) * 8))) (IntKind.u16.wrap (IntKind.u16.wrap (bits BinOp.and IntKind.i64 ((d : Nat) : Int) 7))) = 26624 + ((imm : Nat) : Int) * 64 + ((n : Nat) : Int) * 8 + ((d : Nat) : Int) := by decide +kernel
theorem put_bits_12 (imm n d : Int) (himm0 : 0 ≤ imm) (himm1 : imm < 32) (hn0 : 0 ≤ n) (hn1 : n < 8) (hd0 : 0 ≤ d) (hd1 : d < 8) : bits BinOp.or IntKind.u16 (bits BinOp.or IntKind.u16 (bits BinOp.or IntKind.u16 26624 (IntKind.u16.wrap ((IntKind.u16.wrap (bits BinOp.and IntKind.i64 imm 31)) * 64))) (IntKind.u16.wrap ((IntKind.u16.wrap (bits BinOp.and IntKind.i64 n 7)) * 8))) (IntKind.u16.wrap (IntKind.u16.wrap (bits BinOp.and IntKind.i64 d 7))) = 26624 + imm * 64 + n * 8 + d := by
  obtain ⟨imm, rfl⟩ := Int.eq_ofNat_of_zero_le himm0
  obtain ⟨n, rfl⟩ := Int.eq_ofNat_of_zero_le hn0
  obtain ⟨d, rfl⟩ := Int.eq_ofNat_of_zero_le hd0
  exact put_nat_12 imm (by omega) n (by omega) d (by omega)
theorem put_nat_13 : ∀ imm < 32, ∀ n < 8, ∀ d < 8, bits BinOp.or IntKind.u16 (bits BinOp.or IntKind.u16 (bits BinOp.or IntKind.u16 24576 (IntKind.u16.wrap ((IntKind.u16.wrap (bits BinOp.and IntKind.i64 ((imm : Nat) : Int) 31)) * 64))) (IntKind.u16.wrap ((IntKind.u16.wrap (bits BinOp.and IntKind.i64 ((n : Nat) : Int) 7)) * 8))) (IntKind.u16.wrap (IntKind.u16.wrap (bits BinOp.and IntKind.i64 ((d : Nat) : Int) 7))) = 24576 + ((imm : Nat) : Int) * 64 + ((n : Nat) : Int) * 8 + ((d : Nat) : Int) := by decide +kernel
theorem put_bits_13 (imm n d : Int) (himm0 : 0 ≤ imm) (himm1 : imm < 32) (hn0 : 0 ≤ n) (hn1 : n < 8) (hd0 : 0 ≤ d) (hd1 : d < 8) : bits BinOp.or IntKind.u16 (bits BinOp.or IntKind.u16 (bits BinOp.or IntKind.u16 24576 (IntKind.u16.wrap ((IntKind.u16.wrap (bits BinOp.and IntKind.i64 imm 31)) * 64))) (IntKind.u16.wrap ((IntKind.u16.wrap (bits BinOp.and IntKind.i64 n 7)) * 8))) (IntKind.u16.wrap (IntKind.u16.wrap (bits BinOp.and IntKind.i64 d 7))) = 24576 + imm * 64 + n * 8 + d := by
  obtain ⟨imm, rfl⟩ := Int.eq_ofNat_of_zero_le himm0
  obtain ⟨n, rfl⟩ := Int.eq_ofNat_of_zero_le hn0
  obtain ⟨d, rfl⟩ := Int.eq_ofNat_of_zero_le hd0
  exact put_nat_13 imm (by omega) n (by omega) d (by omega)
theorem put_nat_14 : ∀ m < 8, ∀ n < 8, ∀ d < 8, bits BinOp.or IntKind.u16 (bits BinOp.or IntKind.u16 (bits BinOp.or IntKind.u16 22528 (IntKind.u16.wrap ((IntKind.u16.wrap (bits BinOp.and IntKind.i64 ((m : Nat) : Int) 7)) * 64))) (IntKind.u16.wrap ((IntKind.u16.wrap (bits BinOp.and IntKind.i64 ((n : Nat) : Int) 7)) * 8))) (IntKind.u16.wrap (IntKind.u16.wrap (bits BinOp.and IntKind.i64 ((d : Nat) : Int) 7))) = 22528 + ((m : Nat) : Int) * 64 + ((n : Nat) : Int) * 8 + ((d : Nat) : Int) := by decide +kernel
theorem put_bits_14 (m n d : Int) (hm0 : 0 ≤ m) (hm1 : m < 8) (hn0 : 0 ≤ n) (hn1 : n < 8) (hd0 : 0 ≤ d) (hd1 : d < 8) : bits BinOp.or IntKind.u16 (bits BinOp.or IntKind.u16 (bits BinOp.or IntKind.u16 22528 (IntKind.u16.wrap ((IntKind.u16.wrap (bits BinOp.and IntKind.i64 m 7)) * 64))) (IntKind.u16.wrap ((IntKind.u16.wrap (bits BinOp.and IntKind.i64 n 7)) * 8))) (IntKind.u16.wrap (IntKind.u16.wrap (bits BinOp.and IntKind.i64 d 7))) = 22528 + m * 64 + n * 8 + d := by
  obtain ⟨m, rfl⟩ := Int.eq_ofNat_of_zero_le hm0
  obtain ⟨n, rfl⟩ := Int.eq_ofNat_of_zero_le hn0
  obtain ⟨d, rfl⟩ := Int.eq_ofNat_of_zero_le hd0
  exact put_nat_14 m (by omega) n (by omega) d (by omega)
theorem put_nat_15 : ∀ m < 8, ∀ n < 8, ∀ d < 8, bits BinOp.or IntKind.u16 (bits BinOp.or IntKind.u16 (bits BinOp.or IntKind.u16 20480 (IntKind.u16.wrap ((IntKind.u16.wrap (bits BinOp.and IntKind.i64 ((m : Nat) : Int) 7)) * 64))) (IntKind.u16.wrap ((IntKind.u16.wrap (bits BinOp.and IntKind.i64 ((n : Nat) : Int) 7)) * 8))) (IntKind.u16.wrap (IntKind.u16.wrap (bits BinOp.and IntKind.i64 ((d : Nat) : Int) 7))) = 20480 + ((m : Nat) : Int) * 64 + ((n : Nat) : Int) * 8 + ((d : Nat) : Int) := by decide +kernel
theorem put_bits_15 (m n d : Int) (hm0 : 0 ≤ m) (hm1 : m < 8) (hn0 : 0 ≤ n) (hn1 : n < 8) (hd0 : 0 ≤ d) (hd1 : d < 8) : bits BinOp.or IntKind.u16 (bits BinOp.or IntKind.u16 (bits BinOp.or IntKind.u16 20480 (IntKind.u16.wrap ((IntKind.u16.wrap (bits BinOp.and IntKind.i64 m 7)) * 64))) (IntKind.u16.wrap ((IntKind.u16.wrap (bits BinOp.and IntKind.i64 n 7)) * 8))) (IntKind.u16.wrap (IntKind.u16.wrap (bits BinOp.and IntKind.i64 d 7))) = 20480 + m * 64 + n * 8 + d := by
  obtain ⟨m, rfl⟩ := Int.eq_ofNat_of_zero_le hm0
  obtain ⟨n, rfl⟩ := Int.eq_ofNat_of_zero_le hn0
  obtain ⟨d, rfl⟩ := Int.eq_ofNat_of_zero_le hd0
  exact put_nat_15 m (by omega) n (by omega) d (by omega)
theorem put_nat_16 : ∀ d < 8, ∀ imm < 256, bits BinOp.or IntKind.u16 (bits BinOp.or IntKind.u16 18432 (IntKind.u16.wrap ((IntKind.u16.wrap (bits BinOp.and IntKind.i64 ((d : Nat) : Int) 7)) * 256))) (IntKind.u16.wrap (IntKind.u16.wrap (bits BinOp.and IntKind.i64 ((imm : Nat) : Int) 255))) = 18432 + ((d : Nat) : Int) * 256 + ((imm : Nat) : Int) := by decide +kernel
theorem put_bits_16 (d imm : Int) (hd0 : 0 ≤ d) (hd1 : d < 8) (himm0 : 0 ≤ imm) (himm1 : imm < 256) : bits BinOp.or IntKind.u16 (bits BinOp.or IntKind.u16 18432 (IntKind.u16.wrap ((IntKind.u16.wrap (bits BinOp.and IntKind.i64 d 7)) * 256))) (IntKind.u16.wrap (IntKind.u16.wrap (bits BinOp.and IntKind.i64 imm 255))) = 18432 + d * 256 + imm := by
  obtain ⟨d, rfl⟩ := Int.eq_ofNat_of_zero_le hd0
  obtain ⟨imm, rfl⟩ := Int.eq_ofNat_of_zero_le himm0
  exact put_nat_16 d (by omega) imm (by omega)
theorem put_nat_17 : ∀ imm < 2048, bits BinOp.or IntKind.u16 57344 (IntKind.u16.wrap (IntKind.u16.wrap (bits BinOp.and IntKind.i64 (((imm : Nat) : Int) - 1024) 2047))) = 57344 + ((((imm : Nat) : Int) - 1024) % 2048) := by decide +kernel
theorem put_bits_17 (imm : Int) (himm0 : (-1024) ≤ imm) (himm1 : imm < 1024) : bits BinOp.or IntKind.u16 57344 (IntKind.u16.wrap (IntKind.u16.wrap (bits BinOp.and IntKind.i64 imm 2047))) = 57344 + (imm % 2048) := by
  obtain ⟨imm, rfl⟩ : ∃ z : Nat, imm = (z : Int) - 1024 := ⟨(imm + 1024).toNat, by omega⟩
  exact put_nat_17 imm (by omega)
theorem put_nat_18 : ∀ d < 14, ∀ imm < 256, bits BinOp.or IntKind.u16 (bits BinOp.or IntKind.u16 53248 (IntKind.u16.wrap ((IntKind.u16.wrap (bits BinOp.and IntKind.i64 ((d : Nat) : Int) 15)) * 256))) (IntKind.u16.wrap (IntKind.u16.wrap (bits BinOp.and IntKind.i64 (((imm : Nat) : Int) - 128) 255))) = 53248 + ((d : Nat) : Int) * 256 + ((((imm : Nat) : Int) - 128) % 256) := by decide +kernel
theorem put_bits_18 (d imm : Int) (hd0 : 0 ≤ d) (hd1 : d < 14) (himm0 : (-128) ≤ imm) (himm1 : imm < 128) : bits BinOp.or IntKind.u16 (bits BinOp.or IntKind.u16 53248 (IntKind.u16.wrap ((IntKind.u16.wrap (bits BinOp.and IntKind.i64 d 15)) * 256))) (IntKind.u16.wrap (IntKind.u16.wrap (bits BinOp.and IntKind.i64 imm 255))) = 53248 + d * 256 + (imm % 256) := by
  obtain ⟨d, rfl⟩ := Int.eq_ofNat_of_zero_le hd0
  obtain ⟨imm, rfl⟩ : ∃ z : Nat, imm = (z : Int) - 128 := ⟨(imm + 128).toNat, by omega⟩
  exact put_nat_18 d (by omega) imm (by omega)
theorem put_nat_20 : ∀ imm < 256, bits BinOp.or IntKind.u16 48640 (IntKind.u16.wrap (IntKind.u16.wrap (bits BinOp.and IntKind.i64 ((imm : Nat) : Int) 255))) = 48640 + ((imm : Nat) : Int) := by decide +kernel
theorem put_bits_20 (imm : Int) (himm0 : 0 ≤ imm) (himm1 : imm < 256) : bits BinOp.or IntKind.u16 48640 (IntKind.u16.wrap (IntKind.u16.wrap (bits BinOp.and IntKind.i64 imm 255))) = 48640 + imm := by
  obtain ⟨imm, rfl⟩ := Int.eq_ofNat_of_zero_le himm0
  exact put_nat_20 imm (by omega)
theorem below_drewN {B : Nat} {a w : World} (h : Below B a w) (n : Nat) : Below B a (w.drewN n) := by
  induction n generalizing w with
  | zero => exact h
  | succ n ih => rw [← World.drew_drewN]; exact (ih h).drew
theorem fq_d (b : Nat) (w : World) : Calls Tryd.prog 40 #[.pointer (some ⟨b, 0, none⟩), .int .u8 100] w fun e w' => e = .returned (.pointer (some ⟨b, 1, none⟩)) ∧ w' = w := (field_d b w).mono fun _ _ h => ⟨h.1, h.2.symm⟩
theorem fq_c (b : Nat) (w : World) : Calls Tryd.prog 40 #[.pointer (some ⟨b, 0, none⟩), .int .u8 99] w fun e w' => e = .returned (.pointer (some ⟨b, 1, none⟩)) ∧ w' = w := (field_c b w).mono fun _ _ h => ⟨h.1, h.2.symm⟩
theorem fq_n (b : Nat) (w : World) : Calls Tryd.prog 40 #[.pointer (some ⟨b, 0, none⟩), .int .u8 110] w fun e w' => e = .returned (.pointer (some ⟨b, 2, none⟩)) ∧ w' = w := (field_n b w).mono fun _ _ h => ⟨h.1, h.2.symm⟩
theorem fq_m (b : Nat) (w : World) : Calls Tryd.prog 40 #[.pointer (some ⟨b, 0, none⟩), .int .u8 109] w fun e w' => e = .returned (.pointer (some ⟨b, 3, none⟩)) ∧ w' = w := (field_m b w).mono fun _ _ h => ⟨h.1, h.2.symm⟩
theorem fq_i (b : Nat) (w : World) : Calls Tryd.prog 40 #[.pointer (some ⟨b, 0, none⟩), .int .u8 105] w fun e w' => e = .returned (.pointer (some ⟨b, 4, none⟩)) ∧ w' = w := (field_i b w).mono fun _ _ h => ⟨h.1, h.2.symm⟩
def PutAt (k : Nat) : Prop := ∀ (d n m imm : Int) (w : World), canB k d n m imm = true → Calls Tryd.prog 50 #[.agg #[.int .i64 k, .int .i64 d, .int .i64 n, .int .i64 m, .int .i64 imm]] w fun e w' => e = .returned (.int .u16 (putN k d n m imm)) ∧ Below w.heap.size w w'
end Go.Proofs.YtagjnannnahplaaDoor
