/- bautaref04.Show at the operations (what is shown). -/
import Derived.Test.YtagjnannnahplaaDoorTRefF
import Derived.Test.YtagjnannnahplaaDoorTRefE
import Derived.Test.YtagjnannnahplaaDoorTShowAny
import Derived.Deep.RegionHeld3
import Derived.Laws.NewBlocks
namespace Go.Proofs.YtagjnannnahplaaDoor
open Go.RowKit
set_option linter.unusedVariables false
set_option linter.unusedSimpArgs false
def RShowAt (k : Nat) : Prop := ∀ (d n m imm : Int) (w : World), canB k d n m imm = true → rcanB k d n m imm = true → Calls Tryd.prog 7 #[.agg #[.int .i64 k, .int .i64 d, .int .i64 n, .int .i64 m, .int .i64 imm]] w fun e w' => e = .returned (.tuple #[.string ⟨(showB k d n m imm).toArray⟩, .bool true]) ∧ Below w.heap.size w w'
theorem itoa_sz (n : Int) (h0 : -9000000 ≤ n) (h1 : n ≤ 9000000) (c : UInt8) : (⟨(c :: Lib.itoa n).toArray⟩ : ByteArray).size ≤ 22 := by
  have := Lib.itoa_length_le n (by omega) (by omega)
  show (c :: Lib.itoa n).toArray.size ≤ 22
  simpa using this
theorem reg_str (n : Int) (h0 : -9000000 ≤ n) (h1 : n ≤ 9000000) : ∃ s : ByteArray, (∀ w, Calls Tryd.prog 15 #[.int .i64 n] w fun e w' => e = .returned (.string s) ∧ ∃ m, w' = w.drewN m) ∧ s.size ≤ 22 ∧ Hid (s = ⟨(114 :: Lib.itoa n).toArray⟩) := ⟨_, fun w => reg_any n h0 h1 w, itoa_sz n h0 h1 _, rfl⟩
theorem imm_str (n : Int) (h0 : -9000000 ≤ n) (h1 : n ≤ 9000000) : ∃ s : ByteArray, (∀ w, Calls Tryd.prog 16 #[.int .i64 n] w fun e w' => e = .returned (.string s) ∧ ∃ m, w' = w.drewN m) ∧ s.size ≤ 22 ∧ Hid (s = ⟨(35 :: Lib.itoa n).toArray⟩) := ⟨_, fun w => imm_any n h0 h1 w, itoa_sz n h0 h1 _, rfl⟩
section
variable {b : Nat} {k d n m imm : Int} {w W : World}
theorem held5_keep {W' : World} (h : W.cell? ⟨b, 0, none⟩ = some (.int .i64 k) ∧ W.cell? ⟨b, 1, none⟩ = some (.int .i64 d) ∧ W.cell? ⟨b, 2, none⟩ = some (.int .i64 n) ∧ W.cell? ⟨b, 3, none⟩ = some (.int .i64 m) ∧ W.cell? ⟨b, 4, none⟩ = some (.int .i64 imm) ∧ b < W.heap.size ∧ Below w.heap.size w W) (hb : Below W.heap.size W W') :
    W'.cell? ⟨b, 0, none⟩ = some (.int .i64 k) ∧ W'.cell? ⟨b, 1, none⟩ = some (.int .i64 d) ∧ W'.cell? ⟨b, 2, none⟩ = some (.int .i64 n) ∧ W'.cell? ⟨b, 3, none⟩ = some (.int .i64 m) ∧ W'.cell? ⟨b, 4, none⟩ = some (.int .i64 imm) ∧ b < W'.heap.size ∧ Below w.heap.size w W' :=
  ⟨(hb.cell (p := ⟨b, 0, none⟩) h.2.2.2.2.2.1).trans h.1, (hb.cell (p := ⟨b, 1, none⟩) h.2.2.2.2.2.1).trans h.2.1, (hb.cell (p := ⟨b, 2, none⟩) h.2.2.2.2.2.1).trans h.2.2.1, (hb.cell (p := ⟨b, 3, none⟩) h.2.2.2.2.2.1).trans h.2.2.2.1, (hb.cell (p := ⟨b, 4, none⟩) h.2.2.2.2.2.1).trans h.2.2.2.2.1, Nat.lt_of_lt_of_le h.2.2.2.2.2.1 hb.size, h.2.2.2.2.2.2.trans (hb.mono h.2.2.2.2.2.2.size)⟩
theorem held5_litk {h0 j : Nat} {W' : World} {v : Value} (h : W.cell? ⟨b, 0, none⟩ = some (.int .i64 k) ∧ W.cell? ⟨b, 1, none⟩ = some (.int .i64 d) ∧ W.cell? ⟨b, 2, none⟩ = some (.int .i64 n) ∧ W.cell? ⟨b, 3, none⟩ = some (.int .i64 m) ∧ W.cell? ⟨b, 4, none⟩ = some (.int .i64 imm) ∧ b < W.heap.size ∧ Below w.heap.size w W ∧ W.cell? ⟨h0, j, none⟩ = some v ∧ h0 < W.heap.size) (hb : Below W.heap.size W W') :
    W'.cell? ⟨b, 0, none⟩ = some (.int .i64 k) ∧ W'.cell? ⟨b, 1, none⟩ = some (.int .i64 d) ∧ W'.cell? ⟨b, 2, none⟩ = some (.int .i64 n) ∧ W'.cell? ⟨b, 3, none⟩ = some (.int .i64 m) ∧ W'.cell? ⟨b, 4, none⟩ = some (.int .i64 imm) ∧ b < W'.heap.size ∧ Below w.heap.size w W' ∧ W'.cell? ⟨h0, j, none⟩ = some v ∧ h0 < W'.heap.size :=
  ⟨(hb.cell (p := ⟨b, 0, none⟩) h.2.2.2.2.2.1).trans h.1, (hb.cell (p := ⟨b, 1, none⟩) h.2.2.2.2.2.1).trans h.2.1, (hb.cell (p := ⟨b, 2, none⟩) h.2.2.2.2.2.1).trans h.2.2.1, (hb.cell (p := ⟨b, 3, none⟩) h.2.2.2.2.2.1).trans h.2.2.2.1, (hb.cell (p := ⟨b, 4, none⟩) h.2.2.2.2.2.1).trans h.2.2.2.2.1, Nat.lt_of_lt_of_le h.2.2.2.2.2.1 hb.size, h.2.2.2.2.2.2.1.trans (hb.mono h.2.2.2.2.2.2.1.size), (hb.cell (p := ⟨h0, j, none⟩) h.2.2.2.2.2.2.2.2).trans h.2.2.2.2.2.2.2.1, Nat.lt_of_lt_of_le h.2.2.2.2.2.2.2.2 hb.size⟩
end
theorem wpAnyH_any {P : Program} {md : Region.Mode} {ops : Array Oper} {Q : Exit → Act → World → Prop} {S : World → Prop} {fuel : Nat} {listed : Array Bool} {a : Act} {w : World} (hS : S w) (h : ∀ w, S w → wpAnyH P md ops Q S fuel listed a w) : wpAnyH P md ops Q S fuel listed a w := h w hS
theorem wpAnyH_mono {P : Program} {md : Region.Mode} {ops : Array Oper} {Q : Exit → Act → World → Prop} {S S' : World → Prop} (h : ∀ w, S' w → S w) : ∀ {fuel : Nat} {listed : Array Bool} {a : Act} {w : World}, wpAnyH P md ops Q S' fuel listed a w → wpAnyH P md ops Q S fuel listed a w
  | 0, _, _, _, hh => hh
  | fuel + 1, _, _, _, hh => ⟨hh.1, fun i hi => wpOp_mono (fun a' w' h' => ⟨h _ h'.1, wpAnyH_mono h h'.2⟩) (hh.2 i hi)⟩
end Go.Proofs.YtagjnannnahplaaDoor
