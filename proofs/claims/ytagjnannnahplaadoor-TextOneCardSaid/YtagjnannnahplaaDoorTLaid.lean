/- What the rows of this seat list: a world that holds it; what the walks want of it. -/
import Derived.Test.YtagjnannnahplaaDoorRows
import Derived.Test.YtagjnannnahplaaDoorTie
import Derived.Test.YtagjnannnahplaaDoorTWord
import Derived.Deep.DeepHandedRow
import Derived.Deep.DeepWitnessRowRef
import Derived.Deep.DeepLaidRun
import Derived.Lib.LaidTab
import Derived.Lib.LaidU8
import Derived.Stop.LaidErr
import Derived.LaidLaws
namespace Go.Proofs.YtagjnannnahplaaDoor
open Go.RowKit
set_option linter.unusedVariables false
theorem own : ownKnob Tryd.prog.godebug = none := by kernel_rfl
theorem tPow : (Tryd.prog.globals[3]?).map (·.type) = some 123 := by kernel_rfl
theorem tAsc : (Tryd.prog.globals[0]?).map (·.type) = some 73 := by kernel_rfl
theorem cPow : Tryd.prog.cellsOf 123 = 20 := by kernel_rfl
theorem cAsc : Tryd.prog.cellsOf 73 = 256 := by kernel_rfl
theorem c64 : Tryd.prog.cellsOf 105 = 1 := by kernel_rfl
theorem c8 : Tryd.prog.cellsOf 5 = 1 := by kernel_rfl
theorem gSyn : Tryd.prog.globalNamed "strconv.ErrSyntax" = some 4 := by kernel_rfl
theorem gRan : Tryd.prog.globalNamed "strconv.ErrRange" = some 5 := by kernel_rfl
theorem gTSyn : (Tryd.prog.globals[4]?).map (·.type) = some 49 := by kernel_rfl
theorem gTRan : (Tryd.prog.globals[5]?).map (·.type) = some 49 := by kernel_rfl
theorem cErr : Tryd.prog.cellsOf 155 = 1 := by kernel_rfl
theorem cStr : Tryd.prog.cellsOf 9 = 1 := by kernel_rfl
theorem starE : "*" ++ "errors.errorString" = "*errors.errorString" := by decide
theorem rowErr (u : TypeId) (h : Tryd.prog.typeName? 3 u = some "*errors.errorString") : u = 153 :=
  typeName_ptr_named (nm := "errors.errorString") (by rw [starE]; kernel_rfl) (by kernel_rfl) (by decide) u (by rw [starE]; exact h)
abbrev synT : ByteArray := ⟨#[105, 110, 118, 97, 108, 105, 100, 32, 115, 121, 110, 116, 97, 120]⟩
abbrev ranT : ByteArray := ⟨#[118, 97, 108, 117, 101, 32, 111, 117, 116, 32, 111, 102, 32, 114, 97, 110, 103, 101]⟩
noncomputable def low : Nat := (World.settled Tryd.prog default).heap.size
def d32Z : List Int := [0, 1, 28, 2, 29, 14, 24, 3, 30, 22, 20, 15, 25, 17, 4, 8, 31, 27, 13, 23, 21, 19, 16, 7, 26, 12, 18, 6, 11, 5, 10, 9]
def d64Z : List Int := [0, 1, 56, 2, 57, 49, 28, 3, 61, 58, 42, 50, 38, 29, 17, 4, 62, 47, 59, 36, 45, 43, 51, 22, 53, 39, 33, 30, 24, 18, 12, 5, 63, 55, 48, 27, 60, 41, 37, 16, 46, 35, 44, 21, 52, 32, 23, 11, 54, 26, 40, 15, 34, 20, 31, 10, 25, 14, 19, 9, 13, 8, 7, 6]
noncomputable def laidWorld (os : Os) : World :=
  let w0 := World.holding Tryd.prog os ⟨#[.cells #[.string synT] 155, .cells #[.string ranT] 155,
    .cells (Lib.whiteT.map fun (z : Nat) => Value.int .u16 (z : Int)).toArray 99, .cells #[.slice (some ⟨low + 2, 0, none⟩) 7 7, .slice none 0 0, .int .i64 2] 97], #[], []⟩
  let put (h : Array Obj) (g : Nat) (cs : Array Value) : Array Obj := h.modify g fun
    | .cells _ t frozen => .cells cs t frozen
    | o => o
  let h1 := put w0.heap 0 (Lib.asciiSpaceTab.map fun z => Value.int .u8 z).toArray
  let h2 := put h1 8 (Lib.firstTab.map fun z => Value.int .u8 z).toArray
  let h3 := put h2 9 ((List.range 16).flatMap fun i => [Value.int .u8 (Lib.accLo i), Value.int .u8 (Lib.accHi i)]).toArray
  let h4 := put h3 1 #[.pointer (some ⟨low + 3, 0, none⟩)]
  let h5 := put h4 3 (Lib.pow10Tab.map fun z => Value.int .u64 z).toArray
  let h6 := put h5 6 (d32Z.map fun z => Value.int .u8 z).toArray
  let h7 := put h6 7 (d64Z.map fun z => Value.int .u8 z).toArray
  let h8 := put h7 4 #[.iface 153 (.pointer (some ⟨low, 0, none⟩))]
  let h9 := put h8 5 #[.iface 153 (.pointer (some ⟨low + 1, 0, none⟩))]
  { w0 with heap := h9 }
theorem laid_met (os : Os) (args : Array Value) : laidMet Tryd.prog Rows.textShowsRow.laid ((laidWorld os).forCall (fun _ _ => 0) ⟨#[], args, []⟩).memory :=
  laidMet_of_run3 10 (by kernel_rfl) (by kernel_rfl) (by kernel_rfl)
set_option maxRecDepth 100000 in
theorem tabs_of (W : World) (hL : laidMet Tryd.prog Rows.textShowsRow.laid W) (m : Int) (hm : W.cell? ⟨2, 0, none⟩ = some (.int .i64 m)) : Tabs W where
  asc := Lib.tabIs_of_head gAsc tAsc Tryd.underlying73 Tryd.underlying5 c8 cAsc hL.tail.tail.tail.tail.tail.tail.tail
  pow := Lib.tabIs_of_head gPow tPow Tryd.underlying123 Tryd.underlying105 c64 cPow hL.tail.tail
  len := ⟨m, hm⟩
  syn := by
    obtain ⟨a0, s0, hv0, -, -, -⟩ := laid_sentinel hL.tail.tail.tail.tail.tail gSyn gTSyn Tryd.underlying49 rowErr Tryd.underlying153 Tryd.underlying155 rfl rfl Tryd.underlying9 cErr cStr
    exact ⟨_, by have h0 := World.var?_cell gSyn hv0 0; simpa using h0, Or.inr ⟨_, _, rfl⟩⟩
  ran := by
    obtain ⟨a0, s0, hv0, -, -, -⟩ := laid_sentinel hL.tail.tail.tail.tail gRan gTRan Tryd.underlying49 rowErr Tryd.underlying153 Tryd.underlying155 rfl rfl Tryd.underlying9 cErr cStr
    exact ⟨_, by have h0 := World.var?_cell gRan hv0 0; simpa using h0, Or.inr ⟨_, _, rfl⟩⟩
end Go.Proofs.YtagjnannnahplaaDoor
