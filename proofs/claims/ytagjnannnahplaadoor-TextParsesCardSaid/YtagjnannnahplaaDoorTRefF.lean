/- bautaref02.Can. -/
import Derived.Test.YtagjnannnahplaaDoorTRefA
import Derived.Test.YtagjnannnahplaaDoorTRefB
import Derived.Test.YtagjnannnahplaaDoorTRefC
import Derived.Test.YtagjnannnahplaaDoorTRefD
import Derived.Test.YtagjnannnahplaaDoorTFits
import Derived.Deep.QuietTactic
import Derived.BigQuiet
import Derived.Lib.QuietBelow
import Derived.Deep.DeepCutAuto
import Derived.Deep.RegionHeld3
import Derived.Deep.RegionWith
namespace Go.Proofs.YtagjnannnahplaaDoor
open Go.RowKit
set_option linter.unusedVariables false
set_option linter.unusedSimpArgs false
theorem rsh_len : ∀ k < 21, (rshapesL.getD k []).length = 16 := by decide
def rdB (l : List UInt8) (d : Int) : Bool := if l.contains 99 then decide (0 ≤ d) && decide (d ≤ 13) else (d == 0 || l.contains 100) && (decide (0 ≤ d) && decide (d ≤ 7))
def rnB (l : List UInt8) (n m : Int) : Bool := (n == 0 || l.contains 110) && (decide (0 ≤ n) && decide (n ≤ 7)) && ((m == 0 || l.contains 109) && (decide (0 ≤ m) && decide (m ≤ 7)))
theorem rcanB_eq (k : Nat) (d n m imm : Int) : rcanB k d n m imm = (rdB (rshapesL.getD k []) d && rnB (rshapesL.getD k []) n m && (decide (lowsL.getD k 0 ≤ imm) && decide (imm ≤ highsL.getD k 0))) := rfl
set_option maxRecDepth 100000 in
set_option maxHeartbeats 8000000 in
theorem rcan_any (k : Nat) (hk : k < 21) (d n m imm : Int) (w : World) :
    Calls Tryd.prog 14 #[.agg #[.int .i64 k, .int .i64 d, .int .i64 n, .int .i64 m, .int .i64 imm]] w fun e w' => e = .returned (.bool (rcanB k d n m imm)) ∧ Below w.heap.size w w' := by
  have HR := Lib.hid (rcanB_eq k d n m imm)
  generalize rcanB k d n m imm = R at *
  have hsh := fun w => rshape_any k hk w
  have hlen := rsh_len k hk
  generalize rshapesL.getD k [] = L at *
  have hh := fun c w => rhas_any L c (by omega) w
  have hlo := fun w => rlow_any k hk w
  have hhi := fun w => rhigh_any k hk w
  generalize lowsL.getD k 0 = lo at *
  generalize highsL.getD k 0 = hi at *
  have h99 := fun w => hh 99 w
  have h100 := fun w => hh 100 w
  have h110 : ∀ w : World, Calls Tryd.prog 29 #[.string ⟨L.toArray⟩, .int .u8 110] w fun e w' => e = .returned (.bool (L.contains 110)) ∧ Below w.heap.size w w' := fun w => (hh 110 w).mono fun _ _ ⟨h, m, hm⟩ => ⟨h, by subst hm; exact below_drewN (Below.refl _ _) m⟩
  have h109 : ∀ w : World, Calls Tryd.prog 29 #[.string ⟨L.toArray⟩, .int .u8 109] w fun e w' => e = .returned (.bool (L.contains 109)) ∧ Below w.heap.size w w' := fun w => (hh 109 w).mono fun _ _ ⟨h, m, hm⟩ => ⟨h, by subst hm; exact below_drewN (Below.refl _ _) m⟩
  clear hh
  unfold rdB rnB at HR
  generalize L.contains 99 = b99 at *
  generalize L.contains 100 = b100 at *
  generalize L.contains 110 = b110 at *
  generalize L.contains 109 = b109 at *
  go_enter Tryd.func14, Tryd.ntmps14
  go_wp2_with fail
  refine (hsh _).mono ?_
  rintro e w1 ⟨rfl, hb1⟩
  have hbx1 := heap_keep (heap_alloc_new w _) hb1
  have hB1 : Below w.heap.size w w1 := (Below.alloc (Below.refl _ w) (Nat.le_refl _) _).trans (hb1.mono (by simp))
  have hc1 := fun j => Lib.cell_of_heap hbx1 j
  go_wp2_with fail
  refine (h99 _).mono ?_
  rintro e w2 ⟨rfl, m1, rfl⟩
  go_upto_if 16 with fail
  go_cut [] (fun wx => (if b99 = true then decide (0 ≤ d) && decide (d ≤ 13) else (d == 0 || b100) && (decide (0 ≤ d) && decide (d ≤ 7))) = true ∧ ∃ q, wx = w1.drewN q)
  case first =>
    cases b99
    · by_cases hd0 : d = 0
      · subst hd0
        go_wp2_with fail
        go_meet
        exact ⟨by simp, _, rfl⟩
      · have hdn : (d == 0) = false := by simpa using hd0
        have hdm : (d != 0) = true := by simpa using hd0
        cases b100
        · go_wp2_with fail
          refine (h100 _).mono ?_
          rintro e w2 ⟨rfl, m2, rfl⟩
          go_wp2_with fail
          go_ret
          exact ⟨by rw [HR.out]; simp [hdn], below_drewN hB1 _⟩
        · by_cases hdl : d < 0
          · go_wp2_with fail
            refine (h100 _).mono ?_
            rintro e w2 ⟨rfl, m2, rfl⟩
            go_wp2_with fail
            go_ret
            exact ⟨by rw [HR.out]; simp [hdn]; intros; omega, below_drewN hB1 _⟩
          · by_cases hdh : 7 < d
            · go_wp2_with fail
              refine (h100 _).mono ?_
              rintro e w2 ⟨rfl, m2, rfl⟩
              go_wp2_with fail
              go_ret
              exact ⟨by rw [HR.out]; simp [hdn]; intros; omega, below_drewN hB1 _⟩
            · go_wp2_with fail
              refine (h100 _).mono ?_
              rintro e w2 ⟨rfl, m2, rfl⟩
              go_wp2_with fail
              go_meet
              exact ⟨by simp; omega, m1 + m2, rfl⟩
    · by_cases hdl : d < 0
      · go_wp2_with fail
        go_ret
        exact ⟨by rw [HR.out]; simp; intros; omega, below_drewN hB1 _⟩
      · by_cases hdh : 13 < d
        · go_wp2_with fail
          go_ret
          exact ⟨by rw [HR.out]; simp; intros; omega, below_drewN hB1 _⟩
        · go_wp2_with fail
          go_meet
          exact ⟨by simp; omega, _, rfl⟩
  case rest =>
    obtain ⟨hd, q, rfl⟩ := hcut
    have HD := Lib.hid hd
    clear hd
    have hbxw : (w1.drewN q).heap[w.heap.size]? = _ := hbx1
    have hBw := below_drewN hB1 q
    clear hc1 hb1 hB1
    generalize w1.drewN q = W at *
    clear hbx1
    have hcw0 : ∀ d os, (Sort.grow (redrawn W d) os).cell? ⟨w.heap.size, 0, none⟩ = some (.int .i64 k) := fun d os => cell_regrown (Lib.cell_of_heap hbxw 0) d os
    have hcw2 : ∀ d os, (Sort.grow (redrawn W d) os).cell? ⟨w.heap.size, 2, none⟩ = some (.int .i64 n) := fun d os => cell_regrown (Lib.cell_of_heap hbxw 2) d os
    have hcw3 : ∀ d os, (Sort.grow (redrawn W d) os).cell? ⟨w.heap.size, 3, none⟩ = some (.int .i64 m) := fun d os => cell_regrown (Lib.cell_of_heap hbxw 3) d os
    have hcw4 : ∀ d os, (Sort.grow (redrawn W d) os).cell? ⟨w.heap.size, 4, none⟩ = some (.int .i64 imm) := fun d os => cell_regrown (Lib.cell_of_heap hbxw 4) d os
    by_cases hn0 : n = 0
    · subst hn0
      by_cases hm0 : m = 0
      · subst hm0
        by_cases hl : imm < lo
        · skip
          have hld : decide (lo ≤ imm) = false := by simpa using hl
          go_wp2_with fail
          refine wp_region_quiet_below (by kernel_rfl) (by kernel_rfl) ?_
          repeat (go_big_quiet_step (first | (go_at_call 29; with_reducible exact Calls.regrown_of (h110 _)) | (go_at_call 29; with_reducible exact Calls.regrown_of (h109 _)) | (go_at_call 30; with_reducible exact Calls.regrown_of (hlo _)) | (go_at_call 31; with_reducible exact Calls.regrown_of (hhi _))))
          refine wpQuiet_nil ?_
          rintro _ ⟨⟨d', os'⟩, rfl⟩
          go_wp2
          go_ret
          exact ⟨by rw [HR.out, HD.out]; first | (simp <;> omega) | (simp; intros; omega) | (simp; rw [Bool.eq_iff_iff]; simp; omega), hBw.trans ((below_regrown W d' os').mono hBw.size)⟩
        · skip
          by_cases hr : hi < imm
          · skip
            go_wp2_with fail
            refine wp_region_quiet_below (by kernel_rfl) (by kernel_rfl) ?_
            repeat (go_big_quiet_step (first | (go_at_call 29; with_reducible exact Calls.regrown_of (h110 _)) | (go_at_call 29; with_reducible exact Calls.regrown_of (h109 _)) | (go_at_call 30; with_reducible exact Calls.regrown_of (hlo _)) | (go_at_call 31; with_reducible exact Calls.regrown_of (hhi _))))
            refine wpQuiet_nil ?_
            rintro _ ⟨⟨d', os'⟩, rfl⟩
            go_wp2
            go_ret
            exact ⟨by rw [HR.out, HD.out]; first | (simp <;> omega) | (simp; intros; omega) | (simp; rw [Bool.eq_iff_iff]; simp; omega), hBw.trans ((below_regrown W d' os').mono hBw.size)⟩
          · skip
            go_wp2_with fail
            refine wp_region_quiet_below (by kernel_rfl) (by kernel_rfl) ?_
            repeat (go_big_quiet_step (first | (go_at_call 29; with_reducible exact Calls.regrown_of (h110 _)) | (go_at_call 29; with_reducible exact Calls.regrown_of (h109 _)) | (go_at_call 30; with_reducible exact Calls.regrown_of (hlo _)) | (go_at_call 31; with_reducible exact Calls.regrown_of (hhi _))))
            refine wpQuiet_nil ?_
            rintro _ ⟨⟨d', os'⟩, rfl⟩
            go_wp2
            go_ret
            exact ⟨by rw [HR.out, HD.out]; first | (simp <;> omega) | (simp; intros; omega) | (simp; rw [Bool.eq_iff_iff]; simp; omega), hBw.trans ((below_regrown W d' os').mono hBw.size)⟩
      · have hmn : (m == 0) = false := by simpa using hm0
        cases b109
        · skip
          go_wp2_with fail
          refine wp_region_quiet_below (by kernel_rfl) (by kernel_rfl) ?_
          repeat (go_big_quiet_step (first | (go_at_call 29; with_reducible exact Calls.regrown_of (h110 _)) | (go_at_call 29; with_reducible exact Calls.regrown_of (h109 _)) | (go_at_call 30; with_reducible exact Calls.regrown_of (hlo _)) | (go_at_call 31; with_reducible exact Calls.regrown_of (hhi _))))
          refine wpQuiet_nil ?_
          rintro _ ⟨⟨d', os'⟩, rfl⟩
          go_wp2
          go_ret
          exact ⟨by rw [HR.out, HD.out]; first | (simp <;> omega) | (simp; intros; omega) | (simp; rw [Bool.eq_iff_iff]; simp; omega), hBw.trans ((below_regrown W d' os').mono hBw.size)⟩
        · by_cases hml : m < 0
          · have hd1 : decide (0 ≤ m) = false := by simpa using hml
            go_wp2_with fail
            refine wp_region_quiet_below (by kernel_rfl) (by kernel_rfl) ?_
            repeat (go_big_quiet_step (first | (go_at_call 29; with_reducible exact Calls.regrown_of (h110 _)) | (go_at_call 29; with_reducible exact Calls.regrown_of (h109 _)) | (go_at_call 30; with_reducible exact Calls.regrown_of (hlo _)) | (go_at_call 31; with_reducible exact Calls.regrown_of (hhi _))))
            refine wpQuiet_nil ?_
            rintro _ ⟨⟨d', os'⟩, rfl⟩
            go_wp2
            go_ret
            exact ⟨by rw [HR.out, HD.out]; first | (simp <;> omega) | (simp; intros; omega) | (simp; rw [Bool.eq_iff_iff]; simp; omega), hBw.trans ((below_regrown W d' os').mono hBw.size)⟩
          · by_cases hmh : 7 < m
            · have hd2 : decide (m ≤ 7) = false := by simpa using hmh
              go_wp2_with fail
              refine wp_region_quiet_below (by kernel_rfl) (by kernel_rfl) ?_
              repeat (go_big_quiet_step (first | (go_at_call 29; with_reducible exact Calls.regrown_of (h110 _)) | (go_at_call 29; with_reducible exact Calls.regrown_of (h109 _)) | (go_at_call 30; with_reducible exact Calls.regrown_of (hlo _)) | (go_at_call 31; with_reducible exact Calls.regrown_of (hhi _))))
              refine wpQuiet_nil ?_
              rintro _ ⟨⟨d', os'⟩, rfl⟩
              go_wp2
              go_ret
              exact ⟨by rw [HR.out, HD.out]; first | (simp <;> omega) | (simp; intros; omega) | (simp; rw [Bool.eq_iff_iff]; simp; omega), hBw.trans ((below_regrown W d' os').mono hBw.size)⟩
            · skip
              by_cases hl : imm < lo
              · skip
                have hld : decide (lo ≤ imm) = false := by simpa using hl
                go_wp2_with fail
                refine wp_region_quiet_below (by kernel_rfl) (by kernel_rfl) ?_
                repeat (go_big_quiet_step (first | (go_at_call 29; with_reducible exact Calls.regrown_of (h110 _)) | (go_at_call 29; with_reducible exact Calls.regrown_of (h109 _)) | (go_at_call 30; with_reducible exact Calls.regrown_of (hlo _)) | (go_at_call 31; with_reducible exact Calls.regrown_of (hhi _))))
                refine wpQuiet_nil ?_
                rintro _ ⟨⟨d', os'⟩, rfl⟩
                go_wp2
                go_ret
                exact ⟨by rw [HR.out, HD.out]; first | (simp <;> omega) | (simp; intros; omega) | (simp; rw [Bool.eq_iff_iff]; simp; omega), hBw.trans ((below_regrown W d' os').mono hBw.size)⟩
              · skip
                by_cases hr : hi < imm
                · skip
                  go_wp2_with fail
                  refine wp_region_quiet_below (by kernel_rfl) (by kernel_rfl) ?_
                  repeat (go_big_quiet_step (first | (go_at_call 29; with_reducible exact Calls.regrown_of (h110 _)) | (go_at_call 29; with_reducible exact Calls.regrown_of (h109 _)) | (go_at_call 30; with_reducible exact Calls.regrown_of (hlo _)) | (go_at_call 31; with_reducible exact Calls.regrown_of (hhi _))))
                  refine wpQuiet_nil ?_
                  rintro _ ⟨⟨d', os'⟩, rfl⟩
                  go_wp2
                  go_ret
                  exact ⟨by rw [HR.out, HD.out]; first | (simp <;> omega) | (simp; intros; omega) | (simp; rw [Bool.eq_iff_iff]; simp; omega), hBw.trans ((below_regrown W d' os').mono hBw.size)⟩
                · skip
                  go_wp2_with fail
                  refine wp_region_quiet_below (by kernel_rfl) (by kernel_rfl) ?_
                  repeat (go_big_quiet_step (first | (go_at_call 29; with_reducible exact Calls.regrown_of (h110 _)) | (go_at_call 29; with_reducible exact Calls.regrown_of (h109 _)) | (go_at_call 30; with_reducible exact Calls.regrown_of (hlo _)) | (go_at_call 31; with_reducible exact Calls.regrown_of (hhi _))))
                  refine wpQuiet_nil ?_
                  rintro _ ⟨⟨d', os'⟩, rfl⟩
                  go_wp2
                  go_ret
                  exact ⟨by rw [HR.out, HD.out]; first | (simp <;> omega) | (simp; intros; omega) | (simp; rw [Bool.eq_iff_iff]; simp; omega), hBw.trans ((below_regrown W d' os').mono hBw.size)⟩
    · have hnn : (n == 0) = false := by simpa using hn0
      cases b110
      · skip
        go_wp2_with fail
        refine wp_region_quiet_below (by kernel_rfl) (by kernel_rfl) ?_
        repeat (go_big_quiet_step (first | (go_at_call 29; with_reducible exact Calls.regrown_of (h110 _)) | (go_at_call 29; with_reducible exact Calls.regrown_of (h109 _)) | (go_at_call 30; with_reducible exact Calls.regrown_of (hlo _)) | (go_at_call 31; with_reducible exact Calls.regrown_of (hhi _))))
        refine wpQuiet_nil ?_
        rintro _ ⟨⟨d', os'⟩, rfl⟩
        go_wp2
        go_ret
        exact ⟨by rw [HR.out, HD.out]; first | (simp <;> omega) | (simp; intros; omega) | (simp; rw [Bool.eq_iff_iff]; simp; omega), hBw.trans ((below_regrown W d' os').mono hBw.size)⟩
      · by_cases hnl : n < 0
        · have hd1 : decide (0 ≤ n) = false := by simpa using hnl
          go_wp2_with fail
          refine wp_region_quiet_below (by kernel_rfl) (by kernel_rfl) ?_
          repeat (go_big_quiet_step (first | (go_at_call 29; with_reducible exact Calls.regrown_of (h110 _)) | (go_at_call 29; with_reducible exact Calls.regrown_of (h109 _)) | (go_at_call 30; with_reducible exact Calls.regrown_of (hlo _)) | (go_at_call 31; with_reducible exact Calls.regrown_of (hhi _))))
          refine wpQuiet_nil ?_
          rintro _ ⟨⟨d', os'⟩, rfl⟩
          go_wp2
          go_ret
          exact ⟨by rw [HR.out, HD.out]; first | (simp <;> omega) | (simp; intros; omega) | (simp; rw [Bool.eq_iff_iff]; simp; omega), hBw.trans ((below_regrown W d' os').mono hBw.size)⟩
        · by_cases hnh : 7 < n
          · have hd2 : decide (n ≤ 7) = false := by simpa using hnh
            go_wp2_with fail
            refine wp_region_quiet_below (by kernel_rfl) (by kernel_rfl) ?_
            repeat (go_big_quiet_step (first | (go_at_call 29; with_reducible exact Calls.regrown_of (h110 _)) | (go_at_call 29; with_reducible exact Calls.regrown_of (h109 _)) | (go_at_call 30; with_reducible exact Calls.regrown_of (hlo _)) | (go_at_call 31; with_reducible exact Calls.regrown_of (hhi _))))
            refine wpQuiet_nil ?_
            rintro _ ⟨⟨d', os'⟩, rfl⟩
            go_wp2
            go_ret
            exact ⟨by rw [HR.out, HD.out]; first | (simp <;> omega) | (simp; intros; omega) | (simp; rw [Bool.eq_iff_iff]; simp; omega), hBw.trans ((below_regrown W d' os').mono hBw.size)⟩
          · skip
            by_cases hm0 : m = 0
            · subst hm0
              by_cases hl : imm < lo
              · skip
                have hld : decide (lo ≤ imm) = false := by simpa using hl
                go_wp2_with fail
                refine wp_region_quiet_below (by kernel_rfl) (by kernel_rfl) ?_
                repeat (go_big_quiet_step (first | (go_at_call 29; with_reducible exact Calls.regrown_of (h110 _)) | (go_at_call 29; with_reducible exact Calls.regrown_of (h109 _)) | (go_at_call 30; with_reducible exact Calls.regrown_of (hlo _)) | (go_at_call 31; with_reducible exact Calls.regrown_of (hhi _))))
                refine wpQuiet_nil ?_
                rintro _ ⟨⟨d', os'⟩, rfl⟩
                go_wp2
                go_ret
                exact ⟨by rw [HR.out, HD.out]; first | (simp <;> omega) | (simp; intros; omega) | (simp; rw [Bool.eq_iff_iff]; simp; omega), hBw.trans ((below_regrown W d' os').mono hBw.size)⟩
              · skip
                by_cases hr : hi < imm
                · skip
                  go_wp2_with fail
                  refine wp_region_quiet_below (by kernel_rfl) (by kernel_rfl) ?_
                  repeat (go_big_quiet_step (first | (go_at_call 29; with_reducible exact Calls.regrown_of (h110 _)) | (go_at_call 29; with_reducible exact Calls.regrown_of (h109 _)) | (go_at_call 30; with_reducible exact Calls.regrown_of (hlo _)) | (go_at_call 31; with_reducible exact Calls.regrown_of (hhi _))))
                  refine wpQuiet_nil ?_
                  rintro _ ⟨⟨d', os'⟩, rfl⟩
                  go_wp2
                  go_ret
                  exact ⟨by rw [HR.out, HD.out]; first | (simp <;> omega) | (simp; intros; omega) | (simp; rw [Bool.eq_iff_iff]; simp; omega), hBw.trans ((below_regrown W d' os').mono hBw.size)⟩
                · skip
                  go_wp2_with fail
                  refine wp_region_quiet_below (by kernel_rfl) (by kernel_rfl) ?_
                  repeat (go_big_quiet_step (first | (go_at_call 29; with_reducible exact Calls.regrown_of (h110 _)) | (go_at_call 29; with_reducible exact Calls.regrown_of (h109 _)) | (go_at_call 30; with_reducible exact Calls.regrown_of (hlo _)) | (go_at_call 31; with_reducible exact Calls.regrown_of (hhi _))))
                  refine wpQuiet_nil ?_
                  rintro _ ⟨⟨d', os'⟩, rfl⟩
                  go_wp2
                  go_ret
                  exact ⟨by rw [HR.out, HD.out]; first | (simp <;> omega) | (simp; intros; omega) | (simp; rw [Bool.eq_iff_iff]; simp; omega), hBw.trans ((below_regrown W d' os').mono hBw.size)⟩
            · have hmn : (m == 0) = false := by simpa using hm0
              cases b109
              · skip
                go_wp2_with fail
                refine wp_region_quiet_below (by kernel_rfl) (by kernel_rfl) ?_
                repeat (go_big_quiet_step (first | (go_at_call 29; with_reducible exact Calls.regrown_of (h110 _)) | (go_at_call 29; with_reducible exact Calls.regrown_of (h109 _)) | (go_at_call 30; with_reducible exact Calls.regrown_of (hlo _)) | (go_at_call 31; with_reducible exact Calls.regrown_of (hhi _))))
                refine wpQuiet_nil ?_
                rintro _ ⟨⟨d', os'⟩, rfl⟩
                go_wp2
                go_ret
                exact ⟨by rw [HR.out, HD.out]; first | (simp <;> omega) | (simp; intros; omega) | (simp; rw [Bool.eq_iff_iff]; simp; omega), hBw.trans ((below_regrown W d' os').mono hBw.size)⟩
              · by_cases hml : m < 0
                · have hd1 : decide (0 ≤ m) = false := by simpa using hml
                  go_wp2_with fail
                  refine wp_region_quiet_below (by kernel_rfl) (by kernel_rfl) ?_
                  repeat (go_big_quiet_step (first | (go_at_call 29; with_reducible exact Calls.regrown_of (h110 _)) | (go_at_call 29; with_reducible exact Calls.regrown_of (h109 _)) | (go_at_call 30; with_reducible exact Calls.regrown_of (hlo _)) | (go_at_call 31; with_reducible exact Calls.regrown_of (hhi _))))
                  refine wpQuiet_nil ?_
                  rintro _ ⟨⟨d', os'⟩, rfl⟩
                  go_wp2
                  go_ret
                  exact ⟨by rw [HR.out, HD.out]; first | (simp <;> omega) | (simp; intros; omega) | (simp; rw [Bool.eq_iff_iff]; simp; omega), hBw.trans ((below_regrown W d' os').mono hBw.size)⟩
                · by_cases hmh : 7 < m
                  · have hd2 : decide (m ≤ 7) = false := by simpa using hmh
                    go_wp2_with fail
                    refine wp_region_quiet_below (by kernel_rfl) (by kernel_rfl) ?_
                    repeat (go_big_quiet_step (first | (go_at_call 29; with_reducible exact Calls.regrown_of (h110 _)) | (go_at_call 29; with_reducible exact Calls.regrown_of (h109 _)) | (go_at_call 30; with_reducible exact Calls.regrown_of (hlo _)) | (go_at_call 31; with_reducible exact Calls.regrown_of (hhi _))))
                    refine wpQuiet_nil ?_
                    rintro _ ⟨⟨d', os'⟩, rfl⟩
                    go_wp2
                    go_ret
                    exact ⟨by rw [HR.out, HD.out]; first | (simp <;> omega) | (simp; intros; omega) | (simp; rw [Bool.eq_iff_iff]; simp; omega), hBw.trans ((below_regrown W d' os').mono hBw.size)⟩
                  · skip
                    by_cases hl : imm < lo
                    · skip
                      have hld : decide (lo ≤ imm) = false := by simpa using hl
                      go_wp2_with fail
                      refine wp_region_quiet_below (by kernel_rfl) (by kernel_rfl) ?_
                      repeat (go_big_quiet_step (first | (go_at_call 29; with_reducible exact Calls.regrown_of (h110 _)) | (go_at_call 29; with_reducible exact Calls.regrown_of (h109 _)) | (go_at_call 30; with_reducible exact Calls.regrown_of (hlo _)) | (go_at_call 31; with_reducible exact Calls.regrown_of (hhi _))))
                      refine wpQuiet_nil ?_
                      rintro _ ⟨⟨d', os'⟩, rfl⟩
                      go_wp2
                      go_ret
                      exact ⟨by rw [HR.out, HD.out]; first | (simp <;> omega) | (simp; intros; omega) | (simp; rw [Bool.eq_iff_iff]; simp; omega), hBw.trans ((below_regrown W d' os').mono hBw.size)⟩
                    · skip
                      by_cases hr : hi < imm
                      · skip
                        go_wp2_with fail
                        refine wp_region_quiet_below (by kernel_rfl) (by kernel_rfl) ?_
                        repeat (go_big_quiet_step (first | (go_at_call 29; with_reducible exact Calls.regrown_of (h110 _)) | (go_at_call 29; with_reducible exact Calls.regrown_of (h109 _)) | (go_at_call 30; with_reducible exact Calls.regrown_of (hlo _)) | (go_at_call 31; with_reducible exact Calls.regrown_of (hhi _))))
                        refine wpQuiet_nil ?_
                        rintro _ ⟨⟨d', os'⟩, rfl⟩
                        go_wp2
                        go_ret
                        exact ⟨by rw [HR.out, HD.out]; first | (simp <;> omega) | (simp; intros; omega) | (simp; rw [Bool.eq_iff_iff]; simp; omega), hBw.trans ((below_regrown W d' os').mono hBw.size)⟩
                      · skip
                        go_wp2_with fail
                        refine wp_region_quiet_below (by kernel_rfl) (by kernel_rfl) ?_
                        repeat (go_big_quiet_step (first | (go_at_call 29; with_reducible exact Calls.regrown_of (h110 _)) | (go_at_call 29; with_reducible exact Calls.regrown_of (h109 _)) | (go_at_call 30; with_reducible exact Calls.regrown_of (hlo _)) | (go_at_call 31; with_reducible exact Calls.regrown_of (hhi _))))
                        refine wpQuiet_nil ?_
                        rintro _ ⟨⟨d', os'⟩, rfl⟩
                        go_wp2
                        go_ret
                        exact ⟨by rw [HR.out, HD.out]; first | (simp <;> omega) | (simp; intros; omega) | (simp; rw [Bool.eq_iff_iff]; simp; omega), hBw.trans ((below_regrown W d' os').mono hBw.size)⟩
end Go.Proofs.YtagjnannnahplaaDoor
