/- bautaref04.marks and at. -/
import Derived.Test.YtagjnannnahplaaDoorTPure7
import Derived.Test.YtagjnannnahplaaDoorTShow0
import Derived.Outline
import Derived.WalkKit
import Derived.OwnWalk
import Derived.Laws.OwnMore
import Derived.Maps.AppendAt
import Derived.Below
import Derived.Handy
import Derived.Deep.DeepCutAuto
import Derived.Deep.CutBlock
namespace Go.Proofs.YtagjnannnahplaaDoor
open Go.RowKit
set_option linter.unusedVariables false
set_option linter.unusedSimpArgs false
theorem drop_at (s : ByteArray) (i : Nat) (h : i < s.size) : s.data.toList.drop i = s[i] :: s.data.toList.drop (i + 1) := by
  rw [List.drop_eq_getElem_cons (by simpa using h)]; rfl
theorem isDig_iff (c : UInt8) : isDig c = true ↔ (48 ≤ (c.toNat : Int) ∧ (c.toNat : Int) ≤ 57) := by
  unfold isDig; simp only [Bool.and_eq_true, decide_eq_true_eq]; omega
theorem numD_cons (c : UInt8) (ds : List UInt8) (n : Int) : numD (c :: ds) n = numD ds (n * 10 + ((c.toNat : Int) - 48)) := rfl
def digR (s : ByteArray) (fr p : Nat) : List UInt8 := ((s.data.toList.drop p).take (fr + 6 - p)).takeWhile isDig
/-- Within a number's digits: n so far, N in the end; at p, E in the end. -/
structure InD (s : ByteArray) (fr : Nat) (N : Int) (E p : Nat) (n : Int) : Prop where
  lo : fr ≤ p
  hi : p ≤ s.size
  n0 : 0 ≤ n
  n1 : n < 10 ^ (p - fr)
  le : p ≤ fr + 6
  num : numD (digR s fr p) n = N
  fin : p + (digR s fr p).length = E
theorem digs6_R (s : ByteArray) (fr : Nat) : digs6 (s.data.toList.drop fr) = digR s fr fr := by
  unfold digs6 digR; rw [show fr + 6 - fr = 6 from by omega]
theorem InD.start (s : ByteArray) (fr : Nat) (h : fr ≤ s.size) : InD s fr (numD (digs6 (s.data.toList.drop fr)) 0) (fr + (digs6 (s.data.toList.drop fr)).length) fr 0 :=
  ⟨Nat.le_refl _, h, by omega, by simp, by omega, by rw [digs6_R], by rw [digs6_R]⟩
theorem pow_le6 : ∀ m ≤ 6, (10 : Int) ^ m ≤ 1000000 := by decide
theorem InD.bd {s : ByteArray} {fr : Nat} {N : Int} {E p : Nat} {n : Int} (h : InD s fr N E p n) : n < 1000000 := by
  have := h.n1; have := pow_le6 (p - fr) (by have := h.le; omega); omega
theorem InD.step {s : ByteArray} {fr : Nat} {N : Int} {E p : Nat} {n : Int} (h : InD s fr N E p n) (hp : p < s.size) (h6 : p < fr + 6) (h1 : 48 ≤ (s[p].toNat : Int)) (h2 : (s[p].toNat : Int) ≤ 57) :
    InD s fr N E (p + 1) (n * 10 + ((s[p].toNat : Int) - 48)) := by
  have hd : digR s fr p = s[p] :: digR s fr (p + 1) := by
    unfold digR
    rw [drop_at s p hp, show fr + 6 - p = (fr + 6 - (p + 1)) + 1 from by omega, List.take_succ_cons, List.takeWhile_cons, if_pos ((isDig_iff _).2 ⟨h1, h2⟩)]
  have hn := h.num
  have hf := h.fin
  rw [hd] at hn hf
  have := h.n0; have := h.lo
  refine ⟨by omega, hp, by omega, ?_, by omega, hn, by rw [← hf, List.length_cons]; omega⟩
  have := h.n1
  rw [show p + 1 - fr = (p - fr) + 1 from by omega, Int.pow_succ]
  omega
theorem InD.stop {s : ByteArray} {fr : Nat} {N : Int} {E p : Nat} {n : Int} (h : InD s fr N E p n) (hs : ∀ (hp : p < s.size), p < fr + 6 → ¬ (48 ≤ (s[p].toNat : Int) ∧ (s[p].toNat : Int) ≤ 57)) : n = N ∧ p = E := by
  have hd : digR s fr p = [] := by
    unfold digR
    by_cases hp : p < s.size
    · by_cases h6 : p < fr + 6
      · rw [drop_at s p hp, show fr + 6 - p = (fr + 6 - (p + 1)) + 1 from by omega, List.take_succ_cons, List.takeWhile_cons, if_neg (fun e => hs hp h6 ((isDig_iff _).1 e))]
      · rw [show fr + 6 - p = 0 from by omega]; rfl
    · rw [List.drop_of_length_le (by simp; omega)]; simp
  have hn := h.num
  have hf := h.fin
  rw [hd] at hn hf
  exact ⟨hn, by simpa using hf⟩
theorem markV_pos (s : ByteArray) (i : Nat) (h : ∀ hp : i < s.size, s[i] ≠ 45) : markV (s.data.toList.drop i) = if digs6 (s.data.toList.drop i) = [] then none else some (numD (digs6 (s.data.toList.drop i)) 0) := by
  unfold markV
  rw [if_neg]
  by_cases hp : i < s.size
  · rw [drop_at s i hp, List.head?_cons]; simpa using h hp
  · rw [List.drop_of_length_le (by simp; omega)]; simp
theorem markV_neg (s : ByteArray) (i : Nat) (hp : i < s.size) (h : s[i] = 45) : markV (s.data.toList.drop i) = if digs6 (s.data.toList.drop (i + 1)) = [] then none else some (-(numD (digs6 (s.data.toList.drop (i + 1))) 0)) := by
  unfold markV
  rw [drop_at s i hp, h, List.head?_cons, if_pos rfl, List.tail_cons]
theorem len_pos_iff (l : List UInt8) (a b : Nat) (h : a + l.length = b) : a < b ↔ l ≠ [] := by
  cases l <;> simp at h ⊢ <;> omega
theorem infoInt : (Tryd.prog.info? 3).map (fun i => (i.zero, i.size, i.bytes)) = some (some (.int .i64 0), 1, 8) := by kernel_rfl
/-- A list of numbers that the call made. -/
abbrev IntsAt (w : World) (B : Nat) (v : Value) (xs : List Int) : Prop := w.ownsRow B 3 1 v xs.length (xs.map (Value.int .i64))
/-- At the head of a round: what is left. -/
structure MkR (s : ByteArray) (B : Nat) (w0 : World) (v : Value) (wr : World) (i : Nat) (xs : List Int) : Prop where
  own : IntsAt wr B v xs
  bel : Below B w0 wr
  all : xs ++ marksV (s.data.toList.drop i) = marksV s.data.toList
  few : xs.length ≤ i
theorem marks_some {s : ByteArray} {i : Nat} (hi : i < s.size) (hm : isMark s[i] = true) : marksV (s.data.toList.drop i) = (markV (s.data.toList.drop (i + 1))).toList ++ marksV (s.data.toList.drop (i + 1)) := by
  rw [drop_at s i hi]; conv => lhs; unfold marksV
  rw [if_pos hm]
theorem marks_none {s : ByteArray} {i : Nat} (hi : i < s.size) (hm : isMark s[i] = false) : marksV (s.data.toList.drop i) = marksV (s.data.toList.drop (i + 1)) := by
  rw [drop_at s i hi, mark_skip _ _ hm]
theorem MkR.skip {s : ByteArray} {B : Nat} {w0 : World} {v : Value} {wr : World} {i : Nat} {xs : List Int} (h : MkR s B w0 v wr i xs) (he : marksV (s.data.toList.drop i) = marksV (s.data.toList.drop (i + 1))) : MkR s B w0 v wr (i + 1) xs :=
  ⟨h.own, h.bel, by rw [← he]; exact h.all, by have := h.few; omega⟩
theorem MkR.put {s : ByteArray} {B : Nat} {w0 : World} {v v' : Value} {wr w1 : World} {i : Nat} {xs : List Int} {x : Int} (h : MkR s B w0 v wr i xs) (he : marksV (s.data.toList.drop i) = x :: marksV (s.data.toList.drop (i + 1)))
    (ho : w1.ownsRow B 3 1 v' (xs.length + 1) (xs.map (Value.int .i64) ++ [.int .i64 x])) (hb : Below B w0 w1) : MkR s B w0 v' w1 (i + 1) (xs ++ [x]) :=
  ⟨by simpa [IntsAt] using ho, hb, by rw [List.append_assoc]; have := h.all; rw [he] at this; exact this, by have := h.few; simp; omega⟩
theorem MkR.stop {s : ByteArray} {B : Nat} {w0 : World} {v : Value} {wr : World} {i : Nat} {xs : List Int} (h : MkR s B w0 v wr i xs) (hi : s.size ≤ i) : IntsAt wr B v (marksV s.data.toList) ∧ Below B w0 wr := by
  have := h.all
  rw [List.drop_of_length_le (by simp; omega)] at this
  simp [marksV] at this
  rw [← this]; exact ⟨h.own, h.bel⟩
theorem isMark_f {c : UInt8} (h1 : c ≠ 114) (h2 : c ≠ 35) : isMark c = false := by simp [isMark, h1, h2]
/-- Where the digits behind a mark begin. -/
structure MarkFrom (s : ByteArray) (i fr : Nat) (neg : Bool) : Prop where
  isfr : fr = if neg then i + 2 else i + 1
  isneg : ∀ h : i + 1 < s.size, ((s[i + 1].toNat : Int) == 45) = neg
  le : fr ≤ s.size
  val : markV (s.data.toList.drop (i + 1)) = if digs6 (s.data.toList.drop fr) = [] then none else some (if neg then -(numD (digs6 (s.data.toList.drop fr)) 0) else numD (digs6 (s.data.toList.drop fr)) 0)
theorem mark_from (s : ByteArray) (i : Nat) (h : i < s.size) : ∃ fr neg, MarkFrom s i fr neg := by
  by_cases hp : i + 1 < s.size
  · by_cases h45 : s[i + 1] = 45
    · exact ⟨i + 2, true, rfl, fun _ => by rw [h45]; decide, by omega, markV_neg s (i + 1) hp h45⟩
    · exact ⟨i + 1, false, rfl, fun _ => by rw [beq_eq_false_iff_ne]; intro e; exact h45 (by rw [← UInt8.toNat_inj]; have : (45 : UInt8).toNat = 45 := rfl; omega), by omega, markV_pos s (i + 1) (fun _ => h45)⟩
  · exact ⟨i + 1, false, rfl, fun h' => absurd h' hp, by omega, markV_pos s (i + 1) (fun h' => absurd h' hp)⟩
set_option maxRecDepth 100000 in
set_option maxHeartbeats 4000000 in
theorem marks_any (s : ByteArray) (hs : s.size ≤ 1000) (w : World) :
    Calls Tryd.prog 18 #[.string s] w fun e w' => ∃ v, e = .returned v ∧ IntsAt w' w.heap.size v (marksV s.data.toList) ∧ Below w.heap.size w w' := by
  obtain ⟨i0, hi, hz0, hz1, hz2⟩ := info_parts infoInt
  have HS : Hid (MkR s w.heap.size w (.slice (some ⟨w.heap.size, 0, none⟩) 0 0) (w.alloc (.cells #[] 3)) 0 []) :=
    ⟨World.ownsRow_made w #[] 0 (Nat.le_refl _) (Nat.zero_le _) rfl, (Below.refl _ _).alloc (Nat.le_refl _) _, rfl, Nat.le_refl _⟩
  go_enter Tryd.func18, Tryd.ntmps18
  go_wp2_with fail
  go_loopw [3, 4] (fun v i wr => ∃ (k : Nat) (xs : List Int), i = .int .i64 k ∧ k ≤ s.size ∧ Hid (MkR s w.heap.size w v wr k xs)) (fun _ i _ => s.size - (intOf i).toNat)
  case atStart => exact ⟨0, [], rfl, Nat.zero_le _, HS⟩
  case round =>
    clear HS
    obtain ⟨i, xs, rfl, hle, HM⟩ := hrel
    by_cases hlt : i < s.size
    · have hlt' : (i : Int) < (s.size : Int) := by omega
      obtain ⟨wo, rfl⟩ : ∃ wo : World, wo = wr := ⟨_, rfl⟩
      obtain ⟨mk, hmk⟩ : ∃ b, b = isMark s[i] := ⟨_, rfl⟩
      have HMK := Lib.hid hmk
      clear hmk
      go_upto_region 5 with (fail)
      go_cut [25] (fun v wc => v = .bool (!mk) ∧ wo = wc)
      case first =>
        by_cases h114 : s[i] = 114
        · have b1 : ((s[i].toNat : Int) != 114) = false := by rw [h114]; decide
          obtain rfl : mk = true := by rw [HMK.out, h114]; decide
          clear h114 HMK
          go_wp2_with fail
          go_meet
          exact ⟨rfl, rfl⟩
        · have b1 : ((s[i].toNat : Int) != 114) = true := by rw [bne_iff_ne]; intro e; exact h114 (by rw [← UInt8.toNat_inj]; have : (114 : UInt8).toNat = 114 := rfl; omega)
          by_cases h35 : s[i] = 35
          · have b2 : ((s[i].toNat : Int) != 35) = false := by rw [h35]; decide
            obtain rfl : mk = true := by rw [HMK.out, h35]; decide
            clear h114 h35 HMK
            go_wp2_with fail
            go_meet
            exact ⟨rfl, rfl⟩
          · have b2 : ((s[i].toNat : Int) != 35) = true := by rw [bne_iff_ne]; intro e; exact h35 (by rw [← UInt8.toNat_inj]; have : (35 : UInt8).toNat = 35 := rfl; omega)
            obtain rfl : mk = false := by rw [HMK.out]; exact isMark_f h114 h35
            clear h114 h35 HMK
            go_wp2_with fail
            go_meet
            exact ⟨rfl, rfl⟩
      case rest =>
        obtain ⟨rfl, rfl⟩ := hcut
        cases mk
        · have HE := Lib.hid (HM.out.skip (marks_none hlt HMK.out.symm))
          clear HM HMK
          go_wp2_with fail
          go_roundw
          case rel => exact ⟨i + 1, xs, by go_num, hlt, HE⟩
          case measure => simp [intOf]; omega
        · have HK := Lib.hid (marks_some hlt HMK.out.symm)
          clear HMK
          obtain ⟨fr, neg, HP⟩ := mark_from s i hlt
          have hfs := HP.le
          have hneg : neg = true → i + 1 < s.size := by intro e; subst e; have := HP.isfr; simp at this; omega
          have HP2 := Lib.hid HP
          clear HP
          go_upto_region 7 with (fail)
          go_cut [37] (fun v wc => v = .bool neg ∧ wo = wc)
          case first =>
            by_cases hlt2 : i + 1 < s.size
            · have hlt2' : (i : Int) + 1 < (s.size : Int) := by omega
              have b3 : ((s[i + 1].toNat : Int) == 45) = neg := HP2.out.isneg hlt2
              clear hneg
              go_wp2_with fail
              go_meet
              exact ⟨rfl, rfl⟩
            · have hlt2' : ¬ ((i : Int) + 1 < (s.size : Int)) := by omega
              have hn : neg = false := by
                cases neg
                · rfl
                · exact absurd (hneg rfl) hlt2
              subst hn
              clear hneg
              go_wp2_with fail
              go_meet
              exact ⟨rfl, rfl⟩
          case rest =>
            obtain ⟨rfl, rfl⟩ := hcut
            clear hneg
            go_upto_if 37 with (fail)
            go_cut [6, 7] (fun p m wc => p = .int .i64 fr ∧ m = .bool neg ∧ wo = wc)
            case first =>
              cases neg
              · have hfr : fr = i + 1 := HP2.out.isfr
                subst hfr
                go_wp2_with fail
                go_meet
                exact ⟨by go_num, rfl, rfl⟩
              · have hfr : fr = i + 2 := HP2.out.isfr
                subst hfr
                go_wp2_with fail
                go_meet
                exact ⟨by go_num, rfl, rfl⟩
            case rest =>
              obtain ⟨rfl, rfl, rfl⟩ := hcut
              have HI0 := Lib.hid (InD.start s fr hfs)
              have HV := Lib.hid HP2.out.val
              clear HP2
              generalize digs6 (s.data.toList.drop fr) = D at HV HI0
              obtain ⟨N, hN⟩ : ∃ N, N = numD D 0 := ⟨_, rfl⟩
              obtain ⟨E, hE⟩ : ∃ E, E = fr + D.length := ⟨_, rfl⟩
              rw [← hN, ← hE] at HI0
              rw [← hN] at HV
              have HE := Lib.hid hE
              clear hN hE
              go_upto_block 2 with (fail)
              go_cut [5, 6] (fun n p wc => n = .int .i64 N ∧ p = .int .i64 E ∧ 0 ≤ N ∧ N < 1000000 ∧ wo = wc)
              case first =>
                go_wp2_with fail
                go_loop [5, 6] (fun n p => ∃ (a : Int) (q : Nat), n = .int .i64 a ∧ p = .int .i64 q ∧ 0 ≤ a ∧ a < 1000000 ∧ q ≤ s.size ∧ Hid (InD s fr N E q a)) (fun _ p => s.size - (intOf p).toNat)
                case atStart => exact ⟨0, fr, rfl, rfl, by omega, by omega, by omega, HI0⟩
                case round =>
                  clear HI0
                  obtain ⟨a, q, rfl, rfl, ha0, ha1, hq, HI⟩ := hrel
                  by_cases hgo : ∃ hp : q < s.size, q < fr + 6 ∧ 48 ≤ (s[q].toNat : Int) ∧ (s[q].toNat : Int) ≤ 57
                  · obtain ⟨hp, h6, hd1, hd2⟩ := hgo
                    have HI2 := Lib.hid (HI.out.step hp h6 hd1 hd2)
                    have hb2 := HI2.out.bd
                    have hp' : (q : Int) < (s.size : Int) := by omega
                    have h6' : (q : Int) < (fr : Int) + 6 := by omega
                    clear HI
                    go_wp2_with fail
                    go_round
                    case rel => exact ⟨a * 10 + ((s[q].toNat : Int) - 48), q + 1, by go_num, by go_num, by omega, hb2, by omega, HI2⟩
                    case measure => simp [intOf]; omega
                  · have hst := HI.out.stop (fun hp h6 hh => hgo ⟨hp, h6, hh.1, hh.2⟩)
                    have HG := Lib.hid hgo
                    clear hgo HI
                    obtain ⟨rfl, rfl⟩ := hst
                    by_cases t1 : (q : Int) < (s.size : Int)
                    · have t1' : q < s.size := by omega
                      by_cases t2 : (q : Int) < (fr : Int) + 6
                      · by_cases t3 : 48 ≤ (s[q].toNat : Int)
                        · by_cases t4 : (s[q].toNat : Int) ≤ 57
                          · exact absurd ⟨t1', by omega, t3, t4⟩ HG.out
                          · clear HG
                            go_wp2_with fail
                            go_meet
                            exact ⟨rfl, rfl, ha0, ha1, rfl⟩
                        · clear HG
                          go_wp2_with fail
                          go_meet
                          exact ⟨rfl, rfl, ha0, ha1, rfl⟩
                      · clear HG
                        go_wp2_with fail
                        go_meet
                        exact ⟨rfl, rfl, ha0, ha1, rfl⟩
                    · clear HG
                      go_wp2_with fail
                      go_meet
                      exact ⟨rfl, rfl, ha0, ha1, rfl⟩
              case rest =>
                obtain ⟨rfl, rfl, hn0, hn1, rfl⟩ := hcut
                clear HI0
                by_cases hd : D = []
                · have hng : ¬ ((fr : Int) < (E : Int)) := by have := HE.out; rw [hd] at this; simp at this; omega
                  have HX := Lib.hid (HM.out.skip (HK.out.trans (by rw [HV.out, if_pos hd]; rfl)))
                  clear HK HV HE hd HM
                  go_wp2_with fail
                  go_roundw
                  case rel => exact ⟨i + 1, xs, by go_num, hlt, HX⟩
                  case measure => simp [intOf]; omega
                · have hng : (fr : Int) < (E : Int) := by have := HE.out; have := List.length_pos_iff.2 hd; omega
                  have hown := HM.out.own
                  unfold IntsAt at hown
                  have hbel := HM.out.bel
                  have hfew := HM.out.few
                  have hbz := hbel.size
                  have HO := Lib.hid hown
                  have HB := Lib.hid hbel
                  clear hown hbel
                  cases neg
                  · have HX := Lib.hid (HK.out.trans (by rw [HV.out, if_neg hd]))
                    clear HK HV HE hd
                    go_wp2_with (at_builtin; refine wpList_append_own _ rfl _ _ 41 rfl w.heap.size 3 i0 (.int .i64 0) 1 8 Tryd.underlying41 hi hz0 hz1 hz2 rfl (by decide) _ _ _ rfl (HO.out.alloc _) ⟨wo.heap.size, 0, none⟩ 1 1 [.int .i64 (N)] rfl rfl (cell_one_new _ _ _) (by simp [Value.oneCell']) (by unfold maxLen; omega) (by omega) (by simp; omega) ?_; intro v' w' hown' hgrow' hnil')
                    have HN := Lib.hid (HM.out.put HX.out hown' ((HB.out.alloc hbz _).grown hgrow' (by simp; omega) (fun k hk => (World.ownsRow.lt HO.out k hk).1)))
                    clear hown' hgrow' hnil' HX HM HO HB
                    go_wp2_with fail
                    go_roundw
                    case rel => exact ⟨i + 1, xs ++ [N], by go_num, hlt, HN⟩
                    case measure => simp [intOf]; omega
                  · have HX := Lib.hid (HK.out.trans (by rw [HV.out, if_neg hd]))
                    clear HK HV HE hd
                    go_wp2_with (at_builtin; refine wpList_append_own _ rfl _ _ 41 rfl w.heap.size 3 i0 (.int .i64 0) 1 8 Tryd.underlying41 hi hz0 hz1 hz2 rfl (by decide) _ _ _ rfl (HO.out.alloc _) ⟨wo.heap.size, 0, none⟩ 1 1 [.int .i64 (-N)] rfl rfl (cell_one_new _ _ _) (by simp [Value.oneCell']) (by unfold maxLen; omega) (by omega) (by simp; omega) ?_; intro v' w' hown' hgrow' hnil')
                    have HN := Lib.hid (HM.out.put HX.out hown' ((HB.out.alloc hbz _).grown hgrow' (by simp; omega) (fun k hk => (World.ownsRow.lt HO.out k hk).1)))
                    clear hown' hgrow' hnil' HX HM HO HB
                    go_wp2_with fail
                    go_roundw
                    case rel => exact ⟨i + 1, xs ++ [-N], by go_num, hlt, HN⟩
                    case measure => simp [intOf]; omega
    · have HE := Lib.hid (HM.out.stop (by omega))
      have hge : ¬ (i : Int) < (s.size : Int) := by omega
      clear HM
      go_wp2_with fail
      go_ret
      exact ⟨_, rfl, HE.out.1, HE.out.2⟩
end Go.Proofs.YtagjnannnahplaaDoor
