/- text.register, text.number. -/
import Derived.Test.YtagjnannnahplaaDoorTShow0
import Derived.Test.YtagjnannnahplaaDoorTPure2
import Derived.Shelf.Strings.SlTrimAscii
import Derived.Lib.Hide
import Derived.Outline
namespace Go.Proofs.YtagjnannnahplaaDoor
open Go.RowKit
set_option linter.unusedVariables false
set_option linter.unusedSimpArgs false
theorem str_get (l : List UInt8) (i : Nat) (h : i < (⟨l.toArray⟩ : ByteArray).size) (h' : i < l.length) : (⟨l.toArray⟩ : ByteArray)[i] = l[i] := rfl
set_option maxRecDepth 100000 in
set_option maxHeartbeats 1000000 in
theorem register_short (s : ByteArray) (w : World) (h : s.size < 2) :
    Calls Tryd.prog 46 #[.string s] w fun e w' => e = .returned (.tuple #[.int .i64 0, .string s, .bool false]) ∧ w = w' := by
  go_enter Tryd.func46, Tryd.ntmps46
  go_wp2
  go_ret3
  exact ⟨rfl, rfl⟩
set_option maxRecDepth 100000 in
set_option maxHeartbeats 1000000 in
theorem register_bad (s : ByteArray) (a c : Nat) (w : World) (h : 2 ≤ s.size) (hm : s.size ≤ 9223372036854775807) (h0 : s[0].toNat = a) (h1 : s[1].toNat = c) (hb : ¬ (a = 114 ∧ 48 ≤ c ∧ c ≤ 55)) :
    Calls Tryd.prog 46 #[.string s] w fun e w' => e = .returned (.tuple #[.int .i64 0, .string s, .bool false]) ∧ w = w' := by
  by_cases ha : a = 114
  · subst ha
    by_cases hc : c < 48
    · go_enter Tryd.func46, Tryd.ntmps46
      go_wp2
      go_ret3
      exact ⟨rfl, rfl⟩
    · have hc2 : 55 < c := by omega
      go_enter Tryd.func46, Tryd.ntmps46
      go_wp2
      go_ret3
      exact ⟨rfl, rfl⟩
  · have hn : ((a : Int) != 114) = true := by rw [bne_iff_ne]; omega
    go_enter Tryd.func46, Tryd.ntmps46
    go_wp2
    go_ret3
    exact ⟨rfl, rfl⟩
set_option maxRecDepth 100000 in
set_option maxHeartbeats 1000000 in
theorem register_yes (s : ByteArray) (c : Nat) (w : World) (h : 2 ≤ s.size) (hm : s.size ≤ 9223372036854775807) (h0 : s[0].toNat = 114) (h1 : s[1].toNat = c) (hc1 : 48 ≤ c) (hc2 : c ≤ 55) :
    Calls Tryd.prog 46 #[.string s] w fun e w' => e = .returned (.tuple #[.int .i64 ((c : Int) - 48), .string (s.extract 2 s.size), .bool true]) ∧ ∃ n, w' = w.drewN n := by
  have hs1 : (1 : Int) < (s.size : Int) := by omega
  have hs2 : (2 : Int) ≤ (s.size : Int) := by omega
  go_enter Tryd.func46, Tryd.ntmps46
  go_wp2
  go_quiet (fail)
  go_wp2
  go_ret3
  exact ⟨rfl, _, rfl⟩
theorem register_any (l : List UInt8) (w : World) (hl : l.length ≤ 9223372036854775807) :
    Calls Tryd.prog 46 #[.string ⟨l.toArray⟩] w fun e w' => e = .returned (.tuple #[.int .i64 (regV l).1, .string ⟨(regV l).2.1.toArray⟩, .bool (regV l).2.2]) ∧ ∃ n, w' = w.drewN n := by
  match l, hl with
  | [], _ => exact (register_short _ w (by decide)).mono fun e w' ⟨he, hw⟩ => ⟨he, 0, hw.symm⟩
  | [a], _ => exact (register_short _ w (by show 1 < 2; decide)).mono fun e w' ⟨he, hw⟩ => ⟨he, 0, hw.symm⟩
  | a :: c :: r, hl =>
    have hsz : (⟨(a :: c :: r).toArray⟩ : ByteArray).size = r.length + 2 := rfl
    have hl' : r.length + 2 ≤ 9223372036854775807 := hl
    by_cases hb : a = 114 ∧ 48 ≤ c ∧ c ≤ 55
    · obtain ⟨rfl, hc1, hc2⟩ := hb
      have hc1' : 48 ≤ c.toNat := UInt8.le_iff_toNat_le.1 hc1
      have hc2' : c.toNat ≤ 55 := UInt8.le_iff_toNat_le.1 hc2
      refine (register_yes ⟨(114 :: c :: r).toArray⟩ c.toNat w (by rw [hsz]; omega) (by rw [hsz]; exact hl') rfl rfl hc1' hc2').mono ?_
      rintro e w' ⟨rfl, hw⟩
      refine ⟨?_, hw⟩
      have he : (⟨(114 :: c :: r).toArray⟩ : ByteArray).extract 2 (⟨(114 :: c :: r).toArray⟩ : ByteArray).size = ⟨r.toArray⟩ := by
        rw [hsz]; apply ByteArray.ext; simp
      rw [he]
      simp [regV, hc1, hc2]
    · have hb' : ¬ (a.toNat = 114 ∧ 48 ≤ c.toNat ∧ c.toNat ≤ 55) := fun ⟨h1, h2, h3⟩ => hb ⟨UInt8.toNat_inj.1 (by rw [h1]; rfl), UInt8.le_iff_toNat_le.2 h2, UInt8.le_iff_toNat_le.2 h3⟩
      refine (register_bad ⟨(a :: c :: r).toArray⟩ a.toNat c.toNat w (by rw [hsz]; omega) (by rw [hsz]; exact hl') rfl rfl hb').mono ?_
      rintro e w' ⟨rfl, rfl⟩
      exact ⟨by simp [regV, hb], 0, rfl⟩
theorem trimLeft_digits (l : List UInt8) (w : World) : Calls Tryd.prog 55 #[.string ⟨l.toArray⟩, .string ⟨#[45, 48, 49, 50, 51, 52, 53, 54, 55, 56, 57]⟩] w fun e w' => e = .returned (.string ⟨(Lib.trimLeftS l digitsL).toArray⟩) ∧ Below w.heap.size w w' :=
  Any.strings_TrimLeft_laid Tryd.lays161 (by kernel_rfl) ⟨l.toArray⟩ ⟨#[45, 48, 49, 50, 51, 52, 53, 54, 55, 56, 57]⟩ w (by decide) (fun j b hb => by
    have := List.mem_of_getElem? hb
    simp at this
    rcases this with rfl | rfl | rfl | rfl | rfl | rfl | rfl | rfl | rfl | rfl | rfl <;> decide)
/-- strconv.Atoi: the number and whether there is an error. -/
def ErrIs (b : Bool) (v : Value) : Prop := (b = true ∧ v = .nilIface) ∨ (b = false ∧ ∃ t x, v = .iface t x)
def AtoiPost (l : List UInt8) (w : World) (e : Ending) (w' : World) : Prop := ∃ v, ErrIs (atoiV l).2 v ∧ e = .returned (.tuple #[.int .i64 (atoiV l).1, v]) ∧ Below w.heap.size w w'
theorem bytesWorld_below (w : World) (s : ByteArray) : Below w.heap.size w (Lib.bytesWorld w 5 s) :=
  ⟨rfl, rfl, rfl, by rw [Lib.bytesWorld_size]; omega, fun j hj => Lib.bytesWorld_at_old w _ s j hj⟩
theorem atoi_any (l : List UInt8) (w : World) (ht : Tabs w) (hl : l.length ≤ 281474976710656) : Calls Tryd.prog 56 #[.string ⟨l.toArray⟩] w (AtoiPost l w) := by
  have hsz : (⟨l.toArray⟩ : ByteArray).size = l.length := by show l.toArray.size = _; simp
  cases h : Lib.atoiAll l with
  | ok v =>
    refine (Tryd.strconv_Atoi_ok ⟨l.toArray⟩ (by rw [hsz]; omega) v h w).mono ?_
    rintro e w' ⟨rfl, hw⟩
    refine ⟨.nilIface, .inl ⟨by simp [atoiV, h], rfl⟩, by simp [atoiV, h], ?_⟩
    rcases hw with rfl | ⟨t, rfl⟩
    · exact Below.refl _ _
    · exact bytesWorld_below _ _
  | range =>
    obtain ⟨ev, hv, hev⟩ := ht.ran
    refine (Tryd.strconv_Atoi_range ⟨l.toArray⟩ (by rw [hsz]; omega) h ev w hv hev).mono ?_
    rintro e w' ⟨N, rfl, _, _, hb⟩
    exact ⟨.iface 136 (.pointer (some ⟨N, 0, none⟩)), .inr ⟨by simp [atoiV, h], _, _, rfl⟩, by simp [atoiV, h], hb⟩
  | _ =>
    obtain ⟨ev, hv, hev⟩ := ht.syn
    refine (Tryd.strconv_Atoi_syntax ⟨l.toArray⟩ (by rw [hsz]; omega) h ev w hv hev).mono ?_
    rintro e w' ⟨N, rfl, _, _, hb⟩
    exact ⟨.iface 136 (.pointer (some ⟨N, 0, none⟩)), .inr ⟨by simp [atoiV, h], _, _, rfl⟩, by simp [atoiV, h], hb⟩
theorem cutPrefix_any (l : List UInt8) (p : ByteArray) (w : World) : Calls Tryd.prog 48 #[.string ⟨l.toArray⟩, .string p] w fun e w' => e = .returned (.tuple #[.string ⟨(Lib.trimPrefix l p.data.toList).toArray⟩, .bool (Lib.hasPrefix l p.data.toList)]) ∧ w = w' :=
  (Tryd.strings_CutPrefix ⟨l.toArray⟩ p w).mono fun e w' ⟨he, hw⟩ => ⟨he, hw.symm⟩
theorem atoiV_range (l : List UInt8) : -9223372036854775808 ≤ (atoiV l).1 ∧ (atoiV l).1 ≤ 9223372036854775807 := by
  unfold atoiV
  cases h : Lib.atoiAll l with
  | range => simp only [Lib.atoiSat]; split <;> omega
  | ok v =>
    simp only
    unfold Lib.atoiAll at h
    cases l with
    | nil => simp at h
    | cons c r =>
      simp only at h
      split at h <;> try (simp at h; done)
      split at h <;> try (simp at h; done)
      split at h <;> try (simp at h; done)
      injection h with h
      rename_i u _ h1 h2
      by_cases hc : c.toNat = 45
      · simp [hc] at h h2; omega
      · simp [hc] at h h1; omega
  | _ => simp
theorem tdiv_range (x t : Int) (h0 : -9223372036854775808 ≤ x) (h1 : x ≤ 9223372036854775807) (ht : 1 ≤ t) : -9223372036854775808 ≤ x.tdiv t ∧ x.tdiv t ≤ 9223372036854775807 := by
  have h3 : (x.tdiv t).natAbs ≤ x.natAbs := by rw [Int.natAbs_tdiv]; exact Nat.div_le_self _ _
  rcases Int.le_total 0 x with h | h
  · have := Int.tdiv_nonneg h (by omega : 0 ≤ t); omega
  · have : x.tdiv t ≤ 0 := by
      have := Int.tdiv_nonneg (a := -x) (by omega) (by omega : 0 ≤ t)
      rw [Int.neg_tdiv] at this; omega
    omega
set_option maxRecDepth 100000 in
set_option maxHeartbeats 2000000 in
theorem number_any (l : List UInt8) (t : Int) (w : World) (ht : Tabs w) (hl : l.length ≤ 281474976710656) (ht0 : 1 ≤ t) (ht1 : t ≤ 4) :
    Calls Tryd.prog 47 #[.string ⟨l.toArray⟩, .int .i64 t] w fun e w' => e = .returned (.tuple #[.int .i64 (numV l t).1, .string ⟨(numV l t).2.1.toArray⟩, .bool (numV l t).2.2]) ∧ Below w.heap.size w w' := by
  obtain ⟨r, hr⟩ : ∃ r, r = Lib.trimPrefix l [35] := ⟨_, rfl⟩
  obtain ⟨b, hb⟩ : ∃ b, b = Lib.hasPrefix l [35] := ⟨_, rfl⟩
  have HN : Hid (numV l t = ((atoiV (r.take (r.length - (Lib.trimLeftS r digitsL).length))).1.tdiv t, r.drop (r.length - (Lib.trimLeftS r digitsL).length), b && ((atoiV (r.take (r.length - (Lib.trimLeftS r digitsL).length))).2 && ((atoiV (r.take (r.length - (Lib.trimLeftS r digitsL).length))).1.tmod t == 0)))) := by rw [hr, hb]; rfl
  have hrl : r.length ≤ l.length := by rw [hr]; unfold Lib.trimPrefix; split <;> simp
  have htl : (Lib.trimLeftS r digitsL).length ≤ r.length := by unfold Lib.trimLeftS; exact (List.dropWhile_suffix _).length_le
  have hcp := cutPrefix_any l ⟨#[35]⟩ w
  have e1 : (⟨#[35]⟩ : ByteArray).data.toList = [35] := rfl
  rw [e1, ← hr, ← hb] at hcp
  have HC := Lib.hid hcp
  clear hr hb hcp e1
  go_enter Tryd.func47, Tryd.ntmps47
  go_wp2_with (go_at_call 48; refine HC.out.mono ?_; rintro e w1 ⟨rfl, rfl⟩)
  go_wp2_with fail
  refine (trimLeft_digits r _).mono ?_
  rintro e w1 ⟨rfl, hb1⟩
  obtain ⟨n, hn⟩ : ∃ n, n = r.length - (Lib.trimLeftS r digitsL).length := ⟨_, rfl⟩
  rw [← hn] at HN
  have hnr : n ≤ r.length := by omega
  have hni : ((r.length : Int) - ((Lib.trimLeftS r digitsL).length : Int)) = (n : Int) := by omega
  clear hn
  go_wp2_with fail
  have hx : (⟨r.toArray⟩ : ByteArray).extract 0 n = ⟨(r.take n).toArray⟩ := by apply ByteArray.ext; simp
  have hy : (⟨r.toArray⟩ : ByteArray).extract n (⟨r.toArray⟩ : ByteArray).size = ⟨(r.drop n).toArray⟩ := by
    have hs : (⟨r.toArray⟩ : ByteArray).size = r.length := by show r.toArray.size = _; simp
    rw [hs]; apply ByteArray.ext; simp; exact List.take_of_length_le (by simp)
  have HY : Hid ((⟨r.toArray⟩ : ByteArray).extract n r.length = ⟨(r.drop n).toArray⟩) := by
    have hs : (⟨r.toArray⟩ : ByteArray).size = r.length := by show r.toArray.size = _; simp
    rw [hs] at hy; exact hy
  clear hy
  rw [hx]
  clear hx hni
  have hrt : (r.take n).length ≤ 281474976710656 := by have := List.length_take_le' n r; omega
  refine (atoi_any (r.take n) _ (ht.below hb1) hrt).mono ?_
  rintro e w2 ⟨v, hv, rfl, hb2⟩
  have hrg := atoiV_range (r.take n)
  generalize hav : atoiV (r.take n) = av at *
  clear hav
  obtain ⟨x, ok⟩ := av
  simp only at hv hrg HN
  obtain ⟨hx0, hx1⟩ := hrg
  have hq := tdiv_range x t hx0 hx1 ht0
  have hw : IntKind.i64.wrap (x.tdiv t) = x.tdiv t := IntWalk.i64_in _ (by omega)
  have hw' : wrap64 (x.tdiv t) = x.tdiv t := IntWalk.wrap64_in _ (by omega)
  have htz : ¬ t = 0 := by omega
  have htz' : (t == 0) = false := beq_eq_false_iff_ne.2 htz
  have hn0 : (0 : Int) ≤ (n : Int) := Int.natCast_nonneg _
  have hn1 : (n : Int) ≤ (r.length : Int) := by omega
  have hbel : ∀ k, Below w.heap.size w (w2.drewN k) := fun k => below_drewN ((hb1.trans (hb2.mono hb1.size))) k
  cases b
  · rcases hv with ⟨rfl, rfl⟩ | ⟨rfl, tt, xx, rfl⟩
    all_goals go_wp2_with fail
    all_goals go_quiet (fail)
    all_goals go_wp2
    all_goals go_ret3
    all_goals rw [HN.out]
    all_goals exact ⟨by simp [HY.out], hbel _⟩
  · rcases hv with ⟨rfl, rfl⟩ | ⟨rfl, tt, xx, rfl⟩
    all_goals go_wp2_with fail
    all_goals go_quiet (fail)
    all_goals go_wp2
    all_goals go_ret3
    all_goals rw [HN.out]
    all_goals exact ⟨by simp [HY.out], hbel _⟩
end Go.Proofs.YtagjnannnahplaaDoor
