/- TextShows at every instruction: it returns true and leaves its argument. The condition: what the row lists of the library's variables (the card ties that to the program's text). -/
import Derived.Test.YtagjnannnahplaaDoorTLaid
import Derived.Test.YtagjnannnahplaaDoorTLaw1
import Derived.Test.YtagjnannnahplaaDoorCards
import Derived.WalkKit
import Derived.ProofKit
import Derived.OpenShut
namespace Go.Proofs.YtagjnannnahplaaDoor.textShows
open Go.ChangeShapes Go.WideShapes Go.ChangeAt Go.RowKit
set_option linter.unusedVariables false
abbrev zeroI : Value := .agg #[.int .i64 0, .int .i64 0, .int .i64 0, .int .i64 0, .int .i64 0]
def wfI (a : Int) : Prop := (Lit.int .i64 a).wf = true
set_option maxRecDepth 100000 in
theorem shut_ins {H : Type} {enc : TypeId × Value → H} {W : World} {base : Nat} {sp : Nat → Bool} {held : Bool} (a b c e f : Int) (ha : wfI a) (hb : wfI b) (hc : wfI c) (he : wfI e) (hf : wfI f) :
    DataW.Trod enc Tryd.prog W base sp held 23 (.agg #[.int .i64 a, .int .i64 b, .int .i64 c, .int .i64 e, .int .i64 f]) (.agg [.lit (.int .i64 a), .lit (.int .i64 b), .lit (.int .i64 c), .lit (.int .i64 e), .lit (.int .i64 f)]) [] := by
  have hC : Tryd.prog.cellsOf 23 = 5 := by kernel_rfl
  have c3 : Tryd.prog.cellsOf 3 = 1 := by kernel_rfl
  have hm : ∀ x : Int, wfI x → DataW.trod enc Tryd.prog W base sp held 2 3 [.int .i64 x] = some (.lit (.int .i64 x), []) := fun x hx => trod_int_mk 1 Tryd.underlying3 hx
  have := trod_struct_mk (enc := enc) (w := W) (base := base) (spare := sp) (held := held) (n := 2) (cs := [.int .i64 a, .int .i64 b, .int .i64 c, .int .i64 e, .int .i64 f]) (xs := [(.lit (.int .i64 a), []), (.lit (.int .i64 b), []), (.lit (.int .i64 c), []), (.lit (.int .i64 e), []), (.lit (.int .i64 f), [])]) Tryd.underlying23 (by simp [hC]) (by simp [c3, hm, ha, hb, hc, he, hf])
  exact ⟨3, by simpa [Value.cells] using this⟩
set_option maxRecDepth 100000 in
theorem open_ins {H : Type} {enc : TypeId × Value → H} {W : World} {base : Nat} {sp : Nat → Bool} {x : Value} {d : DataW H} {p : List MemPlace} (hv : Value.okWide Tryd.prog W .any base 23 x) (h0 : DataW.Trod enc Tryd.prog W 0 sp true 23 x d p) :
    ∃ a b c e f : Int, x = .agg #[.int .i64 a, .int .i64 b, .int .i64 c, .int .i64 e, .int .i64 f] ∧ d = .agg [.lit (.int .i64 a), .lit (.int .i64 b), .lit (.int .i64 c), .lit (.int .i64 e), .lit (.int .i64 f)] ∧ p = [] ∧ wfI a ∧ wfI b ∧ wfI c ∧ wfI e ∧ wfI f := by
  obtain ⟨cs, rfl, hsz⟩ := okWide_struct Tryd.underlying23 hv
  obtain ⟨l⟩ := cs
  have hC : Tryd.prog.cellsOf 23 = 5 := by kernel_rfl
  have c3 : Tryd.prog.cellsOf 3 = 1 := by kernel_rfl
  have hl : l.length = 5 := hsz.trans hC
  obtain ⟨c0, c1, c2, c3', c4, rfl⟩ : ∃ a b c d e, l = [a, b, c, d, e] := by
    match l, hl with
    | [a, b, c, d, e], _ => exact ⟨a, b, c, d, e, rfl⟩
  obtain ⟨fuel, hf⟩ := h0
  obtain ⟨xs, n, _, hx, _, hlen, hg⟩ := DataW.trod_struct Tryd.underlying23 hf
  obtain ⟨y0, y1, y2, y3, y4, rfl⟩ : ∃ a b c d e, xs = [a, b, c, d, e] := by
    match xs, hlen with
    | [a, b, c, d, e], _ => exact ⟨a, b, c, d, e, rfl⟩
  have g0 : DataW.trod enc Tryd.prog W 0 sp true n 3 [c0] = some y0 := by
    have h := hg 0 _ rfl
    change DataW.trod enc Tryd.prog W 0 sp true n 3 (List.take (Tryd.prog.cellsOf 3) (List.drop 0 [c0, c1, c2, c3', c4])) = some y0 at h
    rw [c3] at h
    exact h
  have g1 : DataW.trod enc Tryd.prog W 0 sp true n 3 [c1] = some y1 := by
    have h := hg 1 _ rfl
    change DataW.trod enc Tryd.prog W 0 sp true n 3 (List.take (Tryd.prog.cellsOf 3) (List.drop 1 [c0, c1, c2, c3', c4])) = some y1 at h
    rw [c3] at h
    exact h
  have g2 : DataW.trod enc Tryd.prog W 0 sp true n 3 [c2] = some y2 := by
    have h := hg 2 _ rfl
    change DataW.trod enc Tryd.prog W 0 sp true n 3 (List.take (Tryd.prog.cellsOf 3) (List.drop 2 [c0, c1, c2, c3', c4])) = some y2 at h
    rw [c3] at h
    exact h
  have g3 : DataW.trod enc Tryd.prog W 0 sp true n 3 [c3'] = some y3 := by
    have h := hg 3 _ rfl
    change DataW.trod enc Tryd.prog W 0 sp true n 3 (List.take (Tryd.prog.cellsOf 3) (List.drop 3 [c0, c1, c2, c3', c4])) = some y3 at h
    rw [c3] at h
    exact h
  have g4 : DataW.trod enc Tryd.prog W 0 sp true n 3 [c4] = some y4 := by
    have h := hg 4 _ rfl
    change DataW.trod enc Tryd.prog W 0 sp true n 3 (List.take (Tryd.prog.cellsOf 3) (List.drop 4 [c0, c1, c2, c3', c4])) = some y4 at h
    rw [c3] at h
    exact h
  obtain ⟨a, ha, rfl, wa⟩ := DataW.trod_int Tryd.underlying3 g0
  obtain ⟨b, hb, rfl, wb⟩ := DataW.trod_int Tryd.underlying3 g1
  obtain ⟨c, hc, rfl, wc⟩ := DataW.trod_int Tryd.underlying3 g2
  obtain ⟨e, he, rfl, we⟩ := DataW.trod_int Tryd.underlying3 g3
  obtain ⟨f, hff, rfl, wf⟩ := DataW.trod_int Tryd.underlying3 g4
  simp only [List.cons.injEq, and_true] at ha hb hc he hff
  subst ha hb hc he hff
  simp only [Prod.mk.injEq] at hx
  exact ⟨a, b, c, e, f, rfl, by simpa using hx.1, by simpa using hx.2, wa, wb, wc, we, wf⟩
set_option maxRecDepth 100000 in
theorem contract (H : Type) (enc : TypeId × Value → H) (W : World) (base : Nat) (args : Array Value) (ds gs : List (DataW H)) (before : List MemPlace)
    (hval : ∀ (j : Nat) t v, Tryd.f3.params[j]? = some t → args[j]? = some v → Value.okWide Tryd.prog W .any base t v)
    (hW : DataW.Whole enc Tryd.prog Tryd.f3.params.toList Rows.textShowsSpec.vars false W args.toList ds gs before) (hL : laidMetH Tryd.prog Rows.textShowsRow.laid W) (hsh : W.ShapedOpen Tryd.prog) :
    Calls Tryd.prog 3 args W fun e W' => ∃ v, e = .returned v ∧ Rows.textShowsSpec.post enc Tryd.prog Tryd.f3 false true false false W args v W' := by
  have hW' := hW
  obtain ⟨p, q, hA0, hV, rfl, hfz, hnd⟩ := hW
  have hA : DataW.TrodAll enc Tryd.prog W 0 (fun _ => true) true Tryd.f3.params.toList args.toList ds p := hA0
  rw [Tryd.params3] at hA hval
  obtain ⟨v0, vs0, d0, ds0, p0, q0, hargs, rfl, rfl, h0, r0⟩ := trodAll_cons hA
  obtain ⟨rfl, rfl, rfl⟩ := trodAll_nil r0
  obtain rfl : args = #[v0] := by cases args; simp_all
  obtain ⟨rfl, rfl⟩ := trodVars_none hV
  obtain ⟨a, b, c, e, f, rfl, rfl, rfl, wa, wb, wc, we, wf⟩ := open_ins (hval 0 23 v0 rfl rfl) h0
  clear hA0
  simp only [List.append_nil] at hW'
  obtain ⟨m, hm⟩ : ∃ m, W.cell? ⟨2, 0, none⟩ = some (.int .i64 m) := Tryd.laysM219.s1_3 W hsh
  refine (textShows_any a b c e f W (tabs_of W hL m hm)).mono fun e W' ⟨he, hg⟩ => ?_
  subst he
  exact ⟨_, rfl, _, _, _, [], [], [], hW', trodAll_mk1 (shut_bool Tryd.underlying4 _), trodAll_mk1 (shut_ins a b c e f wa wb wc we wf), rfl, hg.frame _, fun h => by cases h⟩
theorem reads (os : Os) {H : Type} (enc : TypeId × Value → H) : (DataW.whole enc Tryd.prog ((laidWorld os).forCall (fun _ _ => 0) ⟨#[], #[zeroI], []⟩).memory Tryd.f3.params.toList Rows.textShowsSpec.vars false #[zeroI].toList 8).map (fun x => (x.1, x.2.1)) = some ([.agg [.lit (.int .i64 0), .lit (.int .i64 0), .lit (.int .i64 0), .lit (.int .i64 0), .lit (.int .i64 0)]], []) := by kernel_rfl
set_option maxRecDepth 100000 in
theorem lifted (os : Os) (started : os.Started) (H : Type) (enc : TypeId × Value → H) (F : Stop.Interp) :
    ReturnsInHanded {} Tryd.checked os 3 .any ((OpenSpec.ofChange Rows.textShowsSpec).preRow enc Tryd.prog Tryd.f3 Rows.textShowsRow.domain false Rows.textShowsRow.laid) (((OpenSpec.ofChange Rows.textShowsSpec).at F).post enc Tryd.prog Tryd.f3 false true false false) := by
  obtain ⟨⟨x1, x2, x3⟩, hx, hx1⟩ := Option.map_eq_some_iff.1 (reads os enc)
  simp only [Prod.mk.injEq] at hx1
  obtain ⟨rfl, rfl⟩ := hx1
  refine returnsInHanded_of_row (C := Tryd.checked) (s := OpenSpec.ofChange Rows.textShowsSpec) own started (by kernel_rfl) Tryd.func3
    (witness_row_atRef (enc := enc) (C := Tryd.checked) false (laidWorld os) #[zeroI] rfl (by kernel_rfl) (by kernel_rfl) (by kernel_rfl)
      (OpenSpec.preRow_of_cond 8 hx (by kernel_rfl) (fun k hk => by cases hk) (by kernel_rfl) (laid_met os _))) ?_
  intro W base args ds gs before hval hW _ _ _ hL hsh _
  exact contract H enc W base args ds gs before hval hW hL hsh
theorem said : Rows.TextShowsSaid :=
  OpenClaim.holds_of_cond 3 Tryd.f3 rfl rfl rfl rfl rfl rfl rfl ⟨rfl, rfl, rfl, rfl, rfl⟩ rfl rfl rfl rfl rfl (by kernel_rfl) Tryd.func3 (by kernel_rfl)
    (of_decide_eq_true (by kernel_rfl)) (by unfold Func.isWrapper; first | (rw [if_pos (by decide +kernel)]; kernel_rfl) | (rw [if_neg (by decide +kernel)]; exact ⟨rfl, rfl⟩))
    (fun os started H enc _ F => by rw [OpenClaim.pre_eq_preRow]; exact lifted os started H enc F)
/-- No parameter wants a stand-in; the program's own looks are off. -/
theorem plain (f : FuncId) (fn : Func) (hf : Tryd.pinned.checked.prog.funcNamed "bauta/bautalaw04.TextShows" = some f) (hfn : Tryd.pinned.checked.prog.funcs[f]? = some fn) :
    true = Tryd.pinned.checked.prog.looks [] ∧ ∀ (j : Nat) t, fn.params[j]? = some t → Tryd.pinned.checked.prog.wantsStandIn t = false := by
  obtain rfl : f = 3 := Option.some.inj ((show Tryd.prog.funcNamed "bauta/bautalaw04.TextShows" = some 3 by kernel_rfl).symm.trans hf) |>.symm
  obtain rfl : fn = Tryd.f3 := (Option.some.inj (Tryd.func3.symm.trans hfn)).symm
  refine ⟨by kernel_rfl, fun j t ht => ?_⟩
  rw [Tryd.params3] at ht
  obtain rfl : t = 23 := by simpa using Array.mem_of_getElem? ht
  exact (show Tryd.prog.wantsStandIn 23 = false by kernel_rfl)
theorem card : Rows.TextShowsCardSaid :=
  Claim7.holds_tied_plain_at .later [] _ _ _ _ said (fun _ h => by cases h) (by kernel_rfl) (fun _ h => by cases h) textShows_row_tie rfl ⟨rfl, rfl⟩ (by kernel_rfl) rfl plain (by kernel_rfl)
end Go.Proofs.YtagjnannnahplaaDoor.textShows
