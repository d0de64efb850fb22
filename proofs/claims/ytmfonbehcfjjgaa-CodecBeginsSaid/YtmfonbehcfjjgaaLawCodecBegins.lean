/- 'CodecBegins': for every input it answers true, and the input reads as it did. Under no condition. -/
import Derived.Test.YtmfonbehcfjjgaaRows
import Derived.Test.YtmfonbehcfjjgaaMCodecBegins13
import Derived.WalkKit
import Derived.ProofKit
import Derived.OpenShut
import Derived.ShutString
import Derived.ChangeOld
import Derived.Below
import Derived.SizedLaws
namespace Go.Proofs.Ytmfonbehcfjjgaa.codecBegins
open Go.Proofs.Ytmfonbehcfjjgaa.Mv Go.ChangeShapes Go.WideShapes Go.ChangeAt Go.RowKit
set_option linter.unusedVariables false
set_option linter.unusedSimpArgs false
theorem own : ownKnob Try.prog.godebug = none := by kernel_rfl
theorem laidOut : laidOutB Try.prog = true := by kernel_rfl
theorem openPr : ∀ r, Sh tab 87 r → ∃ x : Pr, r = x.av := by
  intro r hr
  have lr := (hr.inv_st (i := ty87) rfl rfl).1
  obtain ⟨y0, y1, rfl⟩ : ∃ y0 y1, r = [y0, y1] := by
    match r, lr with
    | [y0, y1], _ => exact ⟨_, _, rfl⟩
  have h0 : Sh tab 9 [y0] := hr.inv_at (i := ty87) rfl rfl 0 rfl (j := ty9) rfl
  obtain ⟨a0, ea0, wa0⟩ := h0.inv_str (i := ty9) rfl rfl
  cases ea0
  have h1 : Sh tab 9 [y1] := hr.inv_at (i := ty87) rfl rfl 1 rfl (j := ty9) rfl
  obtain ⟨a1, ea1, wa1⟩ := h1.inv_str (i := ty9) rfl rfl
  cases ea1
  exact ⟨⟨a0, a1⟩, rfl⟩
theorem openEd : ∀ r, Sh tab 65 r → ∃ x : Ed, r = x.av := by
  intro r hr
  have lr := (hr.inv_st (i := ty65) rfl rfl).1
  obtain ⟨y0, y1, y2, y3, rfl⟩ : ∃ y0 y1 y2 y3, r = [y0, y1, y2, y3] := by
    match r, lr with
    | [y0, y1, y2, y3], _ => exact ⟨_, _, _, _, rfl⟩
  have h0 : Sh tab 40 [y0] := hr.inv_at (i := ty65) rfl rfl 0 rfl (j := ty40) rfl
  obtain ⟨a0', ea0, wa0⟩ := h0.inv_int (i := ty40) rfl rfl
  obtain ⟨a0, rfl⟩ := by_u32 wa0
  cases ea0
  have h1 : Sh tab 38 [y1] := hr.inv_at (i := ty65) rfl rfl 1 rfl (j := ty38) rfl
  obtain ⟨a1', ea1, wa1⟩ := h1.inv_int (i := ty38) rfl rfl
  obtain ⟨a1, rfl⟩ := by_u16 wa1
  cases ea1
  have h2 : Sh tab 63 [y2, y3] := hr.inv_at (i := ty65) rfl rfl 2 rfl (j := ty63) rfl
  have h3 : Sh tab 9 [y2] := h2.inv_at (i := ty63) rfl rfl 0 rfl (j := ty9) rfl
  obtain ⟨a2, ea2, wa2⟩ := h3.inv_str (i := ty9) rfl rfl
  cases ea2
  have h4 : Sh tab 9 [y3] := h2.inv_at (i := ty63) rfl rfl 1 rfl (j := ty9) rfl
  obtain ⟨a3, ea3, wa3⟩ := h4.inv_str (i := ty9) rfl rfl
  cases ea3
  exact ⟨⟨a0, a1, a2, a3⟩, rfl⟩
theorem openMs : ∀ r, Sh tab 71 r → ∃ x : Ms, r = x.av := by
  intro r hr
  have lr := (hr.inv_st (i := ty71) rfl rfl).1
  obtain ⟨y0, y1, y2, y3, y4, y5, rfl⟩ : ∃ y0 y1 y2 y3 y4 y5, r = [y0, y1, y2, y3, y4, y5] := by
    match r, lr with
    | [y0, y1, y2, y3, y4, y5], _ => exact ⟨_, _, _, _, _, _, rfl⟩
  have h0 : Sh tab 5 [y0] := hr.inv_at (i := ty71) rfl rfl 0 rfl (j := ty5) rfl
  obtain ⟨a0', ea0, wa0⟩ := h0.inv_int (i := ty5) rfl rfl
  obtain ⟨a0, rfl⟩ := by_u8 wa0
  cases ea0
  have h1 : Sh tab 9 [y1] := hr.inv_at (i := ty71) rfl rfl 1 rfl (j := ty9) rfl
  obtain ⟨a1, ea1, wa1⟩ := h1.inv_str (i := ty9) rfl rfl
  cases ea1
  have h2 : Sh tab 9 [y2] := hr.inv_at (i := ty71) rfl rfl 2 rfl (j := ty9) rfl
  obtain ⟨a2, ea2, wa2⟩ := h2.inv_str (i := ty9) rfl rfl
  cases ea2
  have h3 : Sh tab 40 [y3] := hr.inv_at (i := ty71) rfl rfl 3 rfl (j := ty40) rfl
  obtain ⟨a3', ea3, wa3⟩ := h3.inv_int (i := ty40) rfl rfl
  obtain ⟨a3, rfl⟩ := by_u32 wa3
  cases ea3
  have h4 : Sh tab 38 [y4] := hr.inv_at (i := ty71) rfl rfl 4 rfl (j := ty38) rfl
  obtain ⟨a4', ea4, wa4⟩ := h4.inv_int (i := ty38) rfl rfl
  obtain ⟨a4, rfl⟩ := by_u16 wa4
  cases ea4
  have h5 : Sh tab 9 [y5] := hr.inv_at (i := ty71) rfl rfl 5 rfl (j := ty9) rfl
  obtain ⟨a5, ea5, wa5⟩ := h5.inv_str (i := ty9) rfl rfl
  cases ea5
  exact ⟨⟨a0, a1, a2, a3, a4, a5⟩, rfl⟩
theorem openS : ∀ r, Sh tab 9 r → ∃ x : L, r = sav x := by
  intro r hr
  obtain ⟨a, e, w⟩ := hr.inv_str (i := ty9) rfl rfl
  exact ⟨a, e⟩
theorem openNdS {c : List AV} (s : Sh tab 27 c) : ∃ n : Nd, c = n.av ∧ n.fits := by
  have lr := (s.inv_st (i := ty27) rfl rfl).1
  obtain ⟨y0, y1, y2, y3, y4, rfl⟩ : ∃ y0 y1 y2 y3 y4, c = [y0, y1, y2, y3, y4] := by
    match c, lr with
    | [y0, y1, y2, y3, y4], _ => exact ⟨_, _, _, _, _, rfl⟩
  have h0 : Sh tab 4 [y0] := s.inv_at (i := ty27) rfl rfl 0 rfl (j := ty4) rfl
  have h1 : Sh tab 22 [y1] := s.inv_at (i := ty27) rfl rfl 1 rfl (j := ty22) rfl
  have h2 : Sh tab 23 [y2] := s.inv_at (i := ty27) rfl rfl 2 rfl (j := ty23) rfl
  have h3 : Sh tab 24 [y3] := s.inv_at (i := ty27) rfl rfl 3 rfl (j := ty24) rfl
  have h4 : Sh tab 25 [y4] := s.inv_at (i := ty27) rfl rfl 4 rfl (j := ty25) rfl
  obtain ⟨b, e0⟩ := h0.inv_bool (i := ty4) rfl rfl
  obtain ⟨r1, e1, w1, q1⟩ := h1.inv_sl (i := ty22) (j := ty87) rfl rfl rfl
  obtain ⟨l1, rfl⟩ := sh_map openPr q1
  obtain ⟨r2, e2, w2, q2⟩ := h2.inv_sl (i := ty23) (j := ty9) rfl rfl rfl
  obtain ⟨l2, rfl⟩ := sh_map openS q2
  obtain ⟨r3, e3, w3, q3⟩ := h3.inv_sl (i := ty24) (j := ty65) rfl rfl rfl
  obtain ⟨l3, rfl⟩ := sh_map openEd q3
  obtain ⟨r4, e4, w4, q4⟩ := h4.inv_sl (i := ty25) (j := ty71) rfl rfl rfl
  obtain ⟨l4, rfl⟩ := sh_map openMs q4
  cases e0; cases e1; cases e2; cases e3; cases e4
  refine ⟨⟨b, l1, l2, l3, l4⟩, rfl, ⟨?_, ?_, ?_, ?_⟩⟩
  · have := w1; rw [List.length_map] at this; exact this
  · have := w2; rw [List.length_map] at this; exact this
  · have := w3; rw [List.length_map] at this; exact this
  · have := w4; rw [List.length_map] at this; exact this
theorem openNd {v : AV} (hv : ShV tab 27 v) : ∃ n : Nd, v = .agg n.av ∧ n.fits := by
  obtain ⟨c, rfl, s⟩ := ShV.inv_st (tab := tab) (t := 27) rfl rfl (by decide) hv
  obtain ⟨n, rfl, f⟩ := openNdS s
  exact ⟨n, rfl, f⟩
/-- The contract, for whatever is handed in. -/
theorem good {v0 : AV} (hs0 : ShV tab 27 v0) {v1 : AV} (hs1 : ShV tab 3 v1) : Mv.Good Try.prog 12 [v0, v1] [] (.b true) [] := by
  obtain ⟨n0, rfl, f0⟩ := openNd hs0
  have sx1 := ShV.inv_one (tab := tab) (t := 3) rfl rfl hs1
  obtain ⟨ax1, ex1, wx1⟩ := sx1.inv_int (i := ty3) rfl rfl
  cases ex1
  exact gLawBegins _ f0 _
set_option maxRecDepth 100000 in
theorem lifted (os : Os) (started : os.Started) (H : Type) (enc : TypeId × Value → H) :
    ReturnsInHanded {} Try.checked os 12 .any (Rows.codecBeginsSpec.pre6 enc Try.prog Try.f12 Rows.codecBeginsRow.domain false) (Rows.codecBeginsSpec.post enc Try.prog Try.f12 false true false false) := by
  refine returnsInHanded_of_change_sized (C := Try.checked) own started (by kernel_rfl) Try.func12
    (ChangeSpec.witness6 (enc := enc) (C := Try.checked) false ⟨#[], #[.agg #[Value.bool false, Value.slice none 0 0, Value.slice none 0 0, Value.slice none 0 0, Value.slice none 0 0], Value.int IntKind.i64 0], []⟩ 8 (by kernel_rfl) (by kernel_rfl) (by kernel_rfl) (by kernel_rfl)) ?_
  intro W base args ds gs before hval0 hW hcnd hsz0 _
  have hval : ∀ (j : Nat) t v, Try.f12.params[j]? = some t → args[j]? = some v → Value.okWide Try.prog W .any base t v := hval0
  have hW' := hW
  obtain ⟨p, q, hA0, hV, rfl, hfz, hnd⟩ := hW
  have hA : DataW.TrodAll enc Try.prog W 0 (fun _ => true) true Try.f12.params.toList args.toList ds p := hA0
  rw [Try.params12] at hA hval
  obtain ⟨v0, vs0, d0, ds0, p0, q0, hargs, rfl, rfl, h0, r0⟩ := trodAll_cons hA
  obtain ⟨v1, vs1, d1, ds1, p1, q1, rfl, rfl, rfl, h1, r1⟩ := trodAll_cons r0
  obtain ⟨rfl, rfl, rfl⟩ := trodAll_nil r1
  obtain rfl : args = #[v0, v1] := by cases args; simp_all
  obtain ⟨rfl, rfl⟩ := trodVars_none hV
  have lt0 : ∀ x ∈ p0, x.block < W.heap.size := by obtain ⟨m, hm⟩ := h0; exact DataW.trod_lt m _ _ _ hm
  obtain ⟨c0, rep0, sh0⟩ := open_val tabOk (t := 27) (by kernel_rfl) (hval 0 27 v0 rfl rfl) h0
  have lt1 : ∀ x ∈ p1, x.block < W.heap.size := by obtain ⟨m, hm⟩ := h1; exact DataW.trod_lt m _ _ _ hm
  obtain ⟨c1, rep1, sh1⟩ := open_val tabOk (t := 3) (by kernel_rfl) (hval 1 3 v1 rfl rfl) h1
  refine ((good sh0 sh1).law (W := W) (vs := [v0, v1]) (RepL.cons rep0 (RepL.cons rep1 RepL.nil))).mono fun e W' ⟨he, bel⟩ => ?_
  subst he
  exact ⟨_, rfl, _, _, _, [], _, [], hW', trodAll_mk1 (shut_bool Try.underlying4 _), (trodAll_cons_mk (Below.trod laidOut (by kernel_rfl) (of_decide_eq_true (by kernel_rfl)) h0 bel lt0) (trodAll_cons_mk (Below.trod laidOut (by kernel_rfl) (of_decide_eq_true (by kernel_rfl)) h1 bel lt1) trodAll_mk0)), rfl, bel.frame _, fun h => by cases h⟩
theorem over : Rows.codecBeginsRow.holds Try.pinned (OpenSpec.ofChange Rows.codecBeginsSpec) :=
  OpenClaim.holds_of_wide 12 Try.f12 rfl rfl rfl rfl rfl rfl rfl ⟨rfl, rfl, rfl, rfl, rfl⟩ rfl rfl rfl rfl rfl (by kernel_rfl) Try.func12 (by kernel_rfl)
    (of_decide_eq_true (by kernel_rfl)) (by unfold Func.isWrapper; first | (rw [if_pos (by decide +kernel)]; kernel_rfl) | (rw [if_neg (by decide +kernel)]; exact ⟨rfl, rfl⟩))
    (fun os started H enc _ => lifted os started H enc)
end Go.Proofs.Ytmfonbehcfjjgaa.codecBegins
namespace Go.Proofs.Ytmfonbehcfjjgaa
/-- The statement. -/
theorem codecBegins_holds : Rows.CodecBeginsSaid := codecBegins.over
#print axioms codecBegins_holds
end Go.Proofs.Ytmfonbehcfjjgaa

