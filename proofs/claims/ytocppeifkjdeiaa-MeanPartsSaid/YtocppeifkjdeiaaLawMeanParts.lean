/- 'MeanParts': for every input it answers true, and the input reads as it did. Under no condition. -/
import Derived.Test.YtocppeifkjdeiaaRows
import Derived.Test.YtocppeifkjdeiaaMMeanParts14
import Derived.WalkKit
import Derived.ProofKit
import Derived.OpenShut
import Derived.ShutString
import Derived.ChangeOld
import Derived.Below
import Derived.SizedLaws
namespace Go.Proofs.Ytocppeifkjdeiaa.meanParts
open Go.Proofs.Ytocppeifkjdeiaa.Mv Go.ChangeShapes Go.WideShapes Go.ChangeAt Go.RowKit
set_option linter.unusedVariables false
set_option linter.unusedSimpArgs false
theorem own : ownKnob Try.prog.godebug = none := by kernel_rfl
theorem laidOut : laidOutB Try.prog = true := by kernel_rfl
/-- The contract, for whatever is handed in. -/
theorem good {v0 : AV} (hs0 : ShV tab 84 v0) {v1 : AV} (hs1 : ShV tab 46 v1) {v2 : AV} (hs2 : ShV tab 31 v2) {v3 : AV} (hs3 : ShV tab 9 v3) {v4 : AV} (hs4 : ShV tab 3 v4) : Mv.Good Try.prog 14 [v0, v1, v2, v3, v4] [] (.b true) [] := by
  have sx0 := ShV.inv_one (tab := tab) (t := 84) rfl rfl hs0
  obtain ⟨ax0, ex0, wx0, rx0⟩ := sx0.inv_sl (i := ty84) (j := ty120) rfl rfl rfl
  cases ex0
  have sx1 := ShV.inv_one (tab := tab) (t := 46) rfl rfl hs1
  obtain ⟨ax1, ex1, wx1⟩ := sx1.inv_int (i := ty46) rfl rfl
  cases ex1
  obtain ⟨cx2, rfl, sx2⟩ := ShV.inv_st (tab := tab) (t := 31) rfl rfl (by decide) hs2
  have lx2 := (sx2.inv_st (i := ty31) rfl rfl).1
  obtain ⟨yx2_0, yx2_1, yx2_2, rfl⟩ : ∃ yx2_0 yx2_1 yx2_2, cx2 = [yx2_0, yx2_1, yx2_2] := by
    match cx2, lx2 with
    | [yx2_0, yx2_1, yx2_2], _ => exact ⟨_, _, _, rfl⟩
  have hx2_0 : Sh tab 9 [yx2_0] := sx2.inv_at (i := ty31) rfl rfl 0 rfl (j := ty9) rfl
  obtain ⟨ax3, ex3, wx3⟩ := hx2_0.inv_str (i := ty9) rfl rfl
  cases ex3
  have hx2_1 : Sh tab 9 [yx2_1] := sx2.inv_at (i := ty31) rfl rfl 1 rfl (j := ty9) rfl
  obtain ⟨ax4, ex4, wx4⟩ := hx2_1.inv_str (i := ty9) rfl rfl
  cases ex4
  have hx2_2 : Sh tab 4 [yx2_2] := sx2.inv_at (i := ty31) rfl rfl 2 rfl (j := ty4) rfl
  obtain ⟨ax5, ex5⟩ := hx2_2.inv_bool (i := ty4) rfl rfl
  cases ex5
  have sx6 := ShV.inv_one (tab := tab) (t := 9) rfl rfl hs3
  obtain ⟨ax6, ex6, wx6⟩ := sx6.inv_str (i := ty9) rfl rfl
  cases ex6
  have sx7 := ShV.inv_one (tab := tab) (t := 3) rfl rfl hs4
  obtain ⟨ax7, ex7, wx7⟩ := sx7.inv_int (i := ty3) rfl rfl
  cases ex7
  exact by obtain ⟨l, rfl, hfl⟩ := sh_mapP openIm rx0; obtain ⟨b, rfl⟩ := by_u32 wx1; exact gLawMParts l (by have := wx0; rw [List.length_map] at this; exact this) hfl b _ _ _ _ _ (wf_i64 wx7)
set_option maxRecDepth 100000 in
theorem lifted (os : Os) (started : os.Started) (H : Type) (enc : TypeId × Value → H) :
    ReturnsInHanded {} Try.checked os 14 .any (Rows.meanPartsSpec.pre6 enc Try.prog Try.f14 Rows.meanPartsRow.domain false) (Rows.meanPartsSpec.post enc Try.prog Try.f14 false true false false) := by
  refine returnsInHanded_of_change_sized (C := Try.checked) own started (by kernel_rfl) Try.func14
    (ChangeSpec.witness6 (enc := enc) (C := Try.checked) false ⟨#[], #[Value.slice none 0 0, Value.int IntKind.u32 0, .agg #[Value.string ⟨#[]⟩, Value.string ⟨#[]⟩, Value.bool false], Value.string ⟨#[]⟩, Value.int IntKind.i64 0], []⟩ 8 (by kernel_rfl) (by kernel_rfl) (by kernel_rfl) (by kernel_rfl)) ?_
  intro W base args ds gs before hval0 hW hcnd hsz0 _
  have hval : ∀ (j : Nat) t v, Try.f14.params[j]? = some t → args[j]? = some v → Value.okWide Try.prog W .any base t v := hval0
  have hW' := hW
  obtain ⟨p, q, hA0, hV, rfl, hfz, hnd⟩ := hW
  have hA : DataW.TrodAll enc Try.prog W 0 (fun _ => true) true Try.f14.params.toList args.toList ds p := hA0
  rw [Try.params14] at hA hval
  obtain ⟨v0, vs0, d0, ds0, p0, q0, hargs, rfl, rfl, h0, r0⟩ := trodAll_cons hA
  obtain ⟨v1, vs1, d1, ds1, p1, q1, rfl, rfl, rfl, h1, r1⟩ := trodAll_cons r0
  obtain ⟨v2, vs2, d2, ds2, p2, q2, rfl, rfl, rfl, h2, r2⟩ := trodAll_cons r1
  obtain ⟨v3, vs3, d3, ds3, p3, q3, rfl, rfl, rfl, h3, r3⟩ := trodAll_cons r2
  obtain ⟨v4, vs4, d4, ds4, p4, q4, rfl, rfl, rfl, h4, r4⟩ := trodAll_cons r3
  obtain ⟨rfl, rfl, rfl⟩ := trodAll_nil r4
  obtain rfl : args = #[v0, v1, v2, v3, v4] := by cases args; simp_all
  obtain ⟨rfl, rfl⟩ := trodVars_none hV
  have lt0 : ∀ x ∈ p0, x.block < W.heap.size := by obtain ⟨m, hm⟩ := h0; exact DataW.trod_lt m _ _ _ hm
  obtain ⟨c0, rep0, sh0⟩ := open_val tabOk (t := 84) (by kernel_rfl) (hval 0 84 v0 rfl rfl) h0
  have lt1 : ∀ x ∈ p1, x.block < W.heap.size := by obtain ⟨m, hm⟩ := h1; exact DataW.trod_lt m _ _ _ hm
  obtain ⟨c1, rep1, sh1⟩ := open_val tabOk (t := 46) (by kernel_rfl) (hval 1 46 v1 rfl rfl) h1
  have lt2 : ∀ x ∈ p2, x.block < W.heap.size := by obtain ⟨m, hm⟩ := h2; exact DataW.trod_lt m _ _ _ hm
  obtain ⟨c2, rep2, sh2⟩ := open_val tabOk (t := 31) (by kernel_rfl) (hval 2 31 v2 rfl rfl) h2
  have lt3 : ∀ x ∈ p3, x.block < W.heap.size := by obtain ⟨m, hm⟩ := h3; exact DataW.trod_lt m _ _ _ hm
  obtain ⟨c3, rep3, sh3⟩ := open_val tabOk (t := 9) (by kernel_rfl) (hval 3 9 v3 rfl rfl) h3
  have lt4 : ∀ x ∈ p4, x.block < W.heap.size := by obtain ⟨m, hm⟩ := h4; exact DataW.trod_lt m _ _ _ hm
  obtain ⟨c4, rep4, sh4⟩ := open_val tabOk (t := 3) (by kernel_rfl) (hval 4 3 v4 rfl rfl) h4
  refine ((good sh0 sh1 sh2 sh3 sh4).law (W := W) (vs := [v0, v1, v2, v3, v4]) (RepL.cons rep0 (RepL.cons rep1 (RepL.cons rep2 (RepL.cons rep3 (RepL.cons rep4 RepL.nil)))))).mono fun e W' ⟨he, bel⟩ => ?_
  subst he
  exact ⟨_, rfl, _, _, _, [], _, [], hW', trodAll_mk1 (shut_bool Try.underlying4 _), (trodAll_cons_mk (Below.trod laidOut (by kernel_rfl) (of_decide_eq_true (by kernel_rfl)) h0 bel lt0) (trodAll_cons_mk (Below.trod laidOut (by kernel_rfl) (of_decide_eq_true (by kernel_rfl)) h1 bel lt1) (trodAll_cons_mk (Below.trod laidOut (by kernel_rfl) (of_decide_eq_true (by kernel_rfl)) h2 bel lt2) (trodAll_cons_mk (Below.trod laidOut (by kernel_rfl) (of_decide_eq_true (by kernel_rfl)) h3 bel lt3) (trodAll_cons_mk (Below.trod laidOut (by kernel_rfl) (of_decide_eq_true (by kernel_rfl)) h4 bel lt4) trodAll_mk0))))), rfl, bel.frame _, fun h => by cases h⟩
theorem over : Rows.meanPartsRow.holds Try.pinned (OpenSpec.ofChange Rows.meanPartsSpec) :=
  OpenClaim.holds_of_wide 14 Try.f14 rfl rfl rfl rfl rfl rfl rfl ⟨rfl, rfl, rfl, rfl, rfl⟩ rfl rfl rfl rfl rfl (by kernel_rfl) Try.func14 (by kernel_rfl)
    (of_decide_eq_true (by kernel_rfl)) (by unfold Func.isWrapper; first | (rw [if_pos (by decide +kernel)]; kernel_rfl) | (rw [if_neg (by decide +kernel)]; exact ⟨rfl, rfl⟩))
    (fun os started H enc _ => lifted os started H enc)
end Go.Proofs.Ytocppeifkjdeiaa.meanParts
namespace Go.Proofs.Ytocppeifkjdeiaa
/-- The statement. -/
theorem meanParts_holds : Rows.MeanPartsSaid := meanParts.over
#print axioms meanParts_holds
end Go.Proofs.Ytocppeifkjdeiaa

