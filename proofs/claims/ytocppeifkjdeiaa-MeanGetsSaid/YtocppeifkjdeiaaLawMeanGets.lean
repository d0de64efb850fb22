/- 'MeanGets': for every input it answers true, and the input reads as it did. Under no condition. -/
import Derived.Test.YtocppeifkjdeiaaRows
import Derived.Test.YtocppeifkjdeiaaMMeanGets15
import Derived.WalkKit
import Derived.ProofKit
import Derived.OpenShut
import Derived.ShutString
import Derived.ChangeOld
import Derived.Below
import Derived.SizedLaws
namespace Go.Proofs.Ytocppeifkjdeiaa.meanGets
open Go.Proofs.Ytocppeifkjdeiaa.Mv Go.ChangeShapes Go.WideShapes Go.ChangeAt Go.RowKit
set_option linter.unusedVariables false
set_option linter.unusedSimpArgs false
theorem own : ownKnob Try.prog.godebug = none := by kernel_rfl
theorem laidOut : laidOutB Try.prog = true := by kernel_rfl
/-- The contract, for whatever is handed in. -/
theorem good {v0 : AV} (hs0 : ShV tab 84 v0) {v1 : AV} (hs1 : ShV tab 46 v1) {v2 : AV} (hs2 : ShV tab 9 v2) : Mv.Good Try.prog 10 [v0, v1, v2] [] (.b true) [] := by
  have sx0 := ShV.inv_one (tab := tab) (t := 84) rfl rfl hs0
  obtain ⟨ax0, ex0, wx0, rx0⟩ := sx0.inv_sl (i := ty84) (j := ty120) rfl rfl rfl
  cases ex0
  have sx1 := ShV.inv_one (tab := tab) (t := 46) rfl rfl hs1
  obtain ⟨ax1, ex1, wx1⟩ := sx1.inv_int (i := ty46) rfl rfl
  cases ex1
  have sx2 := ShV.inv_one (tab := tab) (t := 9) rfl rfl hs2
  obtain ⟨ax2, ex2, wx2⟩ := sx2.inv_str (i := ty9) rfl rfl
  cases ex2
  exact by obtain ⟨l, rfl, hfl⟩ := sh_mapP openIm rx0; obtain ⟨b, rfl⟩ := by_u32 wx1; exact gLawGets l (by have := wx0; rw [List.length_map] at this; exact this) hfl b _
set_option maxRecDepth 100000 in
theorem lifted (os : Os) (started : os.Started) (H : Type) (enc : TypeId × Value → H) :
    ReturnsInHanded {} Try.checked os 10 .any (Rows.meanGetsSpec.pre6 enc Try.prog Try.f10 Rows.meanGetsRow.domain false) (Rows.meanGetsSpec.post enc Try.prog Try.f10 false true false false) := by
  refine returnsInHanded_of_change_sized (C := Try.checked) own started (by kernel_rfl) Try.func10
    (ChangeSpec.witness6 (enc := enc) (C := Try.checked) false ⟨#[], #[Value.slice none 0 0, Value.int IntKind.u32 0, Value.string ⟨#[]⟩], []⟩ 8 (by kernel_rfl) (by kernel_rfl) (by kernel_rfl) (by kernel_rfl)) ?_
  intro W base args ds gs before hval0 hW hcnd hsz0 _
  have hval : ∀ (j : Nat) t v, Try.f10.params[j]? = some t → args[j]? = some v → Value.okWide Try.prog W .any base t v := hval0
  have hW' := hW
  obtain ⟨p, q, hA0, hV, rfl, hfz, hnd⟩ := hW
  have hA : DataW.TrodAll enc Try.prog W 0 (fun _ => true) true Try.f10.params.toList args.toList ds p := hA0
  rw [Try.params10] at hA hval
  obtain ⟨v0, vs0, d0, ds0, p0, q0, hargs, rfl, rfl, h0, r0⟩ := trodAll_cons hA
  obtain ⟨v1, vs1, d1, ds1, p1, q1, rfl, rfl, rfl, h1, r1⟩ := trodAll_cons r0
  obtain ⟨v2, vs2, d2, ds2, p2, q2, rfl, rfl, rfl, h2, r2⟩ := trodAll_cons r1
  obtain ⟨rfl, rfl, rfl⟩ := trodAll_nil r2
  obtain rfl : args = #[v0, v1, v2] := by cases args; simp_all
  obtain ⟨rfl, rfl⟩ := trodVars_none hV
  have lt0 : ∀ x ∈ p0, x.block < W.heap.size := by obtain ⟨m, hm⟩ := h0; exact DataW.trod_lt m _ _ _ hm
  obtain ⟨c0, rep0, sh0⟩ := open_val tabOk (t := 84) (by kernel_rfl) (hval 0 84 v0 rfl rfl) h0
  have lt1 : ∀ x ∈ p1, x.block < W.heap.size := by obtain ⟨m, hm⟩ := h1; exact DataW.trod_lt m _ _ _ hm
  obtain ⟨c1, rep1, sh1⟩ := open_val tabOk (t := 46) (by kernel_rfl) (hval 1 46 v1 rfl rfl) h1
  have lt2 : ∀ x ∈ p2, x.block < W.heap.size := by obtain ⟨m, hm⟩ := h2; exact DataW.trod_lt m _ _ _ hm
  obtain ⟨c2, rep2, sh2⟩ := open_val tabOk (t := 9) (by kernel_rfl) (hval 2 9 v2 rfl rfl) h2
  refine ((good sh0 sh1 sh2).law (W := W) (vs := [v0, v1, v2]) (RepL.cons rep0 (RepL.cons rep1 (RepL.cons rep2 RepL.nil)))).mono fun e W' ⟨he, bel⟩ => ?_
  subst he
  exact ⟨_, rfl, _, _, _, [], _, [], hW', trodAll_mk1 (shut_bool Try.underlying4 _), (trodAll_cons_mk (Below.trod laidOut (by kernel_rfl) (of_decide_eq_true (by kernel_rfl)) h0 bel lt0) (trodAll_cons_mk (Below.trod laidOut (by kernel_rfl) (of_decide_eq_true (by kernel_rfl)) h1 bel lt1) (trodAll_cons_mk (Below.trod laidOut (by kernel_rfl) (of_decide_eq_true (by kernel_rfl)) h2 bel lt2) trodAll_mk0))), rfl, bel.frame _, fun h => by cases h⟩
theorem over : Rows.meanGetsRow.holds Try.pinned (OpenSpec.ofChange Rows.meanGetsSpec) :=
  OpenClaim.holds_of_wide 10 Try.f10 rfl rfl rfl rfl rfl rfl rfl ⟨rfl, rfl, rfl, rfl, rfl⟩ rfl rfl rfl rfl rfl (by kernel_rfl) Try.func10 (by kernel_rfl)
    (of_decide_eq_true (by kernel_rfl)) (by unfold Func.isWrapper; first | (rw [if_pos (by decide +kernel)]; kernel_rfl) | (rw [if_neg (by decide +kernel)]; exact ⟨rfl, rfl⟩))
    (fun os started H enc _ => lifted os started H enc)
end Go.Proofs.Ytocppeifkjdeiaa.meanGets
namespace Go.Proofs.Ytocppeifkjdeiaa
/-- The statement. -/
theorem meanGets_holds : Rows.MeanGetsSaid := meanGets.over
#print axioms meanGets_holds
end Go.Proofs.Ytocppeifkjdeiaa

