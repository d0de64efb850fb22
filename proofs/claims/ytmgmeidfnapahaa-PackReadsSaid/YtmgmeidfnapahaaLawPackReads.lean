/- 'PackReads': for every input it answers true, and the input reads as it did. Under no condition. -/
import Derived.Test.YtmgmeidfnapahaaRows
import Derived.Test.YtmgmeidfnapahaaMPackReads12
import Derived.WalkKit
import Derived.ProofKit
import Derived.OpenShut
import Derived.ShutString
import Derived.ChangeOld
import Derived.Below
import Derived.SizedLaws
namespace Go.Proofs.Ytmgmeidfnapahaa.packReads
open Go.Proofs.Ytmgmeidfnapahaa.Mv Go.ChangeShapes Go.WideShapes Go.ChangeAt Go.RowKit
set_option linter.unusedVariables false
set_option linter.unusedSimpArgs false
theorem own : ownKnob Try.prog.godebug = none := by kernel_rfl
theorem laidOut : laidOutB Try.prog = true := by kernel_rfl
/-- The contract, for whatever is handed in. -/
theorem good {v0 : AV} (hs0 : ShV tab 22 v0) {v1 : AV} (hs1 : ShV tab 51 v1) : Mv.Good Try.prog 10 [v0, v1] [] (.b true) [] := by
  have sx0 := ShV.inv_one (tab := tab) (t := 22) rfl rfl hs0
  obtain ⟨ax0, ex0, wx0, rx0⟩ := sx0.inv_sl (i := ty22) (j := ty5) rfl rfl rfl
  cases ex0
  have sx1 := ShV.inv_one (tab := tab) (t := 51) rfl rfl hs1
  obtain ⟨ax1, ex1, wx1, rx1⟩ := sx1.inv_sl (i := ty51) (j := ty55) rfl rfl rfl
  cases ex1
  exact by obtain ⟨a, rfl⟩ := sh_BS (tab := tab) (i := ty5) rfl rfl rx0; obtain ⟨l, rfl⟩ := sh_map openSp rx1; exact gLawReads _ _
set_option maxRecDepth 100000 in
theorem lifted (os : Os) (started : os.Started) (H : Type) (enc : TypeId × Value → H) :
    ReturnsInHanded {} Try.checked os 10 .any (Rows.packReadsSpec.pre6 enc Try.prog Try.f10 Rows.packReadsRow.domain false) (Rows.packReadsSpec.post enc Try.prog Try.f10 false true false false) := by
  refine returnsInHanded_of_change_sized (C := Try.checked) own started (by kernel_rfl) Try.func10
    (ChangeSpec.witness6 (enc := enc) (C := Try.checked) false ⟨#[], #[Value.slice none 0 0, Value.slice none 0 0], []⟩ 8 (by kernel_rfl) (by kernel_rfl) (by kernel_rfl) (by kernel_rfl)) ?_
  intro W base args ds gs before hval0 hW hcnd hsz0 _
  have hval : ∀ (j : Nat) t v, Try.f10.params[j]? = some t → args[j]? = some v → Value.okWide Try.prog W .any base t v := hval0
  have hW' := hW
  obtain ⟨p, q, hA0, hV, rfl, hfz, hnd⟩ := hW
  have hA : DataW.TrodAll enc Try.prog W 0 (fun _ => true) true Try.f10.params.toList args.toList ds p := hA0
  rw [Try.params10] at hA hval
  obtain ⟨v0, vs0, d0, ds0, p0, q0, hargs, rfl, rfl, h0, r0⟩ := trodAll_cons hA
  obtain ⟨v1, vs1, d1, ds1, p1, q1, rfl, rfl, rfl, h1, r1⟩ := trodAll_cons r0
  obtain ⟨rfl, rfl, rfl⟩ := trodAll_nil r1
  obtain rfl : args = #[v0, v1] := by cases args; simp_all
  obtain ⟨rfl, rfl⟩ := trodVars_none hV
  have lt0 : ∀ x ∈ p0, x.block < W.heap.size := by obtain ⟨m, hm⟩ := h0; exact DataW.trod_lt m _ _ _ hm
  obtain ⟨c0, rep0, sh0⟩ := open_val tabOk (t := 22) (by kernel_rfl) (hval 0 22 v0 rfl rfl) h0
  have lt1 : ∀ x ∈ p1, x.block < W.heap.size := by obtain ⟨m, hm⟩ := h1; exact DataW.trod_lt m _ _ _ hm
  obtain ⟨c1, rep1, sh1⟩ := open_val tabOk (t := 51) (by kernel_rfl) (hval 1 51 v1 rfl rfl) h1
  refine ((good sh0 sh1).law (W := W) (vs := [v0, v1]) (RepL.cons rep0 (RepL.cons rep1 RepL.nil))).mono fun e W' ⟨he, bel⟩ => ?_
  subst he
  exact ⟨_, rfl, _, _, _, [], _, [], hW', trodAll_mk1 (shut_bool Try.underlying4 _), (trodAll_cons_mk (Below.trod laidOut (by kernel_rfl) (of_decide_eq_true (by kernel_rfl)) h0 bel lt0) (trodAll_cons_mk (Below.trod laidOut (by kernel_rfl) (of_decide_eq_true (by kernel_rfl)) h1 bel lt1) trodAll_mk0)), rfl, bel.frame _, fun h => by cases h⟩
theorem over : Rows.packReadsRow.holds Try.pinned (OpenSpec.ofChange Rows.packReadsSpec) :=
  OpenClaim.holds_of_wide 10 Try.f10 rfl rfl rfl rfl rfl rfl rfl ⟨rfl, rfl, rfl, rfl, rfl⟩ rfl rfl rfl rfl rfl (by kernel_rfl) Try.func10 (by kernel_rfl)
    (of_decide_eq_true (by kernel_rfl)) (by unfold Func.isWrapper; first | (rw [if_pos (by decide +kernel)]; kernel_rfl) | (rw [if_neg (by decide +kernel)]; exact ⟨rfl, rfl⟩))
    (fun os started H enc _ => lifted os started H enc)
end Go.Proofs.Ytmgmeidfnapahaa.packReads
namespace Go.Proofs.Ytmgmeidfnapahaa
/-- The statement. -/
theorem packReads_holds : Rows.PackReadsSaid := packReads.over
#print axioms packReads_holds
end Go.Proofs.Ytmgmeidfnapahaa

