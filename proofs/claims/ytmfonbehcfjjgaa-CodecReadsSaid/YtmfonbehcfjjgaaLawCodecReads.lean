/- 'CodecReads': for every input it answers true, and the input reads as it did. Under no condition. -/
import Derived.Test.YtmfonbehcfjjgaaRows
import Derived.Test.YtmfonbehcfjjgaaMCodecReads13
import Derived.WalkKit
import Derived.ProofKit
import Derived.OpenShut
import Derived.ShutString
import Derived.ChangeOld
import Derived.Below
import Derived.SizedLaws
namespace Go.Proofs.Ytmfonbehcfjjgaa.codecReads
open Go.Proofs.Ytmfonbehcfjjgaa.Mv Go.ChangeShapes Go.WideShapes Go.ChangeAt Go.RowKit
set_option linter.unusedVariables false
set_option linter.unusedSimpArgs false
theorem own : ownKnob Try.prog.godebug = none := by kernel_rfl
theorem laidOut : laidOutB Try.prog = true := by kernel_rfl
/-- The contract, for whatever is handed in. -/
theorem good {v0 : AV} (hs0 : ShV tab 53 v0) : Mv.Good Try.prog 11 [v0] [] (.b true) [] := by
  have sx0 := ShV.inv_one (tab := tab) (t := 53) rfl rfl hs0
  obtain ⟨ax0, ex0, wx0, rx0⟩ := sx0.inv_sl (i := ty53) (j := ty5) rfl rfl rfl
  cases ex0
  exact by obtain ⟨a, rfl⟩ := sh_BS (tab := tab) (i := ty5) rfl rfl rx0; exact gLawReadsC _
set_option maxRecDepth 100000 in
theorem lifted (os : Os) (started : os.Started) (H : Type) (enc : TypeId × Value → H) :
    ReturnsInHanded {} Try.checked os 11 .any (Rows.codecReadsSpec.pre6 enc Try.prog Try.f11 Rows.codecReadsRow.domain false) (Rows.codecReadsSpec.post enc Try.prog Try.f11 false true false false) := by
  refine returnsInHanded_of_change_sized (C := Try.checked) own started (by kernel_rfl) Try.func11
    (ChangeSpec.witness6 (enc := enc) (C := Try.checked) false ⟨#[], #[Value.slice none 0 0], []⟩ 8 (by kernel_rfl) (by kernel_rfl) (by kernel_rfl) (by kernel_rfl)) ?_
  intro W base args ds gs before hval0 hW hcnd hsz0 _
  have hval : ∀ (j : Nat) t v, Try.f11.params[j]? = some t → args[j]? = some v → Value.okWide Try.prog W .any base t v := hval0
  have hW' := hW
  obtain ⟨p, q, hA0, hV, rfl, hfz, hnd⟩ := hW
  have hA : DataW.TrodAll enc Try.prog W 0 (fun _ => true) true Try.f11.params.toList args.toList ds p := hA0
  rw [Try.params11] at hA hval
  obtain ⟨v0, vs0, d0, ds0, p0, q0, hargs, rfl, rfl, h0, r0⟩ := trodAll_cons hA
  obtain ⟨rfl, rfl, rfl⟩ := trodAll_nil r0
  obtain rfl : args = #[v0] := by cases args; simp_all
  obtain ⟨rfl, rfl⟩ := trodVars_none hV
  have lt0 : ∀ x ∈ p0, x.block < W.heap.size := by obtain ⟨m, hm⟩ := h0; exact DataW.trod_lt m _ _ _ hm
  obtain ⟨c0, rep0, sh0⟩ := open_val tabOk (t := 53) (by kernel_rfl) (hval 0 53 v0 rfl rfl) h0
  refine ((good sh0).law (W := W) (vs := [v0]) (RepL.cons rep0 RepL.nil)).mono fun e W' ⟨he, bel⟩ => ?_
  subst he
  exact ⟨_, rfl, _, _, _, [], _, [], hW', trodAll_mk1 (shut_bool Try.underlying4 _), (trodAll_cons_mk (Below.trod laidOut (by kernel_rfl) (of_decide_eq_true (by kernel_rfl)) h0 bel lt0) trodAll_mk0), rfl, bel.frame _, fun h => by cases h⟩
theorem over : Rows.codecReadsRow.holds Try.pinned (OpenSpec.ofChange Rows.codecReadsSpec) :=
  OpenClaim.holds_of_wide 11 Try.f11 rfl rfl rfl rfl rfl rfl rfl ⟨rfl, rfl, rfl, rfl, rfl⟩ rfl rfl rfl rfl rfl (by kernel_rfl) Try.func11 (by kernel_rfl)
    (of_decide_eq_true (by kernel_rfl)) (by unfold Func.isWrapper; first | (rw [if_pos (by decide +kernel)]; kernel_rfl) | (rw [if_neg (by decide +kernel)]; exact ⟨rfl, rfl⟩))
    (fun os started H enc _ => lifted os started H enc)
end Go.Proofs.Ytmfonbehcfjjgaa.codecReads
namespace Go.Proofs.Ytmfonbehcfjjgaa
/-- The statement. -/
theorem codecReads_holds : Rows.CodecReadsSaid := codecReads.over
#print axioms codecReads_holds
end Go.Proofs.Ytmfonbehcfjjgaa

