/- A node trimmed: walks of the code. Under no condition. -/
import Derived.Test.YtocppeifkjdeiaaTrimB
namespace Go.Proofs.Ytocppeifkjdeiaa.Mv
open Go Go.Proofs
set_option linter.unusedSimpArgs false
set_option linter.unusedVariables false
set_option maxRecDepth 10000
set_option maxHeartbeats 4000000
attribute [local irreducible] AW AO AR

theorem gTrimPrefix1 (k p : L) : Good Try.prog 131 [.s k, .s p] [] (.s (cutS k p)) [] := by
  refine Good.w tabOk mixed Try.func131 (N := 13) (by kernel_rfl) rfl (by (repeat (first | exact LE.nil | apply LE.cons)); done) (by (repeat (first | exact LE.nil | apply LE.cons)); done) fun D hD F => ?_
  repeat' (first
    | apply AO.nil
    | (apply AO.kCall 130; refine AO.sCall (hg := (gHasPrefix' _ _)) (h := ?_))
    | (apply AO.kBuildS; first | refine AO.sBuildT (h := ?_) | refine AO.sBuildS (h := ?_))
    | (apply AO.kApp; first | refine AO.sGrowT (h := ?_) | refine AO.sNewT (h := ?_) | refine AO.sGrowBT (h := ?_) | refine AO.sGrow (h := ?_) | refine AO.sNewr (h := ?_))
    | (apply AO.kIx; first | refine AO.sIxN (hm := by first | decide | omega | (have q := hp_len ‹hp k p = true›; (try refine ⟨?_, ?_⟩) <;> omega)) (h := ?_) | refine AO.sIx (hm := by first | decide | omega | (have q := hp_len ‹hp k p = true›; (try refine ⟨?_, ?_⟩) <;> omega)) (h := ?_) | refine AO.sP (h := ?_) | refine AO.sPi (hq := by first | decide | omega | (have q := hp_len ‹hp k p = true›; (try refine ⟨?_, ?_⟩) <;> omega)) (h := ?_))
    | (apply AO.kSl; first | refine AO.sSl (hq := by first | decide | omega | (have q := hp_len ‹hp k p = true›; (try refine ⟨?_, ?_⟩) <;> omega)) (h := ?_) | refine AO.sSlArr (h := ?_) | refine AO.sP (h := ?_))
    | (apply AO.kBox; refine AO.sBox (h := ?_))
    | (apply AO.kAlloc; refine AO.sAlloc (h := ?_))
    | (apply AO.kStore; first | refine AO.sStore (h := ?_) | refine AO.sStB (ho := by first | decide | omega | (have q := hp_len ‹hp k p = true›; (try refine ⟨?_, ?_⟩) <;> omega)) (h := ?_))
    | (apply AO.kAdd; refine AO.sAdd (hr := by first | decide | omega | (have q := hp_len ‹hp k p = true›; (try refine ⟨?_, ?_⟩) <;> omega)) (h := ?_))
    | (apply AO.kSub; refine AO.sSub (hr := by first | decide | omega | (have q := hp_len ‹hp k p = true›; (try refine ⟨?_, ?_⟩) <;> omega)) (h := ?_))
    | (apply AO.kCv; first | refine AO.sBytes (h := ?_) | refine AO.sStr (h := ?_) | refine AO.sStrR (h := ?_))
    | (apply AO.kP; first | refine AO.sP (h := ?_) | refine AO.sPi (hq := by first | decide | omega | (have q := hp_len ‹hp k p = true›; (try refine ⟨?_, ?_⟩) <;> omega)) (h := ?_) | refine AO.sLoadB (ho := by first | decide | omega | (have q := hp_len ‹hp k p = true›; (try refine ⟨?_, ?_⟩) <;> omega)) (h := ?_) | refine AO.sSameB (h := ?_) | refine AO.sMk0 (h := ?_) | refine AO.sArrB (h := ?_) | refine AO.sLoadA (h := ?_) | refine AO.sEqArr (heg := eqgArr) (h := ?_))
    | (apply AO.kP; refine AO.eqNil (h1 := fun h => ?_) (h2 := ?_))
    | apply AW.seq
    | (apply AW.kR; refine AW.sR (h := ?_))
    | apply AW.skip
    | apply AW.block
    | apply AW.out
    | (apply AW.kE; refine AW.sE (h := ?_))
    | apply AW.label
    | (apply AW.kRd; refine AW.sRd (h := ?_))
    | ((first | (apply AO.kG; first | refine AO.sgt (h1 := fun h => ?_) (h2 := fun h => ?_) | refine AO.sgf (h1 := fun h => ?_) (h2 := fun h => ?_) | refine AO.sgs (h := ?_)) | (apply AW.kC; refine AW.sC (h1 := fun h => ?_) (h2 := fun h => ?_)) | (apply AR.kAny; apply AR.kG; first | refine AR.sgt (h1 := fun h => ?_) (h2 := fun h => ?_) | refine AR.sgf (h1 := fun h => ?_) (h2 := fun h => ?_) | refine AR.sgs (h := ?_))) <;> (try (first | exact Bool.noConfusion h | exact absurd h (by decide) | (simp at h; done) | (rw [h]; try simp only [decide_eq_true_eq, decide_eq_false_iff_not, Int.not_lt, Int.not_le, ge_iff_le, gt_iff_lt, Bool.not_eq_true', Bool.not_eq_false', beq_iff_eq, beq_eq_false_iff_ne, ne_eq] at h; try rw [h]; try (exfalso; omega)) | skip)))
    | (apply AR.kAny; first | (apply AR.kCall 130; refine AR.sCall (hg := (gHasPrefix' _ _)) (h := ?_)) | (apply AR.kBuildS; first | refine AR.sBuildT (h := ?_) | refine AR.sBuildS (h := ?_)) | (apply AR.kApp; first | refine AR.sGrowT (h := ?_) | refine AR.sNewT (h := ?_) | refine AR.sGrowBT (h := ?_) | refine AR.sGrow (h := ?_) | refine AR.sNewr (h := ?_)) | (apply AR.kIx; first | refine AR.sIxN (hm := by first | decide | omega | (have q := hp_len ‹hp k p = true›; (try refine ⟨?_, ?_⟩) <;> omega)) (h := ?_) | refine AR.sIx (hm := by first | decide | omega | (have q := hp_len ‹hp k p = true›; (try refine ⟨?_, ?_⟩) <;> omega)) (h := ?_) | refine AR.sP (h := ?_) | refine AR.sPi (hq := by first | decide | omega | (have q := hp_len ‹hp k p = true›; (try refine ⟨?_, ?_⟩) <;> omega)) (h := ?_)) | (apply AR.kSl; first | refine AR.sSl (hq := by first | decide | omega | (have q := hp_len ‹hp k p = true›; (try refine ⟨?_, ?_⟩) <;> omega)) (h := ?_) | refine AR.sSlArr (h := ?_) | refine AR.sP (h := ?_)) | (apply AR.kBox; refine AR.sBox (h := ?_)) | (apply AR.kAlloc; refine AR.sAlloc (h := ?_)) | (apply AR.kStore; refine AR.sStore (h := ?_)) | (apply AR.kAdd; refine AR.sAdd (hr := by first | decide | omega | (have q := hp_len ‹hp k p = true›; (try refine ⟨?_, ?_⟩) <;> omega)) (h := ?_)) | (apply AR.kSub; refine AR.sSub (hr := by first | decide | omega | (have q := hp_len ‹hp k p = true›; (try refine ⟨?_, ?_⟩) <;> omega)) (h := ?_)) | (apply AR.kCv; refine AR.sStrR (h := ?_)) | (apply AR.kP; first | refine AR.sP (h := ?_) | refine AR.sPi (hq := by first | decide | omega | (have q := hp_len ‹hp k p = true›; (try refine ⟨?_, ?_⟩) <;> omega)) (h := ?_) | refine AR.sArrB (h := ?_) | refine AR.sLoadA (h := ?_) | refine AR.sEqArr (heg := eqgArr) (h := ?_)))
    | (apply AR.kNil; refine AR.sNil (h := ?_)))
  all_goals (refine AW.ret (hD rfl ?_); (repeat' (first | apply Lx.s | apply Lx.b | apply Lx.i | apply LxL.cons | exact LxL.nil | apply Lx.tup | apply Lx.agg | apply Lx.refl)) <;> (try with_reducible rfl))
  all_goals simp_all [cutS]
theorem gTrimPrefix (k p : L) : Good Try.prog 100 [.s k, .s p] [] (.s (cutS k p)) [] := by
  refine Good.w tabOk mixed Try.func100 (N := 8) (by kernel_rfl) rfl (by (repeat (first | exact LE.nil | apply LE.cons)); done) (by (repeat (first | exact LE.nil | apply LE.cons)); done) fun D hD F => ?_
  repeat' (first
    | apply AO.nil
    | (apply AO.kCall 131; refine AO.sCall (hg := (gTrimPrefix1 _ _)) (h := ?_))
    | (apply AO.kBuildS; first | refine AO.sBuildT (h := ?_) | refine AO.sBuildS (h := ?_))
    | (apply AO.kApp; first | refine AO.sGrowT (h := ?_) | refine AO.sNewT (h := ?_) | refine AO.sGrowBT (h := ?_) | refine AO.sGrow (h := ?_) | refine AO.sNewr (h := ?_))
    | (apply AO.kIx; first | refine AO.sIxN (h := ?_) | refine AO.sIx (h := ?_) | refine AO.sP (h := ?_) | refine AO.sPi (h := ?_))
    | (apply AO.kSl; first | refine AO.sSl (h := ?_) | refine AO.sSlArr (h := ?_) | refine AO.sP (h := ?_))
    | (apply AO.kBox; refine AO.sBox (h := ?_))
    | (apply AO.kAlloc; refine AO.sAlloc (h := ?_))
    | (apply AO.kStore; first | refine AO.sStore (h := ?_) | refine AO.sStB (h := ?_))
    | (apply AO.kAdd; refine AO.sAdd (h := ?_))
    | (apply AO.kSub; refine AO.sSub (h := ?_))
    | (apply AO.kCv; first | refine AO.sBytes (h := ?_) | refine AO.sStr (h := ?_) | refine AO.sStrR (h := ?_))
    | (apply AO.kP; first | refine AO.sP (h := ?_) | refine AO.sPi (h := ?_) | refine AO.sLoadB (h := ?_) | refine AO.sSameB (h := ?_) | refine AO.sMk0 (h := ?_) | refine AO.sArrB (h := ?_) | refine AO.sLoadA (h := ?_) | refine AO.sEqArr (heg := eqgArr) (h := ?_))
    | (apply AO.kP; refine AO.eqNil (h1 := fun h => ?_) (h2 := ?_))
    | apply AW.seq
    | (apply AW.kR; refine AW.sR (h := ?_))
    | apply AW.skip
    | apply AW.block
    | apply AW.out
    | (apply AW.kE; refine AW.sE (h := ?_))
    | apply AW.label
    | (apply AW.kRd; refine AW.sRd (h := ?_))
    | ((first | (apply AO.kG; first | refine AO.sgt (h1 := fun h => ?_) (h2 := fun h => ?_) | refine AO.sgf (h1 := fun h => ?_) (h2 := fun h => ?_) | refine AO.sgs (h := ?_)) | (apply AW.kC; refine AW.sC (h1 := fun h => ?_) (h2 := fun h => ?_)) | (apply AR.kAny; apply AR.kG; first | refine AR.sgt (h1 := fun h => ?_) (h2 := fun h => ?_) | refine AR.sgf (h1 := fun h => ?_) (h2 := fun h => ?_) | refine AR.sgs (h := ?_))) <;> (try (first | exact Bool.noConfusion h | exact absurd h (by decide) | (simp at h; done) | (rw [h]; try simp only [decide_eq_true_eq, decide_eq_false_iff_not, Int.not_lt, Int.not_le, ge_iff_le, gt_iff_lt, Bool.not_eq_true', Bool.not_eq_false', beq_iff_eq, beq_eq_false_iff_ne, ne_eq] at h; try rw [h]; try (exfalso; omega)) | skip)))
    | (apply AR.kAny; first | (apply AR.kCall 131; refine AR.sCall (hg := (gTrimPrefix1 _ _)) (h := ?_)) | (apply AR.kBuildS; first | refine AR.sBuildT (h := ?_) | refine AR.sBuildS (h := ?_)) | (apply AR.kApp; first | refine AR.sGrowT (h := ?_) | refine AR.sNewT (h := ?_) | refine AR.sGrowBT (h := ?_) | refine AR.sGrow (h := ?_) | refine AR.sNewr (h := ?_)) | (apply AR.kIx; first | refine AR.sIxN (h := ?_) | refine AR.sIx (h := ?_) | refine AR.sP (h := ?_) | refine AR.sPi (h := ?_)) | (apply AR.kSl; first | refine AR.sSl (h := ?_) | refine AR.sSlArr (h := ?_) | refine AR.sP (h := ?_)) | (apply AR.kBox; refine AR.sBox (h := ?_)) | (apply AR.kAlloc; refine AR.sAlloc (h := ?_)) | (apply AR.kStore; refine AR.sStore (h := ?_)) | (apply AR.kAdd; refine AR.sAdd (h := ?_)) | (apply AR.kSub; refine AR.sSub (h := ?_)) | (apply AR.kCv; refine AR.sStrR (h := ?_)) | (apply AR.kP; first | refine AR.sP (h := ?_) | refine AR.sPi (h := ?_) | refine AR.sArrB (h := ?_) | refine AR.sLoadA (h := ?_) | refine AR.sEqArr (heg := eqgArr) (h := ?_)))
    | (apply AR.kNil; refine AR.sNil (h := ?_)))
  all_goals (refine AW.ret (hD rfl ?_); (repeat' (first | apply Lx.s | apply Lx.b | apply Lx.i | apply LxL.cons | exact LxL.nil | apply Lx.tup | apply Lx.agg | apply Lx.refl)) <;> (try with_reducible rfl))
theorem gShift (s2 a2 a : L) (h1 : a2.length ≤ 1000000) (h2 : a.length ≤ 1000000) (h3 : s2.length ≤ 1000000) : Good Try.prog 33 [.agg [.s s2, .s a2], .s a] [] (.tup [.agg [.s (joinS [] a s2 a2), .s (joinA [] a s2 a2)], .b (joinOk [] a s2 a2)]) [] := by
  refine Good.w tabOk mixed Try.func33 (N := 12) (by kernel_rfl) rfl (by (repeat (first | exact LE.nil | apply LE.cons)); done) (by (repeat (first | exact LE.nil | apply LE.cons)); done) fun D hD F => ?_
  repeat' (first
    | apply AO.nil
    | (apply AO.kCall 77; refine AO.sCall (hg := (gJoin [] _ _ _ (by first | omega | (simp only [List.length_nil]; omega) | (show (0 : Nat) + _ ≤ _; omega)) (by first | omega | (simp only [List.length_nil]; omega) | (show (0 : Nat) + _ ≤ _; omega)))) (h := ?_))
    | (apply AO.kBuildS; first | refine AO.sBuildT (h := ?_) | refine AO.sBuildS (h := ?_))
    | (apply AO.kApp; first | refine AO.sGrowT (h := ?_) | refine AO.sNewT (h := ?_) | refine AO.sGrowBT (h := ?_) | refine AO.sGrow (h := ?_) | refine AO.sNewr (h := ?_))
    | (apply AO.kIx; first | refine AO.sIxN (hm := by first | omega | (simp only [List.length_nil]; omega) | (show (0 : Nat) + _ ≤ _; omega)) (h := ?_) | refine AO.sIx (hm := by first | omega | (simp only [List.length_nil]; omega) | (show (0 : Nat) + _ ≤ _; omega)) (h := ?_) | refine AO.sP (h := ?_) | refine AO.sPi (hq := by first | omega | (simp only [List.length_nil]; omega) | (show (0 : Nat) + _ ≤ _; omega)) (h := ?_))
    | (apply AO.kSl; first | refine AO.sSl (hq := by first | omega | (simp only [List.length_nil]; omega) | (show (0 : Nat) + _ ≤ _; omega)) (h := ?_) | refine AO.sSlArr (h := ?_) | refine AO.sP (h := ?_))
    | (apply AO.kBox; refine AO.sBox (h := ?_))
    | (apply AO.kAlloc; refine AO.sAlloc (h := ?_))
    | (apply AO.kStore; first | refine AO.sStore (h := ?_) | refine AO.sStB (ho := by first | omega | (simp only [List.length_nil]; omega) | (show (0 : Nat) + _ ≤ _; omega)) (h := ?_))
    | (apply AO.kAdd; refine AO.sAdd (hr := by first | omega | (simp only [List.length_nil]; omega) | (show (0 : Nat) + _ ≤ _; omega)) (h := ?_))
    | (apply AO.kSub; refine AO.sSub (hr := by first | omega | (simp only [List.length_nil]; omega) | (show (0 : Nat) + _ ≤ _; omega)) (h := ?_))
    | (apply AO.kCv; first | refine AO.sBytes (h := ?_) | refine AO.sStr (h := ?_) | refine AO.sStrR (h := ?_))
    | (apply AO.kP; first | refine AO.sP (h := ?_) | refine AO.sPi (hq := by first | omega | (simp only [List.length_nil]; omega) | (show (0 : Nat) + _ ≤ _; omega)) (h := ?_) | refine AO.sLoadB (ho := by first | omega | (simp only [List.length_nil]; omega) | (show (0 : Nat) + _ ≤ _; omega)) (h := ?_) | refine AO.sSameB (h := ?_) | refine AO.sMk0 (h := ?_) | refine AO.sArrB (h := ?_) | refine AO.sLoadA (h := ?_) | refine AO.sEqArr (heg := eqgArr) (h := ?_))
    | (apply AO.kP; refine AO.eqNil (h1 := fun h => ?_) (h2 := ?_))
    | apply AW.seq
    | (apply AW.kR; refine AW.sR (h := ?_))
    | apply AW.skip
    | apply AW.block
    | apply AW.out
    | (apply AW.kE; refine AW.sE (h := ?_))
    | apply AW.label
    | (apply AW.kRd; refine AW.sRd (h := ?_))
    | ((first | (apply AO.kG; first | refine AO.sgt (h1 := fun h => ?_) (h2 := fun h => ?_) | refine AO.sgf (h1 := fun h => ?_) (h2 := fun h => ?_) | refine AO.sgs (h := ?_)) | (apply AW.kC; refine AW.sC (h1 := fun h => ?_) (h2 := fun h => ?_)) | (apply AR.kAny; apply AR.kG; first | refine AR.sgt (h1 := fun h => ?_) (h2 := fun h => ?_) | refine AR.sgf (h1 := fun h => ?_) (h2 := fun h => ?_) | refine AR.sgs (h := ?_))) <;> (try (first | exact Bool.noConfusion h | exact absurd h (by decide) | (simp at h; done) | (rw [h]; try simp only [decide_eq_true_eq, decide_eq_false_iff_not, Int.not_lt, Int.not_le, ge_iff_le, gt_iff_lt, Bool.not_eq_true', Bool.not_eq_false', beq_iff_eq, beq_eq_false_iff_ne, ne_eq] at h; try rw [h]; try (exfalso; omega)) | skip)))
    | (apply AR.kAny; first | (apply AR.kCall 77; refine AR.sCall (hg := (gJoin [] _ _ _ (by first | omega | (simp only [List.length_nil]; omega) | (show (0 : Nat) + _ ≤ _; omega)) (by first | omega | (simp only [List.length_nil]; omega) | (show (0 : Nat) + _ ≤ _; omega)))) (h := ?_)) | (apply AR.kBuildS; first | refine AR.sBuildT (h := ?_) | refine AR.sBuildS (h := ?_)) | (apply AR.kApp; first | refine AR.sGrowT (h := ?_) | refine AR.sNewT (h := ?_) | refine AR.sGrowBT (h := ?_) | refine AR.sGrow (h := ?_) | refine AR.sNewr (h := ?_)) | (apply AR.kIx; first | refine AR.sIxN (hm := by first | omega | (simp only [List.length_nil]; omega) | (show (0 : Nat) + _ ≤ _; omega)) (h := ?_) | refine AR.sIx (hm := by first | omega | (simp only [List.length_nil]; omega) | (show (0 : Nat) + _ ≤ _; omega)) (h := ?_) | refine AR.sP (h := ?_) | refine AR.sPi (hq := by first | omega | (simp only [List.length_nil]; omega) | (show (0 : Nat) + _ ≤ _; omega)) (h := ?_)) | (apply AR.kSl; first | refine AR.sSl (hq := by first | omega | (simp only [List.length_nil]; omega) | (show (0 : Nat) + _ ≤ _; omega)) (h := ?_) | refine AR.sSlArr (h := ?_) | refine AR.sP (h := ?_)) | (apply AR.kBox; refine AR.sBox (h := ?_)) | (apply AR.kAlloc; refine AR.sAlloc (h := ?_)) | (apply AR.kStore; refine AR.sStore (h := ?_)) | (apply AR.kAdd; refine AR.sAdd (hr := by first | omega | (simp only [List.length_nil]; omega) | (show (0 : Nat) + _ ≤ _; omega)) (h := ?_)) | (apply AR.kSub; refine AR.sSub (hr := by first | omega | (simp only [List.length_nil]; omega) | (show (0 : Nat) + _ ≤ _; omega)) (h := ?_)) | (apply AR.kCv; refine AR.sStrR (h := ?_)) | (apply AR.kP; first | refine AR.sP (h := ?_) | refine AR.sPi (hq := by first | omega | (simp only [List.length_nil]; omega) | (show (0 : Nat) + _ ≤ _; omega)) (h := ?_) | refine AR.sArrB (h := ?_) | refine AR.sLoadA (h := ?_) | refine AR.sEqArr (heg := eqgArr) (h := ?_)))
    | (apply AR.kNil; refine AR.sNil (h := ?_)))
  all_goals (refine AW.ret (hD rfl ?_); (repeat' (first | apply Lx.s | apply Lx.b | apply Lx.i | apply LxL.cons | exact LxL.nil | apply Lx.tup | apply Lx.agg | apply Lx.refl)) <;> (try with_reducible rfl))
theorem gShort16 (s a : L) : Good Try.prog 102 [.agg [.s s, .s a]] [] (.b (decide (s.length ≤ 16) && decide (a.length ≤ 16))) [] := by
  refine Good.w tabOk mixed Try.func102 (N := 13) (by kernel_rfl) rfl (by (repeat (first | exact LE.nil | apply LE.cons)); done) (by (repeat (first | exact LE.nil | apply LE.cons)); done) fun D hD F => ?_
  repeat' (first
    | apply AO.nil
    | (apply AO.kBuildS; first | refine AO.sBuildT (h := ?_) | refine AO.sBuildS (h := ?_))
    | (apply AO.kApp; first | refine AO.sGrowT (h := ?_) | refine AO.sNewT (h := ?_) | refine AO.sGrowBT (h := ?_) | refine AO.sGrow (h := ?_) | refine AO.sNewr (h := ?_))
    | (apply AO.kIx; first | refine AO.sIxN (h := ?_) | refine AO.sIx (h := ?_) | refine AO.sP (h := ?_) | refine AO.sPi (h := ?_))
    | (apply AO.kSl; first | refine AO.sSl (h := ?_) | refine AO.sSlArr (h := ?_) | refine AO.sP (h := ?_))
    | (apply AO.kBox; refine AO.sBox (h := ?_))
    | (apply AO.kAlloc; refine AO.sAlloc (h := ?_))
    | (apply AO.kStore; first | refine AO.sStore (h := ?_) | refine AO.sStB (h := ?_))
    | (apply AO.kAdd; refine AO.sAdd (h := ?_))
    | (apply AO.kSub; refine AO.sSub (h := ?_))
    | (apply AO.kCv; first | refine AO.sBytes (h := ?_) | refine AO.sStr (h := ?_) | refine AO.sStrR (h := ?_))
    | (apply AO.kP; first | refine AO.sP (h := ?_) | refine AO.sPi (h := ?_) | refine AO.sLoadB (h := ?_) | refine AO.sSameB (h := ?_) | refine AO.sMk0 (h := ?_) | refine AO.sArrB (h := ?_) | refine AO.sLoadA (h := ?_) | refine AO.sEqArr (heg := eqgArr) (h := ?_))
    | (apply AO.kP; refine AO.eqNil (h1 := fun h => ?_) (h2 := ?_))
    | apply AW.seq
    | (apply AW.kR; refine AW.sR (h := ?_))
    | apply AW.skip
    | apply AW.block
    | apply AW.out
    | (apply AW.kE; refine AW.sE (h := ?_))
    | apply AW.label
    | (apply AW.kRd; refine AW.sRd (h := ?_))
    | ((first | (apply AO.kG; first | refine AO.sgt (h1 := fun h => ?_) (h2 := fun h => ?_) | refine AO.sgf (h1 := fun h => ?_) (h2 := fun h => ?_) | refine AO.sgs (h := ?_)) | (apply AW.kC; refine AW.sC (h1 := fun h => ?_) (h2 := fun h => ?_)) | (apply AR.kAny; apply AR.kG; first | refine AR.sgt (h1 := fun h => ?_) (h2 := fun h => ?_) | refine AR.sgf (h1 := fun h => ?_) (h2 := fun h => ?_) | refine AR.sgs (h := ?_))) <;> (try (first | exact Bool.noConfusion h | exact absurd h (by decide) | (simp at h; done) | (rw [h]; try simp only [decide_eq_true_eq, decide_eq_false_iff_not, Int.not_lt, Int.not_le, ge_iff_le, gt_iff_lt, Bool.not_eq_true', Bool.not_eq_false', beq_iff_eq, beq_eq_false_iff_ne, ne_eq] at h; try rw [h]; try (exfalso; omega)) | skip)))
    | (apply AR.kAny; first | (apply AR.kBuildS; first | refine AR.sBuildT (h := ?_) | refine AR.sBuildS (h := ?_)) | (apply AR.kApp; first | refine AR.sGrowT (h := ?_) | refine AR.sNewT (h := ?_) | refine AR.sGrowBT (h := ?_) | refine AR.sGrow (h := ?_) | refine AR.sNewr (h := ?_)) | (apply AR.kIx; first | refine AR.sIxN (h := ?_) | refine AR.sIx (h := ?_) | refine AR.sP (h := ?_) | refine AR.sPi (h := ?_)) | (apply AR.kSl; first | refine AR.sSl (h := ?_) | refine AR.sSlArr (h := ?_) | refine AR.sP (h := ?_)) | (apply AR.kBox; refine AR.sBox (h := ?_)) | (apply AR.kAlloc; refine AR.sAlloc (h := ?_)) | (apply AR.kStore; refine AR.sStore (h := ?_)) | (apply AR.kAdd; refine AR.sAdd (h := ?_)) | (apply AR.kSub; refine AR.sSub (h := ?_)) | (apply AR.kCv; refine AR.sStrR (h := ?_)) | (apply AR.kP; first | refine AR.sP (h := ?_) | refine AR.sPi (h := ?_) | refine AR.sArrB (h := ?_) | refine AR.sLoadA (h := ?_) | refine AR.sEqArr (heg := eqgArr) (h := ?_)))
    | (apply AR.kNil; refine AR.sNil (h := ?_)))
  all_goals (refine AW.ret (hD rfl ?_); (repeat' (first | apply Lx.s | apply Lx.b | apply Lx.i | apply LxL.cons | exact LxL.nil | apply Lx.tup | apply Lx.agg | apply Lx.refl)) <;> (try with_reducible rfl))
  all_goals first | rfl | (rw [decide_eq_true (show s.length ≤ 16 by omega), Bool.true_and]; exact decide_eq_decide.2 (by omega)) | (rw [decide_eq_false (show ¬ s.length ≤ 16 by omega)]; rfl)

/-! ### a leaf -/
def prKeep (r : L × L × Bool) (p : Pr) : Bool := inR r.1 r.2.1 r.2.2 p.k
def prCut (a : L) (p : Pr) : Pr := ⟨cutS p.k a, p.v⟩
def trPr (l : List Pr) (r : L × L × Bool) (a : L) : List Pr := (l.filter (prKeep r)).map (prCut a)
theorem trPr_len (l : List Pr) (r : L × L × Bool) (a : L) : (trPr l r a).length ≤ l.length := by
  rw [trPr, List.length_map]; exact List.length_filter_le _ _
theorem gTrLeaf (n : Nd) (r : L × L × Bool) (a : L) (hs : n.small) : Good Try.prog 70 [.agg n.av, .agg [.s r.1, .s r.2.1, .b r.2.2], .s a] [] (.agg (Nd.av ⟨true, trPr n.pairs r a, [], [], []⟩)) [] := by
  obtain ⟨leaf, l, pivots, kids, buf⟩ := n
  have hs1 : l.length ≤ 1000000 := hs.pairs
  have ll : (l.map Pr.av).length = l.length := by simp
  refine Good.w tabOk mixed Try.func70 (N := 36) (by kernel_rfl) rfl (by (repeat (first | exact LE.nil | apply LE.cons)); done) (by (repeat (first | exact LE.nil | apply LE.cons)); done) fun D hD F => ?_
  repeat' (first
    | apply AO.nil
    | (apply AO.kBuildS; first | refine AO.sBuildT (h := ?_) | refine AO.sBuildS (h := ?_))
    | (apply AO.kApp; first | refine AO.sGrowT (h := ?_) | refine AO.sNewT (h := ?_) | refine AO.sGrowBT (h := ?_) | refine AO.sGrow (h := ?_) | refine AO.sNewr (h := ?_))
    | (apply AO.kIx; first | refine AO.sIxN (h := ?_) | refine AO.sIx (h := ?_) | refine AO.sP (h := ?_) | refine AO.sPi (h := ?_))
    | (apply AO.kSl; first | refine AO.sSl (h := ?_) | refine AO.sSlArr (h := ?_) | refine AO.sP (h := ?_))
    | (apply AO.kBox; refine AO.sBox (h := ?_))
    | (apply AO.kAlloc; refine AO.sAlloc (h := ?_))
    | (apply AO.kStore; first | refine AO.sStore (h := ?_) | refine AO.sStB (h := ?_))
    | (apply AO.kAdd; refine AO.sAdd (h := ?_))
    | (apply AO.kSub; refine AO.sSub (h := ?_))
    | (apply AO.kCv; first | refine AO.sBytes (h := ?_) | refine AO.sStr (h := ?_) | refine AO.sStrR (h := ?_))
    | (apply AO.kP; first | refine AO.sP (h := ?_) | refine AO.sPi (h := ?_) | refine AO.sLoadB (h := ?_) | refine AO.sSameB (h := ?_) | refine AO.sMk0 (h := ?_) | refine AO.sArrB (h := ?_) | refine AO.sLoadA (h := ?_) | refine AO.sEqArr (heg := eqgArr) (h := ?_))
    | (apply AO.kP; refine AO.eqNil (h1 := fun h => ?_) (h2 := ?_))
    | apply AW.seq
    | (apply AW.kR; refine AW.sR (h := ?_))
    | apply AW.skip
    | apply AW.block
    | apply AW.out
    | (apply AW.kE; refine AW.sE (h := ?_))
    | apply AW.label
    | (apply AW.kRd; refine AW.sRd (h := ?_))
    | ((first | (apply AO.kG; first | refine AO.sgt (h1 := fun h => ?_) (h2 := fun h => ?_) | refine AO.sgf (h1 := fun h => ?_) (h2 := fun h => ?_) | refine AO.sgs (h := ?_)) | (apply AW.kC; refine AW.sC (h1 := fun h => ?_) (h2 := fun h => ?_)) | (apply AR.kAny; apply AR.kG; first | refine AR.sgt (h1 := fun h => ?_) (h2 := fun h => ?_) | refine AR.sgf (h1 := fun h => ?_) (h2 := fun h => ?_) | refine AR.sgs (h := ?_))) <;> (try (first | exact Bool.noConfusion h | exact absurd h (by decide) | (simp at h; done) | (rw [h]; try simp only [decide_eq_true_eq, decide_eq_false_iff_not, Int.not_lt, Int.not_le, ge_iff_le, gt_iff_lt, Bool.not_eq_true', Bool.not_eq_false', beq_iff_eq, beq_eq_false_iff_ne, ne_eq] at h; try rw [h]; try (exfalso; omega)) | skip)))
    | (apply AR.kAny; first | (apply AR.kBuildS; first | refine AR.sBuildT (h := ?_) | refine AR.sBuildS (h := ?_)) | (apply AR.kApp; first | refine AR.sGrowT (h := ?_) | refine AR.sNewT (h := ?_) | refine AR.sGrowBT (h := ?_) | refine AR.sGrow (h := ?_) | refine AR.sNewr (h := ?_)) | (apply AR.kIx; first | refine AR.sIxN (h := ?_) | refine AR.sIx (h := ?_) | refine AR.sP (h := ?_) | refine AR.sPi (h := ?_)) | (apply AR.kSl; first | refine AR.sSl (h := ?_) | refine AR.sSlArr (h := ?_) | refine AR.sP (h := ?_)) | (apply AR.kBox; refine AR.sBox (h := ?_)) | (apply AR.kAlloc; refine AR.sAlloc (h := ?_)) | (apply AR.kStore; refine AR.sStore (h := ?_)) | (apply AR.kAdd; refine AR.sAdd (h := ?_)) | (apply AR.kSub; refine AR.sSub (h := ?_)) | (apply AR.kCv; refine AR.sStrR (h := ?_)) | (apply AR.kP; first | refine AR.sP (h := ?_) | refine AR.sPi (h := ?_) | refine AR.sArrB (h := ?_) | refine AR.sLoadA (h := ?_) | refine AR.sEqArr (heg := eqgArr) (h := ?_)))
    | (apply AR.kNil; refine AR.sNil (h := ?_)))
  refine AW.nilrow 900 43 2 (St.freeB_ok rfl) (st' := ⟨[(2, .s a), (4, .ptr 4 0), (6, .ptr 6 0), (7, .ptr 7 0), (12, .sh 2 (l.map Pr.av)), (13, .i .i64 (l.length : Nat)), (14, .i .i64 (0 : Nat))], [(4, .bx [.s r.1, .s r.2.1, .b r.2.2]), (6, .bx [.b false, .nil, .nil, .nil, .nil]), (7, .bx [.b true, .gr 900 43 2 [], .nil, .nil, .nil]), (900, .gw 0)]⟩) ⟨by ((repeat' (first | exact LeT.nil | apply LeT.cons | exact Lx.nilG | apply Lx.s | apply Lx.b | apply Lx.i | exact Lx.refl)) <;> (first | rfl | assumption | omega | (simp only [List.length_map, BS_len]; done) | skip)), .cons .refl (.cons .refl (.cons (.bx (.cons .refl (.cons .nilG (.cons .refl (.cons .refl (.cons .refl .nil)))))) (.cons .refl .nil)))⟩ ?_
  refine AW.loopI (fun x : Nat × List Pr => x.1 ≤ l.length ∧ x.2 = trPr (l.take x.1) r a) (fun x => ⟨[(2, .s a), (4, .ptr 4 0), (6, .ptr 6 0), (7, .ptr 7 0), (12, .sh 2 (l.map Pr.av)), (13, .i .i64 (l.length : Nat)), (14, .i .i64 x.1)], [(4, .bx [.s r.1, .s r.2.1, .b r.2.2]), (6, .bx [.b false, .nil, .nil, .nil, .nil]), (7, .bx [.b true, .gr 900 43 2 (x.2.map Pr.av), .nil, .nil, .nil]), (900, .gw (x.2.map Pr.av).length)]⟩) (fun x => l.length - x.1) (0, []) ⟨by simp, rfl⟩ (by (constructor <;> (repeat' (first | exact LeT.nil | exact LeB.nil | apply LeT.cons | apply LeB.cons | exact Ol.refl | apply Lx.s | apply Lx.b | apply Lx.i | exact Lx.refl)) <;> (first | rfl | assumption | omega | (simp only [List.length_map, BS_len]; done) | skip))) fun m ⟨q, o⟩ ⟨hn, ho⟩ ih => ?_
  dsimp only at hn ho ih ⊢
  have lo : o.length ≤ q := by
    rw [ho]; exact Nat.le_trans (trPr_len _ _ _) (by rw [List.length_take]; omega)
  have lo' : (o.map Pr.av).length = o.length := by simp
  repeat' (first
    | apply AO.nil
    | (apply AO.kCall 60; refine AO.sCall (hg := (gIn _ _ _ _)) (h := ?_))
    | (apply AO.kCall 100; refine AO.sCall (hg := (gTrimPrefix _ _)) (h := ?_))
    | (apply AO.kBuildS; first | refine AO.sBuildT (h := ?_) | refine AO.sBuildS (h := ?_))
    | (apply AO.kApp; first | refine AO.sGrowT (h := ?_) | refine AO.sNewT (h := ?_) | refine AO.sGrowBT (h := ?_) | refine AO.sGrow (h := ?_) | refine AO.sNewr (h := ?_))
    | (apply AO.kIx; first | refine AO.sIxN (h := ?_) | refine AO.sIx (h := ?_) | refine AO.sP (h := ?_) | refine AO.sPi (h := ?_))
    | (apply AO.kSl; first | refine AO.sSl (h := ?_) | refine AO.sSlArr (h := ?_) | refine AO.sP (h := ?_))
    | (apply AO.kBox; refine AO.sBox (h := ?_))
    | (apply AO.kAlloc; refine AO.sAlloc (h := ?_))
    | (apply AO.kStore; first | refine AO.sStore (h := ?_) | refine AO.sStB (h := ?_))
    | (apply AO.kAdd; refine AO.sAdd (h := ?_))
    | (apply AO.kSub; refine AO.sSub (h := ?_))
    | (apply AO.kCv; first | refine AO.sBytes (h := ?_) | refine AO.sStr (h := ?_) | refine AO.sStrR (h := ?_))
    | (apply AO.kP; first | refine AO.sP (h := ?_) | refine AO.sPi (h := ?_) | refine AO.sLoadB (h := ?_) | refine AO.sSameB (h := ?_) | refine AO.sMk0 (h := ?_) | refine AO.sArrB (h := ?_) | refine AO.sLoadA (h := ?_) | refine AO.sEqArr (heg := eqgArr) (h := ?_))
    | (apply AO.kP; refine AO.eqNil (h1 := fun h => ?_) (h2 := ?_))
    | apply AW.seq
    | (apply AW.kR; refine AW.sR (h := ?_))
    | apply AW.skip
    | apply AW.block
    | apply AW.out
    | (apply AW.kE; refine AW.sE (h := ?_))
    | apply AW.label
    | (apply AW.kRd; refine AW.sRd (h := ?_))
    | ((first | (apply AO.kG; first | refine AO.sgt (h1 := fun h => ?_) (h2 := fun h => ?_) | refine AO.sgf (h1 := fun h => ?_) (h2 := fun h => ?_) | refine AO.sgs (h := ?_)) | (apply AW.kC; refine AW.sC (h1 := fun h => ?_) (h2 := fun h => ?_)) | (apply AR.kAny; apply AR.kG; first | refine AR.sgt (h1 := fun h => ?_) (h2 := fun h => ?_) | refine AR.sgf (h1 := fun h => ?_) (h2 := fun h => ?_) | refine AR.sgs (h := ?_))) <;> (try (first | exact Bool.noConfusion h | exact absurd h (by decide) | (simp at h; done) | (rw [h]; try simp only [decide_eq_true_eq, decide_eq_false_iff_not, Int.not_lt, Int.not_le, ge_iff_le, gt_iff_lt, Bool.not_eq_true', Bool.not_eq_false', beq_iff_eq, beq_eq_false_iff_ne, ne_eq] at h; try rw [h]; try (exfalso; omega)) | skip)))
    | (apply AR.kAny; first | (apply AR.kCall 60; refine AR.sCall (hg := (gIn _ _ _ _)) (h := ?_)) | (apply AR.kCall 100; refine AR.sCall (hg := (gTrimPrefix _ _)) (h := ?_)) | (apply AR.kBuildS; first | refine AR.sBuildT (h := ?_) | refine AR.sBuildS (h := ?_)) | (apply AR.kApp; first | refine AR.sGrowT (h := ?_) | refine AR.sNewT (h := ?_) | refine AR.sGrowBT (h := ?_) | refine AR.sGrow (h := ?_) | refine AR.sNewr (h := ?_)) | (apply AR.kIx; first | refine AR.sIxN (h := ?_) | refine AR.sIx (h := ?_) | refine AR.sP (h := ?_) | refine AR.sPi (h := ?_)) | (apply AR.kSl; first | refine AR.sSl (h := ?_) | refine AR.sSlArr (h := ?_) | refine AR.sP (h := ?_)) | (apply AR.kBox; refine AR.sBox (h := ?_)) | (apply AR.kAlloc; refine AR.sAlloc (h := ?_)) | (apply AR.kStore; refine AR.sStore (h := ?_)) | (apply AR.kAdd; refine AR.sAdd (h := ?_)) | (apply AR.kSub; refine AR.sSub (h := ?_)) | (apply AR.kCv; refine AR.sStrR (h := ?_)) | (apply AR.kP; first | refine AR.sP (h := ?_) | refine AR.sPi (h := ?_) | refine AR.sArrB (h := ?_) | refine AR.sLoadA (h := ?_) | refine AR.sEqArr (heg := eqgArr) (h := ?_)))
    | (apply AR.kNil; refine AR.sNil (h := ?_)))
  · have hq : q < l.length := by omega
    have g : prKeep r (l.getD q default) = true := h
    exact ih (q + 1, o ++ [prCut a (l.getD q default)]) _ ⟨by dsimp only; omega, by dsimp only; rw [ho, trPr, trPr, filt_yes hq g, List.map_append]; rfl⟩ (by dsimp only; omega) (by ((constructor <;> (repeat' (first | exact LeT.nil | exact LeB.nil | apply LeT.cons | apply LeB.cons | exact Ol.refl | apply Lx.s | apply Lx.b | apply Lx.i | exact Lx.refl)) <;> (first | rfl | assumption | omega | (simp only [List.length_map, BS_len]; done) | skip)) <;> (first | (refine Lx.eq (congrArg (AV.gr _ _ _) ?_); simp only [List.map_append, List.map_cons, List.map_nil]; rfl) | (refine Ol.eq (congrArg Ob.gw ?_); simp only [List.map_append, List.map_cons, List.map_nil, List.length_append, List.length_map, List.length_cons, List.length_nil]; done) | (refine Ol.bx ?_; (repeat' (first | exact LxL.nil | apply LxL.cons | exact Lx.refl | (refine Lx.eq (congrArg (AV.gr _ _ _) ?_); simp only [List.map_append, List.map_cons, List.map_nil]; rfl)))) | skip)))
  · have hq : q < l.length := by omega
    have g : prKeep r (l.getD q default) = false := h
    exact ih (q + 1, o) _ ⟨by dsimp only; omega, by dsimp only; rw [ho, trPr, trPr, filt_no hq g]⟩ (by dsimp only; omega) (by (constructor <;> (repeat' (first | exact LeT.nil | exact LeB.nil | apply LeT.cons | apply LeB.cons | exact Ol.refl | apply Lx.s | apply Lx.b | apply Lx.i | exact Lx.refl)) <;> (first | rfl | assumption | omega | (simp only [List.length_map, BS_len]; done) | skip)))
  · have e : q = l.length := by omega
    subst e
    rw [List.take_length] at ho
    subst ho
    exact AW.ret (hD rfl (Lx.agg (.cons .refl (.cons .gr (.cons .nil (.cons .nil (.cons .nil .nil)))))))

/-! ### kids -/
def kidOk (n : Nd) (a : L) (i : Nat) : Bool :=
  joinOk [] a (n.kids.getD i default).strip (n.kids.getD i default).add && (decide ((joinS [] a (n.kids.getD i default).strip (n.kids.getD i default).add).length ≤ 16) && decide ((joinA [] a (n.kids.getD i default).strip (n.kids.getD i default).add).length ≤ 16))
def trKid (n : Nd) (a : L) (i : Nat) : Ed := ⟨(n.kids.getD i default).block, (n.kids.getD i default).deep, joinS [] a (n.kids.getD i default).strip (n.kids.getD i default).add, joinA [] a (n.kids.getD i default).strip (n.kids.getD i default).add⟩
def kRun (n : Nd) (r : L × L × Bool) (a : L) : Nat → Nat → List L → List Ed → (List L × List Ed) × Bool
  | 0, _, ps, ks => ((ps, ks), true)
  | u + 1, q, ps, ks =>
    if emC (rgN n q) r = true then kRun n r a u (q + 1) ps ks
    else if kidOk n a q = false then ((ps, ks), false)
    else kRun n r a u (q + 1) (if 0 < ks.length then ps ++ [cutS (rgN n q).1 a] else ps) (ks ++ [trKid n a q])
theorem kRun_skip {n : Nd} {r : L × L × Bool} {a : L} {q : Nat} {ps : List L} {ks : List Ed} (hq : q < n.kids.length) (h : emC (rgN n q) r = true) : kRun n r a (n.kids.length - q) q ps ks = kRun n r a (n.kids.length - (q + 1)) (q + 1) ps ks := by
  rw [show n.kids.length - q = (n.kids.length - (q + 1)) + 1 by omega, kRun, if_pos h]
theorem kRun_bad {n : Nd} {r : L × L × Bool} {a : L} {q : Nat} {ps : List L} {ks : List Ed} (hq : q < n.kids.length) (h : emC (rgN n q) r = false) (h2 : kidOk n a q = false) : kRun n r a (n.kids.length - q) q ps ks = ((ps, ks), false) := by
  rw [show n.kids.length - q = (n.kids.length - (q + 1)) + 1 by omega, kRun, if_neg (by rw [h]; decide), if_pos h2]
theorem kRun_more {n : Nd} {r : L × L × Bool} {a : L} {q : Nat} {ps : List L} {ks : List Ed} (hq : q < n.kids.length) (h : emC (rgN n q) r = false) (h2 : kidOk n a q = true) : kRun n r a (n.kids.length - q) q ps ks = kRun n r a (n.kids.length - (q + 1)) (q + 1) (if 0 < ks.length then ps ++ [cutS (rgN n q).1 a] else ps) (ks ++ [trKid n a q]) := by
  rw [show n.kids.length - q = (n.kids.length - (q + 1)) + 1 by omega, kRun, if_neg (by rw [h]; decide), if_neg (by rw [h2]; decide)]
theorem gTrKids (n : Nd) (r : L × L × Bool) (a : L) (hs : n.small) (ha : a.length ≤ 1000000) (hk : ∀ i, i < n.kids.length → (n.kids.getD i default).strip.length ≤ 1000000 ∧ (n.kids.getD i default).add.length ≤ 1000000) :
    Good Try.prog 71 [.agg n.av, .agg [.s r.1, .s r.2.1, .b r.2.2], .s a] [] (.tup [.agg (Nd.av ⟨false, [], (kRun n r a n.kids.length 0 [] []).1.1, (kRun n r a n.kids.length 0 [] []).1.2, []⟩), .b (kRun n r a n.kids.length 0 [] []).2]) [] := by
  have hs3 := hs.kids
  have ll : (n.kids.map Ed.av).length = n.kids.length := by simp
  refine Good.w tabOk mixed Try.func71 (N := 67) (by kernel_rfl) rfl (by (repeat (first | exact LE.nil | apply LE.cons)); done) (by (repeat (first | exact LE.nil | apply LE.cons)); done) fun D hD F => ?_
  repeat' (first
    | apply AO.nil
    | (apply AO.kBuildS; first | refine AO.sBuildT (h := ?_) | refine AO.sBuildS (h := ?_))
    | (apply AO.kApp; first | refine AO.sGrowT (h := ?_) | refine AO.sNewT (h := ?_) | refine AO.sGrowBT (h := ?_) | refine AO.sGrow (h := ?_) | refine AO.sNewr (h := ?_))
    | (apply AO.kIx; first | refine AO.sIxN (h := ?_) | refine AO.sIx (h := ?_) | refine AO.sP (h := ?_) | refine AO.sPi (h := ?_))
    | (apply AO.kSl; first | refine AO.sSl (h := ?_) | refine AO.sSlArr (h := ?_) | refine AO.sP (h := ?_))
    | (apply AO.kBox; refine AO.sBox (h := ?_))
    | (apply AO.kAlloc; refine AO.sAlloc (h := ?_))
    | (apply AO.kStore; first | refine AO.sStore (h := ?_) | refine AO.sStB (h := ?_))
    | (apply AO.kAdd; refine AO.sAdd (h := ?_))
    | (apply AO.kSub; refine AO.sSub (h := ?_))
    | (apply AO.kCv; first | refine AO.sBytes (h := ?_) | refine AO.sStr (h := ?_) | refine AO.sStrR (h := ?_))
    | (apply AO.kP; first | refine AO.sP (h := ?_) | refine AO.sPi (h := ?_) | refine AO.sLoadB (h := ?_) | refine AO.sSameB (h := ?_) | refine AO.sMk0 (h := ?_) | refine AO.sArrB (h := ?_) | refine AO.sLoadA (h := ?_) | refine AO.sEqArr (heg := eqgArr) (h := ?_))
    | (apply AO.kP; refine AO.eqNil (h1 := fun h => ?_) (h2 := ?_))
    | apply AW.seq
    | (apply AW.kR; refine AW.sR (h := ?_))
    | apply AW.skip
    | apply AW.block
    | apply AW.out
    | (apply AW.kE; refine AW.sE (h := ?_))
    | apply AW.label
    | (apply AW.kRd; refine AW.sRd (h := ?_))
    | ((first | (apply AO.kG; first | refine AO.sgt (h1 := fun h => ?_) (h2 := fun h => ?_) | refine AO.sgf (h1 := fun h => ?_) (h2 := fun h => ?_) | refine AO.sgs (h := ?_)) | (apply AW.kC; refine AW.sC (h1 := fun h => ?_) (h2 := fun h => ?_)) | (apply AR.kAny; apply AR.kG; first | refine AR.sgt (h1 := fun h => ?_) (h2 := fun h => ?_) | refine AR.sgf (h1 := fun h => ?_) (h2 := fun h => ?_) | refine AR.sgs (h := ?_))) <;> (try (first | exact Bool.noConfusion h | exact absurd h (by decide) | (simp at h; done) | (rw [h]; try simp only [decide_eq_true_eq, decide_eq_false_iff_not, Int.not_lt, Int.not_le, ge_iff_le, gt_iff_lt, Bool.not_eq_true', Bool.not_eq_false', beq_iff_eq, beq_eq_false_iff_ne, ne_eq] at h; try rw [h]; try (exfalso; omega)) | skip)))
    | (apply AR.kAny; first | (apply AR.kBuildS; first | refine AR.sBuildT (h := ?_) | refine AR.sBuildS (h := ?_)) | (apply AR.kApp; first | refine AR.sGrowT (h := ?_) | refine AR.sNewT (h := ?_) | refine AR.sGrowBT (h := ?_) | refine AR.sGrow (h := ?_) | refine AR.sNewr (h := ?_)) | (apply AR.kIx; first | refine AR.sIxN (h := ?_) | refine AR.sIx (h := ?_) | refine AR.sP (h := ?_) | refine AR.sPi (h := ?_)) | (apply AR.kSl; first | refine AR.sSl (h := ?_) | refine AR.sSlArr (h := ?_) | refine AR.sP (h := ?_)) | (apply AR.kBox; refine AR.sBox (h := ?_)) | (apply AR.kAlloc; refine AR.sAlloc (h := ?_)) | (apply AR.kStore; refine AR.sStore (h := ?_)) | (apply AR.kAdd; refine AR.sAdd (h := ?_)) | (apply AR.kSub; refine AR.sSub (h := ?_)) | (apply AR.kCv; refine AR.sStrR (h := ?_)) | (apply AR.kP; first | refine AR.sP (h := ?_) | refine AR.sPi (h := ?_) | refine AR.sArrB (h := ?_) | refine AR.sLoadA (h := ?_) | refine AR.sEqArr (heg := eqgArr) (h := ?_)))
    | (apply AR.kNil; refine AR.sNil (h := ?_)))
  refine AW.nilrow 901 9 1 (St.freeB_ok rfl) (st' := ⟨[(2, .s a), (3, .ptr 3 0), (4, .ptr 4 0), (6, .ptr 6 0), (8, .ptr 8 0), (15, .sh 4 (n.kids.map Ed.av)), (16, .i .i64 (n.kids.length : Nat)), (17, .i .i64 (0 : Nat))], [(3, .bx n.av), (4, .bx [.s r.1, .s r.2.1, .b r.2.2]), (6, .bx [.b false, .nil, .nil, .nil, .nil]), (8, .bx [.b false, .nil, .gr 901 9 1 [], .nil, .nil]), (901, .gw 0)]⟩) ⟨by ((repeat' (first | exact LeT.nil | apply LeT.cons | exact Lx.nilG | apply Lx.s | apply Lx.b | apply Lx.i | exact Lx.refl)) <;> (first | rfl | assumption | omega | (simp only [List.length_map, BS_len]; done) | skip)), .cons .refl (.cons .refl (.cons .refl (.cons (.bx (.cons .refl (.cons .refl (.cons .nilG (.cons .refl (.cons .refl .nil)))))) (.cons .refl .nil))))⟩ ?_
  refine AW.nilrow 902 101 4 (St.freeB_ok rfl) (st' := ⟨[(2, .s a), (3, .ptr 3 0), (4, .ptr 4 0), (6, .ptr 6 0), (8, .ptr 8 0), (15, .sh 4 (n.kids.map Ed.av)), (16, .i .i64 (n.kids.length : Nat)), (17, .i .i64 (0 : Nat))], [(3, .bx n.av), (4, .bx [.s r.1, .s r.2.1, .b r.2.2]), (6, .bx [.b false, .nil, .nil, .nil, .nil]), (8, .bx [.b false, .nil, .gr 901 9 1 [], .gr 902 101 4 [], .nil]), (901, .gw 0), (902, .gw 0)]⟩) ⟨by ((repeat' (first | exact LeT.nil | apply LeT.cons | exact Lx.nilG | apply Lx.s | apply Lx.b | apply Lx.i | exact Lx.refl)) <;> (first | rfl | assumption | omega | (simp only [List.length_map, BS_len]; done) | skip)), .cons .refl (.cons .refl (.cons .refl (.cons (.bx (.cons .refl (.cons .refl (.cons .refl (.cons .nilG (.cons .refl .nil)))))) (.cons .refl (.cons .refl .nil)))))⟩ ?_
  refine AW.loopI (fun x : Nat × List L × List Ed => x.1 ≤ n.kids.length ∧ x.2.1.length ≤ x.1 ∧ x.2.2.length ≤ x.1 ∧ kRun n r a (n.kids.length - x.1) x.1 x.2.1 x.2.2 = kRun n r a n.kids.length 0 [] []) (fun x => ⟨[(2, .s a), (3, .ptr 3 0), (4, .ptr 4 0), (6, .ptr 6 0), (8, .ptr 8 0), (15, .sh 4 (n.kids.map Ed.av)), (16, .i .i64 (n.kids.length : Nat)), (17, .i .i64 x.1)], [(3, .bx n.av), (4, .bx [.s r.1, .s r.2.1, .b r.2.2]), (6, .bx [.b false, .nil, .nil, .nil, .nil]), (8, .bx [.b false, .nil, .gr 901 9 1 (x.2.1.map sav), .gr 902 101 4 (x.2.2.map Ed.av), .nil]), (901, .gw (x.2.1.map sav).length), (902, .gw (x.2.2.map Ed.av).length)]⟩) (fun x => n.kids.length - x.1) (0, [], []) ⟨by simp, by simp, by simp, by simp⟩ (by (constructor <;> (repeat' (first | exact LeT.nil | exact LeB.nil | apply LeT.cons | apply LeB.cons | exact Ol.refl | apply Lx.s | apply Lx.b | apply Lx.i | exact Lx.refl)) <;> (first | rfl | assumption | omega | (simp only [List.length_map, BS_len]; done) | skip))) fun m ⟨q, ps, ks⟩ ⟨hn, lp, lk, ho⟩ ih => ?_
  dsimp only at hn lp lk ho ih ⊢
  have lp' : (ps.map sav).length = ps.length := by simp
  have lk' : (ks.map Ed.av).length = ks.length := by simp
  by_cases hq : q < n.kids.length
  · obtain ⟨s1, s2⟩ := hk q hq
    repeat' (first
    | apply AO.nil
    | (apply AO.kCall 101; refine AO.sCall (hg := (gRange n _ hs sd)) (h := ?_))
    | (apply AO.kCall 80; refine AO.sCall (hg := (gCutS _ _ _ _ _ _)) (h := ?_))
    | (apply AO.kCall 58; refine AO.sCall (hg := (gEmpty _ _ _)) (h := ?_))
    | (apply AO.kCall 33; refine AO.sCall (hg := (gShift _ _ _ s2 ha s1)) (h := ?_))
    | (apply AO.kCall 102; refine AO.sCall (hg := (gShort16 _ _)) (h := ?_))
    | (apply AO.kCall 100; refine AO.sCall (hg := (gTrimPrefix _ _)) (h := ?_))
    | (apply AO.kBuildS; first | refine AO.sBuildT (h := ?_) | refine AO.sBuildS (h := ?_))
    | (apply AO.kApp; first | refine AO.sGrowT (h := ?_) | refine AO.sNewT (h := ?_) | refine AO.sGrowBT (h := ?_) | refine AO.sGrow (h := ?_) | refine AO.sNewr (h := ?_))
    | (apply AO.kIx; first | refine AO.sIxN (h := ?_) | refine AO.sIx (h := ?_) | refine AO.sP (h := ?_) | refine AO.sPi (h := ?_))
    | (apply AO.kSl; first | refine AO.sSl (h := ?_) | refine AO.sSlArr (h := ?_) | refine AO.sP (h := ?_))
    | (apply AO.kBox; refine AO.sBox (h := ?_))
    | (apply AO.kAlloc; refine AO.sAlloc (h := ?_))
    | (apply AO.kStore; first | refine AO.sStore (h := ?_) | refine AO.sStB (h := ?_))
    | (apply AO.kAdd; refine AO.sAdd (h := ?_))
    | (apply AO.kSub; refine AO.sSub (h := ?_))
    | (apply AO.kCv; first | refine AO.sBytes (h := ?_) | refine AO.sStr (h := ?_) | refine AO.sStrR (h := ?_))
    | (apply AO.kP; first | refine AO.sP (h := ?_) | refine AO.sPi (h := ?_) | refine AO.sLoadB (h := ?_) | refine AO.sSameB (h := ?_) | refine AO.sMk0 (h := ?_) | refine AO.sArrB (h := ?_) | refine AO.sLoadA (h := ?_) | refine AO.sEqArr (heg := eqgArr) (h := ?_))
    | (apply AO.kP; refine AO.eqNil (h1 := fun h => ?_) (h2 := ?_))
    | apply AW.seq
    | (apply AW.kR; refine AW.sR (h := ?_))
    | apply AW.skip
    | apply AW.block
    | apply AW.out
    | (apply AW.kE; refine AW.sE (h := ?_))
    | apply AW.label
    | (apply AW.kRd; refine AW.sRd (h := ?_))
    | ((first | (apply AO.kG; first | refine AO.sgt (h1 := fun h => ?_) (h2 := fun h => ?_) | refine AO.sgf (h1 := fun h => ?_) (h2 := fun h => ?_) | refine AO.sgs (h := ?_)) | (apply AW.kC; refine AW.sC (h1 := fun h => ?_) (h2 := fun h => ?_)) | (apply AR.kAny; apply AR.kG; first | refine AR.sgt (h1 := fun h => ?_) (h2 := fun h => ?_) | refine AR.sgf (h1 := fun h => ?_) (h2 := fun h => ?_) | refine AR.sgs (h := ?_))) <;> (try (first | exact Bool.noConfusion h | exact absurd h (by decide) | (simp at h; done) | (rw [h]; try simp only [decide_eq_true_eq, decide_eq_false_iff_not, Int.not_lt, Int.not_le, ge_iff_le, gt_iff_lt, Bool.not_eq_true', Bool.not_eq_false', beq_iff_eq, beq_eq_false_iff_ne, ne_eq] at h; try rw [h]; try (exfalso; omega)) | skip)))
    | (apply AR.kAny; first | (apply AR.kCall 101; refine AR.sCall (hg := (gRange n _ hs sd)) (h := ?_)) | (apply AR.kCall 80; refine AR.sCall (hg := (gCutS _ _ _ _ _ _)) (h := ?_)) | (apply AR.kCall 58; refine AR.sCall (hg := (gEmpty _ _ _)) (h := ?_)) | (apply AR.kCall 33; refine AR.sCall (hg := (gShift _ _ _ s2 ha s1)) (h := ?_)) | (apply AR.kCall 102; refine AR.sCall (hg := (gShort16 _ _)) (h := ?_)) | (apply AR.kCall 100; refine AR.sCall (hg := (gTrimPrefix _ _)) (h := ?_)) | (apply AR.kBuildS; first | refine AR.sBuildT (h := ?_) | refine AR.sBuildS (h := ?_)) | (apply AR.kApp; first | refine AR.sGrowT (h := ?_) | refine AR.sNewT (h := ?_) | refine AR.sGrowBT (h := ?_) | refine AR.sGrow (h := ?_) | refine AR.sNewr (h := ?_)) | (apply AR.kIx; first | refine AR.sIxN (h := ?_) | refine AR.sIx (h := ?_) | refine AR.sP (h := ?_) | refine AR.sPi (h := ?_)) | (apply AR.kSl; first | refine AR.sSl (h := ?_) | refine AR.sSlArr (h := ?_) | refine AR.sP (h := ?_)) | (apply AR.kBox; refine AR.sBox (h := ?_)) | (apply AR.kAlloc; refine AR.sAlloc (h := ?_)) | (apply AR.kStore; refine AR.sStore (h := ?_)) | (apply AR.kAdd; refine AR.sAdd (h := ?_)) | (apply AR.kSub; refine AR.sSub (h := ?_)) | (apply AR.kCv; refine AR.sStrR (h := ?_)) | (apply AR.kP; first | refine AR.sP (h := ?_) | refine AR.sPi (h := ?_) | refine AR.sArrB (h := ?_) | refine AR.sLoadA (h := ?_) | refine AR.sEqArr (heg := eqgArr) (h := ?_)))
    | (apply AR.kNil; refine AR.sNil (h := ?_)))
    · have g : emC (rgN n q) r = true := h
      exact ih (q + 1, ps, ks) _ ⟨by dsimp only; omega, by dsimp only; omega, by dsimp only; omega, by dsimp only; rw [← ho, kRun_skip hq g]⟩ (by dsimp only; omega) (by (constructor <;> (repeat' (first | exact LeT.nil | exact LeB.nil | apply LeT.cons | apply LeB.cons | exact Ol.refl | apply Lx.s | apply Lx.b | apply Lx.i | exact Lx.refl)) <;> (first | rfl | assumption | omega | (simp only [List.length_map, BS_len]; done) | skip)))
    · have g : emC (rgN n q) r = false := ‹emR _ _ _ = false›
      have g2 : kidOk n a q = false := by rw [kidOk, h, Bool.and_false]
      rw [kRun_bad hq g g2] at ho
      rw [← ho] at hD
      exact AW.ret (hD rfl (Lx.tup (.cons (Lx.agg (.cons .refl (.cons .nil (.cons .gr (.cons .gr (.cons .nil .nil)))))) (.cons .refl .nil))))
    · have g : emC (rgN n q) r = false := ‹emR _ _ _ = false›
      have g2 : kidOk n a q = true := by rw [kidOk, ‹joinOk _ _ _ _ = true›, ‹(decide _ && decide _) = true›]; rfl
      have g3 : 0 < ks.length := by omega
      have ho2 := kRun_more (ps := ps) (ks := ks) hq g g2
      rw [if_pos g3, ho] at ho2
      exact ih (q + 1, ps ++ [cutS (rgN n q).1 a], ks ++ [trKid n a q]) _ ⟨by dsimp only; omega, by dsimp only; simp only [List.length_append, List.length_cons, List.length_nil]; omega, by dsimp only; simp only [List.length_append, List.length_cons, List.length_nil]; omega, ho2.symm⟩ (by dsimp only; omega) (by ((constructor <;> (repeat' (first | exact LeT.nil | exact LeB.nil | apply LeT.cons | apply LeB.cons | exact Ol.refl | apply Lx.s | apply Lx.b | apply Lx.i | exact Lx.refl)) <;> (first | rfl | assumption | omega | (simp only [List.length_map, BS_len]; done) | skip)) <;> (first | (refine Lx.eq (congrArg (AV.gr _ _ _) ?_); simp only [List.map_append, List.map_cons, List.map_nil]; rfl) | (refine Ol.eq (congrArg Ob.gw ?_); simp only [List.map_append, List.map_cons, List.map_nil, List.length_append, List.length_map, List.length_cons, List.length_nil]; done) | (refine Ol.bx ?_; (repeat' (first | exact LxL.nil | apply LxL.cons | exact Lx.refl | (refine Lx.eq (congrArg (AV.gr _ _ _) ?_); simp only [List.map_append, List.map_cons, List.map_nil]; rfl)))) | skip)))
    · have g : emC (rgN n q) r = false := ‹emR _ _ _ = false›
      have g2 : kidOk n a q = true := by rw [kidOk, ‹joinOk _ _ _ _ = true›, ‹(decide _ && decide _) = true›]; rfl
      have g3 : ¬ 0 < ks.length := by omega
      have ho2 := kRun_more (ps := ps) (ks := ks) hq g g2
      rw [if_neg g3, ho] at ho2
      exact ih (q + 1, ps, ks ++ [trKid n a q]) _ ⟨by dsimp only; omega, by dsimp only; omega, by dsimp only; simp only [List.length_append, List.length_cons, List.length_nil]; omega, ho2.symm⟩ (by dsimp only; omega) (by ((constructor <;> (repeat' (first | exact LeT.nil | exact LeB.nil | apply LeT.cons | apply LeB.cons | exact Ol.refl | apply Lx.s | apply Lx.b | apply Lx.i | exact Lx.refl)) <;> (first | rfl | assumption | omega | (simp only [List.length_map, BS_len]; done) | skip)) <;> (first | (refine Lx.eq (congrArg (AV.gr _ _ _) ?_); simp only [List.map_append, List.map_cons, List.map_nil]; rfl) | (refine Ol.eq (congrArg Ob.gw ?_); simp only [List.map_append, List.map_cons, List.map_nil, List.length_append, List.length_map, List.length_cons, List.length_nil]; done) | (refine Ol.bx ?_; (repeat' (first | exact LxL.nil | apply LxL.cons | exact Lx.refl | (refine Lx.eq (congrArg (AV.gr _ _ _) ?_); simp only [List.map_append, List.map_cons, List.map_nil]; rfl)))) | skip)))
    · have g : emC (rgN n q) r = false := ‹emR _ _ _ = false›
      have g2 : kidOk n a q = false := by rw [kidOk, ‹joinOk _ _ _ _ = false›, Bool.false_and]
      rw [kRun_bad hq g g2] at ho
      rw [← ho] at hD
      exact AW.ret (hD rfl (Lx.tup (.cons (Lx.agg (.cons .refl (.cons .nil (.cons .gr (.cons .gr (.cons .nil .nil)))))) (.cons .refl .nil))))
    all_goals omega
  · repeat' (first
    | apply AO.nil
    | (apply AO.kBuildS; first | refine AO.sBuildT (h := ?_) | refine AO.sBuildS (h := ?_))
    | (apply AO.kApp; first | refine AO.sGrowT (h := ?_) | refine AO.sNewT (h := ?_) | refine AO.sGrowBT (h := ?_) | refine AO.sGrow (h := ?_) | refine AO.sNewr (h := ?_))
    | (apply AO.kIx; first | refine AO.sIxN (h := ?_) | refine AO.sIx (h := ?_) | refine AO.sP (h := ?_) | refine AO.sPi (h := ?_))
    | (apply AO.kSl; first | refine AO.sSl (h := ?_) | refine AO.sSlArr (h := ?_) | refine AO.sP (h := ?_))
    | (apply AO.kBox; refine AO.sBox (h := ?_))
    | (apply AO.kAlloc; refine AO.sAlloc (h := ?_))
    | (apply AO.kStore; first | refine AO.sStore (h := ?_) | refine AO.sStB (h := ?_))
    | (apply AO.kAdd; refine AO.sAdd (h := ?_))
    | (apply AO.kSub; refine AO.sSub (h := ?_))
    | (apply AO.kCv; first | refine AO.sBytes (h := ?_) | refine AO.sStr (h := ?_) | refine AO.sStrR (h := ?_))
    | (apply AO.kP; first | refine AO.sP (h := ?_) | refine AO.sPi (h := ?_) | refine AO.sLoadB (h := ?_) | refine AO.sSameB (h := ?_) | refine AO.sMk0 (h := ?_) | refine AO.sArrB (h := ?_) | refine AO.sLoadA (h := ?_) | refine AO.sEqArr (heg := eqgArr) (h := ?_))
    | (apply AO.kP; refine AO.eqNil (h1 := fun h => ?_) (h2 := ?_))
    | apply AW.seq
    | (apply AW.kR; refine AW.sR (h := ?_))
    | apply AW.skip
    | apply AW.block
    | apply AW.out
    | (apply AW.kE; refine AW.sE (h := ?_))
    | apply AW.label
    | (apply AW.kRd; refine AW.sRd (h := ?_))
    | ((first | (apply AO.kG; first | refine AO.sgt (h1 := fun h => ?_) (h2 := fun h => ?_) | refine AO.sgf (h1 := fun h => ?_) (h2 := fun h => ?_) | refine AO.sgs (h := ?_)) | (apply AW.kC; refine AW.sC (h1 := fun h => ?_) (h2 := fun h => ?_)) | (apply AR.kAny; apply AR.kG; first | refine AR.sgt (h1 := fun h => ?_) (h2 := fun h => ?_) | refine AR.sgf (h1 := fun h => ?_) (h2 := fun h => ?_) | refine AR.sgs (h := ?_))) <;> (try (first | exact Bool.noConfusion h | exact absurd h (by decide) | (simp at h; done) | (rw [h]; try simp only [decide_eq_true_eq, decide_eq_false_iff_not, Int.not_lt, Int.not_le, ge_iff_le, gt_iff_lt, Bool.not_eq_true', Bool.not_eq_false', beq_iff_eq, beq_eq_false_iff_ne, ne_eq] at h; try rw [h]; try (exfalso; omega)) | skip)))
    | (apply AR.kAny; first | (apply AR.kBuildS; first | refine AR.sBuildT (h := ?_) | refine AR.sBuildS (h := ?_)) | (apply AR.kApp; first | refine AR.sGrowT (h := ?_) | refine AR.sNewT (h := ?_) | refine AR.sGrowBT (h := ?_) | refine AR.sGrow (h := ?_) | refine AR.sNewr (h := ?_)) | (apply AR.kIx; first | refine AR.sIxN (h := ?_) | refine AR.sIx (h := ?_) | refine AR.sP (h := ?_) | refine AR.sPi (h := ?_)) | (apply AR.kSl; first | refine AR.sSl (h := ?_) | refine AR.sSlArr (h := ?_) | refine AR.sP (h := ?_)) | (apply AR.kBox; refine AR.sBox (h := ?_)) | (apply AR.kAlloc; refine AR.sAlloc (h := ?_)) | (apply AR.kStore; refine AR.sStore (h := ?_)) | (apply AR.kAdd; refine AR.sAdd (h := ?_)) | (apply AR.kSub; refine AR.sSub (h := ?_)) | (apply AR.kCv; refine AR.sStrR (h := ?_)) | (apply AR.kP; first | refine AR.sP (h := ?_) | refine AR.sPi (h := ?_) | refine AR.sArrB (h := ?_) | refine AR.sLoadA (h := ?_) | refine AR.sEqArr (heg := eqgArr) (h := ?_)))
    | (apply AR.kNil; refine AR.sNil (h := ?_)))
    · omega
    · have e : n.kids.length - q = 0 := by omega
      rw [e, kRun] at ho
      rw [← ho] at hD
      exact AW.ret (hD rfl (Lx.tup (.cons (Lx.agg (.cons .refl (.cons .nil (.cons .gr (.cons .gr (.cons .nil .nil)))))) (.cons .refl .nil))))
/-! ### the whole -/
def ndZ : Nd := ⟨false, [], [], [], []⟩
def trE (n : Nd) (r : L × L × Bool) (a : L) : Nat :=
  if mayN n ≠ 0 then 3 else if (emR r.1 r.2.1 r.2.2 || !hp (undS r.1 r.2.1 r.2.2) a) = true then 1 else if n.leaf = true then 0
  else if (kRun n r a n.kids.length 0 [] []).2 = false then 1 else if trMsOk n.buf r a = false then 1 else 0
def trN (n : Nd) (r : L × L × Bool) (a : L) : Nd :=
  if trE n r a ≠ 0 then ndZ else if n.leaf = true then ⟨true, trPr n.pairs r a, [], [], []⟩
  else ⟨false, [], (kRun n r a n.kids.length 0 [] []).1.1, (kRun n r a n.kids.length 0 [] []).1.2, trMsR n.buf r a⟩
/-- Texts that a machine can hold. -/
structure Nd.strs (n : Nd) : Prop where
  kids : ∀ i, i < n.kids.length → (n.kids.getD i default).strip.length ≤ 1000000 ∧ (n.kids.getD i default).add.length ≤ 1000000
  buf : n.buf.all msSm = true
theorem tr3 {n r a} (h : mayN n ≠ 0) : trE n r a = 3 ∧ trN n r a = ndZ := by
  have e : trE n r a = 3 := by rw [trE, if_pos h]
  exact ⟨e, by rw [trN, e, if_pos (by decide)]⟩
theorem tr1 {n : Nd} {r a} (h : mayN n = 0) (h2 : (emR r.1 r.2.1 r.2.2 || !hp (undS r.1 r.2.1 r.2.2) a) = true) : trE n r a = 1 ∧ trN n r a = ndZ := by
  have e : trE n r a = 1 := by rw [trE, if_neg (by omega), if_pos h2]
  exact ⟨e, by rw [trN, e, if_pos (by decide)]⟩
theorem trL {n : Nd} {r a} (h : mayN n = 0) (h2 : (emR r.1 r.2.1 r.2.2 || !hp (undS r.1 r.2.1 r.2.2) a) = false) (h3 : n.leaf = true) : trE n r a = 0 ∧ trN n r a = ⟨true, trPr n.pairs r a, [], [], []⟩ := by
  have e : trE n r a = 0 := by rw [trE, if_neg (by omega), if_neg (by rw [h2]; decide), if_pos h3]
  exact ⟨e, by rw [trN, e, if_neg (by decide), if_pos h3]⟩
theorem trK1 {n : Nd} {r a} (h : mayN n = 0) (h2 : (emR r.1 r.2.1 r.2.2 || !hp (undS r.1 r.2.1 r.2.2) a) = false) (h3 : n.leaf = false) (h4 : (kRun n r a n.kids.length 0 [] []).2 = false) : trE n r a = 1 ∧ trN n r a = ndZ := by
  have e : trE n r a = 1 := by rw [trE, if_neg (by omega), if_neg (by rw [h2]; decide), if_neg (by rw [h3]; decide), if_pos h4]
  exact ⟨e, by rw [trN, e, if_pos (by decide)]⟩
theorem trK2 {n : Nd} {r a} (h : mayN n = 0) (h2 : (emR r.1 r.2.1 r.2.2 || !hp (undS r.1 r.2.1 r.2.2) a) = false) (h3 : n.leaf = false) (h4 : (kRun n r a n.kids.length 0 [] []).2 = true) (h5 : trMsOk n.buf r a = false) : trE n r a = 1 ∧ trN n r a = ndZ := by
  have e : trE n r a = 1 := by rw [trE, if_neg (by omega), if_neg (by rw [h2]; decide), if_neg (by rw [h3]; decide), if_neg (by rw [h4]; decide), if_pos h5]
  exact ⟨e, by rw [trN, e, if_pos (by decide)]⟩
theorem trK3 {n : Nd} {r a} (h : mayN n = 0) (h2 : (emR r.1 r.2.1 r.2.2 || !hp (undS r.1 r.2.1 r.2.2) a) = false) (h3 : n.leaf = false) (h4 : (kRun n r a n.kids.length 0 [] []).2 = true) (h5 : trMsOk n.buf r a = true) : trE n r a = 0 ∧ trN n r a = ⟨false, [], (kRun n r a n.kids.length 0 [] []).1.1, (kRun n r a n.kids.length 0 [] []).1.2, trMsR n.buf r a⟩ := by
  have e : trE n r a = 0 := by rw [trE, if_neg (by omega), if_neg (by rw [h2]; decide), if_neg (by rw [h3]; decide), if_neg (by rw [h4]; decide), if_neg (by rw [h5]; decide)]
  exact ⟨e, by rw [trN, e, if_neg (by decide), if_neg (by rw [h3]; decide)]⟩
theorem gTrim (n : Nd) (r : L × L × Bool) (a : L) (hs : n.small) (hx : n.strs) (ha : a.length ≤ 1000000) (hr : r.1.length ≤ 1000000) :
    Good Try.prog 26 [.agg n.av, .agg [.s r.1, .s r.2.1, .b r.2.2], .s a] [] (.tup [.agg (trN n r a).av, .i .i64 (trE n r a)]) [] := by
  have hs4 := hs.buf
  have hx1 := hx.buf
  obtain ⟨leaf, pairs, pivots, kids, buf⟩ := n
  cases leaf
  · refine Good.w tabOk mixed Try.func26 (N := 60) (by kernel_rfl) rfl (by (repeat (first | exact LE.nil | apply LE.cons)); done) (by (repeat (first | exact LE.nil | apply LE.cons)); done) fun D hD F => ?_
    repeat' (first
    | apply AO.nil
    | (apply AO.kCall 57; refine AO.sCall (hg := (gMay ⟨false, pairs, pivots, kids, buf⟩ hs)) (h := ?_))
    | (apply AO.kCall 58; refine AO.sCall (hg := (gEmpty _ _ _)) (h := ?_))
    | (apply AO.kCall 59; refine AO.sCall (hg := (gUnder _ _ _ sd)) (h := ?_))
    | (apply AO.kCall 69; refine AO.sCall (hg := (gHas _ _)) (h := ?_))
    | (apply AO.kCall 71; refine AO.sCall (hg := (gTrKids ⟨false, pairs, pivots, kids, buf⟩ _ _ hs ha hx.kids)) (h := ?_))
    | (apply AO.kCall 72; refine AO.sCall (hg := (gTrimMs _ _ _ hs4 ha hx1)) (h := ?_))
    | (apply AO.kBuildS; first | refine AO.sBuildT (h := ?_) | refine AO.sBuildS (h := ?_))
    | (apply AO.kApp; first | refine AO.sGrowT (h := ?_) | refine AO.sNewT (h := ?_) | refine AO.sGrowBT (h := ?_) | refine AO.sGrow (h := ?_) | refine AO.sNewr (h := ?_))
    | (apply AO.kIx; first | refine AO.sIxN (h := ?_) | refine AO.sIx (h := ?_) | refine AO.sP (h := ?_) | refine AO.sPi (h := ?_))
    | (apply AO.kSl; first | refine AO.sSl (h := ?_) | refine AO.sSlArr (h := ?_) | refine AO.sP (h := ?_))
    | (apply AO.kBox; refine AO.sBox (h := ?_))
    | (apply AO.kAlloc; refine AO.sAlloc (h := ?_))
    | (apply AO.kStore; first | refine AO.sStore (h := ?_) | refine AO.sStB (h := ?_))
    | (apply AO.kAdd; refine AO.sAdd (h := ?_))
    | (apply AO.kSub; refine AO.sSub (h := ?_))
    | (apply AO.kCv; first | refine AO.sBytes (h := ?_) | refine AO.sStr (h := ?_) | refine AO.sStrR (h := ?_))
    | (apply AO.kP; first | refine AO.sP (h := ?_) | refine AO.sPi (h := ?_) | refine AO.sLoadB (h := ?_) | refine AO.sSameB (h := ?_) | refine AO.sMk0 (h := ?_) | refine AO.sArrB (h := ?_) | refine AO.sLoadA (h := ?_) | refine AO.sEqArr (heg := eqgArr) (h := ?_))
    | (apply AO.kP; refine AO.eqNil (h1 := fun h => ?_) (h2 := ?_))
    | apply AW.seq
    | (apply AW.kR; refine AW.sR (h := ?_))
    | apply AW.skip
    | apply AW.block
    | apply AW.out
    | (apply AW.kE; refine AW.sE (h := ?_))
    | apply AW.label
    | (apply AW.kRd; refine AW.sRd (h := ?_))
    | ((first | (apply AO.kG; first | refine AO.sgt (h1 := fun h => ?_) (h2 := fun h => ?_) | refine AO.sgf (h1 := fun h => ?_) (h2 := fun h => ?_) | refine AO.sgs (h := ?_)) | (apply AW.kC; refine AW.sC (h1 := fun h => ?_) (h2 := fun h => ?_)) | (apply AR.kAny; apply AR.kG; first | refine AR.sgt (h1 := fun h => ?_) (h2 := fun h => ?_) | refine AR.sgf (h1 := fun h => ?_) (h2 := fun h => ?_) | refine AR.sgs (h := ?_))) <;> (try (first | exact Bool.noConfusion h | exact absurd h (by decide) | (simp at h; done) | (rw [h]; try simp only [decide_eq_true_eq, decide_eq_false_iff_not, Int.not_lt, Int.not_le, ge_iff_le, gt_iff_lt, Bool.not_eq_true', Bool.not_eq_false', beq_iff_eq, beq_eq_false_iff_ne, ne_eq] at h; try rw [h]; try (exfalso; omega)) | skip)))
    | (apply AR.kAny; first | (apply AR.kCall 57; refine AR.sCall (hg := (gMay ⟨false, pairs, pivots, kids, buf⟩ hs)) (h := ?_)) | (apply AR.kCall 58; refine AR.sCall (hg := (gEmpty _ _ _)) (h := ?_)) | (apply AR.kCall 59; refine AR.sCall (hg := (gUnder _ _ _ sd)) (h := ?_)) | (apply AR.kCall 69; refine AR.sCall (hg := (gHas _ _)) (h := ?_)) | (apply AR.kCall 71; refine AR.sCall (hg := (gTrKids ⟨false, pairs, pivots, kids, buf⟩ _ _ hs ha hx.kids)) (h := ?_)) | (apply AR.kCall 72; refine AR.sCall (hg := (gTrimMs _ _ _ hs4 ha hx1)) (h := ?_)) | (apply AR.kBuildS; first | refine AR.sBuildT (h := ?_) | refine AR.sBuildS (h := ?_)) | (apply AR.kApp; first | refine AR.sGrowT (h := ?_) | refine AR.sNewT (h := ?_) | refine AR.sGrowBT (h := ?_) | refine AR.sGrow (h := ?_) | refine AR.sNewr (h := ?_)) | (apply AR.kIx; first | refine AR.sIxN (h := ?_) | refine AR.sIx (h := ?_) | refine AR.sP (h := ?_) | refine AR.sPi (h := ?_)) | (apply AR.kSl; first | refine AR.sSl (h := ?_) | refine AR.sSlArr (h := ?_) | refine AR.sP (h := ?_)) | (apply AR.kBox; refine AR.sBox (h := ?_)) | (apply AR.kAlloc; refine AR.sAlloc (h := ?_)) | (apply AR.kStore; refine AR.sStore (h := ?_)) | (apply AR.kAdd; refine AR.sAdd (h := ?_)) | (apply AR.kSub; refine AR.sSub (h := ?_)) | (apply AR.kCv; refine AR.sStrR (h := ?_)) | (apply AR.kP; first | refine AR.sP (h := ?_) | refine AR.sPi (h := ?_) | refine AR.sArrB (h := ?_) | refine AR.sLoadA (h := ?_) | refine AR.sEqArr (heg := eqgArr) (h := ?_)))
    | (apply AR.kNil; refine AR.sNil (h := ?_)))
    · obtain ⟨t1, t2⟩ := tr3 (r := r) (a := a) (ne0 h)
      rw [t1, t2] at hD
      exact AW.ret (hD rfl (Lx.tup (.cons (Lx.agg (.cons .refl (.cons .nil (.cons .nil (.cons .nil (.cons .nil .nil)))))) (.cons (Lx.i rfl) .nil))))
    · obtain ⟨t1, t2⟩ := tr1 (n := ⟨false, pairs, pivots, kids, buf⟩) (r := r) (a := a) (eq0 ‹_›) (by rw [h]; cases emR r.1 r.2.1 r.2.2 <;> rfl)
      rw [t1, t2] at hD
      exact AW.ret (hD rfl (Lx.tup (.cons (Lx.agg (.cons .refl (.cons .nil (.cons .nil (.cons .nil (.cons .nil .nil)))))) (.cons (Lx.i rfl) .nil))))
    · have g : (emR r.1 r.2.1 r.2.2 || !hp (undS r.1 r.2.1 r.2.2) a) = false := by rw [‹emR r.1 r.2.1 r.2.2 = false›, ‹hp (undS r.1 r.2.1 r.2.2) a = true›]; rfl
      obtain ⟨t1, t2⟩ := trK1 (n := ⟨false, pairs, pivots, kids, buf⟩) (r := r) (a := a) (eq0 ‹_›) g rfl h
      rw [t1, t2] at hD
      exact AW.ret (hD rfl (Lx.tup (.cons (Lx.agg (.cons .refl (.cons .nil (.cons .nil (.cons .nil (.cons .nil .nil)))))) (.cons (Lx.i rfl) .nil))))
    · have g : (emR r.1 r.2.1 r.2.2 || !hp (undS r.1 r.2.1 r.2.2) a) = false := by rw [‹emR r.1 r.2.1 r.2.2 = false›, ‹hp (undS r.1 r.2.1 r.2.2) a = true›]; rfl
      have g5 : trMsOk buf r a = false := by
        cases q : trMsOk buf r a with
        | false => rfl
        | true => rw [q] at h; cases h
      obtain ⟨t1, t2⟩ := trK2 (n := ⟨false, pairs, pivots, kids, buf⟩) (r := r) (a := a) (eq0 ‹_›) g rfl ‹_› g5
      rw [t1, t2] at hD
      exact AW.ret (hD rfl (Lx.tup (.cons (Lx.agg (.cons .refl (.cons .nil (.cons .nil (.cons .nil (.cons .nil .nil)))))) (.cons (Lx.i (by show (if trMsOk buf r a = true then (0 : Int) else 1) = _; rw [g5]; rfl)) .nil))))
    · have g : (emR r.1 r.2.1 r.2.2 || !hp (undS r.1 r.2.1 r.2.2) a) = false := by rw [‹emR r.1 r.2.1 r.2.2 = false›, ‹hp (undS r.1 r.2.1 r.2.2) a = true›]; rfl
      have g5 : trMsOk buf r a = true := by
        cases q : trMsOk buf r a with
        | true => rfl
        | false => rw [q] at h; cases h
      obtain ⟨t1, t2⟩ := trK3 (n := ⟨false, pairs, pivots, kids, buf⟩) (r := r) (a := a) (eq0 ‹_›) g rfl ‹_› g5
      rw [t1, t2] at hD
      refine AW.ret (hD rfl (Lx.tup (.cons (Lx.agg (.cons .refl (.cons .refl (.cons .refl (.cons .refl (.cons ?_ .nil)))))) (.cons (Lx.i rfl) .nil))))
      exact Lx.eq (congrArg (fun l : List Ms => AV.sh 6 (l.map Ms.av)) (if_pos g5))
    · obtain ⟨t1, t2⟩ := tr1 (n := ⟨false, pairs, pivots, kids, buf⟩) (r := r) (a := a) (eq0 ‹_›) (by rw [‹emR r.1 r.2.1 r.2.2 = true›]; rfl)
      rw [t1, t2] at hD
      exact AW.ret (hD rfl (Lx.tup (.cons (Lx.agg (.cons .refl (.cons .nil (.cons .nil (.cons .nil (.cons .nil .nil)))))) (.cons (Lx.i rfl) .nil))))
  · refine Good.w tabOk mixed Try.func26 (N := 60) (by kernel_rfl) rfl (by (repeat (first | exact LE.nil | apply LE.cons)); done) (by (repeat (first | exact LE.nil | apply LE.cons)); done) fun D hD F => ?_
    repeat' (first
    | apply AO.nil
    | (apply AO.kCall 57; refine AO.sCall (hg := (gMay ⟨true, pairs, pivots, kids, buf⟩ hs)) (h := ?_))
    | (apply AO.kCall 58; refine AO.sCall (hg := (gEmpty _ _ _)) (h := ?_))
    | (apply AO.kCall 59; refine AO.sCall (hg := (gUnder _ _ _ sd)) (h := ?_))
    | (apply AO.kCall 69; refine AO.sCall (hg := (gHas _ _)) (h := ?_))
    | (apply AO.kCall 70; refine AO.sCall (hg := (gTrLeaf ⟨true, pairs, pivots, kids, buf⟩ _ _ hs)) (h := ?_))
    | (apply AO.kBuildS; first | refine AO.sBuildT (h := ?_) | refine AO.sBuildS (h := ?_))
    | (apply AO.kApp; first | refine AO.sGrowT (h := ?_) | refine AO.sNewT (h := ?_) | refine AO.sGrowBT (h := ?_) | refine AO.sGrow (h := ?_) | refine AO.sNewr (h := ?_))
    | (apply AO.kIx; first | refine AO.sIxN (h := ?_) | refine AO.sIx (h := ?_) | refine AO.sP (h := ?_) | refine AO.sPi (h := ?_))
    | (apply AO.kSl; first | refine AO.sSl (h := ?_) | refine AO.sSlArr (h := ?_) | refine AO.sP (h := ?_))
    | (apply AO.kBox; refine AO.sBox (h := ?_))
    | (apply AO.kAlloc; refine AO.sAlloc (h := ?_))
    | (apply AO.kStore; first | refine AO.sStore (h := ?_) | refine AO.sStB (h := ?_))
    | (apply AO.kAdd; refine AO.sAdd (h := ?_))
    | (apply AO.kSub; refine AO.sSub (h := ?_))
    | (apply AO.kCv; first | refine AO.sBytes (h := ?_) | refine AO.sStr (h := ?_) | refine AO.sStrR (h := ?_))
    | (apply AO.kP; first | refine AO.sP (h := ?_) | refine AO.sPi (h := ?_) | refine AO.sLoadB (h := ?_) | refine AO.sSameB (h := ?_) | refine AO.sMk0 (h := ?_) | refine AO.sArrB (h := ?_) | refine AO.sLoadA (h := ?_) | refine AO.sEqArr (heg := eqgArr) (h := ?_))
    | (apply AO.kP; refine AO.eqNil (h1 := fun h => ?_) (h2 := ?_))
    | apply AW.seq
    | (apply AW.kR; refine AW.sR (h := ?_))
    | apply AW.skip
    | apply AW.block
    | apply AW.out
    | (apply AW.kE; refine AW.sE (h := ?_))
    | apply AW.label
    | (apply AW.kRd; refine AW.sRd (h := ?_))
    | ((first | (apply AO.kG; first | refine AO.sgt (h1 := fun h => ?_) (h2 := fun h => ?_) | refine AO.sgf (h1 := fun h => ?_) (h2 := fun h => ?_) | refine AO.sgs (h := ?_)) | (apply AW.kC; refine AW.sC (h1 := fun h => ?_) (h2 := fun h => ?_)) | (apply AR.kAny; apply AR.kG; first | refine AR.sgt (h1 := fun h => ?_) (h2 := fun h => ?_) | refine AR.sgf (h1 := fun h => ?_) (h2 := fun h => ?_) | refine AR.sgs (h := ?_))) <;> (try (first | exact Bool.noConfusion h | exact absurd h (by decide) | (simp at h; done) | (rw [h]; try simp only [decide_eq_true_eq, decide_eq_false_iff_not, Int.not_lt, Int.not_le, ge_iff_le, gt_iff_lt, Bool.not_eq_true', Bool.not_eq_false', beq_iff_eq, beq_eq_false_iff_ne, ne_eq] at h; try rw [h]; try (exfalso; omega)) | skip)))
    | (apply AR.kAny; first | (apply AR.kCall 57; refine AR.sCall (hg := (gMay ⟨true, pairs, pivots, kids, buf⟩ hs)) (h := ?_)) | (apply AR.kCall 58; refine AR.sCall (hg := (gEmpty _ _ _)) (h := ?_)) | (apply AR.kCall 59; refine AR.sCall (hg := (gUnder _ _ _ sd)) (h := ?_)) | (apply AR.kCall 69; refine AR.sCall (hg := (gHas _ _)) (h := ?_)) | (apply AR.kCall 70; refine AR.sCall (hg := (gTrLeaf ⟨true, pairs, pivots, kids, buf⟩ _ _ hs)) (h := ?_)) | (apply AR.kBuildS; first | refine AR.sBuildT (h := ?_) | refine AR.sBuildS (h := ?_)) | (apply AR.kApp; first | refine AR.sGrowT (h := ?_) | refine AR.sNewT (h := ?_) | refine AR.sGrowBT (h := ?_) | refine AR.sGrow (h := ?_) | refine AR.sNewr (h := ?_)) | (apply AR.kIx; first | refine AR.sIxN (h := ?_) | refine AR.sIx (h := ?_) | refine AR.sP (h := ?_) | refine AR.sPi (h := ?_)) | (apply AR.kSl; first | refine AR.sSl (h := ?_) | refine AR.sSlArr (h := ?_) | refine AR.sP (h := ?_)) | (apply AR.kBox; refine AR.sBox (h := ?_)) | (apply AR.kAlloc; refine AR.sAlloc (h := ?_)) | (apply AR.kStore; refine AR.sStore (h := ?_)) | (apply AR.kAdd; refine AR.sAdd (h := ?_)) | (apply AR.kSub; refine AR.sSub (h := ?_)) | (apply AR.kCv; refine AR.sStrR (h := ?_)) | (apply AR.kP; first | refine AR.sP (h := ?_) | refine AR.sPi (h := ?_) | refine AR.sArrB (h := ?_) | refine AR.sLoadA (h := ?_) | refine AR.sEqArr (heg := eqgArr) (h := ?_)))
    | (apply AR.kNil; refine AR.sNil (h := ?_)))
    · obtain ⟨t1, t2⟩ := tr3 (r := r) (a := a) (ne0 h)
      rw [t1, t2] at hD
      exact AW.ret (hD rfl (Lx.tup (.cons (Lx.agg (.cons .refl (.cons .nil (.cons .nil (.cons .nil (.cons .nil .nil)))))) (.cons (Lx.i rfl) .nil))))
    · obtain ⟨t1, t2⟩ := tr1 (n := ⟨true, pairs, pivots, kids, buf⟩) (r := r) (a := a) (eq0 ‹_›) (by rw [h]; cases emR r.1 r.2.1 r.2.2 <;> rfl)
      rw [t1, t2] at hD
      exact AW.ret (hD rfl (Lx.tup (.cons (Lx.agg (.cons .refl (.cons .nil (.cons .nil (.cons .nil (.cons .nil .nil)))))) (.cons (Lx.i rfl) .nil))))
    · have g : (emR r.1 r.2.1 r.2.2 || !hp (undS r.1 r.2.1 r.2.2) a) = false := by rw [‹emR r.1 r.2.1 r.2.2 = false›, ‹hp (undS r.1 r.2.1 r.2.2) a = true›]; rfl
      obtain ⟨t1, t2⟩ := trL (n := ⟨true, pairs, pivots, kids, buf⟩) (r := r) (a := a) (eq0 ‹_›) g rfl
      rw [t1, t2] at hD
      exact AW.ret (hD rfl .refl)
    · obtain ⟨t1, t2⟩ := tr1 (n := ⟨true, pairs, pivots, kids, buf⟩) (r := r) (a := a) (eq0 ‹_›) (by rw [‹emR r.1 r.2.1 r.2.2 = true›]; rfl)
      rw [t1, t2] at hD
      exact AW.ret (hD rfl (Lx.tup (.cons (Lx.agg (.cons .refl (.cons .nil (.cons .nil (.cons .nil (.cons .nil .nil)))))) (.cons (Lx.i rfl) .nil))))
end Go.Proofs.Ytocppeifkjdeiaa.Mv
