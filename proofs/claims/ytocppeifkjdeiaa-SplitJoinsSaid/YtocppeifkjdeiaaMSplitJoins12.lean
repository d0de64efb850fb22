/- What the statement SplitJoins needs, part 12. Under no condition. -/
import Derived.Test.YtocppeifkjdeiaaMSplitJoins11
/- Splitting: two pieces joined by the document. Under no condition. -/
namespace Go.Proofs.Ytocppeifkjdeiaa.Mv
open Go Go.Proofs
set_option linter.unusedSimpArgs false
set_option linter.unusedVariables false
set_option maxRecDepth 10000
set_option maxHeartbeats 4000000
attribute [local irreducible] AW AO AR

theorem gJoinR (a b : Pc) (r : L × L × Bool) (ha : a.node.small) (hb : b.node.small) (hr : r.1.length ≤ 1000000) (sa : a.strip.length ≤ 1000000) (sb : b.strip.length ≤ 1000000) :
    Good Try.prog 19 [.agg a.av, .agg b.av, .agg [.s r.1, .s r.2.1, .b r.2.2]] [] (.tup [.agg (jnP a b r).av, .i .i64 (jnE a b r)]) [] := by
  have hu := und_len r
  obtain ⟨la, sa', ⟨fa, pa, va, ka, ba⟩⟩ := a
  obtain ⟨lb, sb', ⟨fb, pb, vb, kb, bb⟩⟩ := b
  cases fa with
  | false =>
    obtain ⟨t1, t2⟩ := jn3 (a := ⟨la, sa', ⟨false, pa, va, ka, ba⟩⟩) (b := ⟨lb, sb', ⟨fb, pb, vb, kb, bb⟩⟩) (r := r) rfl
    rw [t1, t2]
    refine Good.w tabOk mixed Try.func19 (N := 153) (by kernel_rfl) rfl (by (repeat (first | exact LE.nil | apply LE.cons)); done) (by (repeat (first | exact LE.nil | apply LE.cons)); done) fun D hD F => ?_
    repeat' (first
    | apply AO.nil
    | (apply AO.kBuildS; first | refine AO.sBuildT (h := ?_) | refine AO.sBuildS (h := ?_))
    | (apply AO.kApp; first | refine AO.sGrowT (h := ?_) | refine AO.sNewT (h := ?_) | refine AO.sGrowBT (h := ?_) | refine AO.sGrow (h := ?_) | refine AO.sNewr (h := ?_))
    | (apply AO.kIx; first | refine AO.sIxN (h := ?_) | refine AO.sIx (h := ?_) | refine AO.sP (h := ?_) | refine AO.sPi (h := ?_))
    | (apply AO.kSl; first | refine AO.sSl (h := ?_) | refine AO.sSlArr (h := ?_) | refine AO.sP (h := ?_))
    | (apply AO.kBox; refine AO.sBox (h := ?_))
    | (apply AO.kAlloc; refine AO.sAlloc (h := ?_))
    | (apply AO.kStore; first | refine AO.sStore (h := ?_) | refine AO.sStB (h := ?_))
    | (apply AO.kAdd; refine AO.sAdd (h := ?_))
    | (apply AO.kP; first | refine AO.sP (h := ?_) | refine AO.sPi (h := ?_) | refine AO.sLoadB (h := ?_) | refine AO.sSameB (h := ?_))
    | apply AW.seq
    | (apply AW.kR; refine AW.sR (h := ?_))
    | apply AW.skip
    | apply AW.block
    | apply AW.out
    | (apply AW.kE; refine AW.sE (h := ?_))
    | apply AW.label
    | (apply AW.kRd; refine AW.sRd (h := ?_))
    | ((first | (apply AO.kG; first | refine AO.sgt (h1 := fun h => ?_) (h2 := fun h => ?_) | refine AO.sgf (h1 := fun h => ?_) (h2 := fun h => ?_) | refine AO.sgs (h := ?_)) | (apply AW.kC; refine AW.sC (h1 := fun h => ?_) (h2 := fun h => ?_)) | (apply AR.kAny; apply AR.kG; first | refine AR.sgt (h1 := fun h => ?_) (h2 := fun h => ?_) | refine AR.sgf (h1 := fun h => ?_) (h2 := fun h => ?_) | refine AR.sgs (h := ?_))) <;> (try (first | exact Bool.noConfusion h | exact absurd h (by decide) | (simp at h; done) | (rw [h]; try simp only [nrm] at h; try rw [h]; try (exfalso; omega)) | skip)))
    | (apply AR.kAny; first | (apply AR.kBuildS; first | refine AR.sBuildT (h := ?_) | refine AR.sBuildS (h := ?_)) | (apply AR.kApp; first | refine AR.sGrowT (h := ?_) | refine AR.sNewT (h := ?_) | refine AR.sGrowBT (h := ?_) | refine AR.sGrow (h := ?_) | refine AR.sNewr (h := ?_)) | (apply AR.kIx; first | refine AR.sIxN (h := ?_) | refine AR.sIx (h := ?_) | refine AR.sP (h := ?_) | refine AR.sPi (h := ?_)) | (apply AR.kSl; first | refine AR.sSl (h := ?_) | refine AR.sSlArr (h := ?_) | refine AR.sP (h := ?_)) | (apply AR.kBox; refine AR.sBox (h := ?_)) | (apply AR.kAlloc; refine AR.sAlloc (h := ?_)) | (apply AR.kStore; refine AR.sStore (h := ?_)) | (apply AR.kAdd; refine AR.sAdd (h := ?_)) | (apply AR.kP; first | refine AR.sP (h := ?_) | refine AR.sPi (h := ?_)))
    | (apply AR.kNil; refine AR.sNil (h := ?_)))
    exact AW.ret (hD rfl (Lx.tup (.cons (Lx.agg (.cons .refl (.cons .refl (.cons .refl (.cons .nil (.cons .nil (.cons .nil (.cons .nil .nil)))))))) (.cons .refl .nil))))
  | true =>
    cases fb with
    | false =>
      obtain ⟨t1, t2⟩ := jn3 (a := ⟨la, sa', ⟨true, pa, va, ka, ba⟩⟩) (b := ⟨lb, sb', ⟨false, pb, vb, kb, bb⟩⟩) (r := r) rfl
      rw [t1, t2]
      refine Good.w tabOk mixed Try.func19 (N := 153) (by kernel_rfl) rfl (by (repeat (first | exact LE.nil | apply LE.cons)); done) (by (repeat (first | exact LE.nil | apply LE.cons)); done) fun D hD F => ?_
      repeat' (first
    | apply AO.nil
    | (apply AO.kBuildS; first | refine AO.sBuildT (h := ?_) | refine AO.sBuildS (h := ?_))
    | (apply AO.kApp; first | refine AO.sGrowT (h := ?_) | refine AO.sNewT (h := ?_) | refine AO.sGrowBT (h := ?_) | refine AO.sGrow (h := ?_) | refine AO.sNewr (h := ?_))
    | (apply AO.kIx; first | refine AO.sIxN (h := ?_) | refine AO.sIx (h := ?_) | refine AO.sP (h := ?_) | refine AO.sPi (h := ?_))
    | (apply AO.kSl; first | refine AO.sSl (h := ?_) | refine AO.sSlArr (h := ?_) | refine AO.sP (h := ?_))
    | (apply AO.kBox; refine AO.sBox (h := ?_))
    | (apply AO.kAlloc; refine AO.sAlloc (h := ?_))
    | (apply AO.kStore; first | refine AO.sStore (h := ?_) | refine AO.sStB (h := ?_))
    | (apply AO.kAdd; refine AO.sAdd (h := ?_))
    | (apply AO.kP; first | refine AO.sP (h := ?_) | refine AO.sPi (h := ?_) | refine AO.sLoadB (h := ?_) | refine AO.sSameB (h := ?_))
    | apply AW.seq
    | (apply AW.kR; refine AW.sR (h := ?_))
    | apply AW.skip
    | apply AW.block
    | apply AW.out
    | (apply AW.kE; refine AW.sE (h := ?_))
    | apply AW.label
    | (apply AW.kRd; refine AW.sRd (h := ?_))
    | ((first | (apply AO.kG; first | refine AO.sgt (h1 := fun h => ?_) (h2 := fun h => ?_) | refine AO.sgf (h1 := fun h => ?_) (h2 := fun h => ?_) | refine AO.sgs (h := ?_)) | (apply AW.kC; refine AW.sC (h1 := fun h => ?_) (h2 := fun h => ?_)) | (apply AR.kAny; apply AR.kG; first | refine AR.sgt (h1 := fun h => ?_) (h2 := fun h => ?_) | refine AR.sgf (h1 := fun h => ?_) (h2 := fun h => ?_) | refine AR.sgs (h := ?_))) <;> (try (first | exact Bool.noConfusion h | exact absurd h (by decide) | (simp at h; done) | (rw [h]; try simp only [nrm] at h; try rw [h]; try (exfalso; omega)) | skip)))
    | (apply AR.kAny; first | (apply AR.kBuildS; first | refine AR.sBuildT (h := ?_) | refine AR.sBuildS (h := ?_)) | (apply AR.kApp; first | refine AR.sGrowT (h := ?_) | refine AR.sNewT (h := ?_) | refine AR.sGrowBT (h := ?_) | refine AR.sGrow (h := ?_) | refine AR.sNewr (h := ?_)) | (apply AR.kIx; first | refine AR.sIxN (h := ?_) | refine AR.sIx (h := ?_) | refine AR.sP (h := ?_) | refine AR.sPi (h := ?_)) | (apply AR.kSl; first | refine AR.sSl (h := ?_) | refine AR.sSlArr (h := ?_) | refine AR.sP (h := ?_)) | (apply AR.kBox; refine AR.sBox (h := ?_)) | (apply AR.kAlloc; refine AR.sAlloc (h := ?_)) | (apply AR.kStore; refine AR.sStore (h := ?_)) | (apply AR.kAdd; refine AR.sAdd (h := ?_)) | (apply AR.kP; first | refine AR.sP (h := ?_) | refine AR.sPi (h := ?_)))
    | (apply AR.kNil; refine AR.sNil (h := ?_)))
      exact AW.ret (hD rfl (Lx.tup (.cons (Lx.agg (.cons .refl (.cons .refl (.cons .refl (.cons .nil (.cons .nil (.cons .nil (.cons .nil .nil)))))))) (.cons .refl .nil))))
    | true =>
      have ga := gMay' ⟨true, pa, va, ka, ba⟩ ha
      have gb := gMay' ⟨true, pb, vb, kb, bb⟩ hb
      generalize hA : (⟨la, sa', ⟨true, pa, va, ka, ba⟩⟩ : Pc) = A at *
      generalize hB : (⟨lb, sb', ⟨true, pb, vb, kb, bb⟩⟩ : Pc) = B at *
      have avA : A.av = [.s la, .s sa', .b true, .sh 2 (pa.map Pr.av), .sh 1 (va.map sav), .sh 4 (ka.map Ed.av), .sh 6 (ba.map Ms.av)] := by rw [← hA]; rfl
      have avB : B.av = [.s lb, .s sb', .b true, .sh 2 (pb.map Pr.av), .sh 1 (vb.map sav), .sh 4 (kb.map Ed.av), .sh 6 (bb.map Ms.av)] := by rw [← hB]; rfl
      rw [avA, avB]
      refine Good.w tabOk mixed Try.func19 (N := 153) (by kernel_rfl) rfl (by (repeat (first | exact LE.nil | apply LE.cons)); done) (by (repeat (first | exact LE.nil | apply LE.cons)); done) fun D hD F => ?_
      repeat' (first
    | apply AO.nil
    | (apply AO.kBuildS; first | refine AO.sBuildT (h := ?_) | refine AO.sBuildS (h := ?_))
    | (apply AO.kApp; first | refine AO.sGrowT (h := ?_) | refine AO.sNewT (h := ?_) | refine AO.sGrowBT (h := ?_) | refine AO.sGrow (h := ?_) | refine AO.sNewr (h := ?_))
    | (apply AO.kIx; first | refine AO.sIxN (h := ?_) | refine AO.sIx (h := ?_) | refine AO.sP (h := ?_) | refine AO.sPi (h := ?_))
    | (apply AO.kSl; first | refine AO.sSl (h := ?_) | refine AO.sSlArr (h := ?_) | refine AO.sP (h := ?_))
    | (apply AO.kBox; refine AO.sBox (h := ?_))
    | (apply AO.kAlloc; refine AO.sAlloc (h := ?_))
    | (apply AO.kStore; first | refine AO.sStore (h := ?_) | refine AO.sStB (h := ?_))
    | (apply AO.kAdd; refine AO.sAdd (h := ?_))
    | (apply AO.kP; first | refine AO.sP (h := ?_) | refine AO.sPi (h := ?_) | refine AO.sLoadB (h := ?_) | refine AO.sSameB (h := ?_))
    | apply AW.seq
    | (apply AW.kR; refine AW.sR (h := ?_))
    | apply AW.skip
    | apply AW.block
    | apply AW.out
    | (apply AW.kE; refine AW.sE (h := ?_))
    | apply AW.label
    | (apply AW.kRd; refine AW.sRd (h := ?_))
    | ((first | (apply AO.kG; first | refine AO.sgt (h1 := fun h => ?_) (h2 := fun h => ?_) | refine AO.sgf (h1 := fun h => ?_) (h2 := fun h => ?_) | refine AO.sgs (h := ?_)) | (apply AW.kC; refine AW.sC (h1 := fun h => ?_) (h2 := fun h => ?_)) | (apply AR.kAny; apply AR.kG; first | refine AR.sgt (h1 := fun h => ?_) (h2 := fun h => ?_) | refine AR.sgf (h1 := fun h => ?_) (h2 := fun h => ?_) | refine AR.sgs (h := ?_))) <;> (try (first | exact Bool.noConfusion h | exact absurd h (by decide) | (simp at h; done) | (rw [h]; try simp only [nrm] at h; try rw [h]; try (exfalso; omega)) | skip)))
    | (apply AR.kAny; first | (apply AR.kBuildS; first | refine AR.sBuildT (h := ?_) | refine AR.sBuildS (h := ?_)) | (apply AR.kApp; first | refine AR.sGrowT (h := ?_) | refine AR.sNewT (h := ?_) | refine AR.sGrowBT (h := ?_) | refine AR.sGrow (h := ?_) | refine AR.sNewr (h := ?_)) | (apply AR.kIx; first | refine AR.sIxN (h := ?_) | refine AR.sIx (h := ?_) | refine AR.sP (h := ?_) | refine AR.sPi (h := ?_)) | (apply AR.kSl; first | refine AR.sSl (h := ?_) | refine AR.sSlArr (h := ?_) | refine AR.sP (h := ?_)) | (apply AR.kBox; refine AR.sBox (h := ?_)) | (apply AR.kAlloc; refine AR.sAlloc (h := ?_)) | (apply AR.kStore; refine AR.sStore (h := ?_)) | (apply AR.kAdd; refine AR.sAdd (h := ?_)) | (apply AR.kP; first | refine AR.sP (h := ?_) | refine AR.sPi (h := ?_)))
    | (apply AR.kNil; refine AR.sNil (h := ?_)))
      apply AO.kCall 22; refine AO.sCall (hg := ga) (h := ?_)
      repeat' (first
    | apply AO.nil
    | (apply AO.kBuildS; first | refine AO.sBuildT (h := ?_) | refine AO.sBuildS (h := ?_))
    | (apply AO.kApp; first | refine AO.sGrowT (h := ?_) | refine AO.sNewT (h := ?_) | refine AO.sGrowBT (h := ?_) | refine AO.sGrow (h := ?_) | refine AO.sNewr (h := ?_))
    | (apply AO.kIx; first | refine AO.sIxN (h := ?_) | refine AO.sIx (h := ?_) | refine AO.sP (h := ?_) | refine AO.sPi (h := ?_))
    | (apply AO.kSl; first | refine AO.sSl (h := ?_) | refine AO.sSlArr (h := ?_) | refine AO.sP (h := ?_))
    | (apply AO.kBox; refine AO.sBox (h := ?_))
    | (apply AO.kAlloc; refine AO.sAlloc (h := ?_))
    | (apply AO.kStore; first | refine AO.sStore (h := ?_) | refine AO.sStB (h := ?_))
    | (apply AO.kAdd; refine AO.sAdd (h := ?_))
    | (apply AO.kP; first | refine AO.sP (h := ?_) | refine AO.sPi (h := ?_) | refine AO.sLoadB (h := ?_) | refine AO.sSameB (h := ?_))
    | apply AW.seq
    | (apply AW.kR; refine AW.sR (h := ?_))
    | apply AW.skip
    | apply AW.block
    | apply AW.out
    | (apply AW.kE; refine AW.sE (h := ?_))
    | apply AW.label
    | (apply AW.kRd; refine AW.sRd (h := ?_))
    | ((first | (apply AO.kG; first | refine AO.sgt (h1 := fun h => ?_) (h2 := fun h => ?_) | refine AO.sgf (h1 := fun h => ?_) (h2 := fun h => ?_) | refine AO.sgs (h := ?_)) | (apply AW.kC; refine AW.sC (h1 := fun h => ?_) (h2 := fun h => ?_)) | (apply AR.kAny; apply AR.kG; first | refine AR.sgt (h1 := fun h => ?_) (h2 := fun h => ?_) | refine AR.sgf (h1 := fun h => ?_) (h2 := fun h => ?_) | refine AR.sgs (h := ?_))) <;> (try (first | exact Bool.noConfusion h | exact absurd h (by decide) | (simp at h; done) | (rw [h]; try simp only [nrm] at h; try rw [h]; try (exfalso; omega)) | skip)))
    | (apply AR.kAny; first | (apply AR.kBuildS; first | refine AR.sBuildT (h := ?_) | refine AR.sBuildS (h := ?_)) | (apply AR.kApp; first | refine AR.sGrowT (h := ?_) | refine AR.sNewT (h := ?_) | refine AR.sGrowBT (h := ?_) | refine AR.sGrow (h := ?_) | refine AR.sNewr (h := ?_)) | (apply AR.kIx; first | refine AR.sIxN (h := ?_) | refine AR.sIx (h := ?_) | refine AR.sP (h := ?_) | refine AR.sPi (h := ?_)) | (apply AR.kSl; first | refine AR.sSl (h := ?_) | refine AR.sSlArr (h := ?_) | refine AR.sP (h := ?_)) | (apply AR.kBox; refine AR.sBox (h := ?_)) | (apply AR.kAlloc; refine AR.sAlloc (h := ?_)) | (apply AR.kStore; refine AR.sStore (h := ?_)) | (apply AR.kAdd; refine AR.sAdd (h := ?_)) | (apply AR.kP; first | refine AR.sP (h := ?_) | refine AR.sPi (h := ?_)))
    | (apply AR.kNil; refine AR.sNil (h := ?_)))
      · apply AO.kCall 22; refine AO.sCall (hg := gb) (h := ?_)
        repeat' (first
    | apply AO.nil
    | (apply AO.kCall 62; refine AO.sCall (hg := (gEmpty' _ _ _)) (h := ?_))
    | (apply AO.kBuildS; first | refine AO.sBuildT (h := ?_) | refine AO.sBuildS (h := ?_))
    | (apply AO.kApp; first | refine AO.sGrowT (h := ?_) | refine AO.sNewT (h := ?_) | refine AO.sGrowBT (h := ?_) | refine AO.sGrow (h := ?_) | refine AO.sNewr (h := ?_))
    | (apply AO.kIx; first | refine AO.sIxN (h := ?_) | refine AO.sIx (h := ?_) | refine AO.sP (h := ?_) | refine AO.sPi (h := ?_))
    | (apply AO.kSl; first | refine AO.sSl (h := ?_) | refine AO.sSlArr (h := ?_) | refine AO.sP (h := ?_))
    | (apply AO.kBox; refine AO.sBox (h := ?_))
    | (apply AO.kAlloc; refine AO.sAlloc (h := ?_))
    | (apply AO.kStore; first | refine AO.sStore (h := ?_) | refine AO.sStB (h := ?_))
    | (apply AO.kAdd; refine AO.sAdd (h := ?_))
    | (apply AO.kP; first | refine AO.sP (h := ?_) | refine AO.sPi (h := ?_) | refine AO.sLoadB (h := ?_) | refine AO.sSameB (h := ?_))
    | apply AW.seq
    | (apply AW.kR; refine AW.sR (h := ?_))
    | apply AW.skip
    | apply AW.block
    | apply AW.out
    | (apply AW.kE; refine AW.sE (h := ?_))
    | apply AW.label
    | (apply AW.kRd; refine AW.sRd (h := ?_))
    | ((first | (apply AO.kG; first | refine AO.sgt (h1 := fun h => ?_) (h2 := fun h => ?_) | refine AO.sgf (h1 := fun h => ?_) (h2 := fun h => ?_) | refine AO.sgs (h := ?_)) | (apply AW.kC; refine AW.sC (h1 := fun h => ?_) (h2 := fun h => ?_)) | (apply AR.kAny; apply AR.kG; first | refine AR.sgt (h1 := fun h => ?_) (h2 := fun h => ?_) | refine AR.sgf (h1 := fun h => ?_) (h2 := fun h => ?_) | refine AR.sgs (h := ?_))) <;> (try (first | exact Bool.noConfusion h | exact absurd h (by decide) | (simp at h; done) | (rw [h]; try simp only [nrm] at h; try rw [h]; try (exfalso; omega)) | skip)))
    | (apply AR.kAny; first | (apply AR.kCall 62; refine AR.sCall (hg := (gEmpty' _ _ _)) (h := ?_)) | (apply AR.kBuildS; first | refine AR.sBuildT (h := ?_) | refine AR.sBuildS (h := ?_)) | (apply AR.kApp; first | refine AR.sGrowT (h := ?_) | refine AR.sNewT (h := ?_) | refine AR.sGrowBT (h := ?_) | refine AR.sGrow (h := ?_) | refine AR.sNewr (h := ?_)) | (apply AR.kIx; first | refine AR.sIxN (h := ?_) | refine AR.sIx (h := ?_) | refine AR.sP (h := ?_) | refine AR.sPi (h := ?_)) | (apply AR.kSl; first | refine AR.sSl (h := ?_) | refine AR.sSlArr (h := ?_) | refine AR.sP (h := ?_)) | (apply AR.kBox; refine AR.sBox (h := ?_)) | (apply AR.kAlloc; refine AR.sAlloc (h := ?_)) | (apply AR.kStore; refine AR.sStore (h := ?_)) | (apply AR.kAdd; refine AR.sAdd (h := ?_)) | (apply AR.kP; first | refine AR.sP (h := ?_) | refine AR.sPi (h := ?_)))
    | (apply AR.kNil; refine AR.sNil (h := ?_)))
        · have ok0 : jnOk A B = false := by rw [← hA, ← hB]; simp [jnOk]; intro _; exact ne0 h
          obtain ⟨t1, t2⟩ := jn3 (r := r) ok0
          rw [t1, t2] at hD
          exact AW.ret (hD rfl (Lx.tup (.cons (Lx.agg (.cons .refl (.cons .refl (.cons .refl (.cons .nil (.cons .nil (.cons .nil (.cons .nil .nil)))))))) (.cons .refl .nil))))
        all_goals have ok1 : jnOk A B = true := by rw [← hA, ← hB]; simp [jnOk]; exact ⟨eq0 (by assumption), eq0 (by assumption)⟩
        · obtain ⟨t1, t2⟩ := jn1 (r := r) ok1 h
          rw [t1, t2] at hD
          exact AW.ret (hD rfl (Lx.tup (.cons (Lx.agg (.cons .refl (.cons .refl (.cons .refl (.cons .nil (.cons .nil (.cons .nil (.cons .nil .nil)))))))) (.cons .refl .nil))))
        have em0 := h
        have mA : mayN A.node = 0 := (jnOk_len ok1).2.2.1
        have mB : mayN B.node = 0 := (jnOk_len ok1).2.2.2
        obtain ⟨pa1, pa2⟩ : pa.length ≤ 16 ∧ pa.all prLen = true := by have := may_pairs mA; rw [← hA] at this; exact this
        obtain ⟨pb1, pb2⟩ : pb.length ≤ 16 ∧ pb.all prLen = true := by have := may_pairs mB; rw [← hB] at this; exact this
        have sa1 : sa'.length ≤ 1000000 := by rw [← hA] at sa; exact sa
        have sb1 : sb'.length ≤ 1000000 := by rw [← hB] at sb; exact sb
        have jA : ∀ q, q < pa.length → (jnOf A).take (q + 1) = (jnOf A).take q ++ [⟨sa' ++ (pa.getD q default).k, (pa.getD q default).v⟩] := fun q hq => by
          have := jnOf_step (p := A) (q := q) (by rw [← hA]; exact hq)
          rw [this, ← hA]
        have jB : ∀ q, q < pb.length → (jnOf B).take (q + 1) = (jnOf B).take q ++ [⟨sb' ++ (pb.getD q default).k, (pb.getD q default).v⟩] := fun q hq => by
          have := jnOf_step (p := B) (q := q) (by rw [← hB]; exact hq)
          rw [this, ← hB]
        have lA : (jnOf A).length = pa.length := by rw [jnOf_len, ← hA]
        have lB : (jnOf B).length = pb.length := by rw [jnOf_len, ← hB]
        refine AW.loopI (fun x : Nat × List Pr => x.1 ≤ pa.length ∧ x.2 = (jnOf A).take x.1) (fun x => ⟨[(3, .ptr 3 0), (4, .ptr 4 0), (5, .ptr 5 0), (6, .ptr 6 0), (8, .ptr 8 0), (9, .gr 42 43 2 (x.2.map Pr.av)), (45, .sh 2 (pa.map Pr.av)), (46, .i .i64 pa.length), (47, .i .i64 x.1)], [(3, .bx [.s la, .s sa', .b true, .sh 2 (pa.map Pr.av), .sh 1 (va.map sav), .sh 4 (ka.map Ed.av), .sh 6 (ba.map Ms.av)]), (4, .bx [.s lb, .s sb', .b true, .sh 2 (pb.map Pr.av), .sh 1 (vb.map sav), .sh 4 (kb.map Ed.av), .sh 6 (bb.map Ms.av)]), (5, .bx [.s r.1, .s r.2.1, .b r.2.2]), (6, .bx [.s [], .s [], .b false, .nil, .nil, .nil, .nil]), (8, .bx [.s [], .s [], .b false, .nil, .nil, .nil, .nil]), (42, .gw (x.2.map Pr.av).length)]⟩) (fun x => pa.length - x.1) (0, []) ⟨by simp, rfl⟩ (by (constructor <;> (repeat' (first | exact LeT.nil | exact LeB.nil | apply LeT.cons | apply LeB.cons | exact Ol.refl | apply Lx.s | apply Lx.b | apply Lx.i | exact Lx.refl)) <;> (first | rfl | assumption | omega | (simp only [List.length_map, BS_len]; done) | skip))) fun m ⟨q, u⟩ ⟨hn, ho⟩ ih => ?_
        dsimp only at hn ho ih ⊢
        have lu : (u.map Pr.av).length = u.length := by simp
        have lu2 : u.length ≤ 16 := by rw [ho, List.length_take]; omega
        by_cases hq : q < pa.length
        · have pk : (pa.getD q default).k.length ≤ 16 := by
            have := List.all_eq_true.1 pa2 (pa.getD q default) (by rw [getD_at hq]; exact List.getElem_mem hq)
            simp only [prLen, Bool.and_eq_true, decide_eq_true_eq] at this; exact this.1
          repeat' (first
    | apply AO.nil
    | (apply AO.kBuildS; first | refine AO.sBuildT (h := ?_) | refine AO.sBuildS (h := ?_))
    | (apply AO.kApp; first | refine AO.sGrowT (h := ?_) | refine AO.sNewT (h := ?_) | refine AO.sGrowBT (h := ?_) | refine AO.sGrow (h := ?_) | refine AO.sNewr (h := ?_))
    | (apply AO.kIx; first | refine AO.sIxN (h := ?_) | refine AO.sIx (h := ?_) | refine AO.sP (h := ?_) | refine AO.sPi (h := ?_))
    | (apply AO.kSl; first | refine AO.sSl (h := ?_) | refine AO.sSlArr (h := ?_) | refine AO.sP (h := ?_))
    | (apply AO.kBox; refine AO.sBox (h := ?_))
    | (apply AO.kAlloc; refine AO.sAlloc (h := ?_))
    | (apply AO.kStore; first | refine AO.sStore (h := ?_) | refine AO.sStB (h := ?_))
    | (apply AO.kAdd; refine AO.sAdd (h := ?_))
    | (apply AO.kP; first | refine AO.sP (h := ?_) | refine AO.sPi (h := ?_) | refine AO.sLoadB (h := ?_) | refine AO.sSameB (h := ?_))
    | apply AW.seq
    | (apply AW.kR; refine AW.sR (h := ?_))
    | apply AW.skip
    | apply AW.block
    | apply AW.out
    | (apply AW.kE; refine AW.sE (h := ?_))
    | apply AW.label
    | (apply AW.kRd; refine AW.sRd (h := ?_))
    | ((first | (apply AO.kG; first | refine AO.sgt (h1 := fun h => ?_) (h2 := fun h => ?_) | refine AO.sgf (h1 := fun h => ?_) (h2 := fun h => ?_) | refine AO.sgs (h := ?_)) | (apply AW.kC; refine AW.sC (h1 := fun h => ?_) (h2 := fun h => ?_)) | (apply AR.kAny; apply AR.kG; first | refine AR.sgt (h1 := fun h => ?_) (h2 := fun h => ?_) | refine AR.sgf (h1 := fun h => ?_) (h2 := fun h => ?_) | refine AR.sgs (h := ?_))) <;> (try (first | exact Bool.noConfusion h | exact absurd h (by decide) | (simp at h; done) | (rw [h]; try simp only [nrm] at h; try rw [h]; try (exfalso; omega)) | skip)))
    | (apply AR.kAny; first | (apply AR.kBuildS; first | refine AR.sBuildT (h := ?_) | refine AR.sBuildS (h := ?_)) | (apply AR.kApp; first | refine AR.sGrowT (h := ?_) | refine AR.sNewT (h := ?_) | refine AR.sGrowBT (h := ?_) | refine AR.sGrow (h := ?_) | refine AR.sNewr (h := ?_)) | (apply AR.kIx; first | refine AR.sIxN (h := ?_) | refine AR.sIx (h := ?_) | refine AR.sP (h := ?_) | refine AR.sPi (h := ?_)) | (apply AR.kSl; first | refine AR.sSl (h := ?_) | refine AR.sSlArr (h := ?_) | refine AR.sP (h := ?_)) | (apply AR.kBox; refine AR.sBox (h := ?_)) | (apply AR.kAlloc; refine AR.sAlloc (h := ?_)) | (apply AR.kStore; refine AR.sStore (h := ?_)) | (apply AR.kAdd; refine AR.sAdd (h := ?_)) | (apply AR.kP; first | refine AR.sP (h := ?_) | refine AR.sPi (h := ?_)))
    | (apply AR.kNil; refine AR.sNil (h := ?_)))
          all_goals first
            | exact ih (q + 1, u ++ [⟨sa' ++ (pa.getD q default).k, (pa.getD q default).v⟩]) _ ⟨by dsimp only; omega, by dsimp only; rw [ho, ← jA q hq]⟩ (by dsimp only; omega) (by ((constructor <;> (repeat' (first | exact LeT.nil | exact LeB.nil | apply LeT.cons | apply LeB.cons | exact Ol.refl | apply Lx.s | apply Lx.b | apply Lx.i | exact Lx.refl)) <;> (first | rfl | assumption | omega | (simp only [List.length_map, BS_len]; done) | skip)) <;> (first | (refine Lx.eq (congrArg (AV.gr _ _ _) ?_); simp only [List.map_append, List.map_cons, List.map_nil]; rfl) | (refine Ol.eq (congrArg Ob.gw ?_); simp only [List.map_append, List.map_cons, List.map_nil, List.length_append, List.length_map, List.length_cons, List.length_nil]; done) | (refine Ol.bx ?_; (repeat' (first | exact LxL.nil | apply LxL.cons | exact Lx.refl | (refine Lx.eq (congrArg (AV.gr _ _ _) ?_); simp only [List.map_append, List.map_cons, List.map_nil]; rfl)))) | skip)))
            | omega
        · obtain rfl : q = pa.length := by omega
          obtain rfl : u = jnOf A := by rw [ho, ← lA, List.take_length]
          repeat' (first
    | apply AO.nil
    | (apply AO.kBuildS; first | refine AO.sBuildT (h := ?_) | refine AO.sBuildS (h := ?_))
    | (apply AO.kApp; first | refine AO.sGrowT (h := ?_) | refine AO.sNewT (h := ?_) | refine AO.sGrowBT (h := ?_) | refine AO.sGrow (h := ?_) | refine AO.sNewr (h := ?_))
    | (apply AO.kIx; first | refine AO.sIxN (h := ?_) | refine AO.sIx (h := ?_) | refine AO.sP (h := ?_) | refine AO.sPi (h := ?_))
    | (apply AO.kSl; first | refine AO.sSl (h := ?_) | refine AO.sSlArr (h := ?_) | refine AO.sP (h := ?_))
    | (apply AO.kBox; refine AO.sBox (h := ?_))
    | (apply AO.kAlloc; refine AO.sAlloc (h := ?_))
    | (apply AO.kStore; first | refine AO.sStore (h := ?_) | refine AO.sStB (h := ?_))
    | (apply AO.kAdd; refine AO.sAdd (h := ?_))
    | (apply AO.kP; first | refine AO.sP (h := ?_) | refine AO.sPi (h := ?_) | refine AO.sLoadB (h := ?_) | refine AO.sSameB (h := ?_))
    | apply AW.seq
    | (apply AW.kR; refine AW.sR (h := ?_))
    | apply AW.skip
    | apply AW.block
    | apply AW.out
    | (apply AW.kE; refine AW.sE (h := ?_))
    | apply AW.label
    | (apply AW.kRd; refine AW.sRd (h := ?_))
    | ((first | (apply AO.kG; first | refine AO.sgt (h1 := fun h => ?_) (h2 := fun h => ?_) | refine AO.sgf (h1 := fun h => ?_) (h2 := fun h => ?_) | refine AO.sgs (h := ?_)) | (apply AW.kC; refine AW.sC (h1 := fun h => ?_) (h2 := fun h => ?_)) | (apply AR.kAny; apply AR.kG; first | refine AR.sgt (h1 := fun h => ?_) (h2 := fun h => ?_) | refine AR.sgf (h1 := fun h => ?_) (h2 := fun h => ?_) | refine AR.sgs (h := ?_))) <;> (try (first | exact Bool.noConfusion h | exact absurd h (by decide) | (simp at h; done) | (rw [h]; try simp only [nrm] at h; try rw [h]; try (exfalso; omega)) | skip)))
    | (apply AR.kAny; first | (apply AR.kBuildS; first | refine AR.sBuildT (h := ?_) | refine AR.sBuildS (h := ?_)) | (apply AR.kApp; first | refine AR.sGrowT (h := ?_) | refine AR.sNewT (h := ?_) | refine AR.sGrowBT (h := ?_) | refine AR.sGrow (h := ?_) | refine AR.sNewr (h := ?_)) | (apply AR.kIx; first | refine AR.sIxN (h := ?_) | refine AR.sIx (h := ?_) | refine AR.sP (h := ?_) | refine AR.sPi (h := ?_)) | (apply AR.kSl; first | refine AR.sSl (h := ?_) | refine AR.sSlArr (h := ?_) | refine AR.sP (h := ?_)) | (apply AR.kBox; refine AR.sBox (h := ?_)) | (apply AR.kAlloc; refine AR.sAlloc (h := ?_)) | (apply AR.kStore; refine AR.sStore (h := ?_)) | (apply AR.kAdd; refine AR.sAdd (h := ?_)) | (apply AR.kP; first | refine AR.sP (h := ?_) | refine AR.sPi (h := ?_)))
    | (apply AR.kNil; refine AR.sNil (h := ?_)))
          refine AW.loopI (fun x : Nat × List Pr => x.1 ≤ pb.length ∧ x.2 = jnOf A ++ (jnOf B).take x.1) (fun x => ⟨[(3, .ptr 3 0), (4, .ptr 4 0), (5, .ptr 5 0), (6, .ptr 6 0), (8, .ptr 8 0), (9, .gr 42 43 2 (x.2.map Pr.av)), (74, .sh 2 (pb.map Pr.av)), (75, .i .i64 pb.length), (76, .i .i64 x.1)], [(3, .bx [.s la, .s sa', .b true, .sh 2 (pa.map Pr.av), .sh 1 (va.map sav), .sh 4 (ka.map Ed.av), .sh 6 (ba.map Ms.av)]), (4, .bx [.s lb, .s sb', .b true, .sh 2 (pb.map Pr.av), .sh 1 (vb.map sav), .sh 4 (kb.map Ed.av), .sh 6 (bb.map Ms.av)]), (5, .bx [.s r.1, .s r.2.1, .b r.2.2]), (6, .bx [.s [], .s [], .b false, .nil, .nil, .nil, .nil]), (8, .bx [.s [], .s [], .b false, .nil, .nil, .nil, .nil]), (42, .gw (x.2.map Pr.av).length)]⟩) (fun x => pb.length - x.1) (0, jnOf A) ⟨by simp, by simp⟩ (by (constructor <;> (repeat' (first | exact LeT.nil | exact LeB.nil | apply LeT.cons | apply LeB.cons | exact Ol.refl | apply Lx.s | apply Lx.b | apply Lx.i | exact Lx.refl)) <;> (first | rfl | assumption | omega | (simp only [List.length_map, BS_len]; done) | skip))) fun m2 ⟨q2, u2⟩ ⟨hn2, ho2⟩ ih2 => ?_
          dsimp only at hn2 ho2 ih2 ⊢
          have lv : (u2.map Pr.av).length = u2.length := by simp
          have lv2 : u2.length ≤ 32 := by rw [ho2, List.length_append, List.length_take]; omega
          by_cases hq2 : q2 < pb.length
          · have pk : (pb.getD q2 default).k.length ≤ 16 := by
              have := List.all_eq_true.1 pb2 (pb.getD q2 default) (by rw [getD_at hq2]; exact List.getElem_mem hq2)
              simp only [prLen, Bool.and_eq_true, decide_eq_true_eq] at this; exact this.1
            repeat' (first
    | apply AO.nil
    | (apply AO.kBuildS; first | refine AO.sBuildT (h := ?_) | refine AO.sBuildS (h := ?_))
    | (apply AO.kApp; first | refine AO.sGrowT (h := ?_) | refine AO.sNewT (h := ?_) | refine AO.sGrowBT (h := ?_) | refine AO.sGrow (h := ?_) | refine AO.sNewr (h := ?_))
    | (apply AO.kIx; first | refine AO.sIxN (h := ?_) | refine AO.sIx (h := ?_) | refine AO.sP (h := ?_) | refine AO.sPi (h := ?_))
    | (apply AO.kSl; first | refine AO.sSl (h := ?_) | refine AO.sSlArr (h := ?_) | refine AO.sP (h := ?_))
    | (apply AO.kBox; refine AO.sBox (h := ?_))
    | (apply AO.kAlloc; refine AO.sAlloc (h := ?_))
    | (apply AO.kStore; first | refine AO.sStore (h := ?_) | refine AO.sStB (h := ?_))
    | (apply AO.kAdd; refine AO.sAdd (h := ?_))
    | (apply AO.kP; first | refine AO.sP (h := ?_) | refine AO.sPi (h := ?_) | refine AO.sLoadB (h := ?_) | refine AO.sSameB (h := ?_))
    | apply AW.seq
    | (apply AW.kR; refine AW.sR (h := ?_))
    | apply AW.skip
    | apply AW.block
    | apply AW.out
    | (apply AW.kE; refine AW.sE (h := ?_))
    | apply AW.label
    | (apply AW.kRd; refine AW.sRd (h := ?_))
    | ((first | (apply AO.kG; first | refine AO.sgt (h1 := fun h => ?_) (h2 := fun h => ?_) | refine AO.sgf (h1 := fun h => ?_) (h2 := fun h => ?_) | refine AO.sgs (h := ?_)) | (apply AW.kC; refine AW.sC (h1 := fun h => ?_) (h2 := fun h => ?_)) | (apply AR.kAny; apply AR.kG; first | refine AR.sgt (h1 := fun h => ?_) (h2 := fun h => ?_) | refine AR.sgf (h1 := fun h => ?_) (h2 := fun h => ?_) | refine AR.sgs (h := ?_))) <;> (try (first | exact Bool.noConfusion h | exact absurd h (by decide) | (simp at h; done) | (rw [h]; try simp only [nrm] at h; try rw [h]; try (exfalso; omega)) | skip)))
    | (apply AR.kAny; first | (apply AR.kBuildS; first | refine AR.sBuildT (h := ?_) | refine AR.sBuildS (h := ?_)) | (apply AR.kApp; first | refine AR.sGrowT (h := ?_) | refine AR.sNewT (h := ?_) | refine AR.sGrowBT (h := ?_) | refine AR.sGrow (h := ?_) | refine AR.sNewr (h := ?_)) | (apply AR.kIx; first | refine AR.sIxN (h := ?_) | refine AR.sIx (h := ?_) | refine AR.sP (h := ?_) | refine AR.sPi (h := ?_)) | (apply AR.kSl; first | refine AR.sSl (h := ?_) | refine AR.sSlArr (h := ?_) | refine AR.sP (h := ?_)) | (apply AR.kBox; refine AR.sBox (h := ?_)) | (apply AR.kAlloc; refine AR.sAlloc (h := ?_)) | (apply AR.kStore; refine AR.sStore (h := ?_)) | (apply AR.kAdd; refine AR.sAdd (h := ?_)) | (apply AR.kP; first | refine AR.sP (h := ?_) | refine AR.sPi (h := ?_)))
    | (apply AR.kNil; refine AR.sNil (h := ?_)))
            all_goals first
              | exact ih2 (q2 + 1, u2 ++ [⟨sb' ++ (pb.getD q2 default).k, (pb.getD q2 default).v⟩]) _ ⟨by dsimp only; omega, by dsimp only; rw [ho2, List.append_assoc, ← jB q2 hq2]⟩ (by dsimp only; omega) (by ((constructor <;> (repeat' (first | exact LeT.nil | exact LeB.nil | apply LeT.cons | apply LeB.cons | exact Ol.refl | apply Lx.s | apply Lx.b | apply Lx.i | exact Lx.refl)) <;> (first | rfl | assumption | omega | (simp only [List.length_map, BS_len]; done) | skip)) <;> (first | (refine Lx.eq (congrArg (AV.gr _ _ _) ?_); simp only [List.map_append, List.map_cons, List.map_nil]; rfl) | (refine Ol.eq (congrArg Ob.gw ?_); simp only [List.map_append, List.map_cons, List.map_nil, List.length_append, List.length_map, List.length_cons, List.length_nil]; done) | (refine Ol.bx ?_; (repeat' (first | exact LxL.nil | apply LxL.cons | exact Lx.refl | (refine Lx.eq (congrArg (AV.gr _ _ _) ?_); simp only [List.map_append, List.map_cons, List.map_nil]; rfl)))) | skip)))
              | omega
          · obtain rfl : q2 = pb.length := by omega
            obtain rfl : u2 = jnAll A B := by rw [ho2, ← lB, List.take_length, jnAll]
            generalize hU : jnAll A B = U at *
            have gr := gRise U (by omega)
            repeat' (first
    | apply AO.nil
    | (apply AO.kCall 54; refine AO.sCall (hg := gr) (h := ?_))
    | (apply AO.kCall 63; refine AO.sCall (hg := (gUnder' _ _ _ sd)) (h := ?_))
    | (apply AO.kBuildS; first | refine AO.sBuildT (h := ?_) | refine AO.sBuildS (h := ?_))
    | (apply AO.kApp; first | refine AO.sGrowT (h := ?_) | refine AO.sNewT (h := ?_) | refine AO.sGrowBT (h := ?_) | refine AO.sGrow (h := ?_) | refine AO.sNewr (h := ?_))
    | (apply AO.kIx; first | refine AO.sIxN (h := ?_) | refine AO.sIx (h := ?_) | refine AO.sP (h := ?_) | refine AO.sPi (h := ?_))
    | (apply AO.kSl; first | refine AO.sSl (h := ?_) | refine AO.sSlArr (h := ?_) | refine AO.sP (h := ?_))
    | (apply AO.kBox; refine AO.sBox (h := ?_))
    | (apply AO.kAlloc; refine AO.sAlloc (h := ?_))
    | (apply AO.kStore; first | refine AO.sStore (h := ?_) | refine AO.sStB (h := ?_))
    | (apply AO.kAdd; refine AO.sAdd (h := ?_))
    | (apply AO.kP; first | refine AO.sP (h := ?_) | refine AO.sPi (h := ?_) | refine AO.sLoadB (h := ?_) | refine AO.sSameB (h := ?_))
    | apply AW.seq
    | (apply AW.kR; refine AW.sR (h := ?_))
    | apply AW.skip
    | apply AW.block
    | apply AW.out
    | (apply AW.kE; refine AW.sE (h := ?_))
    | apply AW.label
    | (apply AW.kRd; refine AW.sRd (h := ?_))
    | ((first | (apply AO.kG; first | refine AO.sgt (h1 := fun h => ?_) (h2 := fun h => ?_) | refine AO.sgf (h1 := fun h => ?_) (h2 := fun h => ?_) | refine AO.sgs (h := ?_)) | (apply AW.kC; refine AW.sC (h1 := fun h => ?_) (h2 := fun h => ?_)) | (apply AR.kAny; apply AR.kG; first | refine AR.sgt (h1 := fun h => ?_) (h2 := fun h => ?_) | refine AR.sgf (h1 := fun h => ?_) (h2 := fun h => ?_) | refine AR.sgs (h := ?_))) <;> (try (first | exact Bool.noConfusion h | exact absurd h (by decide) | (simp at h; done) | (rw [h]; try simp only [nrm] at h; try rw [h]; try (exfalso; omega)) | skip)))
    | (apply AR.kAny; first | (apply AR.kCall 54; refine AR.sCall (hg := gr) (h := ?_)) | (apply AR.kCall 63; refine AR.sCall (hg := (gUnder' _ _ _ sd)) (h := ?_)) | (apply AR.kBuildS; first | refine AR.sBuildT (h := ?_) | refine AR.sBuildS (h := ?_)) | (apply AR.kApp; first | refine AR.sGrowT (h := ?_) | refine AR.sNewT (h := ?_) | refine AR.sGrowBT (h := ?_) | refine AR.sGrow (h := ?_) | refine AR.sNewr (h := ?_)) | (apply AR.kIx; first | refine AR.sIxN (h := ?_) | refine AR.sIx (h := ?_) | refine AR.sP (h := ?_) | refine AR.sPi (h := ?_)) | (apply AR.kSl; first | refine AR.sSl (h := ?_) | refine AR.sSlArr (h := ?_) | refine AR.sP (h := ?_)) | (apply AR.kBox; refine AR.sBox (h := ?_)) | (apply AR.kAlloc; refine AR.sAlloc (h := ?_)) | (apply AR.kStore; refine AR.sStore (h := ?_)) | (apply AR.kAdd; refine AR.sAdd (h := ?_)) | (apply AR.kP; first | refine AR.sP (h := ?_) | refine AR.sPi (h := ?_)))
    | (apply AR.kNil; refine AR.sNil (h := ?_)))
            · obtain ⟨t1, t2⟩ := jn2 (r := r) ok1 em0 (by rw [hU, jnIn, h]; rfl)
              rw [t1, t2] at hD
              exact AW.ret (hD rfl (Lx.tup (.cons (Lx.agg (.cons .refl (.cons .refl (.cons .refl (.cons .nil (.cons .nil (.cons .nil (.cons .nil .nil)))))))) (.cons .refl .nil))))
            have lU : ((U.map Pr.av).length : Int) = (U.length : Nat) := by simp
            refine AW.nilrow 900 43 2 (St.freeB_ok rfl) (st' := ⟨[(5, .ptr 5 0), (6, .ptr 6 0), (8, .ptr 8 0), (9, .gr 42 43 2 (U.map Pr.av)), (12, .s (undS r.1 r.2.1 r.2.2)), (13, .ptr 13 0), (113, .i .i64 U.length), (114, .i .i64 (0 : Nat))], [(5, .bx [.s r.1, .s r.2.1, .b r.2.2]), (6, .bx [.s [], .s [], .b false, .nil, .nil, .nil, .nil]), (8, .bx [.s [], .s [], .b false, .nil, .nil, .nil, .nil]), (13, .bx [.s r.1, .s (undS r.1 r.2.1 r.2.2), .b true, .gr 900 43 2 [], .nil, .nil, .nil]), (900, .gw 0)]⟩) ⟨by ((repeat' (first | exact LeT.nil | apply LeT.cons | exact Lx.nilG | apply Lx.s | apply Lx.b | apply Lx.i | exact Lx.refl)) <;> (first | rfl | assumption | omega | (simp only [List.length_map, BS_len]; done) | skip)), .cons .refl (.cons .refl (.cons .refl (.cons (.bx (.cons .refl (.cons .refl (.cons .refl (.cons .nilG (.cons .refl (.cons .refl (.cons .refl .nil)))))))) (.cons .refl .nil))))⟩ ?_
            refine AW.loopI (fun x : Nat × List Pr => x.1 ≤ U.length ∧ x.2 = (U.take x.1).map (prCut (undS r.1 r.2.1 r.2.2)) ∧ (U.take x.1).all (prKeep r) = true) (fun x => ⟨[(5, .ptr 5 0), (6, .ptr 6 0), (8, .ptr 8 0), (9, .gr 42 43 2 (U.map Pr.av)), (12, .s (undS r.1 r.2.1 r.2.2)), (13, .ptr 13 0), (113, .i .i64 U.length), (114, .i .i64 x.1)], [(5, .bx [.s r.1, .s r.2.1, .b r.2.2]), (6, .bx [.s [], .s [], .b false, .nil, .nil, .nil, .nil]), (8, .bx [.s [], .s [], .b false, .nil, .nil, .nil, .nil]), (13, .bx [.s r.1, .s (undS r.1 r.2.1 r.2.2), .b true, .gr 900 43 2 (x.2.map Pr.av), .nil, .nil, .nil]), (900, .gw (x.2.map Pr.av).length)]⟩) (fun x => U.length - x.1) (0, []) ⟨by simp, rfl, rfl⟩ (by (constructor <;> (repeat' (first | exact LeT.nil | exact LeB.nil | apply LeT.cons | apply LeB.cons | exact Ol.refl | apply Lx.s | apply Lx.b | apply Lx.i | exact Lx.refl)) <;> (first | rfl | assumption | omega | (simp only [List.length_map, BS_len]; done) | skip))) fun m3 ⟨j, o⟩ ⟨hn3, ho3, hk3⟩ ih3 => ?_
            dsimp only at hn3 ho3 hk3 ih3 ⊢
            have lo : (o.map Pr.av).length = o.length := by simp
            have lo2 : o.length ≤ 32 := by rw [ho3, List.length_map, List.length_take]; omega
            by_cases hj : j < U.length
            · cases g : inR r.1 r.2.1 r.2.2 (U.getD j default).k with
              | false =>
                have gi := gIn' r.1 r.2.1 r.2.2 (U.getD j default).k
                rw [g] at gi
                repeat' (first
    | apply AO.nil
    | (apply AO.kCall 29; refine AO.sCall (hg := gi) (h := ?_))
    | (apply AO.kBuildS; first | refine AO.sBuildT (h := ?_) | refine AO.sBuildS (h := ?_))
    | (apply AO.kApp; first | refine AO.sGrowT (h := ?_) | refine AO.sNewT (h := ?_) | refine AO.sGrowBT (h := ?_) | refine AO.sGrow (h := ?_) | refine AO.sNewr (h := ?_))
    | (apply AO.kIx; first | refine AO.sIxN (h := ?_) | refine AO.sIx (h := ?_) | refine AO.sP (h := ?_) | refine AO.sPi (h := ?_))
    | (apply AO.kSl; first | refine AO.sSl (h := ?_) | refine AO.sSlArr (h := ?_) | refine AO.sP (h := ?_))
    | (apply AO.kBox; refine AO.sBox (h := ?_))
    | (apply AO.kAlloc; refine AO.sAlloc (h := ?_))
    | (apply AO.kStore; first | refine AO.sStore (h := ?_) | refine AO.sStB (h := ?_))
    | (apply AO.kAdd; refine AO.sAdd (h := ?_))
    | (apply AO.kP; first | refine AO.sP (h := ?_) | refine AO.sPi (h := ?_) | refine AO.sLoadB (h := ?_) | refine AO.sSameB (h := ?_))
    | apply AW.seq
    | (apply AW.kR; refine AW.sR (h := ?_))
    | apply AW.skip
    | apply AW.block
    | apply AW.out
    | (apply AW.kE; refine AW.sE (h := ?_))
    | apply AW.label
    | (apply AW.kRd; refine AW.sRd (h := ?_))
    | ((first | (apply AO.kG; first | refine AO.sgt (h1 := fun h => ?_) (h2 := fun h => ?_) | refine AO.sgf (h1 := fun h => ?_) (h2 := fun h => ?_) | refine AO.sgs (h := ?_)) | (apply AW.kC; refine AW.sC (h1 := fun h => ?_) (h2 := fun h => ?_)) | (apply AR.kAny; apply AR.kG; first | refine AR.sgt (h1 := fun h => ?_) (h2 := fun h => ?_) | refine AR.sgf (h1 := fun h => ?_) (h2 := fun h => ?_) | refine AR.sgs (h := ?_))) <;> (try (first | exact Bool.noConfusion h | exact absurd h (by decide) | (simp at h; done) | (rw [h]; try simp only [nrm] at h; try rw [h]; try (exfalso; omega)) | skip)))
    | (apply AR.kAny; first | (apply AR.kCall 29; refine AR.sCall (hg := gi) (h := ?_)) | (apply AR.kBuildS; first | refine AR.sBuildT (h := ?_) | refine AR.sBuildS (h := ?_)) | (apply AR.kApp; first | refine AR.sGrowT (h := ?_) | refine AR.sNewT (h := ?_) | refine AR.sGrowBT (h := ?_) | refine AR.sGrow (h := ?_) | refine AR.sNewr (h := ?_)) | (apply AR.kIx; first | refine AR.sIxN (h := ?_) | refine AR.sIx (h := ?_) | refine AR.sP (h := ?_) | refine AR.sPi (h := ?_)) | (apply AR.kSl; first | refine AR.sSl (h := ?_) | refine AR.sSlArr (h := ?_) | refine AR.sP (h := ?_)) | (apply AR.kBox; refine AR.sBox (h := ?_)) | (apply AR.kAlloc; refine AR.sAlloc (h := ?_)) | (apply AR.kStore; refine AR.sStore (h := ?_)) | (apply AR.kAdd; refine AR.sAdd (h := ?_)) | (apply AR.kP; first | refine AR.sP (h := ?_) | refine AR.sPi (h := ?_)))
    | (apply AR.kNil; refine AR.sNil (h := ?_)))
                · obtain ⟨t1, t2⟩ := jn2 (r := r) ok1 em0 (by rw [hU, jnIn, all_fail (p := prKeep r) hj g, Bool.and_false])
                  rw [t1, t2] at hD
                  exact AW.ret (hD rfl (Lx.tup (.cons (Lx.agg (.cons .refl (.cons .refl (.cons .refl (.cons .nil (.cons .nil (.cons .nil (.cons .nil .nil)))))))) (.cons .refl .nil))))
                all_goals omega
              | true =>
                have gi := gIn' r.1 r.2.1 r.2.2 (U.getD j default).k
                rw [g] at gi
                have hpk := keep_und (p := U.getD j default) g
                have hle := hp_len hpk
                have hcs := cutS_hp hpk
                repeat' (first
    | apply AO.nil
    | (apply AO.kCall 29; refine AO.sCall (hg := gi) (h := ?_))
    | (apply AO.kBuildS; first | refine AO.sBuildT (h := ?_) | refine AO.sBuildS (h := ?_))
    | (apply AO.kApp; first | refine AO.sGrowT (h := ?_) | refine AO.sNewT (h := ?_) | refine AO.sGrowBT (h := ?_) | refine AO.sGrow (h := ?_) | refine AO.sNewr (h := ?_))
    | (apply AO.kIx; first | refine AO.sIxN (h := ?_) | refine AO.sIx (h := ?_) | refine AO.sP (h := ?_) | refine AO.sPi (h := ?_))
    | (apply AO.kSl; first | refine AO.sSl (h := ?_) | refine AO.sSlArr (h := ?_) | refine AO.sP (h := ?_))
    | (apply AO.kBox; refine AO.sBox (h := ?_))
    | (apply AO.kAlloc; refine AO.sAlloc (h := ?_))
    | (apply AO.kStore; first | refine AO.sStore (h := ?_) | refine AO.sStB (h := ?_))
    | (apply AO.kAdd; refine AO.sAdd (h := ?_))
    | (apply AO.kP; first | refine AO.sP (h := ?_) | refine AO.sPi (h := ?_) | refine AO.sLoadB (h := ?_) | refine AO.sSameB (h := ?_))
    | apply AW.seq
    | (apply AW.kR; refine AW.sR (h := ?_))
    | apply AW.skip
    | apply AW.block
    | apply AW.out
    | (apply AW.kE; refine AW.sE (h := ?_))
    | apply AW.label
    | (apply AW.kRd; refine AW.sRd (h := ?_))
    | ((first | (apply AO.kG; first | refine AO.sgt (h1 := fun h => ?_) (h2 := fun h => ?_) | refine AO.sgf (h1 := fun h => ?_) (h2 := fun h => ?_) | refine AO.sgs (h := ?_)) | (apply AW.kC; refine AW.sC (h1 := fun h => ?_) (h2 := fun h => ?_)) | (apply AR.kAny; apply AR.kG; first | refine AR.sgt (h1 := fun h => ?_) (h2 := fun h => ?_) | refine AR.sgf (h1 := fun h => ?_) (h2 := fun h => ?_) | refine AR.sgs (h := ?_))) <;> (try (first | exact Bool.noConfusion h | exact absurd h (by decide) | (simp at h; done) | (rw [h]; try simp only [nrm] at h; try rw [h]; try (exfalso; omega)) | skip)))
    | (apply AR.kAny; first | (apply AR.kCall 29; refine AR.sCall (hg := gi) (h := ?_)) | (apply AR.kBuildS; first | refine AR.sBuildT (h := ?_) | refine AR.sBuildS (h := ?_)) | (apply AR.kApp; first | refine AR.sGrowT (h := ?_) | refine AR.sNewT (h := ?_) | refine AR.sGrowBT (h := ?_) | refine AR.sGrow (h := ?_) | refine AR.sNewr (h := ?_)) | (apply AR.kIx; first | refine AR.sIxN (h := ?_) | refine AR.sIx (h := ?_) | refine AR.sP (h := ?_) | refine AR.sPi (h := ?_)) | (apply AR.kSl; first | refine AR.sSl (h := ?_) | refine AR.sSlArr (h := ?_) | refine AR.sP (h := ?_)) | (apply AR.kBox; refine AR.sBox (h := ?_)) | (apply AR.kAlloc; refine AR.sAlloc (h := ?_)) | (apply AR.kStore; refine AR.sStore (h := ?_)) | (apply AR.kAdd; refine AR.sAdd (h := ?_)) | (apply AR.kP; first | refine AR.sP (h := ?_) | refine AR.sPi (h := ?_)))
    | (apply AR.kNil; refine AR.sNil (h := ?_)))
                all_goals first
                  | omega
                  | (refine ih3 (j + 1, o ++ [prCut (undS r.1 r.2.1 r.2.2) (U.getD j default)]) _ ⟨by dsimp only; omega, by dsimp only; rw [ho3, takeD hj, List.map_append]; rfl, all_step hj hk3 g⟩ (by dsimp only; omega) ?_
                     simp only [prCut, hcs]
                     (((constructor <;> (repeat' (first | exact LeT.nil | exact LeB.nil | apply LeT.cons | apply LeB.cons | exact Ol.refl | apply Lx.s | apply Lx.b | apply Lx.i | exact Lx.refl)) <;> (first | rfl | assumption | omega | (simp only [List.length_map, BS_len]; done) | skip)) <;> (first | (refine Lx.eq (congrArg (AV.gr _ _ _) ?_); simp only [List.map_append, List.map_cons, List.map_nil]; rfl) | (refine Ol.eq (congrArg Ob.gw ?_); simp only [List.map_append, List.map_cons, List.map_nil, List.length_append, List.length_map, List.length_cons, List.length_nil]; done) | (refine Ol.bx ?_; (repeat' (first | exact LxL.nil | apply LxL.cons | exact Lx.refl | (refine Lx.eq (congrArg (AV.gr _ _ _) ?_); simp only [List.map_append, List.map_cons, List.map_nil]; rfl)))) | skip))) <;> trace_state)
            · obtain rfl : j = U.length := by omega
              rw [List.take_length] at ho3 hk3
              have hj2 : jnIn (jnAll A B) r = true := by rw [hU, jnIn, ‹rise _ = true›, hk3]; rfl
              subst ho3
              repeat' (first
    | apply AO.nil
    | (apply AO.kBuildS; first | refine AO.sBuildT (h := ?_) | refine AO.sBuildS (h := ?_))
    | (apply AO.kApp; first | refine AO.sGrowT (h := ?_) | refine AO.sNewT (h := ?_) | refine AO.sGrowBT (h := ?_) | refine AO.sGrow (h := ?_) | refine AO.sNewr (h := ?_))
    | (apply AO.kIx; first | refine AO.sIxN (h := ?_) | refine AO.sIx (h := ?_) | refine AO.sP (h := ?_) | refine AO.sPi (h := ?_))
    | (apply AO.kSl; first | refine AO.sSl (h := ?_) | refine AO.sSlArr (h := ?_) | refine AO.sP (h := ?_))
    | (apply AO.kBox; refine AO.sBox (h := ?_))
    | (apply AO.kAlloc; refine AO.sAlloc (h := ?_))
    | (apply AO.kStore; first | refine AO.sStore (h := ?_) | refine AO.sStB (h := ?_))
    | (apply AO.kAdd; refine AO.sAdd (h := ?_))
    | (apply AO.kP; first | refine AO.sP (h := ?_) | refine AO.sPi (h := ?_) | refine AO.sLoadB (h := ?_) | refine AO.sSameB (h := ?_))
    | apply AW.seq
    | (apply AW.kR; refine AW.sR (h := ?_))
    | apply AW.skip
    | apply AW.block
    | apply AW.out
    | (apply AW.kE; refine AW.sE (h := ?_))
    | apply AW.label
    | (apply AW.kRd; refine AW.sRd (h := ?_))
    | ((first | (apply AO.kG; first | refine AO.sgt (h1 := fun h => ?_) (h2 := fun h => ?_) | refine AO.sgf (h1 := fun h => ?_) (h2 := fun h => ?_) | refine AO.sgs (h := ?_)) | (apply AW.kC; refine AW.sC (h1 := fun h => ?_) (h2 := fun h => ?_)) | (apply AR.kAny; apply AR.kG; first | refine AR.sgt (h1 := fun h => ?_) (h2 := fun h => ?_) | refine AR.sgf (h1 := fun h => ?_) (h2 := fun h => ?_) | refine AR.sgs (h := ?_))) <;> (try (first | exact Bool.noConfusion h | exact absurd h (by decide) | (simp at h; done) | (rw [h]; try simp only [nrm] at h; try rw [h]; try (exfalso; omega)) | skip)))
    | (apply AR.kAny; first | (apply AR.kBuildS; first | refine AR.sBuildT (h := ?_) | refine AR.sBuildS (h := ?_)) | (apply AR.kApp; first | refine AR.sGrowT (h := ?_) | refine AR.sNewT (h := ?_) | refine AR.sGrowBT (h := ?_) | refine AR.sGrow (h := ?_) | refine AR.sNewr (h := ?_)) | (apply AR.kIx; first | refine AR.sIxN (h := ?_) | refine AR.sIx (h := ?_) | refine AR.sP (h := ?_) | refine AR.sPi (h := ?_)) | (apply AR.kSl; first | refine AR.sSl (h := ?_) | refine AR.sSlArr (h := ?_) | refine AR.sP (h := ?_)) | (apply AR.kBox; refine AR.sBox (h := ?_)) | (apply AR.kAlloc; refine AR.sAlloc (h := ?_)) | (apply AR.kStore; refine AR.sStore (h := ?_)) | (apply AR.kAdd; refine AR.sAdd (h := ?_)) | (apply AR.kP; first | refine AR.sP (h := ?_) | refine AR.sPi (h := ?_)))
    | (apply AR.kNil; refine AR.sNil (h := ?_)))
              · obtain ⟨t1, t2⟩ := jn13 (r := r) ok1 em0 hj2 (by rw [hU]; omega)
                rw [t1, t2] at hD
                exact AW.ret (hD rfl (Lx.tup (.cons (Lx.agg (.cons .refl (.cons .refl (.cons .refl (.cons .nil (.cons .nil (.cons .nil (.cons .nil .nil)))))))) (.cons .refl .nil))))
              · obtain ⟨t1, t2⟩ := jn0 (r := r) ok1 em0 hj2 (by rw [hU]; omega)
                rw [t1, t2, hU] at hD
                exact AW.ret (hD rfl (Lx.tup (.cons (Lx.agg (.cons .refl (.cons .refl (.cons .refl (.cons .gr (.cons .nil (.cons .nil (.cons .nil .nil)))))))) (.cons .refl .nil))))
      · have ok0 : jnOk A B = false := by rw [← hA, ← hB]; simp [jnOk]; exact fun e => absurd e (ne0 (by assumption))
        obtain ⟨t1, t2⟩ := jn3 (r := r) ok0
        rw [t1, t2] at hD
        exact AW.ret (hD rfl (Lx.tup (.cons (Lx.agg (.cons .refl (.cons .refl (.cons .refl (.cons .nil (.cons .nil (.cons .nil (.cons .nil .nil)))))))) (.cons .refl .nil))))
end Go.Proofs.Ytocppeifkjdeiaa.Mv

/- Splitting: pieces. Under no condition. -/
namespace Go.Proofs.Ytocppeifkjdeiaa.Mv
open Go Go.Proofs
set_option linter.unusedSimpArgs false
set_option linter.unusedVariables false
set_option maxRecDepth 10000
set_option maxHeartbeats 4000000
attribute [local irreducible] AW AO AR

/-- Has a node too much? -/
def much (n : Nd) (fan prs : Int) : Bool := if n.leaf = true then decide (prs < (n.pairs.length : Int)) else decide (fan < (n.kids.length : Int))
def psE (n : Nd) (r : L × L × Bool) (fan prs : Int) : Nat := if much n fan prs = true then hvE n r else whE n r
def psL (n : Nd) (r : L × L × Bool) (fan prs : Int) : List Pc := if much n fan prs = true then hvL n r else if whE n r = 0 then [whN n r] else []
theorem ps_m {n r fan prs} (h : much n fan prs = true) : psE n r fan prs = hvE n r ∧ psL n r fan prs = hvL n r := ⟨by rw [psE, if_pos h], by rw [psL, if_pos h]⟩
theorem ps_w {n r fan prs} (h : much n fan prs = false) (h2 : whE n r ≠ 0) : psE n r fan prs = whE n r ∧ psL n r fan prs = [] := ⟨by rw [psE, if_neg (by rw [h]; decide)], by rw [psL, if_neg (by rw [h]; decide), if_neg h2]⟩
theorem ps_0 {n r fan prs} (h : much n fan prs = false) (h2 : whE n r = 0) : psE n r fan prs = 0 ∧ psL n r fan prs = [whN n r] := ⟨by rw [psE, if_neg (by rw [h]; decide), h2], by rw [psL, if_neg (by rw [h]; decide), if_pos h2]⟩
theorem gPiecesF (pairs : List Pr) (pivots : List L) (kids : List Ed) (buf : List Ms) (r : L × L × Bool) (fan prs : Int) (hs : (⟨false, pairs, pivots, kids, buf⟩ : Nd).small) (hx : (⟨false, pairs, pivots, kids, buf⟩ : Nd).strs) (hr : r.1.length ≤ 1000000) (h1 : (hv1 ⟨false, pairs, pivots, kids, buf⟩ r).1.length ≤ 1000000) (h2 : (hv2 ⟨false, pairs, pivots, kids, buf⟩ r).1.length ≤ 1000000) :
    Good Try.prog 42 [.agg (Nd.av ⟨false, pairs, pivots, kids, buf⟩), .agg [.s r.1, .s r.2.1, .b r.2.2], .i .i64 fan, .i .i64 prs] [] (.tup [.sh 7 ((psL ⟨false, pairs, pivots, kids, buf⟩ r fan prs).map Pc.av), .i .i64 (psE ⟨false, pairs, pivots, kids, buf⟩ r fan prs)]) [] := by
  have l1 : (pairs.map Pr.av).length = pairs.length := by simp
  have l3 : (kids.map Ed.av).length = kids.length := by simp
  have hm : much ⟨false, pairs, pivots, kids, buf⟩ fan prs = decide (fan < (kids.length : Int)) := by unfold much; exact if_neg Bool.false_ne_true
  have gh := gHalves ⟨false, pairs, pivots, kids, buf⟩ r hs hx h1 h2
  have gw := gWhole ⟨false, pairs, pivots, kids, buf⟩ r hs hx hr
  refine Good.w tabOk mixed Try.func42 (N := 49) (by kernel_rfl) rfl (by (repeat (first | exact LE.nil | apply LE.cons)); done) (by (repeat (first | exact LE.nil | apply LE.cons)); done) fun D hD F => ?_
  repeat' (first
    | apply AO.nil
    | (apply AO.kCall 40; refine AO.sCall (hg := gh) (h := ?_))
    | (apply AO.kCall 38; refine AO.sCall (hg := gw) (h := ?_))
    | (apply AO.kBuildS; first | refine AO.sBuildT (h := ?_) | refine AO.sBuildS (h := ?_))
    | (apply AO.kBox; refine AO.sBox (h := ?_))
    | (apply AO.kAlloc; refine AO.sAlloc (h := ?_))
    | (apply AO.kStore; first | refine AO.sStore (h := ?_) | refine AO.sStB (h := ?_))
    | (apply AO.kP; first | refine AO.sP (h := ?_) | refine AO.sPi (h := ?_) | refine AO.sLoadB (h := ?_))
    | (apply AO.kP; refine AO.eqNil (h1 := fun h => ?_) (h2 := ?_))
    | apply AW.seq
    | (apply AW.kR; refine AW.sR (h := ?_))
    | apply AW.skip
    | apply AW.block
    | apply AW.out
    | (apply AW.kE; refine AW.sE (h := ?_))
    | apply AW.label
    | ((first | (apply AO.kG; first | refine AO.sgt (h1 := fun h => ?_) (h2 := fun h => ?_) | refine AO.sgf (h1 := fun h => ?_) (h2 := fun h => ?_) | refine AO.sgs (h := ?_)) | (apply AW.kC; refine AW.sC (h1 := fun h => ?_) (h2 := fun h => ?_))) <;> (try (first | exact Bool.noConfusion h | exact absurd h (by decide) | (simp at h; done) | (rw [h]; try simp only [nrm] at h; try rw [h]; try (exfalso; omega)) | skip))))
  all_goals first
    | (have t := ps_m (r := r) (hm.trans (decide_eq_true (by omega)))
       rw [t.1, t.2] at hD
       exact AW.ret (hD rfl .refl))
    | (have t := ps_w (r := r) (hm.trans (decide_eq_false (by omega))) (ne0 (by assumption))
       rw [t.1, t.2] at hD
       first | exact AW.ret (hD rfl (Lx.tup (.cons Lx.nil (.cons (Lx.i rfl) .nil)))) | exact AW.ret (hD rfl (Lx.tup (.cons Lx.gr (.cons (Lx.i rfl) .nil)))))
    | (have t := ps_0 (r := r) (hm.trans (decide_eq_false (by omega))) (eq0 (by assumption))
       rw [t.1, t.2] at hD
       exact AW.ret (hD rfl (Lx.tup (.cons Lx.gr (.cons (Lx.i rfl) .nil)))))
theorem gPiecesT (pairs : List Pr) (pivots : List L) (kids : List Ed) (buf : List Ms) (r : L × L × Bool) (fan prs : Int) (hs : (⟨true, pairs, pivots, kids, buf⟩ : Nd).small) (hx : (⟨true, pairs, pivots, kids, buf⟩ : Nd).strs) (hr : r.1.length ≤ 1000000) (h1 : (hv1 ⟨true, pairs, pivots, kids, buf⟩ r).1.length ≤ 1000000) (h2 : (hv2 ⟨true, pairs, pivots, kids, buf⟩ r).1.length ≤ 1000000) :
    Good Try.prog 42 [.agg (Nd.av ⟨true, pairs, pivots, kids, buf⟩), .agg [.s r.1, .s r.2.1, .b r.2.2], .i .i64 fan, .i .i64 prs] [] (.tup [.sh 7 ((psL ⟨true, pairs, pivots, kids, buf⟩ r fan prs).map Pc.av), .i .i64 (psE ⟨true, pairs, pivots, kids, buf⟩ r fan prs)]) [] := by
  have l1 : (pairs.map Pr.av).length = pairs.length := by simp
  have l3 : (kids.map Ed.av).length = kids.length := by simp
  have hm : much ⟨true, pairs, pivots, kids, buf⟩ fan prs = decide (prs < (pairs.length : Int)) := by unfold much; exact if_pos rfl
  have gh := gHalves ⟨true, pairs, pivots, kids, buf⟩ r hs hx h1 h2
  have gw := gWhole ⟨true, pairs, pivots, kids, buf⟩ r hs hx hr
  refine Good.w tabOk mixed Try.func42 (N := 49) (by kernel_rfl) rfl (by (repeat (first | exact LE.nil | apply LE.cons)); done) (by (repeat (first | exact LE.nil | apply LE.cons)); done) fun D hD F => ?_
  repeat' (first
    | apply AO.nil
    | (apply AO.kCall 40; refine AO.sCall (hg := gh) (h := ?_))
    | (apply AO.kCall 38; refine AO.sCall (hg := gw) (h := ?_))
    | (apply AO.kBuildS; first | refine AO.sBuildT (h := ?_) | refine AO.sBuildS (h := ?_))
    | (apply AO.kBox; refine AO.sBox (h := ?_))
    | (apply AO.kAlloc; refine AO.sAlloc (h := ?_))
    | (apply AO.kStore; first | refine AO.sStore (h := ?_) | refine AO.sStB (h := ?_))
    | (apply AO.kP; first | refine AO.sP (h := ?_) | refine AO.sPi (h := ?_) | refine AO.sLoadB (h := ?_))
    | (apply AO.kP; refine AO.eqNil (h1 := fun h => ?_) (h2 := ?_))
    | apply AW.seq
    | (apply AW.kR; refine AW.sR (h := ?_))
    | apply AW.skip
    | apply AW.block
    | apply AW.out
    | (apply AW.kE; refine AW.sE (h := ?_))
    | apply AW.label
    | ((first | (apply AO.kG; first | refine AO.sgt (h1 := fun h => ?_) (h2 := fun h => ?_) | refine AO.sgf (h1 := fun h => ?_) (h2 := fun h => ?_) | refine AO.sgs (h := ?_)) | (apply AW.kC; refine AW.sC (h1 := fun h => ?_) (h2 := fun h => ?_))) <;> (try (first | exact Bool.noConfusion h | exact absurd h (by decide) | (simp at h; done) | (rw [h]; try simp only [nrm] at h; try rw [h]; try (exfalso; omega)) | skip))))
  all_goals first
    | (have t := ps_m (r := r) (hm.trans (decide_eq_true (by omega)))
       rw [t.1, t.2] at hD
       exact AW.ret (hD rfl .refl))
    | (have t := ps_w (r := r) (hm.trans (decide_eq_false (by omega))) (ne0 (by assumption))
       rw [t.1, t.2] at hD
       first | exact AW.ret (hD rfl (Lx.tup (.cons Lx.nil (.cons (Lx.i rfl) .nil)))) | exact AW.ret (hD rfl (Lx.tup (.cons Lx.gr (.cons (Lx.i rfl) .nil)))))
    | (have t := ps_0 (r := r) (hm.trans (decide_eq_false (by omega))) (eq0 (by assumption))
       rw [t.1, t.2] at hD
       exact AW.ret (hD rfl (Lx.tup (.cons Lx.gr (.cons (Lx.i rfl) .nil)))))
theorem gPiecesF' (pairs : List Pr) (pivots : List L) (kids : List Ed) (buf : List Ms) (r : L × L × Bool) (fan prs : Int) (hs : (⟨false, pairs, pivots, kids, buf⟩ : Nd).small) (hx : (⟨false, pairs, pivots, kids, buf⟩ : Nd).strs) (hr : r.1.length ≤ 1000000) (h2 : (midN ⟨false, pairs, pivots, kids, buf⟩).1.length ≤ 1000000) :
    Good Try.prog 43 [.agg (Nd.av ⟨false, pairs, pivots, kids, buf⟩), .agg [.s r.1, .s r.2.1, .b r.2.2], .i .i64 fan, .i .i64 prs] [] (.tup [.sh 7 ((psL ⟨false, pairs, pivots, kids, buf⟩ r fan prs).map Pc.av), .i .i64 (psE ⟨false, pairs, pivots, kids, buf⟩ r fan prs)]) [] := by
  have l1 : (pairs.map Pr.av).length = pairs.length := by simp
  have l3 : (kids.map Ed.av).length = kids.length := by simp
  have hm : much ⟨false, pairs, pivots, kids, buf⟩ fan prs = decide (fan < (kids.length : Int)) := by unfold much; exact if_neg Bool.false_ne_true
  have gh := gHalves' ⟨false, pairs, pivots, kids, buf⟩ r hs hx hr h2
  have gw := gWhole' ⟨false, pairs, pivots, kids, buf⟩ r hs hx hr
  refine Good.w tabOk mixed Try.func43 (N := 43) (by kernel_rfl) rfl (by (repeat (first | exact LE.nil | apply LE.cons)); done) (by (repeat (first | exact LE.nil | apply LE.cons)); done) fun D hD F => ?_
  repeat' (first
    | apply AO.nil
    | (apply AO.kCall 41; refine AO.sCall (hg := gh) (h := ?_))
    | (apply AO.kCall 39; refine AO.sCall (hg := gw) (h := ?_))
    | (apply AO.kBuildS; first | refine AO.sBuildT (h := ?_) | refine AO.sBuildS (h := ?_))
    | (apply AO.kBox; refine AO.sBox (h := ?_))
    | (apply AO.kAlloc; refine AO.sAlloc (h := ?_))
    | (apply AO.kStore; first | refine AO.sStore (h := ?_) | refine AO.sStB (h := ?_))
    | (apply AO.kP; first | refine AO.sP (h := ?_) | refine AO.sPi (h := ?_) | refine AO.sLoadB (h := ?_))
    | (apply AO.kP; refine AO.eqNil (h1 := fun h => ?_) (h2 := ?_))
    | apply AW.seq
    | (apply AW.kR; refine AW.sR (h := ?_))
    | apply AW.skip
    | apply AW.block
    | apply AW.out
    | (apply AW.kE; refine AW.sE (h := ?_))
    | apply AW.label
    | ((first | (apply AW.kC; refine AW.sC (h1 := fun h => ?_) (h2 := fun h => ?_))) <;> (try (first | exact Bool.noConfusion h | exact absurd h (by decide) | (simp at h; done) | (rw [h]; try simp only [nrm] at h; try rw [h]; try (exfalso; omega)) | skip))))
  all_goals first
    | (have t := ps_m (r := r) (hm.trans (decide_eq_true (by omega)))
       rw [t.1, t.2] at hD
       exact AW.ret (hD rfl .refl))
    | (have t := ps_w (r := r) (hm.trans (decide_eq_false (by omega))) (ne0 (by assumption))
       rw [t.1, t.2] at hD
       first | exact AW.ret (hD rfl (Lx.tup (.cons Lx.nil (.cons (Lx.i rfl) .nil)))) | exact AW.ret (hD rfl (Lx.tup (.cons Lx.gr (.cons (Lx.i rfl) .nil)))))
    | (have t := ps_0 (r := r) (hm.trans (decide_eq_false (by omega))) (eq0 (by assumption))
       rw [t.1, t.2] at hD
       exact AW.ret (hD rfl (Lx.tup (.cons Lx.gr (.cons (Lx.i rfl) .nil)))))
theorem gPiecesT' (pairs : List Pr) (pivots : List L) (kids : List Ed) (buf : List Ms) (r : L × L × Bool) (fan prs : Int) (hs : (⟨true, pairs, pivots, kids, buf⟩ : Nd).small) (hx : (⟨true, pairs, pivots, kids, buf⟩ : Nd).strs) (hr : r.1.length ≤ 1000000) (h2 : (midN ⟨true, pairs, pivots, kids, buf⟩).1.length ≤ 1000000) :
    Good Try.prog 43 [.agg (Nd.av ⟨true, pairs, pivots, kids, buf⟩), .agg [.s r.1, .s r.2.1, .b r.2.2], .i .i64 fan, .i .i64 prs] [] (.tup [.sh 7 ((psL ⟨true, pairs, pivots, kids, buf⟩ r fan prs).map Pc.av), .i .i64 (psE ⟨true, pairs, pivots, kids, buf⟩ r fan prs)]) [] := by
  have l1 : (pairs.map Pr.av).length = pairs.length := by simp
  have l3 : (kids.map Ed.av).length = kids.length := by simp
  have hm : much ⟨true, pairs, pivots, kids, buf⟩ fan prs = decide (prs < (pairs.length : Int)) := by unfold much; exact if_pos rfl
  have gh := gHalves' ⟨true, pairs, pivots, kids, buf⟩ r hs hx hr h2
  have gw := gWhole' ⟨true, pairs, pivots, kids, buf⟩ r hs hx hr
  refine Good.w tabOk mixed Try.func43 (N := 43) (by kernel_rfl) rfl (by (repeat (first | exact LE.nil | apply LE.cons)); done) (by (repeat (first | exact LE.nil | apply LE.cons)); done) fun D hD F => ?_
  repeat' (first
    | apply AO.nil
    | (apply AO.kCall 41; refine AO.sCall (hg := gh) (h := ?_))
    | (apply AO.kCall 39; refine AO.sCall (hg := gw) (h := ?_))
    | (apply AO.kBuildS; first | refine AO.sBuildT (h := ?_) | refine AO.sBuildS (h := ?_))
    | (apply AO.kBox; refine AO.sBox (h := ?_))
    | (apply AO.kAlloc; refine AO.sAlloc (h := ?_))
    | (apply AO.kStore; first | refine AO.sStore (h := ?_) | refine AO.sStB (h := ?_))
    | (apply AO.kP; first | refine AO.sP (h := ?_) | refine AO.sPi (h := ?_) | refine AO.sLoadB (h := ?_))
    | (apply AO.kP; refine AO.eqNil (h1 := fun h => ?_) (h2 := ?_))
    | apply AW.seq
    | (apply AW.kR; refine AW.sR (h := ?_))
    | apply AW.skip
    | apply AW.block
    | apply AW.out
    | (apply AW.kE; refine AW.sE (h := ?_))
    | apply AW.label
    | ((first | (apply AW.kC; refine AW.sC (h1 := fun h => ?_) (h2 := fun h => ?_))) <;> (try (first | exact Bool.noConfusion h | exact absurd h (by decide) | (simp at h; done) | (rw [h]; try simp only [nrm] at h; try rw [h]; try (exfalso; omega)) | skip))))
  all_goals first
    | (have t := ps_m (r := r) (hm.trans (decide_eq_true (by omega)))
       rw [t.1, t.2] at hD
       exact AW.ret (hD rfl .refl))
    | (have t := ps_w (r := r) (hm.trans (decide_eq_false (by omega))) (ne0 (by assumption))
       rw [t.1, t.2] at hD
       first | exact AW.ret (hD rfl (Lx.tup (.cons Lx.nil (.cons (Lx.i rfl) .nil)))) | exact AW.ret (hD rfl (Lx.tup (.cons Lx.gr (.cons (Lx.i rfl) .nil)))))
    | (have t := ps_0 (r := r) (hm.trans (decide_eq_false (by omega))) (eq0 (by assumption))
       rw [t.1, t.2] at hD
       exact AW.ret (hD rfl (Lx.tup (.cons Lx.gr (.cons (Lx.i rfl) .nil)))))
end Go.Proofs.Ytocppeifkjdeiaa.Mv

/- Trimming twice: plain. Under no condition. -/
namespace Go.Proofs.Ytocppeifkjdeiaa.Mv
open Go Go.Proofs
set_option linter.unusedSimpArgs false
set_option linter.unusedVariables false

theorem und_of {lo hi : L} {e : Bool} {a : L} (h : emR lo hi e = false) (all : ∀ k, inR lo hi e k = true → hp k a = true) : hp (undS lo hi e) a = true := by
  rw [← ins_und h]
  have q3 := all lo (in_lo h)
  obtain ⟨s1, s2⟩ := (succ_facts a lo).1 q3
  simp only [insS, h, Bool.false_or, Bool.and_eq_true, Bool.or_eq_true, Bool.not_eq_true']
  refine ⟨s1, ?_⟩
  cases ok : succOk a with
  | false => exact .inl rfl
  | true =>
    right
    have bad : inR lo hi e (succS a) = false := by
      cases g : inR lo hi e (succS a) with
      | false => rfl
      | true =>
        have g2 := ((succ_facts a (succS a)).1 (all _ g)).2 ok
        rw [lt_irrefl] at g2; cases g2
    have s3 := lt_asymm (s2 ok)
    simp only [inR, s3, Bool.not_false, Bool.true_and, Bool.or_eq_false_iff, Bool.not_eq_false'] at bad
    exact ⟨bad.1, bad.2⟩
theorem ins_in {l1 h1 : L} {e1 : Bool} {l2 h2 : L} {e2 : Bool} (h : insS l1 h1 e1 l2 h2 e2 = true) {k : L} (hk : inR l1 h1 e1 k = true) : inR l2 h2 e2 k = true := by
  have he := in_em hk
  simp only [insS, he, Bool.false_or, Bool.and_eq_true, Bool.or_eq_true, Bool.not_eq_true'] at h
  simp only [inR, Bool.and_eq_true, Bool.or_eq_true, Bool.not_eq_true'] at hk ⊢
  refine ⟨le_trans' h.1 hk.1, ?_⟩
  rcases h.2 with q | ⟨q1, q2⟩
  · exact .inl q
  · right
    rcases hk.2 with g | g
    · rw [g] at q1; cases q1
    · exact lt_of_lt_le g q2
/-- A range with a beginning ahead. -/
def behind (a : L) (s : L × L × Bool) : L × L × Bool := ovS [] a s.1 s.2.1 s.2.2
theorem behind_in (a : L) (s : L × L × Bool) (t : L) : inR (behind a s).1 (behind a s).2.1 (behind a s).2.2 (a ++ t) = inR s.1 s.2.1 s.2.2 t := by
  rw [behind, ov_in, hp_app, upS_app]; rfl
theorem behind_hp {a : L} {s : L × L × Bool} {k : L} (h : inR (behind a s).1 (behind a s).2.1 (behind a s).2.2 k = true) : ∃ t, k = a ++ t ∧ inR s.1 s.2.1 s.2.2 t = true := by
  have h' := h
  rw [behind, ov_in, Bool.and_eq_true] at h
  obtain ⟨t, rfl⟩ := hp_pre.1 h.1
  rw [behind_in] at h'
  exact ⟨t, rfl, h'⟩
/-- What a trimmed node is. -/
theorem tr_parts {n : Nd} {r : L × L × Bool} {a : L} (h : trE n r a = 0) : mayN n = 0 ∧ emR r.1 r.2.1 r.2.2 = false ∧ hp (undS r.1 r.2.1 r.2.2) a = true ∧
    ((n.leaf = true ∧ trN n r a = ⟨true, trPr n.pairs r a, [], [], []⟩) ∨
     (n.leaf = false ∧ trMsOk n.buf r a = true ∧ trN n r a = ⟨false, [], ((kept n r n.kids.length).drop 1).map (fun i : Nat => cutS (rgN n i).1 a), (kept n r n.kids.length).map (trKid n a), trMsR n.buf r a⟩ ∧
      ∀ i, i < n.kids.length → emC (rgN n i) r = false → kidOk n a i = true)) := by
  have h0 : mayN n = 0 := by
    by_cases h0 : mayN n = 0
    · exact h0
    · rw [(tr3 h0).1] at h; cases h
  cases g : (emR r.1 r.2.1 r.2.2 || !hp (undS r.1 r.2.1 r.2.2) a) with
  | true => rw [(tr1 h0 g).1] at h; cases h
  | false =>
    have g' := g
    simp only [Bool.or_eq_false_iff, Bool.not_eq_false'] at g'
    refine ⟨h0, g'.1, g'.2, ?_⟩
    cases hl : n.leaf with
    | true => exact .inl ⟨rfl, (trL h0 g hl).2⟩
    | false =>
      right
      cases h4 : (kRun n r a n.kids.length 0 [] []).2 with
      | false => rw [(trK1 h0 g hl h4).1] at h; cases h
      | true =>
        cases h5 : trMsOk n.buf r a with
        | false => rw [(trK2 h0 g hl h4 h5).1] at h; cases h
        | true =>
          obtain ⟨q1, q2⟩ := kept_run n.kids.length 0 [] [] (by omega) rfl rfl h4
          refine ⟨rfl, rfl, ?_, fun b b1 b2 => ok_run _ _ _ _ h4 b (by omega) (by omega) b2⟩
          rw [(trK3 h0 g hl h4 h5).2, q1, q2]
theorem run_ok {n : Nd} {r : L × L × Bool} {a : L} : ∀ (u q : Nat) (ps : List L) (ks : List Ed), (∀ i, q ≤ i → i < q + u → emC (rgN n i) r = false → kidOk n a i = true) → (kRun n r a u q ps ks).2 = true
  | 0, q, ps, ks, _ => rfl
  | u + 1, q, ps, ks, h => by
    rw [kRun]
    by_cases c : emC (rgN n q) r = true
    · rw [if_pos c]; exact run_ok u (q + 1) _ _ fun i h1 h2 h3 => h i (by omega) (by omega) h3
    · rw [if_neg c]
      have c' : emC (rgN n q) r = false := by simpa using c
      rw [if_neg (by rw [h q (by omega) (by omega) c']; decide)]
      exact run_ok u (q + 1) _ _ fun i h1 h2 h3 => h i (by omega) (by omega) h3
theorem tr_leaf {n : Nd} {r : L × L × Bool} {a : L} (h0 : mayN n = 0) (h1 : emR r.1 r.2.1 r.2.2 = false) (h2 : hp (undS r.1 r.2.1 r.2.2) a = true) (hl : n.leaf = true) : trE n r a = 0 ∧ trN n r a = ⟨true, trPr n.pairs r a, [], [], []⟩ :=
  trL h0 (by rw [h1, h2]; rfl) hl
theorem tr_kids {n : Nd} {r : L × L × Bool} {a : L} (h0 : mayN n = 0) (h1 : emR r.1 r.2.1 r.2.2 = false) (h2 : hp (undS r.1 r.2.1 r.2.2) a = true) (hl : n.leaf = false) (h5 : trMsOk n.buf r a = true) (hk : ∀ i, i < n.kids.length → emC (rgN n i) r = false → kidOk n a i = true) :
    trE n r a = 0 ∧ trN n r a = ⟨false, [], ((kept n r n.kids.length).drop 1).map (fun i : Nat => cutS (rgN n i).1 a), (kept n r n.kids.length).map (trKid n a), trMsR n.buf r a⟩ := by
  have h4 : (kRun n r a n.kids.length 0 [] []).2 = true := run_ok _ _ _ _ fun i _ h2 h3 => hk i (by omega) h3
  obtain ⟨q1, q2⟩ := kept_run n.kids.length 0 [] [] (by omega) rfl rfl h4
  have := trK3 h0 (by rw [h1, h2]; rfl) hl h4 h5
  rw [q1, q2] at this
  exact this
theorem cut2 (a b u : L) : cutS (cutS (a ++ (b ++ u)) a) b = u ∧ cutS (a ++ (b ++ u)) (a ++ b) = u := by
  have e1 : cutS (a ++ (b ++ u)) a = b ++ u := (cut_iff (hp_app _ _)).2 rfl
  have e2 : cutS (b ++ u) b = u := (cut_iff (hp_app _ _)).2 rfl
  refine ⟨by rw [e1, e2], ?_⟩
  rw [← List.append_assoc]
  exact (cut_iff (hp_app _ _)).2 rfl
section
variable {r s : L × L × Bool} {a b : L}
theorem trPr_two (hu : hp (undS r.1 r.2.1 r.2.2) a = true) (hv : hp (undS s.1 s.2.1 s.2.2) b = true) (hi : ∀ k, inR (behind a s).1 (behind a s).2.1 (behind a s).2.2 k = true → inR r.1 r.2.1 r.2.2 k = true) (l : List Pr) :
    trPr (trPr l r a) s b = trPr l (behind a s) (a ++ b) := by
  have e : l.filter (fun p => (prKeep s ∘ prCut a) p && prKeep r p) = l.filter (prKeep (behind a s)) := by
    refine List.filter_congr fun p _ => ?_
    show (inR s.1 s.2.1 s.2.2 (cutS p.k a) && inR r.1 r.2.1 r.2.2 p.k) = inR (behind a s).1 (behind a s).2.1 (behind a s).2.2 p.k
    cases g : inR r.1 r.2.1 r.2.2 p.k with
    | true =>
      obtain ⟨t, ht⟩ := hp_pre.1 (hp_trans ((und_facts _ _ _ _).2.2.1 g) hu)
      rw [Bool.and_true, ht, behind_in, (cut_iff (hp_app a t)).2 rfl]
    | false =>
      rw [Bool.and_false]
      cases g2 : inR (behind a s).1 (behind a s).2.1 (behind a s).2.2 p.k with
      | false => rfl
      | true => rw [hi _ g2] at g; cases g
  rw [trPr, trPr, trPr, List.filter_map, List.map_map, List.filter_filter, e]
  refine List.map_congr_left fun p hp1 => ?_
  obtain ⟨_, h2⟩ := List.mem_filter.1 hp1
  obtain ⟨t, ht, h3⟩ := behind_hp h2
  obtain ⟨u, rfl⟩ := hp_pre.1 (hp_trans ((und_facts _ _ _ _).2.2.1 h3) hv)
  show prCut b (prCut a p) = prCut (a ++ b) p
  unfold prCut
  dsimp only
  rw [ht, (cut2 a b u).1, (cut2 a b u).2]
theorem keep_iff {m : Ms} : msKeep r m = true ↔ ∃ k, spk m k = true ∧ inR r.1 r.2.1 r.2.2 k = true := by
  constructor
  · intro h
    simp only [msKeep, Bool.not_eq_true'] at h
    obtain ⟨k, h1, h2⟩ := emC_in h
    exact ⟨k, by rw [← ab_in]; exact h1, h2⟩
  · rintro ⟨k, h1, h2⟩
    exact spk_keep h2 h1
theorem mv_two {m : Ms} (h1 : (mvR m a).2 = true) (h2 : (mvR (mvR m a).1 b).2 = true) : mvR m (a ++ b) = mvR (mvR m a).1 b := by
  by_cases c : hp m.key a = true
  · obtain ⟨t, e⟩ := hp_pre.1 c
    rw [mv1 c] at h2 ⊢
    have e2 : cutS m.key a = t := by rw [cut_iff c]; exact e
    rw [e2] at h2 ⊢
    by_cases d : hp t b = true
    · obtain ⟨u, rfl⟩ := hp_pre.1 d
      rw [mv1 (m := ⟨m.kind, b ++ u, m.val, m.block, m.deep, m.add⟩) (a := b) d, mv1 (by rw [e, hp_app2]; exact d)]
      have e3 := (cut2 a b u).2
      have e4 : cutS (b ++ u) b = u := (cut_iff (hp_app _ _)).2 rfl
      rw [e, e3]; dsimp only; rw [e4]
    · have d' : hp t b = false := by simpa using d
      unfold mvR at h2 ⊢
      dsimp only at h2 ⊢
      rw [if_neg d] at h2 ⊢
      by_cases f : m.kind = 3 ∧ hp b t = true ∧ m.add.length + (cutS b t).length ≤ 16
      · obtain ⟨u, rfl⟩ := hp_pre.1 f.2.1
        have e5 : cutS (t ++ u) t = u := (cut_iff (hp_app _ _)).2 rfl
        have e6 : cutS (a ++ (t ++ u)) (a ++ t) = u := by rw [← List.append_assoc]; exact (cut_iff (hp_app _ _)).2 rfl
        rw [if_pos f, if_neg (by rw [e, hp_app2]; exact d), if_pos (by rw [e, hp_app2, e6]; rw [e5] at f; exact f), e, e5, e6]
      · rw [if_neg f] at h2; cases h2
  · have c' : hp m.key a = false := by simpa using c
    have cb : ¬ hp m.key (a ++ b) = true := by rw [hp_less c']; decide
    by_cases f : m.kind = 3 ∧ hp a m.key = true ∧ m.add.length + (cutS a m.key).length ≤ 16
    · obtain ⟨t, e⟩ := hp_pre.1 f.2.1
      have e1 : mvR m a = (⟨m.kind, [], m.val, m.block, m.deep, m.add ++ cutS a m.key⟩, true) := by unfold mvR; rw [if_neg c, if_pos f]
      have et : cutS a m.key = t := by rw [cut_iff f.2.1]; exact e
      rw [e1] at h2 ⊢
      rw [et] at h2 ⊢ f
      by_cases d : b = []
      · subst d
        rw [mv1 (m := ⟨m.kind, [], m.val, m.block, m.deep, m.add ++ t⟩) (a := []) (hp_nil _), List.append_nil, e1, et]; rfl
      · have d' : ¬ hp [] b = true := fun q => d (by obtain ⟨u, hu⟩ := hp_pre.1 q; simpa using (List.append_eq_nil_iff.1 hu.symm).1)
        have eb : cutS b [] = b := by rw [cut_iff (hp_nil _)]; rfl
        have ec : cutS (a ++ b) m.key = t ++ b := by
          have : hp (a ++ b) m.key = true := by rw [e, List.append_assoc]; exact hp_app _ _
          rw [cut_iff this, e, List.append_assoc]
        unfold mvR at h2 ⊢
        dsimp only at h2 ⊢
        rw [if_neg d', eb] at h2 ⊢
        rw [if_neg cb, ec]
        by_cases g : m.kind = 3 ∧ hp b [] = true ∧ (m.add ++ t).length + b.length ≤ 16
        · rw [if_pos g, if_pos ⟨g.1, by rw [e, List.append_assoc]; exact hp_app _ _, by have := g.2.2; simp only [List.length_append] at this ⊢; omega⟩, List.append_assoc]
        · rw [if_neg g] at h2; cases h2
    · unfold mvR at h1; rw [if_neg c, if_neg f] at h1; cases h1
theorem keep_two (hi : ∀ k, inR (behind a s).1 (behind a s).2.1 (behind a s).2.2 k = true → inR r.1 r.2.1 r.2.2 k = true) {m : Ms} (hm : msKeep r m = true → (mvR m a).2 = true) : (msKeep s (mvR m a).1 && msKeep r m) = msKeep (behind a s) m := by
  rw [Bool.eq_iff_iff, Bool.and_eq_true]
  constructor
  · rintro ⟨h1, h2⟩
    obtain ⟨t, g1, g2⟩ := keep_iff.1 h1
    rw [spk_mv (hm h2)] at g1
    exact keep_iff.2 ⟨a ++ t, g1, by rw [behind_in]; exact g2⟩
  · intro h
    obtain ⟨k, g1, g2⟩ := keep_iff.1 h
    have h2 : msKeep r m = true := keep_iff.2 ⟨k, g1, hi k g2⟩
    obtain ⟨t, rfl, g3⟩ := behind_hp g2
    exact ⟨keep_iff.2 ⟨t, by rw [spk_mv (hm h2)]; exact g1, g3⟩, h2⟩
theorem trMs_two (hi : ∀ k, inR (behind a s).1 (behind a s).2.1 (behind a s).2.2 k = true → inR r.1 r.2.1 r.2.2 k = true) {l : List Ms} (h1 : trMsOk l r a = true) (h2 : trMsOk (trMsR l r a) s b = true) :
    trMsOk l (behind a s) (a ++ b) = true ∧ trMsR l (behind a s) (a ++ b) = trMsR (trMsR l r a) s b := by
  rw [trMsOk, List.all_eq_true] at h1 h2
  have h1' : ∀ m ∈ l, msKeep r m = true → (mvR m a).2 = true := fun m hm hk => h1 m (List.mem_filter.2 ⟨hm, hk⟩)
  have e : l.filter (fun m => (msKeep s ∘ fun m => (mvR m a).1) m && msKeep r m) = l.filter (msKeep (behind a s)) :=
    List.filter_congr fun m hm => keep_two hi (h1' m hm)
  have h2' : ∀ m ∈ l, msKeep (behind a s) m = true → (mvR m a).2 = true ∧ (mvR (mvR m a).1 b).2 = true := fun m hm hk => by
    rw [← keep_two hi (h1' m hm), Bool.and_eq_true] at hk
    refine ⟨h1' m hm hk.2, h2 _ (List.mem_filter.2 ⟨?_, hk.1⟩)⟩
    rw [trMsR]
    exact List.mem_map.2 ⟨m, List.mem_filter.2 ⟨hm, hk.2⟩, rfl⟩
  constructor
  · rw [trMsOk, List.all_eq_true]
    intro m hm
    obtain ⟨m1, m2⟩ := List.mem_filter.1 hm
    obtain ⟨q1, q2⟩ := h2' m m1 m2
    rw [mv_two q1 q2]; exact q2
  · rw [trMsR, trMsR, trMsR, List.filter_map, List.map_map, List.filter_filter, e]
    refine List.map_congr_left fun m hm => ?_
    obtain ⟨m1, m2⟩ := List.mem_filter.1 hm
    obtain ⟨q1, q2⟩ := h2' m m1 m2
    rw [mv_two q1 q2]; rfl
end
theorem join_two {a b s2 a2 : L} (h1 : joinOk [] a s2 a2 = true) (h2 : joinOk [] b (joinS [] a s2 a2) (joinA [] a s2 a2) = true) :
    joinOk [] (a ++ b) s2 a2 = true ∧ joinS [] b (joinS [] a s2 a2) (joinA [] a s2 a2) = joinS [] (a ++ b) s2 a2 ∧ joinA [] b (joinS [] a s2 a2) (joinA [] a s2 a2) = joinA [] (a ++ b) s2 a2 := by
  by_cases c : hp a s2 = true
  · obtain ⟨t, rfl⟩ := hp_pre.1 c
    obtain ⟨_, e2, e3⟩ := jA [] s2 t a2
    obtain ⟨f1, f2, f3⟩ := jA [] s2 (t ++ b) a2
    obtain ⟨g1, g2, g3⟩ := jA [] [] b (a2 ++ t)
    rw [e2, e3, List.append_assoc, f1, f2, f3]
    rw [List.nil_append] at g2 g3
    exact ⟨rfl, g2, by rw [g3, List.append_assoc]⟩
  · have c' : hp a s2 = false := by simpa using c
    simp only [joinOk, c', Bool.false_or] at h1
    obtain ⟨t, rfl⟩ := hp_pre.1 h1
    obtain ⟨_, e2, e3⟩ := jB [] a t a2
    rw [e2, e3, List.nil_append] at h2 ⊢
    have q1 : hp (a ++ b) (a ++ t) = hp b t := hp_app2 _ _ _
    have q2 : hp (a ++ t) (a ++ b) = hp t b := hp_app2 _ _ _
    simp only [joinOk] at h2
    have d1 : ((a ++ b).drop (a ++ t).length) = b.drop t.length := by rw [List.length_append, List.drop_append]; simp
    have d2 : ((a ++ t).drop (a ++ b).length) = t.drop b.length := by rw [List.length_append, List.drop_append]; simp
    refine ⟨by simp only [joinOk, q1, q2]; exact h2, ?_, ?_⟩
    · simp only [joinS, q1, q2, d2]
    · simp only [joinA, q1, q2, d1]
/-- In which kid of a trimmed node a key is. -/
theorem in_tr {n : Nd} {r : L × L × Bool} {a k : L} {ms : List Ms} (hi : innerOk n = true) (hu : hp (undS r.1 r.2.1 r.2.2) a = true) (hk : inR r.1 r.2.1 r.2.2 (a ++ k) = true)
    (hi2 : innerOk ⟨false, [], ((kept n r n.kids.length).drop 1).map (fun i : Nat => cutS (rgN n i).1 a), (kept n r n.kids.length).map (trKid n a), ms⟩ = true) {j : Nat} (hj : j < (kept n r n.kids.length).length) :
    inR (rgN n (kept n r n.kids.length)[j]).1 (rgN n (kept n r n.kids.length)[j]).2.1 (rgN n (kept n r n.kids.length)[j]).2.2 (a ++ k) =
    inR (rgN ⟨false, [], ((kept n r n.kids.length).drop 1).map (fun i : Nat => cutS (rgN n i).1 a), (kept n r n.kids.length).map (trKid n a), ms⟩ j).1 (rgN ⟨false, [], ((kept n r n.kids.length).drop 1).map (fun i : Nat => cutS (rgN n i).1 a), (kept n r n.kids.length).map (trKid n a), ms⟩ j).2.1
      (rgN ⟨false, [], ((kept n r n.kids.length).drop 1).map (fun i : Nat => cutS (rgN n i).1 a), (kept n r n.kids.length).map (trKid n a), ms⟩ j).2.2 k := by
  generalize h1 : (kept n r n.kids.length).map (trKid n a) = ks at *
  generalize h2 : ((kept n r n.kids.length).drop 1).map (fun i : Nat => cutS (rgN n i).1 a) = ps at *
  obtain ⟨pl, pr, _⟩ := inner_len hi
  generalize hK : kept n r n.kids.length = K at *
  have pw : K.Pairwise (· < ·) := hK ▸ kept_pw n r _
  have mem : ∀ i, i ∈ K ↔ i < n.kids.length ∧ emC (rgN n i) r = false := fun i => hK ▸ kept_mem
  obtain ⟨pl2, pr2, _⟩ := inner_len hi2
  dsimp only at pl2 pr2
  have lk : ks.length = K.length := by rw [← h1, List.length_map]
  have hp1 : ∀ i (h : i < K.length), 0 < i → hp (rgN n K[i]).1 a = true := fun i h h0 => by
    have m1 := (mem K[i]).1 (List.getElem_mem h)
    have m0 := (mem K[0]).1 (List.getElem_mem (by omega))
    have lt0 : K[0] < K[i] := List.pairwise_iff_getElem.1 pw 0 i (by omega) h h0
    exact hp_trans ((und_facts _ _ _ _).2.2.1 (piv_in pl pr lt0 m1.1 m0.2 m1.2)) hu
  have pat : ∀ i (h : i + 1 < K.length), ps.getD i default = cutS (rgN n K[i + 1]).1 a := fun i h => by
    rw [getD_at (by rw [← h2, List.length_map, List.length_drop]; omega)]
    simp only [← h2, List.getElem_map, List.getElem_drop]
    simp only [Nat.add_comm 1 i]
  -- in the kid of the node, so in that of the trimmed one
  have go : ∀ j (hj : j < K.length), inR (rgN n K[j]).1 (rgN n K[j]).2.1 (rgN n K[j]).2.2 (a ++ k) = true → inR (rgN ⟨false, [], ps, ks, ms⟩ j).1 (rgN ⟨false, [], ps, ks, ms⟩ j).2.1 (rgN ⟨false, [], ps, ks, ms⟩ j).2.2 k = true := by
    intro j hj ib
    have hbl : K[j] < n.kids.length := ((mem K[j]).1 (List.getElem_mem hj)).1
    simp only [inR, Bool.and_eq_true, Bool.not_eq_true', Bool.or_eq_true] at ib ⊢
    constructor
    · by_cases h0 : 0 < j
      · rw [rg_lo h0 pl2 (by show j < ks.length; omega)]
        dsimp only
        have := pat (j - 1) (by omega)
        rw [this]
        have ej : K[j - 1 + 1]'(by omega) = K[j] := by congr 1; omega
        rw [ej]
        have hb2 : hp (rgN n K[j]).1 a = true := hp1 j hj h0
        obtain ⟨t, ht⟩ := hp_pre.1 hb2
        rw [(cut_iff hb2).2 ht]
        have q := ib.1
        rw [ht, lt_app] at q; exact q
      · obtain rfl : j = 0 := by omega
        have : (rgN ⟨false, [], ps, ks, ms⟩ (0 : Nat)).1 = [] := by
          unfold rgN; rw [if_neg (by dsimp only; omega)]; simp
        rw [this]; exact lt_nil _
    · by_cases hl : j < ps.length
      · obtain ⟨g1, g2⟩ := rg_hi (n := ⟨false, [], ps, ks, ms⟩) pl2 hl
        right
        rw [g1]
        dsimp only
        rw [pat j (by omega)]
        have hj1 : j + 1 < K.length := by omega
        have m1 := (mem K[j + 1]).1 (List.getElem_mem hj1)
        have lt1 : K[j] < K[j + 1] := List.pairwise_iff_getElem.1 pw j (j + 1) hj hj1 (by omega)
        have hpre := hp1 (j + 1) hj1 (by omega)
        obtain ⟨t, ht⟩ := hp_pre.1 hpre
        rw [(cut_iff hpre).2 ht]
        have hh := rg_hi (n := n) pl (show K[j] < n.pivots.length by omega)
        have f1 : lt (a ++ k) (n.pivots.getD K[j] default) = true := by
          rcases ib.2 with q | q
          · rw [hh.2] at q; cases q
          · rw [hh.1] at q; exact q
        have f2 := lt_of_lt_le f1 (le_rise pr (show K[j] ≤ K[j + 1] - 1 by omega) (by omega))
        rw [← rg_lo (n := n) (q := K[j + 1]) (by omega) pl m1.1, ht, lt_app] at f2
        exact f2
      · left
        unfold rgN; rw [if_neg (by dsimp only; omega)]
        exact decide_eq_false (by dsimp only; omega)
  rw [Bool.eq_iff_iff]
  refine ⟨go j hj, fun h => ?_⟩
  -- each key is in one kid
  obtain ⟨e1, e2, e3⟩ := kidL_may (k := a ++ k) hi
  obtain ⟨b, hb⟩ : ∃ b : Nat, kidN n (a ++ k) = b := ⟨(kidN n (a ++ k)).toNat, by omega⟩
  have hbl : b < n.kids.length := by omega
  have ib := kid_in (k := a ++ k) pl pr hbl
  rw [hb, beq_self_eq_true] at ib
  have mb : b ∈ K := (mem b).2 ⟨hbl, emC_some ib hk⟩
  obtain ⟨i, hi', hib⟩ := List.getElem_of_mem mb
  have in2 := go i hi' (by rw [hib]; exact ib)
  have k1 := kid_in (n := ⟨false, [], ps, ks, ms⟩) (k := k) pl2 pr2 (j := j) (by show j < ks.length; omega)
  have k2 := kid_in (n := ⟨false, [], ps, ks, ms⟩) (k := k) pl2 pr2 (j := i) (by show i < ks.length; omega)
  rw [h] at k1; rw [in2] at k2
  have q1 := beq_iff_eq.1 k1.symm
  have q2 := beq_iff_eq.1 k2.symm
  obtain rfl : i = j := by omega
  rw [hib]; exact ib
theorem trim_two {n : Nd} {r s : L × L × Bool} {a b : L} (h1 : trE n r a = 0) (hin : insS (behind a s).1 (behind a s).2.1 (behind a s).2.2 r.1 r.2.1 r.2.2 = true) (h2 : trE (trN n r a) s b = 0) :
    trE n (behind a s) (a ++ b) = 0 ∧ trN n (behind a s) (a ++ b) = trN (trN n r a) s b := by
  have hi : ∀ k, inR (behind a s).1 (behind a s).2.1 (behind a s).2.2 k = true → inR r.1 r.2.1 r.2.2 k = true := fun k hk => ins_in hin hk
  have hm := tr_may h1
  obtain ⟨h0, r0, hu, hc⟩ := tr_parts h1
  obtain ⟨_, s0, hv, hd⟩ := tr_parts h2
  have b0 : emR (behind a s).1 (behind a s).2.1 (behind a s).2.2 = false := in_em (k := a ++ s.1) (by rw [behind_in]; exact in_lo s0)
  have hw : hp (undS (behind a s).1 (behind a s).2.1 (behind a s).2.2) (a ++ b) = true := und_of b0 fun k hk => by
    obtain ⟨t, rfl, h3⟩ := behind_hp hk
    rw [hp_app2]
    exact hp_trans ((und_facts _ _ _ _).2.2.1 h3) hv
  rcases hc with ⟨hl, e⟩ | ⟨hl, ho, e, hk⟩
  · rw [e] at hd ⊢
    rcases hd with ⟨_, e'⟩ | ⟨hl', _⟩
    · obtain ⟨g1, g2⟩ := tr_leaf h0 b0 hw hl
      rw [g2, e']
      dsimp only
      rw [trPr_two hu hv hi]
      exact ⟨g1, rfl⟩
    · cases hl'
  · have hI := (may_inner h0 hl).1
    rw [e] at hd hm ⊢
    have hI2 := (may_inner hm rfl).1
    rcases hd with ⟨hl', _⟩ | ⟨_, ho2, e', hk2⟩
    · cases hl'
    · dsimp only at ho2
      obtain ⟨m1, m2⟩ := trMs_two hi ho ho2
      rw [e']
      dsimp only
      obtain ⟨pl, pr, _⟩ := inner_len hI
      have inT : ∀ {k : L}, inR r.1 r.2.1 r.2.2 (a ++ k) = true → ∀ {j : Nat} (hj : j < (kept n r n.kids.length).length), _ = _ := fun hk j hj => in_tr (ms := trMsR n.buf r a) hI hu hk hI2 hj
      clear e e'
      generalize hM : (⟨false, [], ((kept n r n.kids.length).drop 1).map (fun i : Nat => cutS (rgN n i).1 a), (kept n r n.kids.length).map (trKid n a), trMsR n.buf r a⟩ : Nd) = M at *
      have Mk : M.kids = (kept n r n.kids.length).map (trKid n a) := by rw [← hM]
      have Mp : M.pivots = ((kept n r n.kids.length).drop 1).map (fun i : Nat => cutS (rgN n i).1 a) := by rw [← hM]
      obtain ⟨pl2, pr2, _⟩ := inner_len hI2
      have mem : ∀ i, i ∈ kept n r n.kids.length ↔ i < n.kids.length ∧ emC (rgN n i) r = false := fun i => kept_mem
      have pw := kept_pw n r n.kids.length
      rw [List.length_map]
      have sub : ∀ i, emC (rgN n i) (behind a s) = false → emC (rgN n i) r = false := fun i h => by
        obtain ⟨k, k1, k2⟩ := emC_in h
        exact emC_some k1 (hi _ k2)
      have k2e : kept n (behind a s) n.kids.length = (kept n r n.kids.length).filter (fun i : Nat => !emC (rgN n i) (behind a s)) := by
        rw [kept, kept, List.filter_filter]
        refine List.filter_congr fun i _ => ?_
        cases g : emC (rgN n i) (behind a s) with
        | true => rfl
        | false => rw [sub i g]; rfl
      generalize hK : kept n r n.kids.length = K at *
      have Kl : M.kids.length = K.length := by rw [Mk, List.length_map]
      -- a kid of the trimmed node is kept just if it is kept by the smaller range
      have emE : ∀ j (hj : j < K.length), emC (rgN M j) s = emC (rgN n K[j]) (behind a s) := fun j hj => by
        cases g : emC (rgN n K[j]) (behind a s) with
        | false =>
          obtain ⟨k, k1, k2⟩ := emC_in g
          obtain ⟨t, rfl, k3⟩ := behind_hp k2
          rw [inT (hi _ k2) hj] at k1
          exact emC_some k1 k3
        | true =>
          cases g2 : emC (rgN M j) s with
          | true => rfl
          | false =>
            obtain ⟨t, t1, t2⟩ := emC_in g2
            have t3 : inR (behind a s).1 (behind a s).2.1 (behind a s).2.2 (a ++ t) = true := by rw [behind_in]; exact t2
            rw [← inT (hi _ t3) hj] at t1
            rw [emC_some t1 t3] at g; cases g
      have Ke : K = (List.range K.length).map (fun j => K.getD j default) := by
        refine List.ext_getElem (by simp) fun i h1 h2 => ?_
        rw [List.getElem_map, List.getElem_range, getD_at h1]
      have Je : kept n (behind a s) n.kids.length = (kept M s K.length).map (fun j => K.getD j default) := by
        rw [k2e]
        conv => lhs; rw [Ke]
        rw [List.filter_map]
        congr 1
        rw [kept]
        refine List.filter_congr fun j hj => ?_
        have hj' : j < K.length := by simpa using hj
        show (!emC (rgN n (K.getD j default : Nat)) (behind a s)) = _
        rw [getD_at hj', emE j hj']
      have kidE : ∀ j, j < K.length → emC (rgN M j) s = false → kidOk n (a ++ b) (K.getD j default) = true ∧ trKid M b j = trKid n (a ++ b) (K.getD j default) := fun j hj hjs => by
        have c1 := hk2 j (by rw [Kl]; exact hj) hjs
        have m1 := (mem K[j]).1 (List.getElem_mem hj)
        have c2 := hk _ m1.1 m1.2
        have ek : M.kids.getD j default = trKid n a K[j] := by
          rw [getD_at (by rw [Kl]; exact hj)]
          simp only [Mk, List.getElem_map]
        rw [getD_at hj]
        simp only [kidOk, Bool.and_eq_true, decide_eq_true_eq] at c1 c2
        rw [ek] at c1
        obtain ⟨d1, d2, d3⟩ := join_two c2.1 c1.1
        have c3 := c1.2
        simp only [trKid] at c3
        rw [d2, d3] at c3
        refine ⟨?_, ?_⟩
        · simp only [kidOk, Bool.and_eq_true, decide_eq_true_eq]; exact ⟨d1, c3⟩
        · have : trKid M b j = ⟨(M.kids.getD j default).block, (M.kids.getD j default).deep, joinS [] b (M.kids.getD j default).strip (M.kids.getD j default).add, joinA [] b (M.kids.getD j default).strip (M.kids.getD j default).add⟩ := rfl
          rw [this, ek]
          simp only [trKid]
          rw [d2, d3]
      have hok : ∀ i, i < n.kids.length → emC (rgN n i) (behind a s) = false → kidOk n (a ++ b) i = true := fun i hi' he => by
        have : i ∈ kept n (behind a s) n.kids.length := kept_mem.2 ⟨hi', he⟩
        rw [Je] at this
        obtain ⟨j, j1, rfl⟩ := List.mem_map.1 this
        have j2 := kept_mem.1 j1
        exact (kidE j j2.1 j2.2).1
      obtain ⟨g1, g2⟩ := tr_kids h0 b0 hw hl m1 hok
      refine ⟨g1, ?_⟩
      rw [g2, m2, Je]
      have pwJ := kept_pw M s K.length
      have memJ : ∀ j, j ∈ kept M s K.length ↔ j < K.length ∧ emC (rgN M j) s = false := fun j => kept_mem
      generalize kept M s K.length = J at *
      congr 1
      · rw [← List.map_drop, List.map_map]
        refine List.map_congr_left fun j hj => ?_
        obtain ⟨q, hq, rfl⟩ := List.getElem_of_mem hj
        rw [List.length_drop] at hq
        rw [List.getElem_drop]
        have hq1 : 1 + q < J.length := by omega
        have j1 := (memJ J[1 + q]).1 (List.getElem_mem hq1)
        have j0 := (memJ J[0]).1 (List.getElem_mem (by omega))
        have lt0 : J[0] < J[1 + q] := List.pairwise_iff_getElem.1 pwJ 0 (1 + q) (by omega) hq1 (by omega)
        have ltK : K[J[0]]'j0.1 < K[J[1 + q]]'j1.1 := List.pairwise_iff_getElem.1 pw _ _ j0.1 j1.1 lt0
        have i1 := (mem (K[J[1 + q]]'j1.1)).1 (List.getElem_mem _)
        have pin := piv_in pl pr ltK i1.1 (by rw [← emE _ j0.1]; exact j0.2) (by rw [← emE _ j1.1]; exact j1.2)
        obtain ⟨t, ht, k3⟩ := behind_hp pin
        obtain ⟨u, rfl⟩ := hp_pre.1 (hp_trans ((und_facts _ _ _ _).2.2.1 k3) hv)
        show cutS (rgN n (K.getD J[1 + q] default : Nat)).1 (a ++ b) = cutS (rgN M (J[1 + q] : Nat)).1 b
        have e1 : (rgN M (J[1 + q] : Nat)).1 = cutS (rgN n (K[J[1 + q]]'j1.1 : Nat)).1 a := by
          rw [rg_lo (n := M) (by omega) pl2 (by rw [Kl]; exact j1.1), getD_at (by rw [Mp, List.length_map, List.length_drop]; omega)]
          simp only [Mp, List.getElem_map, List.getElem_drop]
          have : 1 + (J[1 + q] - 1) = J[1 + q] := by omega
          simp only [this]
        rw [e1, getD_at j1.1, ht, (cut2 a b u).1, (cut2 a b u).2]
      · rw [List.map_map]
        refine List.map_congr_left fun j hj => ?_
        have j1 := (memJ j).1 hj
        exact ((kidE j j1.1 j1.2).2).symm
end Go.Proofs.Ytocppeifkjdeiaa.Mv

/- Splitting: plain laws. Under no condition. -/
namespace Go.Proofs.Ytocppeifkjdeiaa.Mv
open Go Go.Proofs
set_option linter.unusedSimpArgs false
set_option linter.unusedVariables false

theorem mid_len (n : Nd) : (midN n).1.length ≤ 16 := by
  unfold midN
  split
  · simp
  · rename_i h0
    have h0 : mayN n = 0 := by omega
    split
    · rename_i h1
      refine Nat.le_trans (betS_len _ _) ?_
      have := List.all_eq_true.1 (may_pairs h0).2 (n.pairs.getD ((n.pairs.length + 1) / 2) default) (by rw [getD_at (by omega)]; exact List.getElem_mem _)
      simp only [prLen, Bool.and_eq_true, decide_eq_true_eq] at this; exact this.1
    · split
      · rename_i h2
        cases hl : n.leaf with
        | true =>
          have := (leaf_len (may_leaf h0 hl)).2.1
          rw [this] at h2; simp at h2
        | false =>
          have hi := (may_inner h0 hl).1
          obtain ⟨pl, _, _⟩ := inner_len hi
          simp only [innerOk, Bool.and_eq_true] at hi
          have hp := hi.1.2.2
          have := List.all_eq_true.1 hp (n.pivots.getD ((n.kids.length + 1) / 2 - 1) default) (by rw [getD_at (by omega)]; exact List.getElem_mem _)
          simpa using this
      · simp
theorem hv1_len (n : Nd) (r : L × L × Bool) : (hv1 n r).1.length ≤ r.1.length := by
  have := (cS_len r.1 r.2.1 r.2.2 [] (midN n).1 true).1
  simpa [hv1] using this
theorem hv2_len (n : Nd) (r : L × L × Bool) : (hv2 n r).1.length ≤ r.1.length + 16 := by
  have := (cS_len r.1 r.2.1 r.2.2 (midN n).1 [] false).1
  have := mid_len n
  simp only [hv2]; omega
theorem wh_eq {n : Nd} {r : L × L × Bool} (h : whE n r = 0) : whN n r = ⟨r.1, undS r.1 r.2.1 r.2.2, trN n r (undS r.1 r.2.1 r.2.2)⟩ := by
  rw [whN, if_pos (show trE n r (undS r.1 r.2.1 r.2.2) = 0 from h)]
theorem wh_small (n : Nd) (r : L × L × Bool) : (whN n r).node.small ∧ (whN n r).node.strs := by
  unfold whN
  split
  · exact ⟨trN_small _ _ _, trN_strs _ _ _⟩
  · exact ⟨zero_small, zero_strs⟩
theorem hv_small (n : Nd) (r : L × L × Bool) : ∀ i, i < (hvL n r).length → ((hvL n r).getD i default).node.small := by
  unfold hvL
  split
  · intro i hi
    rcases (by simp at hi; omega : i = 0 ∨ i = 1) with rfl | rfl
    · exact (wh_small _ _).1
    · exact (wh_small _ _).1
  · intro i hi; simp at hi
theorem ps_small (n : Nd) (r : L × L × Bool) (fan prs : Int) : ∀ i, i < (psL n r fan prs).length → ((psL n r fan prs).getD i default).node.small := by
  unfold psL
  split
  · exact hv_small n r
  · split
    · intro i hi
      obtain rfl : i = 0 := by simp at hi; omega
      exact (wh_small _ _).1
    · intro i hi; simp at hi
theorem hv_two (n : Nd) (r : L × L × Bool) : (hvL n r).length ≤ 2 := by unfold hvL; split <;> simp
theorem ps_two (n : Nd) (r : L × L × Bool) (fan prs : Int) : (psL n r fan prs).length ≤ 2 := by
  unfold psL; split
  · exact hv_two n r
  · split <;> simp
/-- Where a key leads in a node asL one piece. -/
theorem lead_whole {n : Nd} {r : L × L × Bool} {k : L} (h : whE n r = 0) (hk : inR r.1 r.2.1 r.2.2 k = true) :
    hp k (whN n r).strip = true ∧ stepN (whN n r).node (k.drop (whN n r).strip.length) = stepN n k := by
  rw [wh_eq h]
  dsimp only
  have hu : hp k (undS r.1 r.2.1 r.2.2) = true := (und_facts _ _ _ _).2.2.1 hk
  refine ⟨hu, ?_⟩
  obtain ⟨t, ht⟩ := hp_pre.1 hu
  have hd : k.drop (undS r.1 r.2.1 r.2.2).length = t := by
    conv => lhs; rw [ht]
    simp
  rw [hd]
  have := lead_tr (n := n) (r := r) (a := undS r.1 r.2.1 r.2.2) (k := t) h (by rw [← ht]; exact hk)
  rw [this, ← ht]
theorem wh_lo {n : Nd} {r : L × L × Bool} (h : whE n r = 0) : (whN n r).lo = r.1 := by rw [wh_eq h]
theorem hv_parts {n : Nd} {r : L × L × Bool} (h : hvE n r = 0) : mayN n = 0 ∧ hvOk n r = true ∧ whE n (hv1 n r) = 0 ∧ whE n (hv2 n r) = 0 ∧ hvL n r = [whN n (hv1 n r), whN n (hv2 n r)] := by
  have e : hvL n r = [whN n (hv1 n r), whN n (hv2 n r)] := by rw [hvL, if_pos h]
  by_cases h0 : mayN n = 0
  · cases h1 : hvOk n r with
    | false => rw [(hv_1 h0 h1).1] at h; cases h
    | true =>
      by_cases h2 : whE n (hv1 n r) = 0
      · rw [hv_b h0 h1 h2] at h
        exact ⟨h0, rfl, h2, h, e⟩
      · rw [(hv_a h0 h1 h2).1] at h; exact absurd h h2
  · rw [(hv_3 h0).1] at h; cases h
/-- Where a key leads in the half in which it is. -/
theorem lead_half {n : Nd} {r : L × L × Bool} {k : L} (h : hvE n r = 0) (hk : inR r.1 r.2.1 r.2.2 k = true) :
    (lt k (midN n).1 = true → hp k (whN n (hv1 n r)).strip = true ∧ stepN (whN n (hv1 n r)).node (k.drop (whN n (hv1 n r)).strip.length) = stepN n k) ∧
    (lt k (midN n).1 = false → hp k (whN n (hv2 n r)).strip = true ∧ stepN (whN n (hv2 n r)).node (k.drop (whN n (hv2 n r)).strip.length) = stepN n k) ∧
    (whN n (hv1 n r)).lo = r.1 ∧ (whN n (hv2 n r)).lo = (midN n).1 := by
  obtain ⟨h0, h1, h2, h3, _⟩ := hv_parts h
  refine ⟨fun g => lead_whole h2 ?_, fun g => lead_whole h3 ?_, ?_, ?_⟩
  · have := cS_in r.1 r.2.1 r.2.2 [] (midN n).1 true k
    rw [hv1, this, hk]
    simp [inR, lt_nil, g]
  · have := cS_in r.1 r.2.1 r.2.2 (midN n).1 [] false k
    rw [hv2, this, hk]
    simp [inR, g]
  · rw [wh_lo h2, hv1_eq h1]
  · rw [wh_lo h3, hv2_eq h1]
theorem ps_len {n : Nd} {r : L × L × Bool} {fan prs : Int} (h : psE n r fan prs ≠ 0) : psL n r fan prs = [] := by
  unfold psE at h
  unfold psL
  split
  · rename_i c; rw [if_pos c] at h; rw [hvL, if_neg h]
  · rename_i c; rw [if_neg c] at h; rw [if_neg h]
/-! ### halves of all keys -/
theorem keep_low {l : List Pr} (hr : rise (l.map Pr.k) = true) {h : Nat} {m : L} (h0 : ∀ i, i < h → i < l.length → lt (l.getD i default).k m = true) (h1 : ∀ i, h ≤ i → i < l.length → lt (l.getD i default).k m = false) :
    l.filter (fun p => lt p.k m) = l.take h ∧ l.filter (fun p => !lt p.k m) = l.drop h := by
  have e : l = l.take h ++ l.drop h := (List.take_append_drop h l).symm
  have a : ∀ p ∈ l.take h, lt p.k m = true := fun p hp => by
    obtain ⟨i, hi, rfl⟩ := List.getElem_of_mem hp
    rw [List.length_take] at hi
    have := h0 i (by omega) (by omega)
    rw [getD_at (by omega)] at this
    simpa using this
  have b : ∀ p ∈ l.drop h, lt p.k m = false := fun p hp => by
    obtain ⟨i, hi, rfl⟩ := List.getElem_of_mem hp
    rw [List.length_drop] at hi
    have := h1 (h + i) (by omega) (by omega)
    rw [getD_at (by omega)] at this
    simpa using this
  constructor
  · conv => lhs; rw [e]
    have f1 : (l.take h).filter (fun p => lt p.k m) = l.take h := List.filter_eq_self.2 fun p hp => a p hp
    have f2 : (l.drop h).filter (fun p => lt p.k m) = [] := List.filter_eq_nil_iff.2 fun p hp => by rw [b p hp]; decide
    rw [List.filter_append, f1, f2, List.append_nil]
  · conv => lhs; rw [e]
    have f1 : (l.take h).filter (fun p => !lt p.k m) = [] := List.filter_eq_nil_iff.2 fun p hp => by rw [a p hp]; decide
    have f2 : (l.drop h).filter (fun p => !lt p.k m) = l.drop h := List.filter_eq_self.2 fun p hp => by rw [b p hp]; rfl
    rw [List.filter_append, f1, f2, List.nil_append]
def allR : L × L × Bool := ([], [], false)
theorem all_in (k : L) : inR allR.1 allR.2.1 allR.2.2 k = true := by simp [allR, inR, lt_nil]
theorem half_1 {n : Nd} (h : hvOk n allR = true) : hv1 n allR = ([], (midN n).1, true) := hv1_eq h
theorem half_2 {n : Nd} (h : hvOk n allR = true) : hv2 n allR = ((midN n).1, [], false) := hv2_eq h
theorem wh_node {n : Nd} {r : L × L × Bool} (h : whE n r = 0) : (whN n r).node = trN n r (undS r.1 r.2.1 r.2.2) := by rw [wh_eq h]
theorem wh_strip {n : Nd} {r : L × L × Bool} (h : whE n r = 0) : (whN n r).strip = undS r.1 r.2.1 r.2.2 := by rw [wh_eq h]
theorem mid_leaf {n : Nd} (h0 : mayN n = 0) (hl : n.leaf = true) (hok : (midN n).2 = true) :
    2 ≤ n.pairs.length ∧ (∀ i, i < (n.pairs.length + 1) / 2 → i < n.pairs.length → lt (n.pairs.getD i default).k (midN n).1 = true) ∧ ∀ i, (n.pairs.length + 1) / 2 ≤ i → i < n.pairs.length → lt (n.pairs.getD i default).k (midN n).1 = false := by
  obtain ⟨_, hk, _⟩ := leaf_len (may_leaf h0 hl)
  have hr := (leaf_parts (may_leaf h0 hl)).1
  unfold midN at hok ⊢
  rw [if_neg (by omega)] at hok ⊢
  by_cases h2 : 2 ≤ n.pairs.length
  · rw [if_pos h2]
    dsimp only
    have gk : ∀ i, i < n.pairs.length → (n.pairs.map Pr.k).getD i default = (n.pairs.getD i default).k := fun i hi => getD_map Pr.k hi
    have hl1 : (n.pairs.map Pr.k).length = n.pairs.length := by simp
    have hlt : lt (n.pairs.getD ((n.pairs.length + 1) / 2 - 1) default).k (n.pairs.getD ((n.pairs.length + 1) / 2) default).k = true := by
      have := rise_lt hr (i := (n.pairs.length + 1) / 2 - 1) ((n.pairs.length + 1) / 2) (by omega) (by rw [hl1]; omega)
      rw [gk _ (by omega), gk _ (by omega)] at this; exact this
    obtain ⟨b1, b2, _⟩ := bet_facts hlt
    refine ⟨h2, fun i hi hi2 => ?_, fun i hi hi2 => ?_⟩
    · have := le_rise hr (i := i) (j := (n.pairs.length + 1) / 2 - 1) (by omega) (by rw [hl1]; omega)
      rw [gk _ (by omega), gk _ (by omega)] at this
      exact lt_of_le_lt this b1
    · have := le_rise hr (i := (n.pairs.length + 1) / 2) (j := i) hi (by rw [hl1]; omega)
      rw [gk _ (by omega), gk _ (by omega)] at this
      cases g : lt (n.pairs.getD i default).k (betS (n.pairs.getD ((n.pairs.length + 1) / 2 - 1) default).k (n.pairs.getD ((n.pairs.length + 1) / 2) default).k) with
      | false => rfl
      | true => rw [lt_of_le_lt this g] at b2; cases b2
  · rw [if_neg h2, if_neg (by rw [hk]; simp)] at hok
    cases hok
/-- The halves of a leaf. -/
theorem half_leaf {n : Nd} (h : hvE n allR = 0) (hl : n.leaf = true) :
    jnOf (whN n (hv1 n allR)) = n.pairs.take ((n.pairs.length + 1) / 2) ∧ jnOf (whN n (hv2 n allR)) = n.pairs.drop ((n.pairs.length + 1) / 2) ∧
    (whN n (hv1 n allR)).node.leaf = true ∧ (whN n (hv2 n allR)).node.leaf = true ∧ mayN (whN n (hv1 n allR)).node = 0 ∧ mayN (whN n (hv2 n allR)).node = 0 ∧
    (whN n (hv1 n allR)).node.kids = [] ∧ (whN n (hv2 n allR)).node.kids = [] := by
  obtain ⟨h0, h1, h2, h3, _⟩ := hv_parts h
  obtain ⟨p2, pa, pb⟩ := mid_leaf h0 hl (hv_in h1).1
  have hr := (leaf_parts (may_leaf h0 hl)).1
  obtain ⟨k1, k2⟩ := keep_low hr pa pb
  have back : ∀ (r : L × L × Bool), whE n r = 0 → jnOf (whN n r) = n.pairs.filter (prKeep r) ∧ (whN n r).node.leaf = true ∧ mayN (whN n r).node = 0 ∧ (whN n r).node.kids = [] := fun r hw => by
    obtain ⟨_, _, hu, hc⟩ := tr_parts hw
    rcases hc with ⟨_, e⟩ | ⟨hl', _⟩
    · have em := tr_may hw
      rw [jnOf, wh_strip hw, wh_node hw, e]
      refine ⟨?_, rfl, ?_, rfl⟩
      · rw [trPr, List.map_map]
        conv => rhs; rw [← List.map_id (n.pairs.filter (prKeep r))]
        refine List.map_congr_left fun p hp1 => ?_
        obtain ⟨_, g⟩ := List.mem_filter.1 hp1
        obtain ⟨t, ht⟩ := hp_pre.1 (keep_und g)
        show (⟨undS r.1 r.2.1 r.2.2 ++ cutS p.k (undS r.1 r.2.1 r.2.2), p.v⟩ : Pr) = p
        rw [(cut_iff (keep_und g)).2 ht, ← ht]
      · rw [e] at em; exact em
    · rw [hl] at hl'; cases hl'
  obtain ⟨a1, a2, a3, a4⟩ := back _ h2
  obtain ⟨b1, b2, b3, b4⟩ := back _ h3
  refine ⟨?_, ?_, a2, b2, a3, b3, a4, b4⟩
  · rw [a1, half_1 h1, ← k1]
    refine List.filter_congr fun p _ => ?_
    simp [prKeep, inR, lt_nil]
  · rw [b1, half_2 h1, ← k2]
    refine List.filter_congr fun p _ => ?_
    simp [prKeep, inR]
/-! ### halves of kids -/
theorem inner_rise {n : Nd} (h : innerOk n = true) : rise ([] :: n.pivots) = true := by
  simp only [innerOk, Bool.and_eq_true] at h
  exact h.1.2.1
theorem rg_at {n : Nd} (hl : n.pivots.length + 1 = n.kids.length) {i : Nat} (hi : i < n.kids.length) : (rgN n i).1 = ([] :: n.pivots).getD i default := by
  cases i with
  | zero =>
    unfold rgN; split <;> simp
  | succ i => rw [rg_lo (by omega) hl hi]; simp
theorem rg_some {n : Nd} (hI : innerOk n = true) {i : Nat} (hi : i < n.kids.length) : emR (rgN n i).1 (rgN n i).2.1 (rgN n i).2.2 = false := by
  obtain ⟨pl, _, _⟩ := inner_len hI
  by_cases c : i < n.pivots.length
  · obtain ⟨e1, e2⟩ := rg_hi (n := n) pl c
    have := rise_lt (inner_rise hI) (i := i) (i + 1) (by omega) (by simp; omega)
    rw [emR, e1, e2, rg_at pl hi]
    have e3 : ([] :: n.pivots).getD (i + 1) default = n.pivots.getD i default := by simp
    rw [e3] at this
    rw [this]; rfl
  · have : (rgN n i).2.2 = false := by
      unfold rgN; rw [if_neg (by omega)]; exact decide_eq_false (by omega)
    rw [emR, this]; rfl
theorem range_low : ∀ (K h : Nat), h ≤ K → ((List.range K).filter (fun i => decide (i < h))).length = h ∧ ((List.range K).filter (fun i => !decide (i < h))).length = K - h
  | 0, h, hh => by obtain rfl : h = 0 := by omega
                   simp
  | K + 1, h, hh => by
    rw [List.range_succ, List.filter_append, List.filter_append, List.length_append, List.length_append]
    by_cases e : h = K + 1
    · subst e
      have a := range_low K K (Nat.le_refl _)
      have f1 : (List.range K).filter (fun i => decide (i < K + 1)) = (List.range K).filter (fun i => decide (i < K)) := List.filter_congr fun i hi => by
        have := List.mem_range.1 hi
        rw [decide_eq_true (by omega), decide_eq_true (by omega)]
      have f2 : (List.range K).filter (fun i => !decide (i < K + 1)) = (List.range K).filter (fun i => !decide (i < K)) := List.filter_congr fun i hi => by
        have := List.mem_range.1 hi
        rw [decide_eq_true (by omega), decide_eq_true (by omega)]
      rw [f1, f2, a.1, a.2]
      simp
    · have a := range_low K h (by omega)
      rw [a.1, a.2]
      have : ¬ K < h := by omega
      simp [this]; omega
theorem half_kids {n : Nd} (h : hvE n allR = 0) (hl : n.leaf = false) :
    (whN n (hv1 n allR)).node.kids.length = (n.kids.length + 1) / 2 ∧ (whN n (hv2 n allR)).node.kids.length = n.kids.length - (n.kids.length + 1) / 2 ∧
    (whN n (hv1 n allR)).node.pairs = [] ∧ (whN n (hv2 n allR)).node.pairs = [] ∧ n.pairs = [] := by
  obtain ⟨h0, h1, h2, h3, _⟩ := hv_parts h
  have hI := (may_inner h0 hl).1
  obtain ⟨pl, pr, pp⟩ := inner_len hI
  have hm := (hv_in h1).1
  have k2 : 2 ≤ n.kids.length ∧ (midN n).1 = n.pivots.getD ((n.kids.length + 1) / 2 - 1) default := by
    unfold midN at hm ⊢
    rw [if_neg (by omega), if_neg (by rw [pp]; simp)] at hm ⊢
    by_cases c : 2 ≤ n.kids.length
    · rw [if_pos c]; exact ⟨c, rfl⟩
    · rw [if_neg c] at hm; cases hm
  obtain ⟨k2, em⟩ := k2
  have em' : (midN n).1 = ([] :: n.pivots).getD ((n.kids.length + 1) / 2) default := by
    rw [em]
    obtain ⟨u, hu⟩ : ∃ u, (n.kids.length + 1) / 2 = u + 1 := ⟨(n.kids.length + 1) / 2 - 1, by omega⟩
    rw [hu]; simp
  have hr := inner_rise hI
  have l1 : ([] :: n.pivots).length = n.kids.length := by simp; omega
  have c1 : ∀ i, i < n.kids.length → (!emC (rgN n i) (hv1 n allR)) = decide (i < (n.kids.length + 1) / 2) := fun i hi => by
    rw [half_1 h1]
    cases g : emC (rgN n i) ([], (midN n).1, true) with
    | false =>
      obtain ⟨k, g1, g2⟩ := emC_in g
      rw [eq_comm, Bool.not_false, decide_eq_true_eq]
      rcases Nat.lt_or_ge i ((n.kids.length + 1) / 2) with c | c
      · exact c
      · simp only [inR, Bool.and_eq_true, Bool.not_eq_true', Bool.or_eq_true] at g1 g2
        have a := le_rise hr (i := (n.kids.length + 1) / 2) (j := i) c (by omega)
        rw [← rg_at pl hi, ← em'] at a
        rcases g2.2 with q | q
        · cases q
        · have := lt_of_lt_le q a
          rw [g1.1] at this; cases this
    | true =>
      rw [eq_comm, Bool.not_true, decide_eq_false_iff_not]
      intro c
      have a := rise_lt hr (i := i) ((n.kids.length + 1) / 2) c (by omega)
      rw [← rg_at pl hi, ← em'] at a
      have := emC_some (r := ([], (midN n).1, true)) (in_lo (rg_some hI hi)) (by simp [inR, lt_nil, a])
      rw [this] at g; cases g
  have c2 : ∀ i, i < n.kids.length → (!emC (rgN n i) (hv2 n allR)) = !decide (i < (n.kids.length + 1) / 2) := fun i hi => by
    rw [half_2 h1]
    cases g : emC (rgN n i) ((midN n).1, [], false) with
    | false =>
      obtain ⟨k, g1, g2⟩ := emC_in g
      rw [eq_comm, Bool.not_false, Bool.not_eq_true', decide_eq_false_iff_not]
      intro c
      simp only [inR, Bool.and_eq_true, Bool.not_eq_true', Bool.or_eq_true] at g1 g2
      have hp : i < n.pivots.length := by omega
      obtain ⟨e1, e2⟩ := rg_hi (n := n) pl hp
      have e3 : n.pivots.getD i default = ([] :: n.pivots).getD (i + 1) default := by simp
      have a := le_rise hr (i := i + 1) (j := (n.kids.length + 1) / 2) (by omega) (by omega)
      rw [← e3, ← em'] at a
      rcases g1.2 with q | q
      · rw [e2] at q; cases q
      · rw [e1] at q
        have := lt_of_lt_le q a
        rw [g2.1] at this; cases this
    | true =>
      rw [eq_comm, Bool.not_true, Bool.not_eq_false', decide_eq_true_eq]
      rcases Nat.lt_or_ge i ((n.kids.length + 1) / 2) with c | c
      · exact c
      · have a := le_rise hr (i := (n.kids.length + 1) / 2) (j := i) c (by omega)
        rw [← rg_at pl hi, ← em'] at a
        have := emC_some (r := ((midN n).1, [], false)) (in_lo (rg_some hI hi)) (by simp [inR, a])
        rw [this] at g; cases g
  have back : ∀ (r : L × L × Bool), whE n r = 0 → (whN n r).node.kids.length = (kept n r n.kids.length).length ∧ (whN n r).node.pairs = [] := fun r hw => by
    obtain ⟨_, _, hu, hc⟩ := tr_parts hw
    rcases hc with ⟨hl', _⟩ | ⟨_, _, e, _⟩
    · rw [hl] at hl'; cases hl'
    · rw [wh_node hw, e]
      exact ⟨by simp, rfl⟩
  obtain ⟨a1, a2⟩ := back _ h2
  obtain ⟨b1, b2⟩ := back _ h3
  have r := range_low n.kids.length ((n.kids.length + 1) / 2) (by omega)
  refine ⟨?_, ?_, a2, b2, pp⟩
  · rw [a1, kept, List.filter_congr (fun i hi => c1 i (List.mem_range.1 hi))]; exact r.1
  · rw [b1, kept, List.filter_congr (fun i hi => c2 i (List.mem_range.1 hi))]; exact r.2
/-- Halves of a leaf, joined. -/
theorem half_join {n : Nd} (h : hvE n allR = 0) (hl : n.leaf = true) :
    jnE (whN n (hv1 n allR)) (whN n (hv2 n allR)) allR = 0 ∧ jnP (whN n (hv1 n allR)) (whN n (hv2 n allR)) allR = ⟨[], [], n⟩ := by
  obtain ⟨h0, _⟩ := hv_parts h
  obtain ⟨a1, a2, a3, a4, a5, a6, _⟩ := half_leaf h hl
  have ja : jnAll (whN n (hv1 n allR)) (whN n (hv2 n allR)) = n.pairs := by rw [jnAll, a1, a2, List.take_append_drop]
  have jo : jnOk (whN n (hv1 n allR)) (whN n (hv2 n allR)) = true := by simp [jnOk, a3, a4, a5, a6]
  have hr := (leaf_parts (may_leaf h0 hl)).1
  have ji : jnIn (jnAll (whN n (hv1 n allR)) (whN n (hv2 n allR))) allR = true := by
    rw [ja, jnIn, hr, Bool.true_and, List.all_eq_true]
    exact fun p _ => all_in p.k
  obtain ⟨t1, t2⟩ := jn0 (r := allR) jo rfl ji (by rw [ja]; have := (may_pairs h0).1; omega)
  refine ⟨t1, ?_⟩
  rw [t2, ja]
  obtain ⟨l1, l2, l3⟩ := leaf_len (may_leaf h0 hl)
  have hu : undS allR.1 allR.2.1 allR.2.2 = [] := by
    have := (und_facts allR.1 allR.2.1 allR.2.2 []).2.1
    exact List.eq_nil_of_length_eq_zero (by simpa [allR] using this)
  rw [hu]
  have hm : n.pairs.map (prCut []) = n.pairs := by
    conv => rhs; rw [← List.map_id n.pairs]
    refine List.map_congr_left fun p _ => ?_
    show (⟨cutS p.k [], p.v⟩ : Pr) = p
    rw [(cut_iff (hp_nil _)).2 (show p.k = [] ++ p.k from rfl)]
  rw [hm]
  obtain ⟨leaf, pairs, pivots, kids, buf⟩ := n
  dsimp only at hl l1 l2 l3 ⊢
  subst hl; subst l1; subst l2; subst l3
  rfl
/-- A key in a join. -/
theorem getP_at : ∀ {l : List Pr}, rise (l.map Pr.k) = true → ∀ {i : Nat}, i < l.length → getP l (l.getD i default).k = some (l.getD i default).v
  | p :: l, hr, 0, _ => by simp [getP]
  | p :: l, hr, i + 1, hi => by
    have hi' : i < l.length := by simpa using hi
    have hlt := rise_lt hr (i := 0) (i + 1) (by omega) (by simpa using hi')
    have e1 : (List.map Pr.k (p :: l)).getD 0 default = p.k := by simp
    have e2 : (List.map Pr.k (p :: l)).getD (i + 1) default = (l.getD i default).k := by
      rw [List.map_cons, List.getD_cons_succ, getD_map Pr.k hi']
    rw [e1, e2] at hlt
    rw [List.getD_cons_succ, getP, if_neg (fun e => by rw [e, lt_irrefl] at hlt; cases hlt)]
    exact getP_at (rise_tail hr) hi'
theorem jn_parts {a b : Pc} {r : L × L × Bool} (h : jnE a b r = 0) : jnOk a b = true ∧ jnIn (jnAll a b) r = true ∧ (jnAll a b).length ≤ 16 ∧ jnP a b r = ⟨r.1, undS r.1 r.2.1 r.2.2, ⟨true, (jnAll a b).map (prCut (undS r.1 r.2.1 r.2.2)), [], [], []⟩⟩ := by
  have e : jnP a b r = ⟨r.1, undS r.1 r.2.1 r.2.2, ⟨true, (jnAll a b).map (prCut (undS r.1 r.2.1 r.2.2)), [], [], []⟩⟩ := by rw [jnP, if_pos h]
  cases h0 : jnOk a b with
  | false => rw [(jn3 h0).1] at h; cases h
  | true =>
    cases h1 : emR r.1 r.2.1 r.2.2 with
    | true => rw [(jn1 h0 h1).1] at h; cases h
    | false =>
      cases h2 : jnIn (jnAll a b) r with
      | false => rw [(jn2 h0 h1 h2).1] at h; cases h
      | true =>
        by_cases h3 : 16 < (jnAll a b).length
        · rw [(jn13 h0 h1 h2 h3).1] at h; cases h
        · exact ⟨rfl, rfl, by omega, e⟩
theorem jn_small (a b : Pc) (r : L × L × Bool) : (jnP a b r).node.small ∧ (jnP a b r).node.strs := by
  by_cases h : jnE a b r = 0
  · obtain ⟨_, _, h3, h4⟩ := jn_parts h
    rw [h4]
    exact ⟨⟨by simp; omega, by simp, by simp, by simp⟩, ⟨fun i hi => by simp at hi, rfl⟩⟩
  · rw [jnP, if_neg h]; exact ⟨zero_small, zero_strs⟩
theorem jn_lead {a b : Pc} {r : L × L × Bool} (h : jnE a b r = 0) {i : Nat} (hi : i < a.node.pairs.length) :
    hp (a.strip ++ (a.node.pairs.getD i default).k) (jnP a b r).strip = true ∧
    (mayN (jnP a b r).node = 0 → (stepN (jnP a b r).node ((a.strip ++ (a.node.pairs.getD i default).k).drop (jnP a b r).strip.length)).val = (a.node.pairs.getD i default).v) := by
  obtain ⟨_, h2, h3, h4⟩ := jn_parts h
  have hl : i < (jnOf a).length := by rw [jnOf_len]; exact hi
  have hl2 : i < (jnAll a b).length := by rw [jnAll, List.length_append]; omega
  have eg : (jnAll a b).getD i default = ⟨a.strip ++ (a.node.pairs.getD i default).k, (a.node.pairs.getD i default).v⟩ := by
    rw [getD_at hl2]
    simp only [jnAll]
    rw [List.getElem_append_left hl, getD_at hi]
    simp [jnOf]
  simp only [jnIn, Bool.and_eq_true] at h2
  have hk : prKeep r ((jnAll a b).getD i default) = true := List.all_eq_true.1 h2.2 _ (by rw [getD_at hl2]; exact List.getElem_mem hl2)
  have hu := keep_und hk
  rw [eg] at hu
  rw [h4]
  dsimp only at hu ⊢
  refine ⟨hu, fun hm => ?_⟩
  rw [stepN, if_pos hm, leadN, if_pos rfl]
  dsimp only
  have hr := (leaf_parts (may_leaf hm rfl)).1
  dsimp only at hr
  have hl3 : i < ((jnAll a b).map (prCut (undS r.1 r.2.1 r.2.2))).length := by simpa using hl2
  have eg2 : ((jnAll a b).map (prCut (undS r.1 r.2.1 r.2.2))).getD i default = ⟨(a.strip ++ (a.node.pairs.getD i default).k).drop (undS r.1 r.2.1 r.2.2).length, (a.node.pairs.getD i default).v⟩ := by
    rw [getD_at hl3, List.getElem_map, ← getD_at hl2, eg]
    show (⟨cutS _ _, _⟩ : Pr) = _
    rw [cutS_hp hu]
  have g := getP_at hr hl3
  rw [eg2] at g
  dsimp only at g
  rw [g]; rfl
theorem one_small {p : Pc} (h : p.node.small) : ∀ i, i < [p].length → ([p].getD i default).node.small := fun i hi => by
  obtain rfl : i = 0 := by simp at hi; omega
  exact h
end Go.Proofs.Ytocppeifkjdeiaa.Mv

/- The law of joins. Under no condition. -/
namespace Go.Proofs.Ytocppeifkjdeiaa.Mv
open Go Go.Proofs
set_option linter.unusedSimpArgs false
set_option linter.unusedVariables false
set_option maxRecDepth 10000
set_option maxHeartbeats 4000000
attribute [local irreducible] AW AO AR

theorem gLawJoins (a b : Pc) (lo hi : L) (e : Bool) (i : Int) (hfa : a.node.fits) (hfb : b.node.fits) : Good Try.prog 3 [.agg a.av, .agg b.av, .agg [.s lo, .s hi, .b e], .i .i64 i] [] (.b true) [] := by
  have gA := gGreat12 a hfa
  have gB := gGreat12 b hfb
  have gG3 := gGreat3 lo hi e
  cases ca : (decide (100 < a.lo.length) || decide (100 < a.strip.length) || great a.node) with
  | true =>
    rw [ca] at gA
    refine Good.w tabOk mixed Try.func3 (N := 113) (by kernel_rfl) rfl (by (repeat (first | exact LE.nil | apply LE.cons)); done) (by (repeat (first | exact LE.nil | apply LE.cons)); done) fun D hD F => ?_
    repeat' (first
    | apply AO.nil
    | (apply AO.kBuildS; first | refine AO.sBuildT (h := ?_) | refine AO.sBuildS (h := ?_))
    | (apply AO.kIx; first | refine AO.sIxN (h := ?_) | refine AO.sIx (h := ?_) | refine AO.sP (h := ?_) | refine AO.sPi (h := ?_))
    | (apply AO.kSl; first | refine AO.sSl (h := ?_) | refine AO.sSlArr (h := ?_) | refine AO.sP (h := ?_))
    | (apply AO.kBox; refine AO.sBox (h := ?_))
    | (apply AO.kAlloc; refine AO.sAlloc (h := ?_))
    | (apply AO.kStore; first | refine AO.sStore (h := ?_) | refine AO.sStB (h := ?_))
    | (apply AO.kAdd; refine AO.sAdd (h := ?_))
    | (apply AO.kP; first | refine AO.sP (h := ?_) | refine AO.sPi (h := ?_) | refine AO.sLoadB (h := ?_))
    | apply AW.seq
    | (apply AW.kR; refine AW.sR (h := ?_))
    | apply AW.skip
    | apply AW.block
    | apply AW.out
    | (apply AW.kE; refine AW.sE (h := ?_))
    | apply AW.label
    | (apply AW.kRd; refine AW.sRd (h := ?_))
    | ((first | (apply AO.kG; first | refine AO.sgt (h1 := fun h => ?_) (h2 := fun h => ?_) | refine AO.sgf (h1 := fun h => ?_) (h2 := fun h => ?_) | refine AO.sgs (h := ?_)) | (apply AW.kC; refine AW.sC (h1 := fun h => ?_) (h2 := fun h => ?_)) | (apply AR.kAny; apply AR.kG; first | refine AR.sgt (h1 := fun h => ?_) (h2 := fun h => ?_) | refine AR.sgf (h1 := fun h => ?_) (h2 := fun h => ?_) | refine AR.sgs (h := ?_))) <;> (try (first | exact Bool.noConfusion h | exact absurd h (by decide) | (simp at h; done) | (rw [h]; try simp only [nrm] at h; try rw [h]; try (exfalso; omega)) | skip)))
    | (apply AR.kAny; first | (apply AR.kBuildS; first | refine AR.sBuildT (h := ?_) | refine AR.sBuildS (h := ?_)) | (apply AR.kIx; first | refine AR.sIxN (h := ?_) | refine AR.sIx (h := ?_) | refine AR.sP (h := ?_) | refine AR.sPi (h := ?_)) | (apply AR.kSl; first | refine AR.sSl (h := ?_) | refine AR.sSlArr (h := ?_) | refine AR.sP (h := ?_)) | (apply AR.kBox; refine AR.sBox (h := ?_)) | (apply AR.kAlloc; refine AR.sAlloc (h := ?_)) | (apply AR.kStore; refine AR.sStore (h := ?_)) | (apply AR.kAdd; refine AR.sAdd (h := ?_)) | (apply AR.kP; first | refine AR.sP (h := ?_) | refine AR.sPi (h := ?_)))
    | (apply AR.kNil; refine AR.sNil (h := ?_)))
    apply AO.kCall 15; refine AO.sCall (hg := gA) (h := ?_)
    repeat' (first
    | apply AO.nil
    | (apply AO.kCall 17; refine AO.sCall (hg := gAwakeS) (h := ?_))
    | (apply AO.kBuildS; first | refine AO.sBuildT (h := ?_) | refine AO.sBuildS (h := ?_))
    | (apply AO.kIx; first | refine AO.sIxN (h := ?_) | refine AO.sIx (h := ?_) | refine AO.sP (h := ?_) | refine AO.sPi (h := ?_))
    | (apply AO.kSl; first | refine AO.sSl (h := ?_) | refine AO.sSlArr (h := ?_) | refine AO.sP (h := ?_))
    | (apply AO.kBox; refine AO.sBox (h := ?_))
    | (apply AO.kAlloc; refine AO.sAlloc (h := ?_))
    | (apply AO.kStore; first | refine AO.sStore (h := ?_) | refine AO.sStB (h := ?_))
    | (apply AO.kAdd; refine AO.sAdd (h := ?_))
    | (apply AO.kP; first | refine AO.sP (h := ?_) | refine AO.sPi (h := ?_) | refine AO.sLoadB (h := ?_))
    | apply AW.seq
    | (apply AW.kR; refine AW.sR (h := ?_))
    | apply AW.skip
    | apply AW.block
    | apply AW.out
    | (apply AW.kE; refine AW.sE (h := ?_))
    | apply AW.label
    | (apply AW.kRd; refine AW.sRd (h := ?_))
    | ((first | (apply AO.kG; first | refine AO.sgt (h1 := fun h => ?_) (h2 := fun h => ?_) | refine AO.sgf (h1 := fun h => ?_) (h2 := fun h => ?_) | refine AO.sgs (h := ?_)) | (apply AW.kC; refine AW.sC (h1 := fun h => ?_) (h2 := fun h => ?_)) | (apply AR.kAny; apply AR.kG; first | refine AR.sgt (h1 := fun h => ?_) (h2 := fun h => ?_) | refine AR.sgf (h1 := fun h => ?_) (h2 := fun h => ?_) | refine AR.sgs (h := ?_))) <;> (try (first | exact Bool.noConfusion h | exact absurd h (by decide) | (simp at h; done) | (rw [h]; try simp only [nrm] at h; try rw [h]; try (exfalso; omega)) | skip)))
    | (apply AR.kAny; first | (apply AR.kCall 17; refine AR.sCall (hg := gAwakeS) (h := ?_)) | (apply AR.kBuildS; first | refine AR.sBuildT (h := ?_) | refine AR.sBuildS (h := ?_)) | (apply AR.kIx; first | refine AR.sIxN (h := ?_) | refine AR.sIx (h := ?_) | refine AR.sP (h := ?_) | refine AR.sPi (h := ?_)) | (apply AR.kSl; first | refine AR.sSl (h := ?_) | refine AR.sSlArr (h := ?_) | refine AR.sP (h := ?_)) | (apply AR.kBox; refine AR.sBox (h := ?_)) | (apply AR.kAlloc; refine AR.sAlloc (h := ?_)) | (apply AR.kStore; refine AR.sStore (h := ?_)) | (apply AR.kAdd; refine AR.sAdd (h := ?_)) | (apply AR.kP; first | refine AR.sP (h := ?_) | refine AR.sPi (h := ?_)))
    | (apply AR.kNil; refine AR.sNil (h := ?_)))
    exact AW.ret (hD rfl (Lx.b rfl))
  | false =>
    rw [ca] at gA
    cases cb : (decide (100 < b.lo.length) || decide (100 < b.strip.length) || great b.node) with
    | true =>
      rw [cb] at gB
      refine Good.w tabOk mixed Try.func3 (N := 113) (by kernel_rfl) rfl (by (repeat (first | exact LE.nil | apply LE.cons)); done) (by (repeat (first | exact LE.nil | apply LE.cons)); done) fun D hD F => ?_
      repeat' (first
    | apply AO.nil
    | (apply AO.kBuildS; first | refine AO.sBuildT (h := ?_) | refine AO.sBuildS (h := ?_))
    | (apply AO.kIx; first | refine AO.sIxN (h := ?_) | refine AO.sIx (h := ?_) | refine AO.sP (h := ?_) | refine AO.sPi (h := ?_))
    | (apply AO.kSl; first | refine AO.sSl (h := ?_) | refine AO.sSlArr (h := ?_) | refine AO.sP (h := ?_))
    | (apply AO.kBox; refine AO.sBox (h := ?_))
    | (apply AO.kAlloc; refine AO.sAlloc (h := ?_))
    | (apply AO.kStore; first | refine AO.sStore (h := ?_) | refine AO.sStB (h := ?_))
    | (apply AO.kAdd; refine AO.sAdd (h := ?_))
    | (apply AO.kP; first | refine AO.sP (h := ?_) | refine AO.sPi (h := ?_) | refine AO.sLoadB (h := ?_))
    | apply AW.seq
    | (apply AW.kR; refine AW.sR (h := ?_))
    | apply AW.skip
    | apply AW.block
    | apply AW.out
    | (apply AW.kE; refine AW.sE (h := ?_))
    | apply AW.label
    | (apply AW.kRd; refine AW.sRd (h := ?_))
    | ((first | (apply AO.kG; first | refine AO.sgt (h1 := fun h => ?_) (h2 := fun h => ?_) | refine AO.sgf (h1 := fun h => ?_) (h2 := fun h => ?_) | refine AO.sgs (h := ?_)) | (apply AW.kC; refine AW.sC (h1 := fun h => ?_) (h2 := fun h => ?_)) | (apply AR.kAny; apply AR.kG; first | refine AR.sgt (h1 := fun h => ?_) (h2 := fun h => ?_) | refine AR.sgf (h1 := fun h => ?_) (h2 := fun h => ?_) | refine AR.sgs (h := ?_))) <;> (try (first | exact Bool.noConfusion h | exact absurd h (by decide) | (simp at h; done) | (rw [h]; try simp only [nrm] at h; try rw [h]; try (exfalso; omega)) | skip)))
    | (apply AR.kAny; first | (apply AR.kBuildS; first | refine AR.sBuildT (h := ?_) | refine AR.sBuildS (h := ?_)) | (apply AR.kIx; first | refine AR.sIxN (h := ?_) | refine AR.sIx (h := ?_) | refine AR.sP (h := ?_) | refine AR.sPi (h := ?_)) | (apply AR.kSl; first | refine AR.sSl (h := ?_) | refine AR.sSlArr (h := ?_) | refine AR.sP (h := ?_)) | (apply AR.kBox; refine AR.sBox (h := ?_)) | (apply AR.kAlloc; refine AR.sAlloc (h := ?_)) | (apply AR.kStore; refine AR.sStore (h := ?_)) | (apply AR.kAdd; refine AR.sAdd (h := ?_)) | (apply AR.kP; first | refine AR.sP (h := ?_) | refine AR.sPi (h := ?_)))
    | (apply AR.kNil; refine AR.sNil (h := ?_)))
      apply AO.kCall 15; refine AO.sCall (hg := gA) (h := ?_)
      repeat' (first
    | apply AO.nil
    | (apply AO.kBuildS; first | refine AO.sBuildT (h := ?_) | refine AO.sBuildS (h := ?_))
    | (apply AO.kIx; first | refine AO.sIxN (h := ?_) | refine AO.sIx (h := ?_) | refine AO.sP (h := ?_) | refine AO.sPi (h := ?_))
    | (apply AO.kSl; first | refine AO.sSl (h := ?_) | refine AO.sSlArr (h := ?_) | refine AO.sP (h := ?_))
    | (apply AO.kBox; refine AO.sBox (h := ?_))
    | (apply AO.kAlloc; refine AO.sAlloc (h := ?_))
    | (apply AO.kStore; first | refine AO.sStore (h := ?_) | refine AO.sStB (h := ?_))
    | (apply AO.kAdd; refine AO.sAdd (h := ?_))
    | (apply AO.kP; first | refine AO.sP (h := ?_) | refine AO.sPi (h := ?_) | refine AO.sLoadB (h := ?_))
    | apply AW.seq
    | (apply AW.kR; refine AW.sR (h := ?_))
    | apply AW.skip
    | apply AW.block
    | apply AW.out
    | (apply AW.kE; refine AW.sE (h := ?_))
    | apply AW.label
    | (apply AW.kRd; refine AW.sRd (h := ?_))
    | ((first | (apply AO.kG; first | refine AO.sgt (h1 := fun h => ?_) (h2 := fun h => ?_) | refine AO.sgf (h1 := fun h => ?_) (h2 := fun h => ?_) | refine AO.sgs (h := ?_)) | (apply AW.kC; refine AW.sC (h1 := fun h => ?_) (h2 := fun h => ?_)) | (apply AR.kAny; apply AR.kG; first | refine AR.sgt (h1 := fun h => ?_) (h2 := fun h => ?_) | refine AR.sgf (h1 := fun h => ?_) (h2 := fun h => ?_) | refine AR.sgs (h := ?_))) <;> (try (first | exact Bool.noConfusion h | exact absurd h (by decide) | (simp at h; done) | (rw [h]; try simp only [nrm] at h; try rw [h]; try (exfalso; omega)) | skip)))
    | (apply AR.kAny; first | (apply AR.kBuildS; first | refine AR.sBuildT (h := ?_) | refine AR.sBuildS (h := ?_)) | (apply AR.kIx; first | refine AR.sIxN (h := ?_) | refine AR.sIx (h := ?_) | refine AR.sP (h := ?_) | refine AR.sPi (h := ?_)) | (apply AR.kSl; first | refine AR.sSl (h := ?_) | refine AR.sSlArr (h := ?_) | refine AR.sP (h := ?_)) | (apply AR.kBox; refine AR.sBox (h := ?_)) | (apply AR.kAlloc; refine AR.sAlloc (h := ?_)) | (apply AR.kStore; refine AR.sStore (h := ?_)) | (apply AR.kAdd; refine AR.sAdd (h := ?_)) | (apply AR.kP; first | refine AR.sP (h := ?_) | refine AR.sPi (h := ?_)))
    | (apply AR.kNil; refine AR.sNil (h := ?_)))
      apply AO.kCall 15; refine AO.sCall (hg := gB) (h := ?_)
      repeat' (first
    | apply AO.nil
    | (apply AO.kCall 17; refine AO.sCall (hg := gAwakeS) (h := ?_))
    | (apply AO.kBuildS; first | refine AO.sBuildT (h := ?_) | refine AO.sBuildS (h := ?_))
    | (apply AO.kIx; first | refine AO.sIxN (h := ?_) | refine AO.sIx (h := ?_) | refine AO.sP (h := ?_) | refine AO.sPi (h := ?_))
    | (apply AO.kSl; first | refine AO.sSl (h := ?_) | refine AO.sSlArr (h := ?_) | refine AO.sP (h := ?_))
    | (apply AO.kBox; refine AO.sBox (h := ?_))
    | (apply AO.kAlloc; refine AO.sAlloc (h := ?_))
    | (apply AO.kStore; first | refine AO.sStore (h := ?_) | refine AO.sStB (h := ?_))
    | (apply AO.kAdd; refine AO.sAdd (h := ?_))
    | (apply AO.kP; first | refine AO.sP (h := ?_) | refine AO.sPi (h := ?_) | refine AO.sLoadB (h := ?_))
    | apply AW.seq
    | (apply AW.kR; refine AW.sR (h := ?_))
    | apply AW.skip
    | apply AW.block
    | apply AW.out
    | (apply AW.kE; refine AW.sE (h := ?_))
    | apply AW.label
    | (apply AW.kRd; refine AW.sRd (h := ?_))
    | ((first | (apply AO.kG; first | refine AO.sgt (h1 := fun h => ?_) (h2 := fun h => ?_) | refine AO.sgf (h1 := fun h => ?_) (h2 := fun h => ?_) | refine AO.sgs (h := ?_)) | (apply AW.kC; refine AW.sC (h1 := fun h => ?_) (h2 := fun h => ?_)) | (apply AR.kAny; apply AR.kG; first | refine AR.sgt (h1 := fun h => ?_) (h2 := fun h => ?_) | refine AR.sgf (h1 := fun h => ?_) (h2 := fun h => ?_) | refine AR.sgs (h := ?_))) <;> (try (first | exact Bool.noConfusion h | exact absurd h (by decide) | (simp at h; done) | (rw [h]; try simp only [nrm] at h; try rw [h]; try (exfalso; omega)) | skip)))
    | (apply AR.kAny; first | (apply AR.kCall 17; refine AR.sCall (hg := gAwakeS) (h := ?_)) | (apply AR.kBuildS; first | refine AR.sBuildT (h := ?_) | refine AR.sBuildS (h := ?_)) | (apply AR.kIx; first | refine AR.sIxN (h := ?_) | refine AR.sIx (h := ?_) | refine AR.sP (h := ?_) | refine AR.sPi (h := ?_)) | (apply AR.kSl; first | refine AR.sSl (h := ?_) | refine AR.sSlArr (h := ?_) | refine AR.sP (h := ?_)) | (apply AR.kBox; refine AR.sBox (h := ?_)) | (apply AR.kAlloc; refine AR.sAlloc (h := ?_)) | (apply AR.kStore; refine AR.sStore (h := ?_)) | (apply AR.kAdd; refine AR.sAdd (h := ?_)) | (apply AR.kP; first | refine AR.sP (h := ?_) | refine AR.sPi (h := ?_)))
    | (apply AR.kNil; refine AR.sNil (h := ?_)))
      exact AW.ret (hD rfl (Lx.b rfl))
    | false =>
      rw [cb] at gB
      simp only [Bool.or_eq_false_iff, decide_eq_false_iff_not] at ca cb
      have hsa := great_small ca.2
      have hsb := great_small cb.2
      have npa := hsa.pairs
      cases cr : great2 lo hi with
      | true =>
        rw [cr] at gG3
        refine Good.w tabOk mixed Try.func3 (N := 113) (by kernel_rfl) rfl (by (repeat (first | exact LE.nil | apply LE.cons)); done) (by (repeat (first | exact LE.nil | apply LE.cons)); done) fun D hD F => ?_
        repeat' (first
    | apply AO.nil
    | (apply AO.kBuildS; first | refine AO.sBuildT (h := ?_) | refine AO.sBuildS (h := ?_))
    | (apply AO.kIx; first | refine AO.sIxN (h := ?_) | refine AO.sIx (h := ?_) | refine AO.sP (h := ?_) | refine AO.sPi (h := ?_))
    | (apply AO.kSl; first | refine AO.sSl (h := ?_) | refine AO.sSlArr (h := ?_) | refine AO.sP (h := ?_))
    | (apply AO.kBox; refine AO.sBox (h := ?_))
    | (apply AO.kAlloc; refine AO.sAlloc (h := ?_))
    | (apply AO.kStore; first | refine AO.sStore (h := ?_) | refine AO.sStB (h := ?_))
    | (apply AO.kAdd; refine AO.sAdd (h := ?_))
    | (apply AO.kP; first | refine AO.sP (h := ?_) | refine AO.sPi (h := ?_) | refine AO.sLoadB (h := ?_))
    | apply AW.seq
    | (apply AW.kR; refine AW.sR (h := ?_))
    | apply AW.skip
    | apply AW.block
    | apply AW.out
    | (apply AW.kE; refine AW.sE (h := ?_))
    | apply AW.label
    | (apply AW.kRd; refine AW.sRd (h := ?_))
    | ((first | (apply AO.kG; first | refine AO.sgt (h1 := fun h => ?_) (h2 := fun h => ?_) | refine AO.sgf (h1 := fun h => ?_) (h2 := fun h => ?_) | refine AO.sgs (h := ?_)) | (apply AW.kC; refine AW.sC (h1 := fun h => ?_) (h2 := fun h => ?_)) | (apply AR.kAny; apply AR.kG; first | refine AR.sgt (h1 := fun h => ?_) (h2 := fun h => ?_) | refine AR.sgf (h1 := fun h => ?_) (h2 := fun h => ?_) | refine AR.sgs (h := ?_))) <;> (try (first | exact Bool.noConfusion h | exact absurd h (by decide) | (simp at h; done) | (rw [h]; try simp only [nrm] at h; try rw [h]; try (exfalso; omega)) | skip)))
    | (apply AR.kAny; first | (apply AR.kBuildS; first | refine AR.sBuildT (h := ?_) | refine AR.sBuildS (h := ?_)) | (apply AR.kIx; first | refine AR.sIxN (h := ?_) | refine AR.sIx (h := ?_) | refine AR.sP (h := ?_) | refine AR.sPi (h := ?_)) | (apply AR.kSl; first | refine AR.sSl (h := ?_) | refine AR.sSlArr (h := ?_) | refine AR.sP (h := ?_)) | (apply AR.kBox; refine AR.sBox (h := ?_)) | (apply AR.kAlloc; refine AR.sAlloc (h := ?_)) | (apply AR.kStore; refine AR.sStore (h := ?_)) | (apply AR.kAdd; refine AR.sAdd (h := ?_)) | (apply AR.kP; first | refine AR.sP (h := ?_) | refine AR.sPi (h := ?_)))
    | (apply AR.kNil; refine AR.sNil (h := ?_)))
        apply AO.kCall 15; refine AO.sCall (hg := gA) (h := ?_)
        repeat' (first
    | apply AO.nil
    | (apply AO.kBuildS; first | refine AO.sBuildT (h := ?_) | refine AO.sBuildS (h := ?_))
    | (apply AO.kIx; first | refine AO.sIxN (h := ?_) | refine AO.sIx (h := ?_) | refine AO.sP (h := ?_) | refine AO.sPi (h := ?_))
    | (apply AO.kSl; first | refine AO.sSl (h := ?_) | refine AO.sSlArr (h := ?_) | refine AO.sP (h := ?_))
    | (apply AO.kBox; refine AO.sBox (h := ?_))
    | (apply AO.kAlloc; refine AO.sAlloc (h := ?_))
    | (apply AO.kStore; first | refine AO.sStore (h := ?_) | refine AO.sStB (h := ?_))
    | (apply AO.kAdd; refine AO.sAdd (h := ?_))
    | (apply AO.kP; first | refine AO.sP (h := ?_) | refine AO.sPi (h := ?_) | refine AO.sLoadB (h := ?_))
    | apply AW.seq
    | (apply AW.kR; refine AW.sR (h := ?_))
    | apply AW.skip
    | apply AW.block
    | apply AW.out
    | (apply AW.kE; refine AW.sE (h := ?_))
    | apply AW.label
    | (apply AW.kRd; refine AW.sRd (h := ?_))
    | ((first | (apply AO.kG; first | refine AO.sgt (h1 := fun h => ?_) (h2 := fun h => ?_) | refine AO.sgf (h1 := fun h => ?_) (h2 := fun h => ?_) | refine AO.sgs (h := ?_)) | (apply AW.kC; refine AW.sC (h1 := fun h => ?_) (h2 := fun h => ?_)) | (apply AR.kAny; apply AR.kG; first | refine AR.sgt (h1 := fun h => ?_) (h2 := fun h => ?_) | refine AR.sgf (h1 := fun h => ?_) (h2 := fun h => ?_) | refine AR.sgs (h := ?_))) <;> (try (first | exact Bool.noConfusion h | exact absurd h (by decide) | (simp at h; done) | (rw [h]; try simp only [nrm] at h; try rw [h]; try (exfalso; omega)) | skip)))
    | (apply AR.kAny; first | (apply AR.kBuildS; first | refine AR.sBuildT (h := ?_) | refine AR.sBuildS (h := ?_)) | (apply AR.kIx; first | refine AR.sIxN (h := ?_) | refine AR.sIx (h := ?_) | refine AR.sP (h := ?_) | refine AR.sPi (h := ?_)) | (apply AR.kSl; first | refine AR.sSl (h := ?_) | refine AR.sSlArr (h := ?_) | refine AR.sP (h := ?_)) | (apply AR.kBox; refine AR.sBox (h := ?_)) | (apply AR.kAlloc; refine AR.sAlloc (h := ?_)) | (apply AR.kStore; refine AR.sStore (h := ?_)) | (apply AR.kAdd; refine AR.sAdd (h := ?_)) | (apply AR.kP; first | refine AR.sP (h := ?_) | refine AR.sPi (h := ?_)))
    | (apply AR.kNil; refine AR.sNil (h := ?_)))
        apply AO.kCall 15; refine AO.sCall (hg := gB) (h := ?_)
        repeat' (first
    | apply AO.nil
    | (apply AO.kCall 16; refine AO.sCall (hg := gG3) (h := ?_))
    | (apply AO.kCall 17; refine AO.sCall (hg := gAwakeS) (h := ?_))
    | (apply AO.kBuildS; first | refine AO.sBuildT (h := ?_) | refine AO.sBuildS (h := ?_))
    | (apply AO.kIx; first | refine AO.sIxN (h := ?_) | refine AO.sIx (h := ?_) | refine AO.sP (h := ?_) | refine AO.sPi (h := ?_))
    | (apply AO.kSl; first | refine AO.sSl (h := ?_) | refine AO.sSlArr (h := ?_) | refine AO.sP (h := ?_))
    | (apply AO.kBox; refine AO.sBox (h := ?_))
    | (apply AO.kAlloc; refine AO.sAlloc (h := ?_))
    | (apply AO.kStore; first | refine AO.sStore (h := ?_) | refine AO.sStB (h := ?_))
    | (apply AO.kAdd; refine AO.sAdd (h := ?_))
    | (apply AO.kP; first | refine AO.sP (h := ?_) | refine AO.sPi (h := ?_) | refine AO.sLoadB (h := ?_))
    | apply AW.seq
    | (apply AW.kR; refine AW.sR (h := ?_))
    | apply AW.skip
    | apply AW.block
    | apply AW.out
    | (apply AW.kE; refine AW.sE (h := ?_))
    | apply AW.label
    | (apply AW.kRd; refine AW.sRd (h := ?_))
    | ((first | (apply AO.kG; first | refine AO.sgt (h1 := fun h => ?_) (h2 := fun h => ?_) | refine AO.sgf (h1 := fun h => ?_) (h2 := fun h => ?_) | refine AO.sgs (h := ?_)) | (apply AW.kC; refine AW.sC (h1 := fun h => ?_) (h2 := fun h => ?_)) | (apply AR.kAny; apply AR.kG; first | refine AR.sgt (h1 := fun h => ?_) (h2 := fun h => ?_) | refine AR.sgf (h1 := fun h => ?_) (h2 := fun h => ?_) | refine AR.sgs (h := ?_))) <;> (try (first | exact Bool.noConfusion h | exact absurd h (by decide) | (simp at h; done) | (rw [h]; try simp only [nrm] at h; try rw [h]; try (exfalso; omega)) | skip)))
    | (apply AR.kAny; first | (apply AR.kCall 16; refine AR.sCall (hg := gG3) (h := ?_)) | (apply AR.kCall 17; refine AR.sCall (hg := gAwakeS) (h := ?_)) | (apply AR.kBuildS; first | refine AR.sBuildT (h := ?_) | refine AR.sBuildS (h := ?_)) | (apply AR.kIx; first | refine AR.sIxN (h := ?_) | refine AR.sIx (h := ?_) | refine AR.sP (h := ?_) | refine AR.sPi (h := ?_)) | (apply AR.kSl; first | refine AR.sSl (h := ?_) | refine AR.sSlArr (h := ?_) | refine AR.sP (h := ?_)) | (apply AR.kBox; refine AR.sBox (h := ?_)) | (apply AR.kAlloc; refine AR.sAlloc (h := ?_)) | (apply AR.kStore; refine AR.sStore (h := ?_)) | (apply AR.kAdd; refine AR.sAdd (h := ?_)) | (apply AR.kP; first | refine AR.sP (h := ?_) | refine AR.sPi (h := ?_)))
    | (apply AR.kNil; refine AR.sNil (h := ?_)))
        exact AW.ret (hD rfl (Lx.b rfl))
      | false =>
        rw [cr] at gG3
        obtain ⟨r1, r2⟩ := great2_false cr
        have gJ := gJoinP a b (lo, hi, e) hsa hsb (by show lo.length ≤ _; omega) (by omega) (by omega)
        have gJ' := gJoinR a b (lo, hi, e) hsa hsb (by show lo.length ≤ _; omega) (by omega) (by omega)
        have gS := gSamePc [jnP a b (lo, hi, e)] (by simp) (one_small (jn_small _ _ _).1)
        obtain ⟨q4, q5⟩ := jn_small a b (lo, hi, e)
        have gM := gMay' (jnP a b (lo, hi, e)).node q4
        have lpa : ((a.node.pairs.map Pr.av).length : Int) = (a.node.pairs.length : Nat) := by simp
        by_cases hE : jnE a b (lo, hi, e) = 0
        · rw [hE] at gJ gJ'
          by_cases hi0 : 0 ≤ i ∧ i < a.node.pairs.length
          · obtain ⟨j, rfl⟩ : ∃ j : Nat, i = j := ⟨i.toNat, by omega⟩
            have hj : j < a.node.pairs.length := by omega
            obtain ⟨jk, _, _, _⟩ := jn_parts hE
            have mA := (jnOk_len jk).2.2.1
            have pk : (a.node.pairs.getD j default).k.length ≤ 16 := by
              have := List.all_eq_true.1 (may_pairs mA).2 (a.node.pairs.getD j default) (by rw [getD_at hj]; exact List.getElem_mem hj)
              simp only [prLen, Bool.and_eq_true, decide_eq_true_eq] at this; exact this.1
            obtain ⟨l1, l2⟩ := jn_lead hE hj
            generalize jnP a b (lo, hi, e) = x at *
            have q6 := hp_len l1
            have gH := gHas' (a.strip ++ (a.node.pairs.getD j default).k) x.strip
            rw [l1] at gH
            have kl : (a.strip ++ (a.node.pairs.getD j default).k).length ≤ 1000000 := by rw [List.length_append]; omega
            have gSt := gStep' x.node ((a.strip ++ (a.node.pairs.getD j default).k).drop x.strip.length) q4 q5 (by rw [List.length_drop]; omega)
            refine Good.w tabOk mixed Try.func3 (N := 113) (by kernel_rfl) rfl (by (repeat (first | exact LE.nil | apply LE.cons)); done) (by (repeat (first | exact LE.nil | apply LE.cons)); done) fun D hD F => ?_
            repeat' (first
    | apply AO.nil
    | (apply AO.kBuildS; first | refine AO.sBuildT (h := ?_) | refine AO.sBuildS (h := ?_))
    | (apply AO.kIx; first | refine AO.sIxN (h := ?_) | refine AO.sIx (h := ?_) | refine AO.sP (h := ?_) | refine AO.sPi (h := ?_))
    | (apply AO.kSl; first | refine AO.sSl (h := ?_) | refine AO.sSlArr (h := ?_) | refine AO.sP (h := ?_))
    | (apply AO.kBox; refine AO.sBox (h := ?_))
    | (apply AO.kAlloc; refine AO.sAlloc (h := ?_))
    | (apply AO.kStore; first | refine AO.sStore (h := ?_) | refine AO.sStB (h := ?_))
    | (apply AO.kAdd; refine AO.sAdd (h := ?_))
    | (apply AO.kP; first | refine AO.sP (h := ?_) | refine AO.sPi (h := ?_) | refine AO.sLoadB (h := ?_))
    | apply AW.seq
    | (apply AW.kR; refine AW.sR (h := ?_))
    | apply AW.skip
    | apply AW.block
    | apply AW.out
    | (apply AW.kE; refine AW.sE (h := ?_))
    | apply AW.label
    | (apply AW.kRd; refine AW.sRd (h := ?_))
    | ((first | (apply AO.kG; first | refine AO.sgt (h1 := fun h => ?_) (h2 := fun h => ?_) | refine AO.sgf (h1 := fun h => ?_) (h2 := fun h => ?_) | refine AO.sgs (h := ?_)) | (apply AW.kC; refine AW.sC (h1 := fun h => ?_) (h2 := fun h => ?_)) | (apply AR.kAny; apply AR.kG; first | refine AR.sgt (h1 := fun h => ?_) (h2 := fun h => ?_) | refine AR.sgf (h1 := fun h => ?_) (h2 := fun h => ?_) | refine AR.sgs (h := ?_))) <;> (try (first | exact Bool.noConfusion h | exact absurd h (by decide) | (simp at h; done) | (rw [h]; try simp only [nrm] at h; try rw [h]; try (exfalso; omega)) | skip)))
    | (apply AR.kAny; first | (apply AR.kBuildS; first | refine AR.sBuildT (h := ?_) | refine AR.sBuildS (h := ?_)) | (apply AR.kIx; first | refine AR.sIxN (h := ?_) | refine AR.sIx (h := ?_) | refine AR.sP (h := ?_) | refine AR.sPi (h := ?_)) | (apply AR.kSl; first | refine AR.sSl (h := ?_) | refine AR.sSlArr (h := ?_) | refine AR.sP (h := ?_)) | (apply AR.kBox; refine AR.sBox (h := ?_)) | (apply AR.kAlloc; refine AR.sAlloc (h := ?_)) | (apply AR.kStore; refine AR.sStore (h := ?_)) | (apply AR.kAdd; refine AR.sAdd (h := ?_)) | (apply AR.kP; first | refine AR.sP (h := ?_) | refine AR.sPi (h := ?_)))
    | (apply AR.kNil; refine AR.sNil (h := ?_)))
            apply AO.kCall 15; refine AO.sCall (hg := gA) (h := ?_)
            repeat' (first
    | apply AO.nil
    | (apply AO.kBuildS; first | refine AO.sBuildT (h := ?_) | refine AO.sBuildS (h := ?_))
    | (apply AO.kIx; first | refine AO.sIxN (h := ?_) | refine AO.sIx (h := ?_) | refine AO.sP (h := ?_) | refine AO.sPi (h := ?_))
    | (apply AO.kSl; first | refine AO.sSl (h := ?_) | refine AO.sSlArr (h := ?_) | refine AO.sP (h := ?_))
    | (apply AO.kBox; refine AO.sBox (h := ?_))
    | (apply AO.kAlloc; refine AO.sAlloc (h := ?_))
    | (apply AO.kStore; first | refine AO.sStore (h := ?_) | refine AO.sStB (h := ?_))
    | (apply AO.kAdd; refine AO.sAdd (h := ?_))
    | (apply AO.kP; first | refine AO.sP (h := ?_) | refine AO.sPi (h := ?_) | refine AO.sLoadB (h := ?_))
    | apply AW.seq
    | (apply AW.kR; refine AW.sR (h := ?_))
    | apply AW.skip
    | apply AW.block
    | apply AW.out
    | (apply AW.kE; refine AW.sE (h := ?_))
    | apply AW.label
    | (apply AW.kRd; refine AW.sRd (h := ?_))
    | ((first | (apply AO.kG; first | refine AO.sgt (h1 := fun h => ?_) (h2 := fun h => ?_) | refine AO.sgf (h1 := fun h => ?_) (h2 := fun h => ?_) | refine AO.sgs (h := ?_)) | (apply AW.kC; refine AW.sC (h1 := fun h => ?_) (h2 := fun h => ?_)) | (apply AR.kAny; apply AR.kG; first | refine AR.sgt (h1 := fun h => ?_) (h2 := fun h => ?_) | refine AR.sgf (h1 := fun h => ?_) (h2 := fun h => ?_) | refine AR.sgs (h := ?_))) <;> (try (first | exact Bool.noConfusion h | exact absurd h (by decide) | (simp at h; done) | (rw [h]; try simp only [nrm] at h; try rw [h]; try (exfalso; omega)) | skip)))
    | (apply AR.kAny; first | (apply AR.kBuildS; first | refine AR.sBuildT (h := ?_) | refine AR.sBuildS (h := ?_)) | (apply AR.kIx; first | refine AR.sIxN (h := ?_) | refine AR.sIx (h := ?_) | refine AR.sP (h := ?_) | refine AR.sPi (h := ?_)) | (apply AR.kSl; first | refine AR.sSl (h := ?_) | refine AR.sSlArr (h := ?_) | refine AR.sP (h := ?_)) | (apply AR.kBox; refine AR.sBox (h := ?_)) | (apply AR.kAlloc; refine AR.sAlloc (h := ?_)) | (apply AR.kStore; refine AR.sStore (h := ?_)) | (apply AR.kAdd; refine AR.sAdd (h := ?_)) | (apply AR.kP; first | refine AR.sP (h := ?_) | refine AR.sPi (h := ?_)))
    | (apply AR.kNil; refine AR.sNil (h := ?_)))
            apply AO.kCall 15; refine AO.sCall (hg := gB) (h := ?_)
            repeat' (first
    | apply AO.nil
    | (apply AO.kCall 16; refine AO.sCall (hg := gG3) (h := ?_))
    | (apply AO.kCall 18; refine AO.sCall (hg := gJ) (h := ?_))
    | (apply AO.kCall 19; refine AO.sCall (hg := gJ') (h := ?_))
    | (apply AO.kCall 20; refine AO.sCall (hg := gS) (h := ?_))
    | (apply AO.kCall 21; refine AO.sCall (hg := gH) (h := ?_))
    | (apply AO.kCall 22; refine AO.sCall (hg := gM) (h := ?_))
    | (apply AO.kCall 23; refine AO.sCall (hg := gSt) (h := ?_))
    | (apply AO.kCall 17; refine AO.sCall (hg := gAwakeS) (h := ?_))
    | (apply AO.kBuildS; first | refine AO.sBuildT (h := ?_) | refine AO.sBuildS (h := ?_))
    | (apply AO.kIx; first | refine AO.sIxN (h := ?_) | refine AO.sIx (h := ?_) | refine AO.sP (h := ?_) | refine AO.sPi (h := ?_))
    | (apply AO.kSl; first | refine AO.sSl (h := ?_) | refine AO.sSlArr (h := ?_) | refine AO.sP (h := ?_))
    | (apply AO.kBox; refine AO.sBox (h := ?_))
    | (apply AO.kAlloc; refine AO.sAlloc (h := ?_))
    | (apply AO.kStore; first | refine AO.sStore (h := ?_) | refine AO.sStB (h := ?_))
    | (apply AO.kAdd; refine AO.sAdd (h := ?_))
    | (apply AO.kP; first | refine AO.sP (h := ?_) | refine AO.sPi (h := ?_) | refine AO.sLoadB (h := ?_))
    | apply AW.seq
    | (apply AW.kR; refine AW.sR (h := ?_))
    | apply AW.skip
    | apply AW.block
    | apply AW.out
    | (apply AW.kE; refine AW.sE (h := ?_))
    | apply AW.label
    | (apply AW.kRd; refine AW.sRd (h := ?_))
    | ((first | (apply AO.kG; first | refine AO.sgt (h1 := fun h => ?_) (h2 := fun h => ?_) | refine AO.sgf (h1 := fun h => ?_) (h2 := fun h => ?_) | refine AO.sgs (h := ?_)) | (apply AW.kC; refine AW.sC (h1 := fun h => ?_) (h2 := fun h => ?_)) | (apply AR.kAny; apply AR.kG; first | refine AR.sgt (h1 := fun h => ?_) (h2 := fun h => ?_) | refine AR.sgf (h1 := fun h => ?_) (h2 := fun h => ?_) | refine AR.sgs (h := ?_))) <;> (try (first | exact Bool.noConfusion h | exact absurd h (by decide) | (simp at h; done) | (rw [h]; try simp only [nrm] at h; try rw [h]; try (exfalso; omega)) | skip)))
    | (apply AR.kAny; first | (apply AR.kCall 16; refine AR.sCall (hg := gG3) (h := ?_)) | (apply AR.kCall 18; refine AR.sCall (hg := gJ) (h := ?_)) | (apply AR.kCall 19; refine AR.sCall (hg := gJ') (h := ?_)) | (apply AR.kCall 20; refine AR.sCall (hg := gS) (h := ?_)) | (apply AR.kCall 21; refine AR.sCall (hg := gH) (h := ?_)) | (apply AR.kCall 22; refine AR.sCall (hg := gM) (h := ?_)) | (apply AR.kCall 23; refine AR.sCall (hg := gSt) (h := ?_)) | (apply AR.kCall 17; refine AR.sCall (hg := gAwakeS) (h := ?_)) | (apply AR.kBuildS; first | refine AR.sBuildT (h := ?_) | refine AR.sBuildS (h := ?_)) | (apply AR.kIx; first | refine AR.sIxN (h := ?_) | refine AR.sIx (h := ?_) | refine AR.sP (h := ?_) | refine AR.sPi (h := ?_)) | (apply AR.kSl; first | refine AR.sSl (h := ?_) | refine AR.sSlArr (h := ?_) | refine AR.sP (h := ?_)) | (apply AR.kBox; refine AR.sBox (h := ?_)) | (apply AR.kAlloc; refine AR.sAlloc (h := ?_)) | (apply AR.kStore; refine AR.sStore (h := ?_)) | (apply AR.kAdd; refine AR.sAdd (h := ?_)) | (apply AR.kP; first | refine AR.sP (h := ?_) | refine AR.sPi (h := ?_)))
    | (apply AR.kNil; refine AR.sNil (h := ?_)))
            all_goals first
              | exact AW.ret (hD rfl (Lx.b rfl))
              | (exfalso; omega)
              | (exfalso; have q7 := l2 (eq0 ‹((mayN x.node : Int) != 0) = false›); simp_all; done)
              | (exfalso; simp_all; done)
              | trace_state
          · refine Good.w tabOk mixed Try.func3 (N := 113) (by kernel_rfl) rfl (by (repeat (first | exact LE.nil | apply LE.cons)); done) (by (repeat (first | exact LE.nil | apply LE.cons)); done) fun D hD F => ?_
            repeat' (first
    | apply AO.nil
    | (apply AO.kBuildS; first | refine AO.sBuildT (h := ?_) | refine AO.sBuildS (h := ?_))
    | (apply AO.kIx; first | refine AO.sIxN (h := ?_) | refine AO.sIx (h := ?_) | refine AO.sP (h := ?_) | refine AO.sPi (h := ?_))
    | (apply AO.kSl; first | refine AO.sSl (h := ?_) | refine AO.sSlArr (h := ?_) | refine AO.sP (h := ?_))
    | (apply AO.kBox; refine AO.sBox (h := ?_))
    | (apply AO.kAlloc; refine AO.sAlloc (h := ?_))
    | (apply AO.kStore; first | refine AO.sStore (h := ?_) | refine AO.sStB (h := ?_))
    | (apply AO.kAdd; refine AO.sAdd (h := ?_))
    | (apply AO.kP; first | refine AO.sP (h := ?_) | refine AO.sPi (h := ?_) | refine AO.sLoadB (h := ?_))
    | apply AW.seq
    | (apply AW.kR; refine AW.sR (h := ?_))
    | apply AW.skip
    | apply AW.block
    | apply AW.out
    | (apply AW.kE; refine AW.sE (h := ?_))
    | apply AW.label
    | (apply AW.kRd; refine AW.sRd (h := ?_))
    | ((first | (apply AO.kG; first | refine AO.sgt (h1 := fun h => ?_) (h2 := fun h => ?_) | refine AO.sgf (h1 := fun h => ?_) (h2 := fun h => ?_) | refine AO.sgs (h := ?_)) | (apply AW.kC; refine AW.sC (h1 := fun h => ?_) (h2 := fun h => ?_)) | (apply AR.kAny; apply AR.kG; first | refine AR.sgt (h1 := fun h => ?_) (h2 := fun h => ?_) | refine AR.sgf (h1 := fun h => ?_) (h2 := fun h => ?_) | refine AR.sgs (h := ?_))) <;> (try (first | exact Bool.noConfusion h | exact absurd h (by decide) | (simp at h; done) | (rw [h]; try simp only [nrm] at h; try rw [h]; try (exfalso; omega)) | skip)))
    | (apply AR.kAny; first | (apply AR.kBuildS; first | refine AR.sBuildT (h := ?_) | refine AR.sBuildS (h := ?_)) | (apply AR.kIx; first | refine AR.sIxN (h := ?_) | refine AR.sIx (h := ?_) | refine AR.sP (h := ?_) | refine AR.sPi (h := ?_)) | (apply AR.kSl; first | refine AR.sSl (h := ?_) | refine AR.sSlArr (h := ?_) | refine AR.sP (h := ?_)) | (apply AR.kBox; refine AR.sBox (h := ?_)) | (apply AR.kAlloc; refine AR.sAlloc (h := ?_)) | (apply AR.kStore; refine AR.sStore (h := ?_)) | (apply AR.kAdd; refine AR.sAdd (h := ?_)) | (apply AR.kP; first | refine AR.sP (h := ?_) | refine AR.sPi (h := ?_)))
    | (apply AR.kNil; refine AR.sNil (h := ?_)))
            apply AO.kCall 15; refine AO.sCall (hg := gA) (h := ?_)
            repeat' (first
    | apply AO.nil
    | (apply AO.kBuildS; first | refine AO.sBuildT (h := ?_) | refine AO.sBuildS (h := ?_))
    | (apply AO.kIx; first | refine AO.sIxN (h := ?_) | refine AO.sIx (h := ?_) | refine AO.sP (h := ?_) | refine AO.sPi (h := ?_))
    | (apply AO.kSl; first | refine AO.sSl (h := ?_) | refine AO.sSlArr (h := ?_) | refine AO.sP (h := ?_))
    | (apply AO.kBox; refine AO.sBox (h := ?_))
    | (apply AO.kAlloc; refine AO.sAlloc (h := ?_))
    | (apply AO.kStore; first | refine AO.sStore (h := ?_) | refine AO.sStB (h := ?_))
    | (apply AO.kAdd; refine AO.sAdd (h := ?_))
    | (apply AO.kP; first | refine AO.sP (h := ?_) | refine AO.sPi (h := ?_) | refine AO.sLoadB (h := ?_))
    | apply AW.seq
    | (apply AW.kR; refine AW.sR (h := ?_))
    | apply AW.skip
    | apply AW.block
    | apply AW.out
    | (apply AW.kE; refine AW.sE (h := ?_))
    | apply AW.label
    | (apply AW.kRd; refine AW.sRd (h := ?_))
    | ((first | (apply AO.kG; first | refine AO.sgt (h1 := fun h => ?_) (h2 := fun h => ?_) | refine AO.sgf (h1 := fun h => ?_) (h2 := fun h => ?_) | refine AO.sgs (h := ?_)) | (apply AW.kC; refine AW.sC (h1 := fun h => ?_) (h2 := fun h => ?_)) | (apply AR.kAny; apply AR.kG; first | refine AR.sgt (h1 := fun h => ?_) (h2 := fun h => ?_) | refine AR.sgf (h1 := fun h => ?_) (h2 := fun h => ?_) | refine AR.sgs (h := ?_))) <;> (try (first | exact Bool.noConfusion h | exact absurd h (by decide) | (simp at h; done) | (rw [h]; try simp only [nrm] at h; try rw [h]; try (exfalso; omega)) | skip)))
    | (apply AR.kAny; first | (apply AR.kBuildS; first | refine AR.sBuildT (h := ?_) | refine AR.sBuildS (h := ?_)) | (apply AR.kIx; first | refine AR.sIxN (h := ?_) | refine AR.sIx (h := ?_) | refine AR.sP (h := ?_) | refine AR.sPi (h := ?_)) | (apply AR.kSl; first | refine AR.sSl (h := ?_) | refine AR.sSlArr (h := ?_) | refine AR.sP (h := ?_)) | (apply AR.kBox; refine AR.sBox (h := ?_)) | (apply AR.kAlloc; refine AR.sAlloc (h := ?_)) | (apply AR.kStore; refine AR.sStore (h := ?_)) | (apply AR.kAdd; refine AR.sAdd (h := ?_)) | (apply AR.kP; first | refine AR.sP (h := ?_) | refine AR.sPi (h := ?_)))
    | (apply AR.kNil; refine AR.sNil (h := ?_)))
            apply AO.kCall 15; refine AO.sCall (hg := gB) (h := ?_)
            repeat' (first
    | apply AO.nil
    | (apply AO.kCall 16; refine AO.sCall (hg := gG3) (h := ?_))
    | (apply AO.kCall 18; refine AO.sCall (hg := gJ) (h := ?_))
    | (apply AO.kCall 19; refine AO.sCall (hg := gJ') (h := ?_))
    | (apply AO.kCall 20; refine AO.sCall (hg := gS) (h := ?_))
    | (apply AO.kCall 22; refine AO.sCall (hg := gM) (h := ?_))
    | (apply AO.kCall 17; refine AO.sCall (hg := gAwakeS) (h := ?_))
    | (apply AO.kBuildS; first | refine AO.sBuildT (h := ?_) | refine AO.sBuildS (h := ?_))
    | (apply AO.kIx; first | refine AO.sIxN (h := ?_) | refine AO.sIx (h := ?_) | refine AO.sP (h := ?_) | refine AO.sPi (h := ?_))
    | (apply AO.kSl; first | refine AO.sSl (h := ?_) | refine AO.sSlArr (h := ?_) | refine AO.sP (h := ?_))
    | (apply AO.kBox; refine AO.sBox (h := ?_))
    | (apply AO.kAlloc; refine AO.sAlloc (h := ?_))
    | (apply AO.kStore; first | refine AO.sStore (h := ?_) | refine AO.sStB (h := ?_))
    | (apply AO.kAdd; refine AO.sAdd (h := ?_))
    | (apply AO.kP; first | refine AO.sP (h := ?_) | refine AO.sPi (h := ?_) | refine AO.sLoadB (h := ?_))
    | apply AW.seq
    | (apply AW.kR; refine AW.sR (h := ?_))
    | apply AW.skip
    | apply AW.block
    | apply AW.out
    | (apply AW.kE; refine AW.sE (h := ?_))
    | apply AW.label
    | (apply AW.kRd; refine AW.sRd (h := ?_))
    | ((first | (apply AO.kG; first | refine AO.sgt (h1 := fun h => ?_) (h2 := fun h => ?_) | refine AO.sgf (h1 := fun h => ?_) (h2 := fun h => ?_) | refine AO.sgs (h := ?_)) | (apply AW.kC; refine AW.sC (h1 := fun h => ?_) (h2 := fun h => ?_)) | (apply AR.kAny; apply AR.kG; first | refine AR.sgt (h1 := fun h => ?_) (h2 := fun h => ?_) | refine AR.sgf (h1 := fun h => ?_) (h2 := fun h => ?_) | refine AR.sgs (h := ?_))) <;> (try (first | exact Bool.noConfusion h | exact absurd h (by decide) | (simp at h; done) | (rw [h]; try simp only [nrm] at h; try rw [h]; try (exfalso; omega)) | skip)))
    | (apply AR.kAny; first | (apply AR.kCall 16; refine AR.sCall (hg := gG3) (h := ?_)) | (apply AR.kCall 18; refine AR.sCall (hg := gJ) (h := ?_)) | (apply AR.kCall 19; refine AR.sCall (hg := gJ') (h := ?_)) | (apply AR.kCall 20; refine AR.sCall (hg := gS) (h := ?_)) | (apply AR.kCall 22; refine AR.sCall (hg := gM) (h := ?_)) | (apply AR.kCall 17; refine AR.sCall (hg := gAwakeS) (h := ?_)) | (apply AR.kBuildS; first | refine AR.sBuildT (h := ?_) | refine AR.sBuildS (h := ?_)) | (apply AR.kIx; first | refine AR.sIxN (h := ?_) | refine AR.sIx (h := ?_) | refine AR.sP (h := ?_) | refine AR.sPi (h := ?_)) | (apply AR.kSl; first | refine AR.sSl (h := ?_) | refine AR.sSlArr (h := ?_) | refine AR.sP (h := ?_)) | (apply AR.kBox; refine AR.sBox (h := ?_)) | (apply AR.kAlloc; refine AR.sAlloc (h := ?_)) | (apply AR.kStore; refine AR.sStore (h := ?_)) | (apply AR.kAdd; refine AR.sAdd (h := ?_)) | (apply AR.kP; first | refine AR.sP (h := ?_) | refine AR.sPi (h := ?_)))
    | (apply AR.kNil; refine AR.sNil (h := ?_)))
            all_goals first | exact AW.ret (hD rfl (Lx.b rfl)) | (exfalso; simp_all; done) | (exfalso; omega) | trace_state
        · refine Good.w tabOk mixed Try.func3 (N := 113) (by kernel_rfl) rfl (by (repeat (first | exact LE.nil | apply LE.cons)); done) (by (repeat (first | exact LE.nil | apply LE.cons)); done) fun D hD F => ?_
          repeat' (first
    | apply AO.nil
    | (apply AO.kBuildS; first | refine AO.sBuildT (h := ?_) | refine AO.sBuildS (h := ?_))
    | (apply AO.kIx; first | refine AO.sIxN (h := ?_) | refine AO.sIx (h := ?_) | refine AO.sP (h := ?_) | refine AO.sPi (h := ?_))
    | (apply AO.kSl; first | refine AO.sSl (h := ?_) | refine AO.sSlArr (h := ?_) | refine AO.sP (h := ?_))
    | (apply AO.kBox; refine AO.sBox (h := ?_))
    | (apply AO.kAlloc; refine AO.sAlloc (h := ?_))
    | (apply AO.kStore; first | refine AO.sStore (h := ?_) | refine AO.sStB (h := ?_))
    | (apply AO.kAdd; refine AO.sAdd (h := ?_))
    | (apply AO.kP; first | refine AO.sP (h := ?_) | refine AO.sPi (h := ?_) | refine AO.sLoadB (h := ?_))
    | apply AW.seq
    | (apply AW.kR; refine AW.sR (h := ?_))
    | apply AW.skip
    | apply AW.block
    | apply AW.out
    | (apply AW.kE; refine AW.sE (h := ?_))
    | apply AW.label
    | (apply AW.kRd; refine AW.sRd (h := ?_))
    | ((first | (apply AO.kG; first | refine AO.sgt (h1 := fun h => ?_) (h2 := fun h => ?_) | refine AO.sgf (h1 := fun h => ?_) (h2 := fun h => ?_) | refine AO.sgs (h := ?_)) | (apply AW.kC; refine AW.sC (h1 := fun h => ?_) (h2 := fun h => ?_)) | (apply AR.kAny; apply AR.kG; first | refine AR.sgt (h1 := fun h => ?_) (h2 := fun h => ?_) | refine AR.sgf (h1 := fun h => ?_) (h2 := fun h => ?_) | refine AR.sgs (h := ?_))) <;> (try (first | exact Bool.noConfusion h | exact absurd h (by decide) | (simp at h; done) | (rw [h]; try simp only [nrm] at h; try rw [h]; try (exfalso; omega)) | skip)))
    | (apply AR.kAny; first | (apply AR.kBuildS; first | refine AR.sBuildT (h := ?_) | refine AR.sBuildS (h := ?_)) | (apply AR.kIx; first | refine AR.sIxN (h := ?_) | refine AR.sIx (h := ?_) | refine AR.sP (h := ?_) | refine AR.sPi (h := ?_)) | (apply AR.kSl; first | refine AR.sSl (h := ?_) | refine AR.sSlArr (h := ?_) | refine AR.sP (h := ?_)) | (apply AR.kBox; refine AR.sBox (h := ?_)) | (apply AR.kAlloc; refine AR.sAlloc (h := ?_)) | (apply AR.kStore; refine AR.sStore (h := ?_)) | (apply AR.kAdd; refine AR.sAdd (h := ?_)) | (apply AR.kP; first | refine AR.sP (h := ?_) | refine AR.sPi (h := ?_)))
    | (apply AR.kNil; refine AR.sNil (h := ?_)))
          apply AO.kCall 15; refine AO.sCall (hg := gA) (h := ?_)
          repeat' (first
    | apply AO.nil
    | (apply AO.kBuildS; first | refine AO.sBuildT (h := ?_) | refine AO.sBuildS (h := ?_))
    | (apply AO.kIx; first | refine AO.sIxN (h := ?_) | refine AO.sIx (h := ?_) | refine AO.sP (h := ?_) | refine AO.sPi (h := ?_))
    | (apply AO.kSl; first | refine AO.sSl (h := ?_) | refine AO.sSlArr (h := ?_) | refine AO.sP (h := ?_))
    | (apply AO.kBox; refine AO.sBox (h := ?_))
    | (apply AO.kAlloc; refine AO.sAlloc (h := ?_))
    | (apply AO.kStore; first | refine AO.sStore (h := ?_) | refine AO.sStB (h := ?_))
    | (apply AO.kAdd; refine AO.sAdd (h := ?_))
    | (apply AO.kP; first | refine AO.sP (h := ?_) | refine AO.sPi (h := ?_) | refine AO.sLoadB (h := ?_))
    | apply AW.seq
    | (apply AW.kR; refine AW.sR (h := ?_))
    | apply AW.skip
    | apply AW.block
    | apply AW.out
    | (apply AW.kE; refine AW.sE (h := ?_))
    | apply AW.label
    | (apply AW.kRd; refine AW.sRd (h := ?_))
    | ((first | (apply AO.kG; first | refine AO.sgt (h1 := fun h => ?_) (h2 := fun h => ?_) | refine AO.sgf (h1 := fun h => ?_) (h2 := fun h => ?_) | refine AO.sgs (h := ?_)) | (apply AW.kC; refine AW.sC (h1 := fun h => ?_) (h2 := fun h => ?_)) | (apply AR.kAny; apply AR.kG; first | refine AR.sgt (h1 := fun h => ?_) (h2 := fun h => ?_) | refine AR.sgf (h1 := fun h => ?_) (h2 := fun h => ?_) | refine AR.sgs (h := ?_))) <;> (try (first | exact Bool.noConfusion h | exact absurd h (by decide) | (simp at h; done) | (rw [h]; try simp only [nrm] at h; try rw [h]; try (exfalso; omega)) | skip)))
    | (apply AR.kAny; first | (apply AR.kBuildS; first | refine AR.sBuildT (h := ?_) | refine AR.sBuildS (h := ?_)) | (apply AR.kIx; first | refine AR.sIxN (h := ?_) | refine AR.sIx (h := ?_) | refine AR.sP (h := ?_) | refine AR.sPi (h := ?_)) | (apply AR.kSl; first | refine AR.sSl (h := ?_) | refine AR.sSlArr (h := ?_) | refine AR.sP (h := ?_)) | (apply AR.kBox; refine AR.sBox (h := ?_)) | (apply AR.kAlloc; refine AR.sAlloc (h := ?_)) | (apply AR.kStore; refine AR.sStore (h := ?_)) | (apply AR.kAdd; refine AR.sAdd (h := ?_)) | (apply AR.kP; first | refine AR.sP (h := ?_) | refine AR.sPi (h := ?_)))
    | (apply AR.kNil; refine AR.sNil (h := ?_)))
          apply AO.kCall 15; refine AO.sCall (hg := gB) (h := ?_)
          repeat' (first
    | apply AO.nil
    | (apply AO.kCall 16; refine AO.sCall (hg := gG3) (h := ?_))
    | (apply AO.kCall 18; refine AO.sCall (hg := gJ) (h := ?_))
    | (apply AO.kCall 19; refine AO.sCall (hg := gJ') (h := ?_))
    | (apply AO.kCall 20; refine AO.sCall (hg := gS) (h := ?_))
    | (apply AO.kCall 22; refine AO.sCall (hg := gM) (h := ?_))
    | (apply AO.kCall 17; refine AO.sCall (hg := gAwakeS) (h := ?_))
    | (apply AO.kBuildS; first | refine AO.sBuildT (h := ?_) | refine AO.sBuildS (h := ?_))
    | (apply AO.kIx; first | refine AO.sIxN (h := ?_) | refine AO.sIx (h := ?_) | refine AO.sP (h := ?_) | refine AO.sPi (h := ?_))
    | (apply AO.kSl; first | refine AO.sSl (h := ?_) | refine AO.sSlArr (h := ?_) | refine AO.sP (h := ?_))
    | (apply AO.kBox; refine AO.sBox (h := ?_))
    | (apply AO.kAlloc; refine AO.sAlloc (h := ?_))
    | (apply AO.kStore; first | refine AO.sStore (h := ?_) | refine AO.sStB (h := ?_))
    | (apply AO.kAdd; refine AO.sAdd (h := ?_))
    | (apply AO.kP; first | refine AO.sP (h := ?_) | refine AO.sPi (h := ?_) | refine AO.sLoadB (h := ?_))
    | apply AW.seq
    | (apply AW.kR; refine AW.sR (h := ?_))
    | apply AW.skip
    | apply AW.block
    | apply AW.out
    | (apply AW.kE; refine AW.sE (h := ?_))
    | apply AW.label
    | (apply AW.kRd; refine AW.sRd (h := ?_))
    | ((first | (apply AO.kG; first | refine AO.sgt (h1 := fun h => ?_) (h2 := fun h => ?_) | refine AO.sgf (h1 := fun h => ?_) (h2 := fun h => ?_) | refine AO.sgs (h := ?_)) | (apply AW.kC; refine AW.sC (h1 := fun h => ?_) (h2 := fun h => ?_)) | (apply AR.kAny; apply AR.kG; first | refine AR.sgt (h1 := fun h => ?_) (h2 := fun h => ?_) | refine AR.sgf (h1 := fun h => ?_) (h2 := fun h => ?_) | refine AR.sgs (h := ?_))) <;> (try (first | exact Bool.noConfusion h | exact absurd h (by decide) | (simp at h; done) | (rw [h]; try simp only [nrm] at h; try rw [h]; try (exfalso; omega)) | skip)))
    | (apply AR.kAny; first | (apply AR.kCall 16; refine AR.sCall (hg := gG3) (h := ?_)) | (apply AR.kCall 18; refine AR.sCall (hg := gJ) (h := ?_)) | (apply AR.kCall 19; refine AR.sCall (hg := gJ') (h := ?_)) | (apply AR.kCall 20; refine AR.sCall (hg := gS) (h := ?_)) | (apply AR.kCall 22; refine AR.sCall (hg := gM) (h := ?_)) | (apply AR.kCall 17; refine AR.sCall (hg := gAwakeS) (h := ?_)) | (apply AR.kBuildS; first | refine AR.sBuildT (h := ?_) | refine AR.sBuildS (h := ?_)) | (apply AR.kIx; first | refine AR.sIxN (h := ?_) | refine AR.sIx (h := ?_) | refine AR.sP (h := ?_) | refine AR.sPi (h := ?_)) | (apply AR.kSl; first | refine AR.sSl (h := ?_) | refine AR.sSlArr (h := ?_) | refine AR.sP (h := ?_)) | (apply AR.kBox; refine AR.sBox (h := ?_)) | (apply AR.kAlloc; refine AR.sAlloc (h := ?_)) | (apply AR.kStore; refine AR.sStore (h := ?_)) | (apply AR.kAdd; refine AR.sAdd (h := ?_)) | (apply AR.kP; first | refine AR.sP (h := ?_) | refine AR.sPi (h := ?_)))
    | (apply AR.kNil; refine AR.sNil (h := ?_)))
          all_goals first | exact AW.ret (hD rfl (Lx.b rfl)) | (exfalso; exact hE (eq0 (by assumption))) | (exfalso; simp_all; done)
end Go.Proofs.Ytocppeifkjdeiaa.Mv
