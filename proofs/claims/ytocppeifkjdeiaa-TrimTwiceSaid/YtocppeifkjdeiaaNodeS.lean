/- Nodes: where a key leads from a leaf. Under no condition. -/
import Derived.Test.YtocppeifkjdeiaaNodeZ
import Derived.Test.YtocppeifkjdeiaaXtG
import Derived.Test.YtocppeifkjdeiaaXtD
namespace Go.Proofs.Ytocppeifkjdeiaa.Mv
open Go Go.Proofs
set_option linter.unusedSimpArgs false
set_option linter.unusedVariables false
set_option maxRecDepth 10000
set_option maxHeartbeats 4000000
attribute [local irreducible] AW AO AR

theorem by_u16 {n : Int} (h : (Lit.int .u16 n).wf = true) : ∃ b : BitVec 16, n = (b.toNat : Int) := by
  have h' := wf_u16 h
  exact ⟨BitVec.ofNat 16 n.toNat, by rw [BitVec.toNat_ofNat]; omega⟩
/-- A way. -/
structure Wy where
  kind : UInt8
  val : L
  block : B32
  deep : W16
  key : L
  deriving DecidableEq, Inhabited
def Wy.av (w : Wy) : List AV := [.i .u8 (w.kind.toNat : Int), .s w.val, .i .u32 (w.block.toNat : Int), .i .u16 (w.deep.toNat : Int), .s w.key]
def wayZ : Wy := ⟨0, [], 0, 0, []⟩
def wayV (v : L) : Wy := ⟨1, v, 0, 0, []⟩
theorem gFind (l : List Pr) (k : L) (hl : l.length ≤ 1000000) : Good Try.prog 111 [.sh 2 (l.map Pr.av), .s k, .clo 112 []] [] (.tup [.i .i64 (bs (prF l k) 0 l.length), .b (decide (bs (prF l k) 0 l.length < l.length) && ((l.getD (bs (prF l k) 0 l.length) default).k == k))]) [] := gFindP l k hl
def leafWay (l : List Pr) (k : L) : Wy := match wayL l k with | some v => wayV v | none => wayZ
theorem ne0 {n : Nat} (h : ((n : Int) != 0) = true) : n ≠ 0 := fun e => by subst e; cases h
theorem eq0 {n : Nat} (h : ((n : Int) != 0) = false) : n = 0 := by
  simp only [bne_eq_false_iff_eq] at h; exact_mod_cast h
theorem leafWay0 {l : List Pr} {k : L} (h : (decide (bs (prF l k) 0 l.length < l.length) && ((l.getD (bs (prF l k) 0 l.length) default).k == k)) = false) : leafWay l k = wayZ := by rw [leafWay, wayL, if_neg (by rw [h]; decide)]
theorem leafWay1 {l : List Pr} {k : L} (h : (decide (bs (prF l k) 0 l.length < l.length) && ((l.getD (bs (prF l k) 0 l.length) default).k == k)) = true) : leafWay l k = wayV (l.getD (bs (prF l k) 0 l.length) default).v ∧ bs (prF l k) 0 l.length < l.length := by
  refine ⟨by rw [leafWay, wayL, if_pos h], ?_⟩
  cases h8 : decide (bs (prF l k) 0 l.length < l.length) with
  | true => exact of_decide_eq_true h8
  | false => rw [h8] at h; cases h
theorem gStepLeaf (n : Nd) (k : L) (hs : n.small) (hl : n.leaf = true) (w : Wy) (hw : w = if mayN n = 0 then leafWay n.pairs k else wayZ) : Good Try.prog 83 [.agg n.av, .s k] [] (.agg w.av) [] := by
  have hs2 := hs.pairs
  have l2 : (n.pairs.map Pr.av).length = n.pairs.length := by simp
  refine Good.w tabOk mixed Try.func83 (N := 74) (by kernel_rfl) rfl (by (repeat (first | exact LE.nil | apply LE.cons)); done) (by (repeat (first | exact LE.nil | apply LE.cons)); done) fun D hD F => ?_
  repeat' (first
    | apply AO.nil
    | (apply AO.kCall 57; refine AO.sCall (hg := (gMay _ hs)) (h := ?_))
    | (apply AO.kCall 111; refine AO.sCall (hg := (gFind _ _ hs2)) (h := ?_))
    | (apply AO.kBuildS; first | refine AO.sBuildT (h := ?_) | refine AO.sBuildS (h := ?_))
    | (apply AO.kApp; first | refine AO.sGrowT (h := ?_) | refine AO.sNewT (h := ?_) | refine AO.sGrowBT (h := ?_) | refine AO.sGrow (h := ?_) | refine AO.sNewr (h := ?_))
    | (apply AO.kIx; first | refine AO.sIxN (h := ?_) | refine AO.sIx (h := ?_) | refine AO.sP (h := ?_) | refine AO.sPi (h := ?_))
    | (apply AO.kSl; first | refine AO.sSl (h := ?_) | refine AO.sSlArr (h := ?_) | refine AO.sP (h := ?_))
    | (apply AO.kBox; refine AO.sBox (h := ?_))
    | (apply AO.kAlloc; refine AO.sAlloc (h := ?_))
    | (apply AO.kStore; first | refine AO.sStore (h := ?_) | refine AO.sStB (h := ?_))
    | (apply AO.kAdd; refine AO.sAdd (h := ?_))
    | (apply AO.kSub; refine AO.sSub (h := ?_))
    | (apply AO.kCv; first | refine AO.sBytes (h := ?_) | refine AO.sStr (h := ?_) | refine AO.sStrR (h := ?_))
    | (apply AO.kP; first | refine AO.sP (h := ?_) | refine AO.sPi (h := ?_) | refine AO.sLoadB (h := ?_) | refine AO.sSameB (h := ?_) | refine AO.sMk0 (h := ?_) | refine AO.sArrB (h := ?_) | refine AO.sLoadA (h := ?_) | refine AO.sEqArr (heg := eqgArr) (h := ?_))
    | (apply AO.kP; refine AO.eqNil (h1 := fun h => ?_) (h2 := ?_))
    | apply AW.seq
    | (apply AW.kR; refine AW.sR (h := ?_))
    | apply AW.skip
    | apply AW.block
    | apply AW.out
    | (apply AW.kE; refine AW.sE (h := ?_))
    | apply AW.label
    | (apply AW.kRd; refine AW.sRd (h := ?_))
    | ((first | (apply AO.kG; first | refine AO.sgt (h1 := fun h => ?_) (h2 := fun h => ?_) | refine AO.sgf (h1 := fun h => ?_) (h2 := fun h => ?_) | refine AO.sgs (h := ?_)) | (apply AW.kC; refine AW.sC (h1 := fun h => ?_) (h2 := fun h => ?_)) | (apply AR.kAny; apply AR.kG; first | refine AR.sgt (h1 := fun h => ?_) (h2 := fun h => ?_) | refine AR.sgf (h1 := fun h => ?_) (h2 := fun h => ?_) | refine AR.sgs (h := ?_))) <;> (try (first | exact Bool.noConfusion h | exact absurd h (by decide) | (simp at h; done) | (rw [h]; try simp only [decide_eq_true_eq, decide_eq_false_iff_not, Int.not_lt, Int.not_le, ge_iff_le, gt_iff_lt, Bool.not_eq_true', Bool.not_eq_false', beq_iff_eq, beq_eq_false_iff_ne, ne_eq] at h; try rw [h]; try (exfalso; omega)) | skip)))
    | (apply AR.kAny; first | (apply AR.kCall 57; refine AR.sCall (hg := (gMay _ hs)) (h := ?_)) | (apply AR.kCall 111; refine AR.sCall (hg := (gFind _ _ hs2)) (h := ?_)) | (apply AR.kBuildS; first | refine AR.sBuildT (h := ?_) | refine AR.sBuildS (h := ?_)) | (apply AR.kApp; first | refine AR.sGrowT (h := ?_) | refine AR.sNewT (h := ?_) | refine AR.sGrowBT (h := ?_) | refine AR.sGrow (h := ?_) | refine AR.sNewr (h := ?_)) | (apply AR.kIx; first | refine AR.sIxN (h := ?_) | refine AR.sIx (h := ?_) | refine AR.sP (h := ?_) | refine AR.sPi (h := ?_)) | (apply AR.kSl; first | refine AR.sSl (h := ?_) | refine AR.sSlArr (h := ?_) | refine AR.sP (h := ?_)) | (apply AR.kBox; refine AR.sBox (h := ?_)) | (apply AR.kAlloc; refine AR.sAlloc (h := ?_)) | (apply AR.kStore; refine AR.sStore (h := ?_)) | (apply AR.kAdd; refine AR.sAdd (h := ?_)) | (apply AR.kSub; refine AR.sSub (h := ?_)) | (apply AR.kCv; refine AR.sStrR (h := ?_)) | (apply AR.kP; first | refine AR.sP (h := ?_) | refine AR.sPi (h := ?_) | refine AR.sArrB (h := ?_) | refine AR.sLoadA (h := ?_) | refine AR.sEqArr (heg := eqgArr) (h := ?_)))
    | (apply AR.kNil; refine AR.sNil (h := ?_)))
  · obtain rfl : w = wayZ := by rw [hw, if_neg (ne0 h)]
    (refine AW.ret (hD rfl ?_); (repeat' (first | apply Lx.s | apply Lx.b | apply Lx.i | apply LxL.cons | exact LxL.nil | apply Lx.tup | apply Lx.agg | apply Lx.refl)) <;> (try with_reducible rfl))
    all_goals rfl
  · have h8 := eq0 ‹((mayN n : Int) != 0) = false›
    obtain rfl : w = wayZ := by rw [hw, if_pos h8, leafWay0 h]
    (refine AW.ret (hD rfl ?_); (repeat' (first | apply Lx.s | apply Lx.b | apply Lx.i | apply LxL.cons | exact LxL.nil | apply Lx.tup | apply Lx.agg | apply Lx.refl)) <;> (try with_reducible rfl))
    all_goals rfl
  · have h8 := eq0 ‹((mayN n : Int) != 0) = false›
    obtain ⟨h7, h6⟩ := leafWay1 h
    obtain rfl : w = wayV (n.pairs.getD (bs (prF n.pairs k) 0 n.pairs.length) default).v := by rw [hw, if_pos h8, h7]
    repeat' (first
    | apply AO.nil
    | (apply AO.kBuildS; first | refine AO.sBuildT (h := ?_) | refine AO.sBuildS (h := ?_))
    | (apply AO.kApp; first | refine AO.sGrowT (h := ?_) | refine AO.sNewT (h := ?_) | refine AO.sGrowBT (h := ?_) | refine AO.sGrow (h := ?_) | refine AO.sNewr (h := ?_))
    | (apply AO.kIx; first | refine AO.sIxN (h := ?_) | refine AO.sIx (h := ?_) | refine AO.sP (h := ?_) | refine AO.sPi (h := ?_))
    | (apply AO.kSl; first | refine AO.sSl (h := ?_) | refine AO.sSlArr (h := ?_) | refine AO.sP (h := ?_))
    | (apply AO.kBox; refine AO.sBox (h := ?_))
    | (apply AO.kAlloc; refine AO.sAlloc (h := ?_))
    | (apply AO.kStore; first | refine AO.sStore (h := ?_) | refine AO.sStB (h := ?_))
    | (apply AO.kAdd; refine AO.sAdd (h := ?_))
    | (apply AO.kSub; refine AO.sSub (h := ?_))
    | (apply AO.kCv; first | refine AO.sBytes (h := ?_) | refine AO.sStr (h := ?_) | refine AO.sStrR (h := ?_))
    | (apply AO.kP; first | refine AO.sP (h := ?_) | refine AO.sPi (h := ?_) | refine AO.sLoadB (h := ?_) | refine AO.sSameB (h := ?_) | refine AO.sMk0 (h := ?_) | refine AO.sArrB (h := ?_) | refine AO.sLoadA (h := ?_) | refine AO.sEqArr (heg := eqgArr) (h := ?_))
    | (apply AO.kP; refine AO.eqNil (h1 := fun h => ?_) (h2 := ?_))
    | apply AW.seq
    | (apply AW.kR; refine AW.sR (h := ?_))
    | apply AW.skip
    | apply AW.block
    | apply AW.out
    | (apply AW.kE; refine AW.sE (h := ?_))
    | apply AW.label
    | (apply AW.kRd; refine AW.sRd (h := ?_))
    | ((first | (apply AO.kG; first | refine AO.sgt (h1 := fun h => ?_) (h2 := fun h => ?_) | refine AO.sgf (h1 := fun h => ?_) (h2 := fun h => ?_) | refine AO.sgs (h := ?_)) | (apply AW.kC; refine AW.sC (h1 := fun h => ?_) (h2 := fun h => ?_)) | (apply AR.kAny; apply AR.kG; first | refine AR.sgt (h1 := fun h => ?_) (h2 := fun h => ?_) | refine AR.sgf (h1 := fun h => ?_) (h2 := fun h => ?_) | refine AR.sgs (h := ?_))) <;> (try (first | exact Bool.noConfusion h | exact absurd h (by decide) | (simp at h; done) | (rw [h]; try simp only [decide_eq_true_eq, decide_eq_false_iff_not, Int.not_lt, Int.not_le, ge_iff_le, gt_iff_lt, Bool.not_eq_true', Bool.not_eq_false', beq_iff_eq, beq_eq_false_iff_ne, ne_eq] at h; try rw [h]; try (exfalso; omega)) | skip)))
    | (apply AR.kAny; first | (apply AR.kBuildS; first | refine AR.sBuildT (h := ?_) | refine AR.sBuildS (h := ?_)) | (apply AR.kApp; first | refine AR.sGrowT (h := ?_) | refine AR.sNewT (h := ?_) | refine AR.sGrowBT (h := ?_) | refine AR.sGrow (h := ?_) | refine AR.sNewr (h := ?_)) | (apply AR.kIx; first | refine AR.sIxN (h := ?_) | refine AR.sIx (h := ?_) | refine AR.sP (h := ?_) | refine AR.sPi (h := ?_)) | (apply AR.kSl; first | refine AR.sSl (h := ?_) | refine AR.sSlArr (h := ?_) | refine AR.sP (h := ?_)) | (apply AR.kBox; refine AR.sBox (h := ?_)) | (apply AR.kAlloc; refine AR.sAlloc (h := ?_)) | (apply AR.kStore; refine AR.sStore (h := ?_)) | (apply AR.kAdd; refine AR.sAdd (h := ?_)) | (apply AR.kSub; refine AR.sSub (h := ?_)) | (apply AR.kCv; refine AR.sStrR (h := ?_)) | (apply AR.kP; first | refine AR.sP (h := ?_) | refine AR.sPi (h := ?_) | refine AR.sArrB (h := ?_) | refine AR.sLoadA (h := ?_) | refine AR.sEqArr (heg := eqgArr) (h := ?_)))
    | (apply AR.kNil; refine AR.sNil (h := ?_)))
    (refine AW.ret (hD rfl ?_); (repeat' (first | apply Lx.s | apply Lx.b | apply Lx.i | apply LxL.cons | exact LxL.nil | apply Lx.tup | apply Lx.agg | apply Lx.refl)) <;> (try with_reducible rfl))
    all_goals rfl
  · rw [hl] at h; cases h

/-! ### the document's examples -/
def nA : Nd := ⟨true, [⟨[97], [49]⟩], [], [], []⟩
def nB : Nd := ⟨false, [], [[109]], [⟨0, 1, [], []⟩, ⟨0, 1, [], []⟩], []⟩
theorem nAs : nA.small := ⟨by decide, by decide, by decide, by decide⟩
theorem nBs : nB.small := ⟨by decide, by decide, by decide, by decide⟩
theorem wA1 : wayV [49] = if mayN nA = 0 then leafWay nA.pairs [97] else wayZ := by decide
theorem wA2 : wayZ = if mayN nA = 0 then leafWay nA.pairs [98] else wayZ := by decide
theorem kB1 : kidN nB [108, 122] = 0 := by decide
theorem kB2 : kidN nB [109] = 1 := by decide
/-! ### the statement of Same -/
end Go.Proofs.Ytocppeifkjdeiaa.Mv
