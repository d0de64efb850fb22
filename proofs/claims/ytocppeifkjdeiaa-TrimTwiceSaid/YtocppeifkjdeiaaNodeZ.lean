/- Nodes: ranges, the kid of a key. Under no condition. -/
import Derived.Test.YtocppeifkjdeiaaNodeY
namespace Go.Proofs.Ytocppeifkjdeiaa.Mv
open Go Go.Proofs
set_option linter.unusedSimpArgs false
set_option linter.unusedVariables false
set_option maxRecDepth 10000
set_option maxHeartbeats 4000000
attribute [local irreducible] AW AO AR

/-- A kid's range. -/
def rgN (n : Nd) (i : Int) : L × L × Bool :=
  if i < 0 ∨ (n.kids.length : Int) ≤ i then ([], [], true)
  else ((if 0 < i ∧ i ≤ n.pivots.length then n.pivots.getD (i - 1).toNat default else []), (if i < n.pivots.length then n.pivots.getD i.toNat default else []), decide (i < n.pivots.length))
theorem gRange (n : Nd) (i : Int) (hs : n.small) (hi : -9223372036854775808 ≤ i ∧ i ≤ 9223372036854775807) : Good Try.prog 101 [.agg n.av, .i .i64 i] [] (.agg [.s (rgN n i).1, .s (rgN n i).2.1, .b (rgN n i).2.2]) [] := by
  have hs2 := hs.pivots; have hs3 := hs.kids
  have l2 : (n.pivots.map sav).length = n.pivots.length := by simp
  have l3 : (n.kids.map Ed.av).length = n.kids.length := by simp
  refine Good.w tabOk mixed Try.func101 (N := 45) (by kernel_rfl) rfl (by (repeat (first | exact LE.nil | apply LE.cons)); done) (by (repeat (first | exact LE.nil | apply LE.cons)); done) fun D hD F => ?_
  repeat' (first
    | apply AO.nil
    | (apply AO.kBuildS; first | refine AO.sBuildT (h := ?_) | refine AO.sBuildS (h := ?_))
    | (apply AO.kApp; first | refine AO.sGrowT (h := ?_) | refine AO.sNewT (h := ?_) | refine AO.sGrowBT (h := ?_) | refine AO.sGrow (h := ?_) | refine AO.sNewr (h := ?_))
    | (apply AO.kIx; first | refine AO.sIxN (h := ?_) | refine AO.sIx (h := ?_) | refine AO.sP (h := ?_) | refine AO.sPi (h := ?_))
    | (apply AO.kSl; first | refine AO.sSl (h := ?_) | refine AO.sSlArr (h := ?_) | refine AO.sP (h := ?_))
    | (apply AO.kBox; refine AO.sBox (h := ?_))
    | (apply AO.kAlloc; refine AO.sAlloc (h := ?_))
    | (apply AO.kStore; first | refine AO.sStore (h := ?_) | refine AO.sStB (h := ?_))
    | (apply AO.kAdd; refine AO.sAdd (h := ?_))
    | (apply AO.kSub; refine AO.sSub (h := ?_))
    | (apply AO.kCv; first | refine AO.sBytes (h := ?_) | refine AO.sStr (h := ?_) | refine AO.sStrR (h := ?_))
    | (apply AO.kP; first | refine AO.sP (h := ?_) | refine AO.sPi (h := ?_) | refine AO.sLoadB (h := ?_) | refine AO.sSameB (h := ?_) | refine AO.sMk0 (h := ?_) | refine AO.sArrB (h := ?_) | refine AO.sLoadA (h := ?_) | refine AO.sEqArr (heg := eqgArr) (h := ?_))
    | (apply AO.kP; refine AO.eqNil (h1 := fun h => ?_) (h2 := ?_))
    | apply AW.seq
    | (apply AW.kR; refine AW.sR (h := ?_))
    | apply AW.skip
    | apply AW.block
    | apply AW.out
    | (apply AW.kE; refine AW.sE (h := ?_))
    | apply AW.label
    | (apply AW.kRd; refine AW.sRd (h := ?_))
    | ((first | (apply AO.kG; first | refine AO.sgt (h1 := fun h => ?_) (h2 := fun h => ?_) | refine AO.sgf (h1 := fun h => ?_) (h2 := fun h => ?_) | refine AO.sgs (h := ?_)) | (apply AW.kC; refine AW.sC (h1 := fun h => ?_) (h2 := fun h => ?_)) | (apply AR.kAny; apply AR.kG; first | refine AR.sgt (h1 := fun h => ?_) (h2 := fun h => ?_) | refine AR.sgf (h1 := fun h => ?_) (h2 := fun h => ?_) | refine AR.sgs (h := ?_))) <;> (try (first | exact Bool.noConfusion h | exact absurd h (by decide) | (simp at h; done) | (rw [h]; try simp only [decide_eq_true_eq, decide_eq_false_iff_not, Int.not_lt, Int.not_le, ge_iff_le, gt_iff_lt, Bool.not_eq_true', Bool.not_eq_false', beq_iff_eq, beq_eq_false_iff_ne, ne_eq] at h; try rw [h]; try (exfalso; omega)) | skip)))
    | (apply AR.kAny; first | (apply AR.kBuildS; first | refine AR.sBuildT (h := ?_) | refine AR.sBuildS (h := ?_)) | (apply AR.kApp; first | refine AR.sGrowT (h := ?_) | refine AR.sNewT (h := ?_) | refine AR.sGrowBT (h := ?_) | refine AR.sGrow (h := ?_) | refine AR.sNewr (h := ?_)) | (apply AR.kIx; first | refine AR.sIxN (h := ?_) | refine AR.sIx (h := ?_) | refine AR.sP (h := ?_) | refine AR.sPi (h := ?_)) | (apply AR.kSl; first | refine AR.sSl (h := ?_) | refine AR.sSlArr (h := ?_) | refine AR.sP (h := ?_)) | (apply AR.kBox; refine AR.sBox (h := ?_)) | (apply AR.kAlloc; refine AR.sAlloc (h := ?_)) | (apply AR.kStore; refine AR.sStore (h := ?_)) | (apply AR.kAdd; refine AR.sAdd (h := ?_)) | (apply AR.kSub; refine AR.sSub (h := ?_)) | (apply AR.kCv; refine AR.sStrR (h := ?_)) | (apply AR.kP; first | refine AR.sP (h := ?_) | refine AR.sPi (h := ?_) | refine AR.sArrB (h := ?_) | refine AR.sLoadA (h := ?_) | refine AR.sEqArr (heg := eqgArr) (h := ?_)))
    | (apply AR.kNil; refine AR.sNil (h := ?_)))
  all_goals (refine AW.ret (hD rfl ?_); (repeat' (first | apply Lx.s | apply Lx.b | apply Lx.i | apply LxL.cons | exact LxL.nil | apply Lx.tup | apply Lx.agg | apply Lx.refl)) <;> (try with_reducible rfl))
  all_goals (simp only [rgN]; repeat' split)
  all_goals (first | rfl | (exfalso; omega) | (symm; apply decide_eq_true; omega) | (symm; apply decide_eq_false; omega))
theorem gRange' (n : Nd) (i : Int) (hs : n.small) (hi : -9223372036854775808 ≤ i ∧ i ≤ 9223372036854775807) : Good Try.prog 73 [.agg n.av, .i .i64 i] [] (.agg [.s (rgN n i).1, .s (rgN n i).2.1, .b (rgN n i).2.2]) [] := by
  have hs2 := hs.pivots; have hs3 := hs.kids
  have l2 : (n.pivots.map sav).length = n.pivots.length := by simp
  have l3 : (n.kids.map Ed.av).length = n.kids.length := by simp
  refine Good.w tabOk mixed Try.func73 (N := 47) (by kernel_rfl) rfl (by (repeat (first | exact LE.nil | apply LE.cons)); done) (by (repeat (first | exact LE.nil | apply LE.cons)); done) fun D hD F => ?_
  repeat' (first
    | apply AO.nil
    | (apply AO.kBuildS; first | refine AO.sBuildT (h := ?_) | refine AO.sBuildS (h := ?_))
    | (apply AO.kApp; first | refine AO.sGrowT (h := ?_) | refine AO.sNewT (h := ?_) | refine AO.sGrowBT (h := ?_) | refine AO.sGrow (h := ?_) | refine AO.sNewr (h := ?_))
    | (apply AO.kIx; first | refine AO.sIxN (h := ?_) | refine AO.sIx (h := ?_) | refine AO.sP (h := ?_) | refine AO.sPi (h := ?_))
    | (apply AO.kSl; first | refine AO.sSl (h := ?_) | refine AO.sSlArr (h := ?_) | refine AO.sP (h := ?_))
    | (apply AO.kBox; refine AO.sBox (h := ?_))
    | (apply AO.kAlloc; refine AO.sAlloc (h := ?_))
    | (apply AO.kStore; first | refine AO.sStore (h := ?_) | refine AO.sStB (h := ?_))
    | (apply AO.kAdd; refine AO.sAdd (h := ?_))
    | (apply AO.kSub; refine AO.sSub (h := ?_))
    | (apply AO.kCv; first | refine AO.sBytes (h := ?_) | refine AO.sStr (h := ?_) | refine AO.sStrR (h := ?_))
    | (apply AO.kP; first | refine AO.sP (h := ?_) | refine AO.sPi (h := ?_) | refine AO.sLoadB (h := ?_) | refine AO.sSameB (h := ?_) | refine AO.sMk0 (h := ?_) | refine AO.sArrB (h := ?_) | refine AO.sLoadA (h := ?_) | refine AO.sEqArr (heg := eqgArr) (h := ?_))
    | (apply AO.kP; refine AO.eqNil (h1 := fun h => ?_) (h2 := ?_))
    | apply AW.seq
    | (apply AW.kR; refine AW.sR (h := ?_))
    | apply AW.skip
    | apply AW.block
    | apply AW.out
    | (apply AW.kE; refine AW.sE (h := ?_))
    | apply AW.label
    | (apply AW.kRd; refine AW.sRd (h := ?_))
    | ((first | (apply AO.kG; first | refine AO.sgt (h1 := fun h => ?_) (h2 := fun h => ?_) | refine AO.sgf (h1 := fun h => ?_) (h2 := fun h => ?_) | refine AO.sgs (h := ?_)) | (apply AW.kC; refine AW.sC (h1 := fun h => ?_) (h2 := fun h => ?_)) | (apply AR.kAny; apply AR.kG; first | refine AR.sgt (h1 := fun h => ?_) (h2 := fun h => ?_) | refine AR.sgf (h1 := fun h => ?_) (h2 := fun h => ?_) | refine AR.sgs (h := ?_))) <;> (try (first | exact Bool.noConfusion h | exact absurd h (by decide) | (simp at h; done) | (rw [h]; try simp only [decide_eq_true_eq, decide_eq_false_iff_not, Int.not_lt, Int.not_le, ge_iff_le, gt_iff_lt, Bool.not_eq_true', Bool.not_eq_false', beq_iff_eq, beq_eq_false_iff_ne, ne_eq] at h; try rw [h]; try (exfalso; omega)) | skip)))
    | (apply AR.kAny; first | (apply AR.kBuildS; first | refine AR.sBuildT (h := ?_) | refine AR.sBuildS (h := ?_)) | (apply AR.kApp; first | refine AR.sGrowT (h := ?_) | refine AR.sNewT (h := ?_) | refine AR.sGrowBT (h := ?_) | refine AR.sGrow (h := ?_) | refine AR.sNewr (h := ?_)) | (apply AR.kIx; first | refine AR.sIxN (h := ?_) | refine AR.sIx (h := ?_) | refine AR.sP (h := ?_) | refine AR.sPi (h := ?_)) | (apply AR.kSl; first | refine AR.sSl (h := ?_) | refine AR.sSlArr (h := ?_) | refine AR.sP (h := ?_)) | (apply AR.kBox; refine AR.sBox (h := ?_)) | (apply AR.kAlloc; refine AR.sAlloc (h := ?_)) | (apply AR.kStore; refine AR.sStore (h := ?_)) | (apply AR.kAdd; refine AR.sAdd (h := ?_)) | (apply AR.kSub; refine AR.sSub (h := ?_)) | (apply AR.kCv; refine AR.sStrR (h := ?_)) | (apply AR.kP; first | refine AR.sP (h := ?_) | refine AR.sPi (h := ?_) | refine AR.sArrB (h := ?_) | refine AR.sLoadA (h := ?_) | refine AR.sEqArr (heg := eqgArr) (h := ?_)))
    | (apply AR.kNil; refine AR.sNil (h := ?_)))
  all_goals (refine AW.ret (hD rfl ?_); (repeat' (first | apply Lx.s | apply Lx.b | apply Lx.i | apply LxL.cons | exact LxL.nil | apply Lx.tup | apply Lx.agg | apply Lx.refl)) <;> (try with_reducible rfl))
  all_goals (simp only [rgN]; repeat' split)
  all_goals (first | rfl | (exfalso; omega) | (symm; apply decide_eq_true; omega) | (symm; apply decide_eq_false; omega))

/-- Halving. -/
def bsr (f : Nat → Bool) : Nat → Nat → Nat → Nat
  | 0, i, _ => i
  | u + 1, i, j => if i < j then (if f ((i + j) / 2) = true then bsr f u i ((i + j) / 2) else bsr f u ((i + j) / 2 + 1) j) else i
theorem bsr_more (f : Nat → Bool) : ∀ (u v i j : Nat), j - i ≤ u → j - i ≤ v → bsr f u i j = bsr f v i j
  | 0, 0, _, _, _, _ => rfl
  | 0, v + 1, i, j, h, _ => by simp only [bsr]; rw [if_neg (by omega)]
  | u + 1, 0, i, j, _, h => by simp only [bsr]; rw [if_neg (by omega)]
  | u + 1, v + 1, i, j, h, h' => by
    simp only [bsr]
    split
    · split
      · exact bsr_more f u v _ _ (by omega) (by omega)
      · exact bsr_more f u v _ _ (by omega) (by omega)
    · rfl
def bs (f : Nat → Bool) (i j : Nat) : Nat := bsr f (j - i) i j
theorem bs_lo {f : Nat → Bool} {i j : Nat} (h : i < j) (hf : f ((i + j) / 2) = true) : bs f i j = bs f i ((i + j) / 2) := by
  obtain ⟨u, hu⟩ : ∃ u, j - i = u + 1 := ⟨j - i - 1, by omega⟩
  unfold bs
  rw [hu, bsr, if_pos h, if_pos hf]
  exact bsr_more f _ _ _ _ (by omega) (by omega)
theorem bs_hi {f : Nat → Bool} {i j : Nat} (h : i < j) (hf : f ((i + j) / 2) = false) : bs f i j = bs f ((i + j) / 2 + 1) j := by
  obtain ⟨u, hu⟩ : ∃ u, j - i = u + 1 := ⟨j - i - 1, by omega⟩
  unfold bs
  rw [hu, bsr, if_pos h, if_neg (by rw [hf]; simp)]
  exact bsr_more f _ _ _ _ (by omega) (by omega)
theorem bs_end {f : Nat → Bool} {i j : Nat} (h : ¬ i < j) : bs f i j = i := by
  have : j - i = 0 := by omega
  simp [bs, this, bsr]
theorem bs_ind {f : Nat → Bool} {P : Nat → Nat → Nat → Prop} (h1 : ∀ i j, ¬ i < j → P i j i) (h2 : ∀ i j r, i < j → f ((i + j) / 2) = true → P i ((i + j) / 2) r → P i j r) (h3 : ∀ i j r, i < j → f ((i + j) / 2) = false → P ((i + j) / 2 + 1) j r → P i j r) : ∀ n i j, j - i ≤ n → P i j (bs f i j) := by
  intro n
  induction n with
  | zero => intro i j h; rw [bs_end (by omega)]; exact h1 _ _ (by omega)
  | succ n ih =>
    intro i j h
    by_cases hij : i < j
    · cases hf : f ((i + j) / 2) with
      | true => rw [bs_lo hij hf]; exact h2 _ _ _ hij hf (ih _ _ (by omega))
      | false => rw [bs_hi hij hf]; exact h3 _ _ _ hij hf (ih _ _ (by omega))
    · rw [bs_end hij]; exact h1 _ _ hij
/-- What is found where it holds from some place on. -/
theorem bs_spec {f : Nat → Bool} (hm : ∀ a b, a ≤ b → f a = true → f b = true) (n : Nat) : bs f 0 n ≤ n ∧ (∀ i, i < bs f 0 n → f i = false) ∧ (bs f 0 n < n → f (bs f 0 n) = true) := by
  have key := bs_ind (f := f) (P := fun i j r => (∀ a, a < i → f a = false) → i ≤ j → r ≤ j ∧ (∀ a, a < r → f a = false) ∧ (r < j → f r = true))
    (fun i j h hlo hij => ⟨by omega, hlo, fun h' => by omega⟩)
    (fun i j r hij hf h hlo _ => by
      obtain ⟨q1, q2, q3⟩ := h hlo (by omega)
      refine ⟨by omega, q2, fun hr => ?_⟩
      by_cases e : r < (i + j) / 2
      · exact q3 e
      · have : r = (i + j) / 2 := by omega
        rw [this]; exact hf)
    (fun i j r hij hf h hlo _ => by
      obtain ⟨q1, q2, q3⟩ := h (fun a ha => by
        cases hfa : f a with
        | false => rfl
        | true => rw [hm a ((i + j) / 2) (by omega) hfa] at hf; cases hf) (by omega)
      exact ⟨q1, q2, q3⟩) n 0 n (by omega)
  exact key (fun a ha => by omega) (by omega)
theorem half_wrap {i j : Nat} (h : i + j ≤ 4000000) : IntKind.wrap .i64 (IntKind.wrap .u64 ((i : Int) + (j : Int)) / (2 : Int) ^ Int.toNat 1) = (((i + j) / 2 : Nat) : Int) := by
  have e1 : IntKind.wrap .u64 ((i : Int) + (j : Int)) = (i : Int) + (j : Int) := by
    simp only [IntKind.wrap, IntKind.bits, IntKind.signed, Bool.false_and, Bool.false_eq_true, if_false]; omega
  rw [e1, show (2 : Int) ^ Int.toNat 1 = 2 from rfl, wrap64 (by omega)]
  omega
def kidF (n : Nd) (k : L) (i : Nat) : Bool := lt k (n.pivots.getD i default)
theorem gKid1 (n : Nd) (k : L) (x : Int) (h : Nat) (e : x = (h : Int)) (hh : h < n.pivots.length) : Good Try.prog 142 [.i .i64 x, .pel n.av, .pel [.s k]] [] (.b (kidF n k h)) [] := by
  subst e
  refine Good.w tabOk mixed Try.func142 (N := 12) (by kernel_rfl) rfl (by (repeat (first | exact LE.nil | apply LE.cons)); done) (by (repeat (first | exact LE.nil | apply LE.cons)); done) fun D hD F => ?_
  repeat' (first
    | apply AO.nil
    | (apply AO.kBuildS; first | refine AO.sBuildT (h := ?_) | refine AO.sBuildS (h := ?_))
    | (apply AO.kApp; first | refine AO.sGrowT (h := ?_) | refine AO.sNewT (h := ?_) | refine AO.sGrowBT (h := ?_) | refine AO.sGrow (h := ?_) | refine AO.sNewr (h := ?_))
    | (apply AO.kIx; first | refine AO.sIxN (h := ?_) | refine AO.sIx (h := ?_) | refine AO.sP (h := ?_) | refine AO.sPi (h := ?_))
    | (apply AO.kSl; first | refine AO.sSl (h := ?_) | refine AO.sSlArr (h := ?_) | refine AO.sP (h := ?_))
    | (apply AO.kBox; refine AO.sBox (h := ?_))
    | (apply AO.kAlloc; refine AO.sAlloc (h := ?_))
    | (apply AO.kStore; first | refine AO.sStore (h := ?_) | refine AO.sStB (h := ?_))
    | (apply AO.kAdd; refine AO.sAdd (h := ?_))
    | (apply AO.kSub; refine AO.sSub (h := ?_))
    | (apply AO.kCv; first | refine AO.sBytes (h := ?_) | refine AO.sStr (h := ?_) | refine AO.sStrR (h := ?_))
    | (apply AO.kP; first | refine AO.sP (h := ?_) | refine AO.sPi (h := ?_) | refine AO.sLoadB (h := ?_) | refine AO.sSameB (h := ?_) | refine AO.sMk0 (h := ?_) | refine AO.sArrB (h := ?_) | refine AO.sLoadA (h := ?_) | refine AO.sEqArr (heg := eqgArr) (h := ?_))
    | (apply AO.kP; refine AO.eqNil (h1 := fun h => ?_) (h2 := ?_))
    | apply AW.seq
    | (apply AW.kR; refine AW.sR (h := ?_))
    | apply AW.skip
    | apply AW.block
    | apply AW.out
    | (apply AW.kE; refine AW.sE (h := ?_))
    | apply AW.label
    | (apply AW.kRd; refine AW.sRd (h := ?_))
    | ((first | (apply AO.kG; first | refine AO.sgt (h1 := fun h => ?_) (h2 := fun h => ?_) | refine AO.sgf (h1 := fun h => ?_) (h2 := fun h => ?_) | refine AO.sgs (h := ?_)) | (apply AW.kC; refine AW.sC (h1 := fun h => ?_) (h2 := fun h => ?_)) | (apply AR.kAny; apply AR.kG; first | refine AR.sgt (h1 := fun h => ?_) (h2 := fun h => ?_) | refine AR.sgf (h1 := fun h => ?_) (h2 := fun h => ?_) | refine AR.sgs (h := ?_))) <;> (try (first | exact Bool.noConfusion h | exact absurd h (by decide) | (simp at h; done) | (rw [h]; try simp only [decide_eq_true_eq, decide_eq_false_iff_not, Int.not_lt, Int.not_le, ge_iff_le, gt_iff_lt, Bool.not_eq_true', Bool.not_eq_false', beq_iff_eq, beq_eq_false_iff_ne, ne_eq] at h; try rw [h]; try (exfalso; omega)) | skip)))
    | (apply AR.kAny; first | (apply AR.kBuildS; first | refine AR.sBuildT (h := ?_) | refine AR.sBuildS (h := ?_)) | (apply AR.kApp; first | refine AR.sGrowT (h := ?_) | refine AR.sNewT (h := ?_) | refine AR.sGrowBT (h := ?_) | refine AR.sGrow (h := ?_) | refine AR.sNewr (h := ?_)) | (apply AR.kIx; first | refine AR.sIxN (h := ?_) | refine AR.sIx (h := ?_) | refine AR.sP (h := ?_) | refine AR.sPi (h := ?_)) | (apply AR.kSl; first | refine AR.sSl (h := ?_) | refine AR.sSlArr (h := ?_) | refine AR.sP (h := ?_)) | (apply AR.kBox; refine AR.sBox (h := ?_)) | (apply AR.kAlloc; refine AR.sAlloc (h := ?_)) | (apply AR.kStore; refine AR.sStore (h := ?_)) | (apply AR.kAdd; refine AR.sAdd (h := ?_)) | (apply AR.kSub; refine AR.sSub (h := ?_)) | (apply AR.kCv; refine AR.sStrR (h := ?_)) | (apply AR.kP; first | refine AR.sP (h := ?_) | refine AR.sPi (h := ?_) | refine AR.sArrB (h := ?_) | refine AR.sLoadA (h := ?_) | refine AR.sEqArr (heg := eqgArr) (h := ?_)))
    | (apply AR.kNil; refine AR.sNil (h := ?_)))
  all_goals (refine AW.ret (hD rfl ?_); (repeat' (first | apply Lx.s | apply Lx.b | apply Lx.i | apply LxL.cons | exact LxL.nil | apply Lx.tup | apply Lx.agg | apply Lx.refl)) <;> (try with_reducible rfl))
  all_goals simp [kidF, blt, le_iff]
theorem gSearch (n : Nd) (k : L) (hs : n.small) : Good Try.prog 141 [.i .i64 n.pivots.length, .clo 142 [.pel n.av, .pel [.s k]]] [] (.i .i64 (bs (kidF n k) 0 n.pivots.length)) [] := by
  have hs2 := hs.pivots
  refine Good.w tabOk mixed Try.func141 (N := 26) (by kernel_rfl) rfl (by (repeat (first | exact LE.nil | apply LE.cons)); done) (by (repeat (first | exact LE.nil | apply LE.cons)); done) fun D hD F => ?_
  repeat' (first
    | apply AO.nil
    | (apply AO.kBuildS; first | refine AO.sBuildT (h := ?_) | refine AO.sBuildS (h := ?_))
    | (apply AO.kApp; first | refine AO.sGrowT (h := ?_) | refine AO.sNewT (h := ?_) | refine AO.sGrowBT (h := ?_) | refine AO.sGrow (h := ?_) | refine AO.sNewr (h := ?_))
    | (apply AO.kIx; first | refine AO.sIxN (h := ?_) | refine AO.sIx (h := ?_) | refine AO.sP (h := ?_) | refine AO.sPi (h := ?_))
    | (apply AO.kSl; first | refine AO.sSl (h := ?_) | refine AO.sSlArr (h := ?_) | refine AO.sP (h := ?_))
    | (apply AO.kBox; refine AO.sBox (h := ?_))
    | (apply AO.kAlloc; refine AO.sAlloc (h := ?_))
    | (apply AO.kStore; first | refine AO.sStore (h := ?_) | refine AO.sStB (h := ?_))
    | (apply AO.kAdd; refine AO.sAdd (h := ?_))
    | (apply AO.kSub; refine AO.sSub (h := ?_))
    | (apply AO.kCv; first | refine AO.sBytes (h := ?_) | refine AO.sStr (h := ?_) | refine AO.sStrR (h := ?_))
    | (apply AO.kP; first | refine AO.sP (h := ?_) | refine AO.sPi (h := ?_) | refine AO.sLoadB (h := ?_) | refine AO.sSameB (h := ?_) | refine AO.sMk0 (h := ?_) | refine AO.sArrB (h := ?_) | refine AO.sLoadA (h := ?_) | refine AO.sEqArr (heg := eqgArr) (h := ?_))
    | (apply AO.kP; refine AO.eqNil (h1 := fun h => ?_) (h2 := ?_))
    | apply AW.seq
    | (apply AW.kR; refine AW.sR (h := ?_))
    | apply AW.skip
    | apply AW.block
    | apply AW.out
    | (apply AW.kE; refine AW.sE (h := ?_))
    | apply AW.label
    | (apply AW.kRd; refine AW.sRd (h := ?_))
    | ((first | (apply AO.kG; first | refine AO.sgt (h1 := fun h => ?_) (h2 := fun h => ?_) | refine AO.sgf (h1 := fun h => ?_) (h2 := fun h => ?_) | refine AO.sgs (h := ?_)) | (apply AW.kC; refine AW.sC (h1 := fun h => ?_) (h2 := fun h => ?_)) | (apply AR.kAny; apply AR.kG; first | refine AR.sgt (h1 := fun h => ?_) (h2 := fun h => ?_) | refine AR.sgf (h1 := fun h => ?_) (h2 := fun h => ?_) | refine AR.sgs (h := ?_))) <;> (try (first | exact Bool.noConfusion h | exact absurd h (by decide) | (simp at h; done) | (rw [h]; try simp only [decide_eq_true_eq, decide_eq_false_iff_not, Int.not_lt, Int.not_le, ge_iff_le, gt_iff_lt, Bool.not_eq_true', Bool.not_eq_false', beq_iff_eq, beq_eq_false_iff_ne, ne_eq] at h; try rw [h]; try (exfalso; omega)) | skip)))
    | (apply AR.kAny; first | (apply AR.kBuildS; first | refine AR.sBuildT (h := ?_) | refine AR.sBuildS (h := ?_)) | (apply AR.kApp; first | refine AR.sGrowT (h := ?_) | refine AR.sNewT (h := ?_) | refine AR.sGrowBT (h := ?_) | refine AR.sGrow (h := ?_) | refine AR.sNewr (h := ?_)) | (apply AR.kIx; first | refine AR.sIxN (h := ?_) | refine AR.sIx (h := ?_) | refine AR.sP (h := ?_) | refine AR.sPi (h := ?_)) | (apply AR.kSl; first | refine AR.sSl (h := ?_) | refine AR.sSlArr (h := ?_) | refine AR.sP (h := ?_)) | (apply AR.kBox; refine AR.sBox (h := ?_)) | (apply AR.kAlloc; refine AR.sAlloc (h := ?_)) | (apply AR.kStore; refine AR.sStore (h := ?_)) | (apply AR.kAdd; refine AR.sAdd (h := ?_)) | (apply AR.kSub; refine AR.sSub (h := ?_)) | (apply AR.kCv; refine AR.sStrR (h := ?_)) | (apply AR.kP; first | refine AR.sP (h := ?_) | refine AR.sPi (h := ?_) | refine AR.sArrB (h := ?_) | refine AR.sLoadA (h := ?_) | refine AR.sEqArr (heg := eqgArr) (h := ?_)))
    | (apply AR.kNil; refine AR.sNil (h := ?_)))
  refine AW.loopI (fun x : Nat × Nat => x.1 ≤ x.2 ∧ x.2 ≤ n.pivots.length ∧ bs (kidF n k) x.1 x.2 = bs (kidF n k) 0 n.pivots.length) (fun x => ⟨[(1, .clo 142 [.pel n.av, .pel [.s k]]), (5, .i .i64 x.1), (6, .i .i64 x.2)], []⟩) (fun x => x.2 - x.1) (0, n.pivots.length) ⟨by simp, by simp, rfl⟩ (by (constructor <;> (repeat' (first | exact LeT.nil | exact LeB.nil | apply LeT.cons | apply LeB.cons | exact Ol.refl | apply Lx.s | apply Lx.b | apply Lx.i | exact Lx.refl)) <;> (first | rfl | assumption | omega | (simp only [List.length_map, BS_len]; done) | skip))) fun m ⟨i, j⟩ ⟨hij, hj, hc⟩ ih => ?_
  simp only at hij hj hc
  have e := half_wrap (i := i) (j := j) (by omega)
  repeat' (first
    | apply AO.nil
    | (apply AO.kCallV; refine AO.sCall (hg := (gKid1 _ _ _ _ e sd)) (h := ?_))
    | (apply AO.kBuildS; first | refine AO.sBuildT (h := ?_) | refine AO.sBuildS (h := ?_))
    | (apply AO.kApp; first | refine AO.sGrowT (h := ?_) | refine AO.sNewT (h := ?_) | refine AO.sGrowBT (h := ?_) | refine AO.sGrow (h := ?_) | refine AO.sNewr (h := ?_))
    | (apply AO.kIx; first | refine AO.sIxN (h := ?_) | refine AO.sIx (h := ?_) | refine AO.sP (h := ?_) | refine AO.sPi (h := ?_))
    | (apply AO.kSl; first | refine AO.sSl (h := ?_) | refine AO.sSlArr (h := ?_) | refine AO.sP (h := ?_))
    | (apply AO.kBox; refine AO.sBox (h := ?_))
    | (apply AO.kAlloc; refine AO.sAlloc (h := ?_))
    | (apply AO.kStore; first | refine AO.sStore (h := ?_) | refine AO.sStB (h := ?_))
    | (apply AO.kAdd; refine AO.sAdd (h := ?_))
    | (apply AO.kSub; refine AO.sSub (h := ?_))
    | (apply AO.kCv; first | refine AO.sBytes (h := ?_) | refine AO.sStr (h := ?_) | refine AO.sStrR (h := ?_))
    | (apply AO.kP; first | refine AO.sP (h := ?_) | refine AO.sPi (h := ?_) | refine AO.sLoadB (h := ?_) | refine AO.sSameB (h := ?_) | refine AO.sMk0 (h := ?_) | refine AO.sArrB (h := ?_) | refine AO.sLoadA (h := ?_) | refine AO.sEqArr (heg := eqgArr) (h := ?_))
    | (apply AO.kP; refine AO.eqNil (h1 := fun h => ?_) (h2 := ?_))
    | apply AW.seq
    | (apply AW.kR; refine AW.sR (h := ?_))
    | apply AW.skip
    | apply AW.block
    | apply AW.out
    | (apply AW.kE; refine AW.sE (h := ?_))
    | apply AW.label
    | (apply AW.kRd; refine AW.sRd (h := ?_))
    | ((first | (apply AO.kG; first | refine AO.sgt (h1 := fun h => ?_) (h2 := fun h => ?_) | refine AO.sgf (h1 := fun h => ?_) (h2 := fun h => ?_) | refine AO.sgs (h := ?_)) | (apply AW.kC; refine AW.sC (h1 := fun h => ?_) (h2 := fun h => ?_)) | (apply AR.kAny; apply AR.kG; first | refine AR.sgt (h1 := fun h => ?_) (h2 := fun h => ?_) | refine AR.sgf (h1 := fun h => ?_) (h2 := fun h => ?_) | refine AR.sgs (h := ?_))) <;> (try (first | exact Bool.noConfusion h | exact absurd h (by decide) | (simp at h; done) | (rw [h]; try simp only [decide_eq_true_eq, decide_eq_false_iff_not, Int.not_lt, Int.not_le, ge_iff_le, gt_iff_lt, Bool.not_eq_true', Bool.not_eq_false', beq_iff_eq, beq_eq_false_iff_ne, ne_eq] at h; try rw [h]; try (exfalso; omega)) | skip)))
    | (apply AR.kAny; first | (apply AR.kCallV; refine AR.sCall (hg := (gKid1 _ _ _ _ e sd)) (h := ?_)) | (apply AR.kBuildS; first | refine AR.sBuildT (h := ?_) | refine AR.sBuildS (h := ?_)) | (apply AR.kApp; first | refine AR.sGrowT (h := ?_) | refine AR.sNewT (h := ?_) | refine AR.sGrowBT (h := ?_) | refine AR.sGrow (h := ?_) | refine AR.sNewr (h := ?_)) | (apply AR.kIx; first | refine AR.sIxN (h := ?_) | refine AR.sIx (h := ?_) | refine AR.sP (h := ?_) | refine AR.sPi (h := ?_)) | (apply AR.kSl; first | refine AR.sSl (h := ?_) | refine AR.sSlArr (h := ?_) | refine AR.sP (h := ?_)) | (apply AR.kBox; refine AR.sBox (h := ?_)) | (apply AR.kAlloc; refine AR.sAlloc (h := ?_)) | (apply AR.kStore; refine AR.sStore (h := ?_)) | (apply AR.kAdd; refine AR.sAdd (h := ?_)) | (apply AR.kSub; refine AR.sSub (h := ?_)) | (apply AR.kCv; refine AR.sStrR (h := ?_)) | (apply AR.kP; first | refine AR.sP (h := ?_) | refine AR.sPi (h := ?_) | refine AR.sArrB (h := ?_) | refine AR.sLoadA (h := ?_) | refine AR.sEqArr (heg := eqgArr) (h := ?_)))
    | (apply AR.kNil; refine AR.sNil (h := ?_)))
  · have h' : kidF n k ((i + j) / 2) = false := by assumption
    have hlt : i < j := by omega
    have e' : IntKind.wrap .i64 (IntKind.wrap .u64 ((i : Int) + (j : Int)) / (2 : Int) ^ Int.toNat 1) + 1 = (((i + j) / 2 + 1 : Nat) : Int) := by rw [e]; omega
    exact ih ((i + j) / 2 + 1, j) _ ⟨by simp only; omega, by simp only; omega, by simp only; rw [← hc, bs_hi hlt h']⟩ (by simp only; omega) (by (constructor <;> (repeat' (first | exact LeT.nil | exact LeB.nil | apply LeT.cons | apply LeB.cons | exact Ol.refl | apply Lx.s | apply Lx.b | apply Lx.i | exact Lx.refl)) <;> (first | rfl | assumption | omega | (simp only [List.length_map, BS_len]; done) | skip)))
  · have h' : kidF n k ((i + j) / 2) = true := by assumption
    have hlt : i < j := by omega
    exact ih (i, (i + j) / 2) _ ⟨by simp only; omega, by simp only; omega, by simp only; rw [← hc, bs_lo hlt h']⟩ (by simp only; omega) (by (constructor <;> (repeat' (first | exact LeT.nil | exact LeB.nil | apply LeT.cons | apply LeB.cons | exact Ol.refl | apply Lx.s | apply Lx.b | apply Lx.i | exact Lx.refl)) <;> (first | rfl | assumption | omega | (simp only [List.length_map, BS_len]; done) | skip)))
  · refine AW.ret (hD rfl (Lx.i ?_))
    rw [← hc, bs_end (by omega)]
theorem gSearch' (n : Nd) (k : L) (hs : n.small) : Good Try.prog 141 [.i .i64 ((n.pivots.map sav).length : Nat), .clo 142 [.pel n.av, .pel [.s k]]] [] (.i .i64 (bs (kidF n k) 0 n.pivots.length)) [] := by
  rw [List.length_map]; exact gSearch n k hs
/-- The number of the kid of a key. -/
def kidN (n : Nd) (k : L) : Int := if (n.kids.length : Int) - 1 < ((bs (kidF n k) 0 n.pivots.length : Nat) : Int) then (n.kids.length : Int) - 1 else ((bs (kidF n k) 0 n.pivots.length : Nat) : Int)
theorem gKid (n : Nd) (k : L) (hs : n.small) : Good Try.prog 115 [.agg n.av, .s k] [] (.i .i64 (kidN n k)) [] := by
  have hs2 := hs.pivots; have hs3 := hs.kids
  have l2 : (n.pivots.map sav).length = n.pivots.length := by simp
  have l3 : (n.kids.map Ed.av).length = n.kids.length := by simp
  refine Good.w tabOk mixed Try.func115 (N := 17) (by kernel_rfl) rfl (by (repeat (first | exact LE.nil | apply LE.cons)); done) (by (repeat (first | exact LE.nil | apply LE.cons)); done) fun D hD F => ?_
  (repeat (first | apply AW.seq | apply AW.block)); apply AW.kR; refine AW.sR (h := ?_); repeat' (first
    | apply AO.nil
    | (apply AO.kBuildS; first | refine AO.sBuildT (h := ?_) | refine AO.sBuildS (h := ?_))
    | (apply AO.kApp; first | refine AO.sGrowT (h := ?_) | refine AO.sNewT (h := ?_) | refine AO.sGrowBT (h := ?_) | refine AO.sGrow (h := ?_) | refine AO.sNewr (h := ?_))
    | (apply AO.kIx; first | refine AO.sIxN (h := ?_) | refine AO.sIx (h := ?_) | refine AO.sP (h := ?_) | refine AO.sPi (h := ?_))
    | (apply AO.kSl; first | refine AO.sSl (h := ?_) | refine AO.sSlArr (h := ?_) | refine AO.sP (h := ?_))
    | (apply AO.kBox; refine AO.sBox (h := ?_))
    | (apply AO.kAlloc; refine AO.sAlloc (h := ?_))
    | (apply AO.kStore; first | refine AO.sStore (h := ?_) | refine AO.sStB (h := ?_))
    | (apply AO.kAdd; refine AO.sAdd (h := ?_))
    | (apply AO.kSub; refine AO.sSub (h := ?_))
    | (apply AO.kCv; first | refine AO.sBytes (h := ?_) | refine AO.sStr (h := ?_) | refine AO.sStrR (h := ?_))
    | (apply AO.kP; first | refine AO.sP (h := ?_) | refine AO.sPi (h := ?_) | refine AO.sLoadB (h := ?_) | refine AO.sSameB (h := ?_) | refine AO.sMk0 (h := ?_) | refine AO.sArrB (h := ?_) | refine AO.sLoadA (h := ?_) | refine AO.sEqArr (heg := eqgArr) (h := ?_))
    | (apply AO.kP; refine AO.eqNil (h1 := fun h => ?_) (h2 := ?_)))
  refine AW.freeze 2 (cs := n.av) (st' := ⟨[(2, .pel n.av), (3, .ptr 3 0)], [(3, .bx [.s k])]⟩) rfl rfl ⟨.cons Lx.fz (.cons .refl .nil), .cons .refl .nil⟩ ?_
  refine AW.freeze 3 (cs := [.s k]) (st' := ⟨[(2, .pel n.av), (3, .pel [.s k])], []⟩) rfl rfl ⟨.cons .refl (.cons Lx.fz .nil), .nil⟩ ?_
  repeat' (first
    | apply AO.nil
    | (apply AO.kCall 141; refine AO.sCall (hg := (gSearch' n k hs)) (h := ?_))
    | (apply AO.kBuildS; first | refine AO.sBuildT (h := ?_) | refine AO.sBuildS (h := ?_))
    | (apply AO.kApp; first | refine AO.sGrowT (h := ?_) | refine AO.sNewT (h := ?_) | refine AO.sGrowBT (h := ?_) | refine AO.sGrow (h := ?_) | refine AO.sNewr (h := ?_))
    | (apply AO.kIx; first | refine AO.sIxN (h := ?_) | refine AO.sIx (h := ?_) | refine AO.sP (h := ?_) | refine AO.sPi (h := ?_))
    | (apply AO.kSl; first | refine AO.sSl (h := ?_) | refine AO.sSlArr (h := ?_) | refine AO.sP (h := ?_))
    | (apply AO.kBox; refine AO.sBox (h := ?_))
    | (apply AO.kAlloc; refine AO.sAlloc (h := ?_))
    | (apply AO.kStore; first | refine AO.sStore (h := ?_) | refine AO.sStB (h := ?_))
    | (apply AO.kAdd; refine AO.sAdd (h := ?_))
    | (apply AO.kSub; refine AO.sSub (h := ?_))
    | (apply AO.kCv; first | refine AO.sBytes (h := ?_) | refine AO.sStr (h := ?_) | refine AO.sStrR (h := ?_))
    | (apply AO.kP; first | refine AO.sP (h := ?_) | refine AO.sPi (h := ?_) | refine AO.sLoadB (h := ?_) | refine AO.sSameB (h := ?_) | refine AO.sMk0 (h := ?_) | refine AO.sArrB (h := ?_) | refine AO.sLoadA (h := ?_) | refine AO.sEqArr (heg := eqgArr) (h := ?_))
    | (apply AO.kP; refine AO.eqNil (h1 := fun h => ?_) (h2 := ?_))
    | apply AW.seq
    | (apply AW.kR; refine AW.sR (h := ?_))
    | apply AW.skip
    | apply AW.block
    | apply AW.out
    | (apply AW.kE; refine AW.sE (h := ?_))
    | apply AW.label
    | (apply AW.kRd; refine AW.sRd (h := ?_))
    | ((first | (apply AO.kG; first | refine AO.sgt (h1 := fun h => ?_) (h2 := fun h => ?_) | refine AO.sgf (h1 := fun h => ?_) (h2 := fun h => ?_) | refine AO.sgs (h := ?_)) | (apply AW.kC; refine AW.sC (h1 := fun h => ?_) (h2 := fun h => ?_)) | (apply AR.kAny; apply AR.kG; first | refine AR.sgt (h1 := fun h => ?_) (h2 := fun h => ?_) | refine AR.sgf (h1 := fun h => ?_) (h2 := fun h => ?_) | refine AR.sgs (h := ?_))) <;> (try (first | exact Bool.noConfusion h | exact absurd h (by decide) | (simp at h; done) | (rw [h]; try simp only [decide_eq_true_eq, decide_eq_false_iff_not, Int.not_lt, Int.not_le, ge_iff_le, gt_iff_lt, Bool.not_eq_true', Bool.not_eq_false', beq_iff_eq, beq_eq_false_iff_ne, ne_eq] at h; try rw [h]; try (exfalso; omega)) | skip)))
    | (apply AR.kAny; first | (apply AR.kCall 141; refine AR.sCall (hg := (gSearch' n k hs)) (h := ?_)) | (apply AR.kBuildS; first | refine AR.sBuildT (h := ?_) | refine AR.sBuildS (h := ?_)) | (apply AR.kApp; first | refine AR.sGrowT (h := ?_) | refine AR.sNewT (h := ?_) | refine AR.sGrowBT (h := ?_) | refine AR.sGrow (h := ?_) | refine AR.sNewr (h := ?_)) | (apply AR.kIx; first | refine AR.sIxN (h := ?_) | refine AR.sIx (h := ?_) | refine AR.sP (h := ?_) | refine AR.sPi (h := ?_)) | (apply AR.kSl; first | refine AR.sSl (h := ?_) | refine AR.sSlArr (h := ?_) | refine AR.sP (h := ?_)) | (apply AR.kBox; refine AR.sBox (h := ?_)) | (apply AR.kAlloc; refine AR.sAlloc (h := ?_)) | (apply AR.kStore; refine AR.sStore (h := ?_)) | (apply AR.kAdd; refine AR.sAdd (h := ?_)) | (apply AR.kSub; refine AR.sSub (h := ?_)) | (apply AR.kCv; refine AR.sStrR (h := ?_)) | (apply AR.kP; first | refine AR.sP (h := ?_) | refine AR.sPi (h := ?_) | refine AR.sArrB (h := ?_) | refine AR.sLoadA (h := ?_) | refine AR.sEqArr (heg := eqgArr) (h := ?_)))
    | (apply AR.kNil; refine AR.sNil (h := ?_)))
  (refine AW.ret (hD rfl ?_); (repeat' (first | apply Lx.s | apply Lx.b | apply Lx.i | apply LxL.cons | exact LxL.nil | apply Lx.tup | apply Lx.agg | apply Lx.refl)) <;> (try with_reducible rfl))
  rw [l3]; rfl
/-- The last kid in whose range a key is. -/
def kidL (n : Nd) (k : L) : Nat → Int
  | 0 => -1
  | q + 1 => if inR (rgN n q).1 (rgN n q).2.1 (rgN n q).2.2 k = true then (q : Int) else kidL n k q
theorem gKid' (n : Nd) (k : L) (hs : n.small) : Good Try.prog 97 [.agg n.av, .s k] [] (.i .i64 (kidL n k n.kids.length)) [] := by
  have hs2 := hs.pivots; have hs3 := hs.kids
  have l3 : (n.kids.map Ed.av).length = n.kids.length := by simp
  refine Good.w tabOk mixed Try.func97 (N := 21) (by kernel_rfl) rfl (by (repeat (first | exact LE.nil | apply LE.cons)); done) (by (repeat (first | exact LE.nil | apply LE.cons)); done) fun D hD F => ?_
  repeat' (first
    | apply AO.nil
    | (apply AO.kBuildS; first | refine AO.sBuildT (h := ?_) | refine AO.sBuildS (h := ?_))
    | (apply AO.kApp; first | refine AO.sGrowT (h := ?_) | refine AO.sNewT (h := ?_) | refine AO.sGrowBT (h := ?_) | refine AO.sGrow (h := ?_) | refine AO.sNewr (h := ?_))
    | (apply AO.kIx; first | refine AO.sIxN (h := ?_) | refine AO.sIx (h := ?_) | refine AO.sP (h := ?_) | refine AO.sPi (h := ?_))
    | (apply AO.kSl; first | refine AO.sSl (h := ?_) | refine AO.sSlArr (h := ?_) | refine AO.sP (h := ?_))
    | (apply AO.kBox; refine AO.sBox (h := ?_))
    | (apply AO.kAlloc; refine AO.sAlloc (h := ?_))
    | (apply AO.kStore; first | refine AO.sStore (h := ?_) | refine AO.sStB (h := ?_))
    | (apply AO.kAdd; refine AO.sAdd (h := ?_))
    | (apply AO.kSub; refine AO.sSub (h := ?_))
    | (apply AO.kCv; first | refine AO.sBytes (h := ?_) | refine AO.sStr (h := ?_) | refine AO.sStrR (h := ?_))
    | (apply AO.kP; first | refine AO.sP (h := ?_) | refine AO.sPi (h := ?_) | refine AO.sLoadB (h := ?_) | refine AO.sSameB (h := ?_) | refine AO.sMk0 (h := ?_) | refine AO.sArrB (h := ?_) | refine AO.sLoadA (h := ?_) | refine AO.sEqArr (heg := eqgArr) (h := ?_))
    | (apply AO.kP; refine AO.eqNil (h1 := fun h => ?_) (h2 := ?_))
    | apply AW.seq
    | (apply AW.kR; refine AW.sR (h := ?_))
    | apply AW.skip
    | apply AW.block
    | apply AW.out
    | (apply AW.kE; refine AW.sE (h := ?_))
    | apply AW.label
    | (apply AW.kRd; refine AW.sRd (h := ?_))
    | ((first | (apply AO.kG; first | refine AO.sgt (h1 := fun h => ?_) (h2 := fun h => ?_) | refine AO.sgf (h1 := fun h => ?_) (h2 := fun h => ?_) | refine AO.sgs (h := ?_)) | (apply AW.kC; refine AW.sC (h1 := fun h => ?_) (h2 := fun h => ?_)) | (apply AR.kAny; apply AR.kG; first | refine AR.sgt (h1 := fun h => ?_) (h2 := fun h => ?_) | refine AR.sgf (h1 := fun h => ?_) (h2 := fun h => ?_) | refine AR.sgs (h := ?_))) <;> (try (first | exact Bool.noConfusion h | exact absurd h (by decide) | (simp at h; done) | (rw [h]; try simp only [decide_eq_true_eq, decide_eq_false_iff_not, Int.not_lt, Int.not_le, ge_iff_le, gt_iff_lt, Bool.not_eq_true', Bool.not_eq_false', beq_iff_eq, beq_eq_false_iff_ne, ne_eq] at h; try rw [h]; try (exfalso; omega)) | skip)))
    | (apply AR.kAny; first | (apply AR.kBuildS; first | refine AR.sBuildT (h := ?_) | refine AR.sBuildS (h := ?_)) | (apply AR.kApp; first | refine AR.sGrowT (h := ?_) | refine AR.sNewT (h := ?_) | refine AR.sGrowBT (h := ?_) | refine AR.sGrow (h := ?_) | refine AR.sNewr (h := ?_)) | (apply AR.kIx; first | refine AR.sIxN (h := ?_) | refine AR.sIx (h := ?_) | refine AR.sP (h := ?_) | refine AR.sPi (h := ?_)) | (apply AR.kSl; first | refine AR.sSl (h := ?_) | refine AR.sSlArr (h := ?_) | refine AR.sP (h := ?_)) | (apply AR.kBox; refine AR.sBox (h := ?_)) | (apply AR.kAlloc; refine AR.sAlloc (h := ?_)) | (apply AR.kStore; refine AR.sStore (h := ?_)) | (apply AR.kAdd; refine AR.sAdd (h := ?_)) | (apply AR.kSub; refine AR.sSub (h := ?_)) | (apply AR.kCv; refine AR.sStrR (h := ?_)) | (apply AR.kP; first | refine AR.sP (h := ?_) | refine AR.sPi (h := ?_) | refine AR.sArrB (h := ?_) | refine AR.sLoadA (h := ?_) | refine AR.sEqArr (heg := eqgArr) (h := ?_)))
    | (apply AR.kNil; refine AR.sNil (h := ?_)))
  refine AW.loopI (fun q : Nat => q ≤ n.kids.length) (fun q => ⟨[(1, .s k), (2, .ptr 2 0), (5, .i .i64 (kidL n k q)), (9, .i .i64 n.kids.length), (10, .i .i64 q)], [(2, .bx n.av)]⟩) (fun q => n.kids.length - q) 0 (by simp) (by (constructor <;> (repeat' (first | exact LeT.nil | exact LeB.nil | apply LeT.cons | apply LeB.cons | exact Ol.refl | apply Lx.s | apply Lx.b | apply Lx.i | exact Lx.refl)) <;> (first | rfl | assumption | omega | (simp only [List.length_map, BS_len]; done) | skip))) fun m q hn ih => ?_
  repeat' (first
    | apply AO.nil
    | (apply AO.kCall 73; refine AO.sCall (hg := (gRange' n _ hs sd)) (h := ?_))
    | (apply AO.kCall 29; refine AO.sCall (hg := (gIn' _ _ _ _)) (h := ?_))
    | (apply AO.kBuildS; first | refine AO.sBuildT (h := ?_) | refine AO.sBuildS (h := ?_))
    | (apply AO.kApp; first | refine AO.sGrowT (h := ?_) | refine AO.sNewT (h := ?_) | refine AO.sGrowBT (h := ?_) | refine AO.sGrow (h := ?_) | refine AO.sNewr (h := ?_))
    | (apply AO.kIx; first | refine AO.sIxN (h := ?_) | refine AO.sIx (h := ?_) | refine AO.sP (h := ?_) | refine AO.sPi (h := ?_))
    | (apply AO.kSl; first | refine AO.sSl (h := ?_) | refine AO.sSlArr (h := ?_) | refine AO.sP (h := ?_))
    | (apply AO.kBox; refine AO.sBox (h := ?_))
    | (apply AO.kAlloc; refine AO.sAlloc (h := ?_))
    | (apply AO.kStore; first | refine AO.sStore (h := ?_) | refine AO.sStB (h := ?_))
    | (apply AO.kAdd; refine AO.sAdd (h := ?_))
    | (apply AO.kSub; refine AO.sSub (h := ?_))
    | (apply AO.kCv; first | refine AO.sBytes (h := ?_) | refine AO.sStr (h := ?_) | refine AO.sStrR (h := ?_))
    | (apply AO.kP; first | refine AO.sP (h := ?_) | refine AO.sPi (h := ?_) | refine AO.sLoadB (h := ?_) | refine AO.sSameB (h := ?_) | refine AO.sMk0 (h := ?_) | refine AO.sArrB (h := ?_) | refine AO.sLoadA (h := ?_) | refine AO.sEqArr (heg := eqgArr) (h := ?_))
    | (apply AO.kP; refine AO.eqNil (h1 := fun h => ?_) (h2 := ?_))
    | apply AW.seq
    | (apply AW.kR; refine AW.sR (h := ?_))
    | apply AW.skip
    | apply AW.block
    | apply AW.out
    | (apply AW.kE; refine AW.sE (h := ?_))
    | apply AW.label
    | (apply AW.kRd; refine AW.sRd (h := ?_))
    | ((first | (apply AO.kG; first | refine AO.sgt (h1 := fun h => ?_) (h2 := fun h => ?_) | refine AO.sgf (h1 := fun h => ?_) (h2 := fun h => ?_) | refine AO.sgs (h := ?_)) | (apply AW.kC; refine AW.sC (h1 := fun h => ?_) (h2 := fun h => ?_)) | (apply AR.kAny; apply AR.kG; first | refine AR.sgt (h1 := fun h => ?_) (h2 := fun h => ?_) | refine AR.sgf (h1 := fun h => ?_) (h2 := fun h => ?_) | refine AR.sgs (h := ?_))) <;> (try (first | exact Bool.noConfusion h | exact absurd h (by decide) | (simp at h; done) | (rw [h]; try simp only [decide_eq_true_eq, decide_eq_false_iff_not, Int.not_lt, Int.not_le, ge_iff_le, gt_iff_lt, Bool.not_eq_true', Bool.not_eq_false', beq_iff_eq, beq_eq_false_iff_ne, ne_eq] at h; try rw [h]; try (exfalso; omega)) | skip)))
    | (apply AR.kAny; first | (apply AR.kCall 73; refine AR.sCall (hg := (gRange' n _ hs sd)) (h := ?_)) | (apply AR.kCall 29; refine AR.sCall (hg := (gIn' _ _ _ _)) (h := ?_)) | (apply AR.kBuildS; first | refine AR.sBuildT (h := ?_) | refine AR.sBuildS (h := ?_)) | (apply AR.kApp; first | refine AR.sGrowT (h := ?_) | refine AR.sNewT (h := ?_) | refine AR.sGrowBT (h := ?_) | refine AR.sGrow (h := ?_) | refine AR.sNewr (h := ?_)) | (apply AR.kIx; first | refine AR.sIxN (h := ?_) | refine AR.sIx (h := ?_) | refine AR.sP (h := ?_) | refine AR.sPi (h := ?_)) | (apply AR.kSl; first | refine AR.sSl (h := ?_) | refine AR.sSlArr (h := ?_) | refine AR.sP (h := ?_)) | (apply AR.kBox; refine AR.sBox (h := ?_)) | (apply AR.kAlloc; refine AR.sAlloc (h := ?_)) | (apply AR.kStore; refine AR.sStore (h := ?_)) | (apply AR.kAdd; refine AR.sAdd (h := ?_)) | (apply AR.kSub; refine AR.sSub (h := ?_)) | (apply AR.kCv; refine AR.sStrR (h := ?_)) | (apply AR.kP; first | refine AR.sP (h := ?_) | refine AR.sPi (h := ?_) | refine AR.sArrB (h := ?_) | refine AR.sLoadA (h := ?_) | refine AR.sEqArr (heg := eqgArr) (h := ?_)))
    | (apply AR.kNil; refine AR.sNil (h := ?_)))
  · have h : inR (rgN n q).1 (rgN n q).2.1 (rgN n q).2.2 k = true := by assumption
    have e : (q : Int) = kidL n k (q + 1) := by simp [kidL, h]
    exact ih (q + 1) _ (by omega) (by omega) (by (constructor <;> (repeat' (first | exact LeT.nil | exact LeB.nil | apply LeT.cons | apply LeB.cons | exact Ol.refl | apply Lx.s | apply Lx.b | apply Lx.i | exact Lx.refl)) <;> (first | rfl | assumption | omega | (simp only [List.length_map, BS_len]; done) | skip)))
  · have h : inR (rgN n q).1 (rgN n q).2.1 (rgN n q).2.2 k = false := by assumption
    have e : kidL n k q = kidL n k (q + 1) := by simp [kidL, h]
    exact ih (q + 1) _ (by omega) (by omega) (by (constructor <;> (repeat' (first | exact LeT.nil | exact LeB.nil | apply LeT.cons | apply LeB.cons | exact Ol.refl | apply Lx.s | apply Lx.b | apply Lx.i | exact Lx.refl)) <;> (first | rfl | assumption | omega | (simp only [List.length_map, BS_len]; done) | skip)))
  · (refine AW.ret (hD rfl ?_); (repeat' (first | apply Lx.s | apply Lx.b | apply Lx.i | apply LxL.cons | exact LxL.nil | apply Lx.tup | apply Lx.agg | apply Lx.refl)) <;> (try with_reducible rfl))
    rw [show q = n.kids.length by omega]

/-! ### a leaf's pair -/
def cmpS (a k : L) : Int := if lt a k = true then -1 else if lt k a = true then 1 else 0
theorem gCmp (p : Pr) (k : L) : Good Try.prog 112 [.agg p.av, .s k] [] (.i .i64 (cmpS p.k k)) [] := by
  refine Good.w tabOk mixed Try.func112 (N := 15) (by kernel_rfl) rfl (by (repeat (first | exact LE.nil | apply LE.cons)); done) (by (repeat (first | exact LE.nil | apply LE.cons)); done) fun D hD F => ?_
  repeat' (first
    | apply AO.nil
    | (apply AO.kBuildS; first | refine AO.sBuildT (h := ?_) | refine AO.sBuildS (h := ?_))
    | (apply AO.kApp; first | refine AO.sGrowT (h := ?_) | refine AO.sNewT (h := ?_) | refine AO.sGrowBT (h := ?_) | refine AO.sGrow (h := ?_) | refine AO.sNewr (h := ?_))
    | (apply AO.kIx; first | refine AO.sIxN (h := ?_) | refine AO.sIx (h := ?_) | refine AO.sP (h := ?_) | refine AO.sPi (h := ?_))
    | (apply AO.kSl; first | refine AO.sSl (h := ?_) | refine AO.sSlArr (h := ?_) | refine AO.sP (h := ?_))
    | (apply AO.kBox; refine AO.sBox (h := ?_))
    | (apply AO.kAlloc; refine AO.sAlloc (h := ?_))
    | (apply AO.kStore; first | refine AO.sStore (h := ?_) | refine AO.sStB (h := ?_))
    | (apply AO.kAdd; refine AO.sAdd (h := ?_))
    | (apply AO.kSub; refine AO.sSub (h := ?_))
    | (apply AO.kCv; first | refine AO.sBytes (h := ?_) | refine AO.sStr (h := ?_) | refine AO.sStrR (h := ?_))
    | (apply AO.kP; first | refine AO.sP (h := ?_) | refine AO.sPi (h := ?_) | refine AO.sLoadB (h := ?_) | refine AO.sSameB (h := ?_) | refine AO.sMk0 (h := ?_) | refine AO.sArrB (h := ?_) | refine AO.sLoadA (h := ?_) | refine AO.sEqArr (heg := eqgArr) (h := ?_))
    | (apply AO.kP; refine AO.eqNil (h1 := fun h => ?_) (h2 := ?_))
    | apply AW.seq
    | (apply AW.kR; refine AW.sR (h := ?_))
    | apply AW.skip
    | apply AW.block
    | apply AW.out
    | (apply AW.kE; refine AW.sE (h := ?_))
    | apply AW.label
    | (apply AW.kRd; refine AW.sRd (h := ?_))
    | ((first | (apply AO.kG; first | refine AO.sgt (h1 := fun h => ?_) (h2 := fun h => ?_) | refine AO.sgf (h1 := fun h => ?_) (h2 := fun h => ?_) | refine AO.sgs (h := ?_)) | (apply AW.kC; refine AW.sC (h1 := fun h => ?_) (h2 := fun h => ?_)) | (apply AR.kAny; apply AR.kG; first | refine AR.sgt (h1 := fun h => ?_) (h2 := fun h => ?_) | refine AR.sgf (h1 := fun h => ?_) (h2 := fun h => ?_) | refine AR.sgs (h := ?_))) <;> (try (first | exact Bool.noConfusion h | exact absurd h (by decide) | (simp at h; done) | (rw [h]; try simp only [decide_eq_true_eq, decide_eq_false_iff_not, Int.not_lt, Int.not_le, ge_iff_le, gt_iff_lt, Bool.not_eq_true', Bool.not_eq_false', beq_iff_eq, beq_eq_false_iff_ne, ne_eq] at h; try rw [h]; try (exfalso; omega)) | skip)))
    | (apply AR.kAny; first | (apply AR.kBuildS; first | refine AR.sBuildT (h := ?_) | refine AR.sBuildS (h := ?_)) | (apply AR.kApp; first | refine AR.sGrowT (h := ?_) | refine AR.sNewT (h := ?_) | refine AR.sGrowBT (h := ?_) | refine AR.sGrow (h := ?_) | refine AR.sNewr (h := ?_)) | (apply AR.kIx; first | refine AR.sIxN (h := ?_) | refine AR.sIx (h := ?_) | refine AR.sP (h := ?_) | refine AR.sPi (h := ?_)) | (apply AR.kSl; first | refine AR.sSl (h := ?_) | refine AR.sSlArr (h := ?_) | refine AR.sP (h := ?_)) | (apply AR.kBox; refine AR.sBox (h := ?_)) | (apply AR.kAlloc; refine AR.sAlloc (h := ?_)) | (apply AR.kStore; refine AR.sStore (h := ?_)) | (apply AR.kAdd; refine AR.sAdd (h := ?_)) | (apply AR.kSub; refine AR.sSub (h := ?_)) | (apply AR.kCv; refine AR.sStrR (h := ?_)) | (apply AR.kP; first | refine AR.sP (h := ?_) | refine AR.sPi (h := ?_) | refine AR.sArrB (h := ?_) | refine AR.sLoadA (h := ?_) | refine AR.sEqArr (heg := eqgArr) (h := ?_)))
    | (apply AR.kNil; refine AR.sNil (h := ?_)))
  all_goals (refine AW.ret (hD rfl ?_); (repeat' (first | apply Lx.s | apply Lx.b | apply Lx.i | apply LxL.cons | exact LxL.nil | apply Lx.tup | apply Lx.agg | apply Lx.refl)) <;> (try with_reducible rfl))
  all_goals (rcases lt_total p.k k with h9 | h9 | h9)
  all_goals (first | (have h8 := lt_asymm h9; simp only [lt] at h9 h8; simp_all [cmpS, blt, le_iff, lt]; done) | (subst h9; have h8 := lt_irrefl p.k; simp only [lt] at h8; simp_all [cmpS, blt, le_iff, lt]; done) | (have h8 := lt_asymm h9; have h7 : ¬ p.k = k := fun e => by (rw [e, lt_irrefl] at h9; cases h9); simp only [lt] at h9 h8; simp_all [cmpS, blt, le_iff, lt]; done))
theorem cmp_lt (a k : L) : (cmpS a k < 0) ↔ lt a k = true := by
  unfold cmpS; split
  · rename_i h; simp [h]
  · rename_i h; split <;> simp [h]
theorem cmp_eq (a k : L) : (cmpS a k == 0) = (a == k) := by
  rcases lt_total a k with h | h | h
  · have : ¬ a = k := fun e => by rw [e, lt_irrefl] at h; cases h
    simp [cmpS, h, this]
  · subst h; simp [cmpS, lt_irrefl]
  · have : ¬ a = k := fun e => by rw [e, lt_irrefl] at h; cases h
    simp [cmpS, h, lt_asymm h, this]
def prF (l : List Pr) (k : L) (i : Nat) : Bool := !lt (l.getD i default).k k
theorem gFindP (l : List Pr) (k : L) (hl : l.length ≤ 1000000) : Good Try.prog 111 [.sh 2 (l.map Pr.av), .s k, .clo 112 []] [] (.tup [.i .i64 (bs (prF l k) 0 l.length), .b (decide (bs (prF l k) 0 l.length < l.length) && ((l.getD (bs (prF l k) 0 l.length) default).k == k))]) [] := by
  have ll : (l.map Pr.av).length = l.length := by simp
  refine Good.w tabOk mixed Try.func111 (N := 49) (by kernel_rfl) rfl (by (repeat (first | exact LE.nil | apply LE.cons)); done) (by (repeat (first | exact LE.nil | apply LE.cons)); done) fun D hD F => ?_
  repeat' (first
    | apply AO.nil
    | (apply AO.kBuildS; first | refine AO.sBuildT (h := ?_) | refine AO.sBuildS (h := ?_))
    | (apply AO.kApp; first | refine AO.sGrowT (h := ?_) | refine AO.sNewT (h := ?_) | refine AO.sGrowBT (h := ?_) | refine AO.sGrow (h := ?_) | refine AO.sNewr (h := ?_))
    | (apply AO.kIx; first | refine AO.sIxN (h := ?_) | refine AO.sIx (h := ?_) | refine AO.sP (h := ?_) | refine AO.sPi (h := ?_))
    | (apply AO.kSl; first | refine AO.sSl (h := ?_) | refine AO.sSlArr (h := ?_) | refine AO.sP (h := ?_))
    | (apply AO.kBox; refine AO.sBox (h := ?_))
    | (apply AO.kAlloc; refine AO.sAlloc (h := ?_))
    | (apply AO.kStore; first | refine AO.sStore (h := ?_) | refine AO.sStB (h := ?_))
    | (apply AO.kAdd; refine AO.sAdd (h := ?_))
    | (apply AO.kSub; refine AO.sSub (h := ?_))
    | (apply AO.kCv; first | refine AO.sBytes (h := ?_) | refine AO.sStr (h := ?_) | refine AO.sStrR (h := ?_))
    | (apply AO.kP; first | refine AO.sP (h := ?_) | refine AO.sPi (h := ?_) | refine AO.sLoadB (h := ?_) | refine AO.sSameB (h := ?_) | refine AO.sMk0 (h := ?_) | refine AO.sArrB (h := ?_) | refine AO.sLoadA (h := ?_) | refine AO.sEqArr (heg := eqgArr) (h := ?_))
    | (apply AO.kP; refine AO.eqNil (h1 := fun h => ?_) (h2 := ?_))
    | apply AW.seq
    | (apply AW.kR; refine AW.sR (h := ?_))
    | apply AW.skip
    | apply AW.block
    | apply AW.out
    | (apply AW.kE; refine AW.sE (h := ?_))
    | apply AW.label
    | (apply AW.kRd; refine AW.sRd (h := ?_))
    | ((first | (apply AO.kG; first | refine AO.sgt (h1 := fun h => ?_) (h2 := fun h => ?_) | refine AO.sgf (h1 := fun h => ?_) (h2 := fun h => ?_) | refine AO.sgs (h := ?_)) | (apply AW.kC; refine AW.sC (h1 := fun h => ?_) (h2 := fun h => ?_)) | (apply AR.kAny; apply AR.kG; first | refine AR.sgt (h1 := fun h => ?_) (h2 := fun h => ?_) | refine AR.sgf (h1 := fun h => ?_) (h2 := fun h => ?_) | refine AR.sgs (h := ?_))) <;> (try (first | exact Bool.noConfusion h | exact absurd h (by decide) | (simp at h; done) | (rw [h]; try simp only [decide_eq_true_eq, decide_eq_false_iff_not, Int.not_lt, Int.not_le, ge_iff_le, gt_iff_lt, Bool.not_eq_true', Bool.not_eq_false', beq_iff_eq, beq_eq_false_iff_ne, ne_eq] at h; try rw [h]; try (exfalso; omega)) | skip)))
    | (apply AR.kAny; first | (apply AR.kBuildS; first | refine AR.sBuildT (h := ?_) | refine AR.sBuildS (h := ?_)) | (apply AR.kApp; first | refine AR.sGrowT (h := ?_) | refine AR.sNewT (h := ?_) | refine AR.sGrowBT (h := ?_) | refine AR.sGrow (h := ?_) | refine AR.sNewr (h := ?_)) | (apply AR.kIx; first | refine AR.sIxN (h := ?_) | refine AR.sIx (h := ?_) | refine AR.sP (h := ?_) | refine AR.sPi (h := ?_)) | (apply AR.kSl; first | refine AR.sSl (h := ?_) | refine AR.sSlArr (h := ?_) | refine AR.sP (h := ?_)) | (apply AR.kBox; refine AR.sBox (h := ?_)) | (apply AR.kAlloc; refine AR.sAlloc (h := ?_)) | (apply AR.kStore; refine AR.sStore (h := ?_)) | (apply AR.kAdd; refine AR.sAdd (h := ?_)) | (apply AR.kSub; refine AR.sSub (h := ?_)) | (apply AR.kCv; refine AR.sStrR (h := ?_)) | (apply AR.kP; first | refine AR.sP (h := ?_) | refine AR.sPi (h := ?_) | refine AR.sArrB (h := ?_) | refine AR.sLoadA (h := ?_) | refine AR.sEqArr (heg := eqgArr) (h := ?_)))
    | (apply AR.kNil; refine AR.sNil (h := ?_)))
  refine AW.loopI (fun x : Nat × Nat => x.1 ≤ x.2 ∧ x.2 ≤ l.length ∧ bs (prF l k) x.1 x.2 = bs (prF l k) 0 l.length) (fun x => ⟨[(0, .sh 2 (l.map Pr.av)), (1, .s k), (2, .clo 112 []), (8, .i .i64 l.length), (9, .i .i64 x.1), (10, .i .i64 x.2)], []⟩) (fun x => x.2 - x.1) (0, l.length) ⟨by simp, by simp, rfl⟩ (by (constructor <;> (repeat' (first | exact LeT.nil | exact LeB.nil | apply LeT.cons | apply LeB.cons | exact Ol.refl | apply Lx.s | apply Lx.b | apply Lx.i | exact Lx.refl)) <;> (first | rfl | assumption | omega | (simp only [List.length_map, BS_len]; done) | skip))) fun m ⟨i, j⟩ ⟨hij, hj, hc⟩ ih => ?_
  simp only at hij hj hc
  have e := half_wrap (i := i) (j := j) (by omega)
  repeat' (first
    | apply AO.nil
    | (apply AO.kCallV; refine AO.sCall (hg := (gCmp _ _)) (h := ?_))
    | (apply AO.kBuildS; first | refine AO.sBuildT (h := ?_) | refine AO.sBuildS (h := ?_))
    | (apply AO.kApp; first | refine AO.sGrowT (h := ?_) | refine AO.sNewT (h := ?_) | refine AO.sGrowBT (h := ?_) | refine AO.sGrow (h := ?_) | refine AO.sNewr (h := ?_))
    | (apply AO.kIx; first | refine AO.sIxN (hm := by first | decide | omega | (rw [e]; omega) | (exact ⟨by rw [e]; omega, by rw [e]; omega⟩)) (h := ?_) | refine AO.sIx (hm := by first | decide | omega | (rw [e]; omega) | (exact ⟨by rw [e]; omega, by rw [e]; omega⟩)) (h := ?_) | refine AO.sP (h := ?_) | refine AO.sPi (hq := by first | decide | omega | (rw [e]; omega) | (exact ⟨by rw [e]; omega, by rw [e]; omega⟩)) (h := ?_))
    | (apply AO.kSl; first | refine AO.sSl (hq := by first | decide | omega | (rw [e]; omega) | (exact ⟨by rw [e]; omega, by rw [e]; omega⟩)) (h := ?_) | refine AO.sSlArr (h := ?_) | refine AO.sP (h := ?_))
    | (apply AO.kBox; refine AO.sBox (h := ?_))
    | (apply AO.kAlloc; refine AO.sAlloc (h := ?_))
    | (apply AO.kStore; first | refine AO.sStore (h := ?_) | refine AO.sStB (ho := by first | decide | omega | (rw [e]; omega) | (exact ⟨by rw [e]; omega, by rw [e]; omega⟩)) (h := ?_))
    | (apply AO.kAdd; refine AO.sAdd (hr := by first | decide | omega | (rw [e]; omega) | (exact ⟨by rw [e]; omega, by rw [e]; omega⟩)) (h := ?_))
    | (apply AO.kSub; refine AO.sSub (hr := by first | decide | omega | (rw [e]; omega) | (exact ⟨by rw [e]; omega, by rw [e]; omega⟩)) (h := ?_))
    | (apply AO.kCv; first | refine AO.sBytes (h := ?_) | refine AO.sStr (h := ?_) | refine AO.sStrR (h := ?_))
    | (apply AO.kP; first | refine AO.sP (h := ?_) | refine AO.sPi (hq := by first | decide | omega | (rw [e]; omega) | (exact ⟨by rw [e]; omega, by rw [e]; omega⟩)) (h := ?_) | refine AO.sLoadB (ho := by first | decide | omega | (rw [e]; omega) | (exact ⟨by rw [e]; omega, by rw [e]; omega⟩)) (h := ?_) | refine AO.sSameB (h := ?_) | refine AO.sMk0 (h := ?_) | refine AO.sArrB (h := ?_) | refine AO.sLoadA (h := ?_) | refine AO.sEqArr (heg := eqgArr) (h := ?_))
    | (apply AO.kP; refine AO.eqNil (h1 := fun h => ?_) (h2 := ?_))
    | apply AW.seq
    | (apply AW.kR; refine AW.sR (h := ?_))
    | apply AW.skip
    | apply AW.block
    | apply AW.out
    | (apply AW.kE; refine AW.sE (h := ?_))
    | apply AW.label
    | (apply AW.kRd; refine AW.sRd (h := ?_))
    | ((first | (apply AO.kG; first | refine AO.sgt (h1 := fun h => ?_) (h2 := fun h => ?_) | refine AO.sgf (h1 := fun h => ?_) (h2 := fun h => ?_) | refine AO.sgs (h := ?_)) | (apply AW.kC; refine AW.sC (h1 := fun h => ?_) (h2 := fun h => ?_)) | (apply AR.kAny; apply AR.kG; first | refine AR.sgt (h1 := fun h => ?_) (h2 := fun h => ?_) | refine AR.sgf (h1 := fun h => ?_) (h2 := fun h => ?_) | refine AR.sgs (h := ?_))) <;> (try (first | exact Bool.noConfusion h | exact absurd h (by decide) | (simp at h; done) | (rw [h]; try simp only [decide_eq_true_eq, decide_eq_false_iff_not, Int.not_lt, Int.not_le, ge_iff_le, gt_iff_lt, Bool.not_eq_true', Bool.not_eq_false', beq_iff_eq, beq_eq_false_iff_ne, ne_eq] at h; try rw [h]; try (exfalso; omega)) | skip)))
    | (apply AR.kAny; first | (apply AR.kCallV; refine AR.sCall (hg := (gCmp _ _)) (h := ?_)) | (apply AR.kBuildS; first | refine AR.sBuildT (h := ?_) | refine AR.sBuildS (h := ?_)) | (apply AR.kApp; first | refine AR.sGrowT (h := ?_) | refine AR.sNewT (h := ?_) | refine AR.sGrowBT (h := ?_) | refine AR.sGrow (h := ?_) | refine AR.sNewr (h := ?_)) | (apply AR.kIx; first | refine AR.sIxN (hm := by first | decide | omega | (rw [e]; omega) | (exact ⟨by rw [e]; omega, by rw [e]; omega⟩)) (h := ?_) | refine AR.sIx (hm := by first | decide | omega | (rw [e]; omega) | (exact ⟨by rw [e]; omega, by rw [e]; omega⟩)) (h := ?_) | refine AR.sP (h := ?_) | refine AR.sPi (hq := by first | decide | omega | (rw [e]; omega) | (exact ⟨by rw [e]; omega, by rw [e]; omega⟩)) (h := ?_)) | (apply AR.kSl; first | refine AR.sSl (hq := by first | decide | omega | (rw [e]; omega) | (exact ⟨by rw [e]; omega, by rw [e]; omega⟩)) (h := ?_) | refine AR.sSlArr (h := ?_) | refine AR.sP (h := ?_)) | (apply AR.kBox; refine AR.sBox (h := ?_)) | (apply AR.kAlloc; refine AR.sAlloc (h := ?_)) | (apply AR.kStore; refine AR.sStore (h := ?_)) | (apply AR.kAdd; refine AR.sAdd (hr := by first | decide | omega | (rw [e]; omega) | (exact ⟨by rw [e]; omega, by rw [e]; omega⟩)) (h := ?_)) | (apply AR.kSub; refine AR.sSub (hr := by first | decide | omega | (rw [e]; omega) | (exact ⟨by rw [e]; omega, by rw [e]; omega⟩)) (h := ?_)) | (apply AR.kCv; refine AR.sStrR (h := ?_)) | (apply AR.kP; first | refine AR.sP (h := ?_) | refine AR.sPi (hq := by first | decide | omega | (rw [e]; omega) | (exact ⟨by rw [e]; omega, by rw [e]; omega⟩)) (h := ?_) | refine AR.sArrB (h := ?_) | refine AR.sLoadA (h := ?_) | refine AR.sEqArr (heg := eqgArr) (h := ?_)))
    | (apply AR.kNil; refine AR.sNil (h := ?_)))
  · have h : cmpS (l.getD (IntKind.wrap .i64 (IntKind.wrap .u64 ((i : Int) + (j : Int)) / (2 : Int) ^ Int.toNat 1)).toNat default).k k < 0 := by assumption
    rw [cmp_lt, e] at h
    have h' : prF l k ((i + j) / 2) = false := by simp only [prF, Bool.not_eq_false']; exact h
    have hlt : i < j := by omega
    have e' : IntKind.wrap .i64 (IntKind.wrap .u64 ((i : Int) + (j : Int)) / (2 : Int) ^ Int.toNat 1) + 1 = (((i + j) / 2 + 1 : Nat) : Int) := by rw [e]; omega
    exact ih ((i + j) / 2 + 1, j) _ ⟨by simp only; omega, by simp only; omega, by simp only; rw [← hc, bs_hi hlt h']⟩ (by simp only; omega) (by (constructor <;> (repeat' (first | exact LeT.nil | exact LeB.nil | apply LeT.cons | apply LeB.cons | exact Ol.refl | apply Lx.s | apply Lx.b | apply Lx.i | exact Lx.refl)) <;> (first | rfl | assumption | omega | (simp only [List.length_map, BS_len]; done) | skip)))
  · have h : ¬ cmpS (l.getD (IntKind.wrap .i64 (IntKind.wrap .u64 ((i : Int) + (j : Int)) / (2 : Int) ^ Int.toNat 1)).toNat default).k k < 0 := by omega
    rw [cmp_lt, e] at h
    have h' : prF l k ((i + j) / 2) = true := by
      have h2 := Bool.eq_false_iff.2 h
      simp only [prF]
      exact congrArg (!·) h2
    have hlt : i < j := by omega
    exact ih (i, (i + j) / 2) _ ⟨by simp only; omega, by simp only; omega, by simp only; rw [← hc, bs_lo hlt h']⟩ (by simp only; omega) (by (constructor <;> (repeat' (first | exact LeT.nil | exact LeB.nil | apply LeT.cons | apply LeB.cons | exact Ol.refl | apply Lx.s | apply Lx.b | apply Lx.i | exact Lx.refl)) <;> (first | rfl | assumption | omega | (simp only [List.length_map, BS_len]; done) | skip)))
  · rw [bs_end (by omega)] at hc
    refine AW.ret (hD rfl (Lx.tup (.cons (Lx.i ?_) (.cons (Lx.b ?_) .nil))))
    · rw [← hc]
    · rw [← hc]
      have hi : i < l.length := by omega
      simp only [hi, decide_true, Bool.true_and]
      exact cmp_eq _ _
  · rw [bs_end (by omega)] at hc
    refine AW.ret (hD rfl (Lx.tup (.cons (Lx.i ?_) (.cons (Lx.b ?_) .nil))))
    · rw [← hc]
    · rw [← hc]
      have hi : ¬ i < l.length := by omega
      simp [hi]
/-- A step in a leaf. -/
def wayL (l : List Pr) (k : L) : Option L := if (decide (bs (prF l k) 0 l.length < l.length) && ((l.getD (bs (prF l k) 0 l.length) default).k == k)) = true then some (l.getD (bs (prF l k) 0 l.length) default).v else none
end Go.Proofs.Ytocppeifkjdeiaa.Mv
