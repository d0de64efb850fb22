/- Nodes: the kid in whose range a key is. Under no condition. -/
import Derived.Test.YtmfonbehcfjjgaaNodeS
namespace Go.Proofs.Ytmfonbehcfjjgaa.Mv
open Go Go.Proofs
set_option linter.unusedSimpArgs false
set_option linter.unusedVariables false
set_option maxRecDepth 10000
set_option maxHeartbeats 4000000
attribute [local irreducible] AW AO AR

theorem rise_dropA {ks : List L} (h : rise ks = true) : ∀ q, rise (ks.drop q) = true
  | 0 => by simpa using h
  | q + 1 => by
    by_cases hq : q + 1 < ks.length
    · have := rise_dropA h q
      rw [rise_next hq, Bool.and_eq_true] at this
      exact this.2
    · by_cases hq' : q + 1 = ks.length
      · rw [List.drop_of_length_le (by omega)]; rfl
      · rw [List.drop_of_length_le (by omega)]; rfl
theorem rise_one {ks : List L} (h : rise ks = true) {q : Nat} (hq : q + 1 < ks.length) : lt (ks.getD q default) (ks.getD (q + 1) default) = true := by
  have := rise_dropA h q
  rw [rise_next hq, Bool.and_eq_true] at this
  exact this.1
theorem rise_lt {ks : List L} (h : rise ks = true) {i : Nat} : ∀ j, i < j → j < ks.length → lt (ks.getD i default) (ks.getD j default) = true
  | 0, hij, _ => by omega
  | j + 1, hij, hj => by
    by_cases e : i = j
    · subst e; exact rise_one h hj
    · exact lt_trans (rise_lt h j (by omega) (by omega)) (rise_one h hj)
/-- What is found where it holds from some place on. -/
theorem bs_spec' {f : Nat → Bool} (n : Nat) (hm : ∀ a b, a ≤ b → b < n → f a = true → f b = true) : bs f 0 n ≤ n ∧ (∀ i, i < bs f 0 n → f i = false) ∧ (bs f 0 n < n → f (bs f 0 n) = true) := by
  have key := bs_ind (f := f) (P := fun i j r => (∀ a, a < i → f a = false) → i ≤ j → j ≤ n → r ≤ j ∧ (∀ a, a < r → f a = false) ∧ (r < j → f r = true))
    (fun i j h hlo hij _ => ⟨by omega, hlo, fun h' => by omega⟩)
    (fun i j r hij hf h hlo _ hn => by
      obtain ⟨q1, q2, q3⟩ := h hlo (by omega) (by omega)
      refine ⟨by omega, q2, fun hr => ?_⟩
      by_cases e : r < (i + j) / 2
      · exact q3 e
      · have : r = (i + j) / 2 := by omega
        rw [this]; exact hf)
    (fun i j r hij hf h hlo _ hn => by
      obtain ⟨q1, q2, q3⟩ := h (fun a ha => by
        cases hfa : f a with
        | false => rfl
        | true => rw [hm a ((i + j) / 2) (by omega) (by omega) hfa] at hf; cases hf) (by omega) hn
      exact ⟨q1, q2, q3⟩) n 0 n (by omega)
  exact key (fun a ha => by omega) (by omega) (by omega)
theorem kid_mono {n : Nd} {k : L} (hr : rise n.pivots = true) : ∀ a b, a ≤ b → b < n.pivots.length → kidF n k a = true → kidF n k b = true := fun a b h1 h2 h3 => by
  unfold kidF at *
  by_cases e : a = b
  · subst e; exact h3
  · exact lt_trans h3 (rise_lt hr b (by omega) h2)
/-- Where a node that may be with kids leads. -/
theorem may_inner {n : Nd} (h : mayN n = 0) (hl : n.leaf = false) : innerOk n = true ∧ n.kids.length ≤ 8 ∧ n.buf.length ≤ 16 := by
  unfold mayN at h
  split at h
  · cases h
  · rw [hl] at h
    simp only [Bool.false_eq_true, if_false] at h
    split at h
    · rename_i h1 h2; exact ⟨h2, by omega, by omega⟩
    · cases h
theorem may_leaf {n : Nd} (h : mayN n = 0) (hl : n.leaf = true) : leafOk n = true := by
  unfold mayN at h
  split at h
  · cases h
  · split at h
    · assumption
    · cases h
theorem inner_len {n : Nd} (h : innerOk n = true) : n.pivots.length + 1 = n.kids.length ∧ rise n.pivots = true ∧ n.pairs = [] := by
  simp only [innerOk, Bool.and_eq_true, decide_eq_true_eq, List.isEmpty_iff] at h
  exact ⟨h.1.1.1.2, rise_tail h.1.2.1, h.1.1.1.1.1⟩
theorem leaf_len {n : Nd} (h : leafOk n = true) : n.pivots = [] ∧ n.kids = [] ∧ n.buf = [] := by
  simp only [leafOk, Bool.and_eq_true, List.isEmpty_iff] at h
  exact ⟨h.1.1.1.1, h.1.1.1.2, h.1.1.2⟩
theorem kid_none {n : Nd} {k : L} (h : n.kids = []) : kidN n k = -1 := by
  have : n.kids.length = 0 := by rw [h]; rfl
  unfold kidN
  split <;> omega
theorem kid_at {n : Nd} {k : L} (hl : n.pivots.length + 1 = n.kids.length) (hr : rise n.pivots = true) : kidN n k = ((bs (kidF n k) 0 n.pivots.length : Nat) : Int) ∧ bs (kidF n k) 0 n.pivots.length ≤ n.pivots.length := by
  have h := (bs_spec' _ (kid_mono (n := n) (k := k) hr)).1
  unfold kidN
  split
  · exact ⟨by omega, h⟩
  · exact ⟨rfl, h⟩
theorem kid_in {n : Nd} {k : L} (hl : n.pivots.length + 1 = n.kids.length) (hr : rise n.pivots = true) {j : Nat} (hj : j < n.kids.length) : inR (rgN n j).1 (rgN n j).2.1 (rgN n j).2.2 k = ((j : Int) == kidN n k) := by
  obtain ⟨e, hb⟩ := kid_at (k := k) hl hr
  obtain ⟨h1, h2, h3⟩ := bs_spec' _ (kid_mono (n := n) (k := k) hr)
  rw [e]
  generalize bs (kidF n k) 0 n.pivots.length = b at *
  have e1 : rgN n j = ((if 0 < (j : Int) ∧ (j : Int) ≤ n.pivots.length then n.pivots.getD ((j : Int) - 1).toNat default else []), (if (j : Int) < n.pivots.length then n.pivots.getD (j : Int).toNat default else []), decide ((j : Int) < n.pivots.length)) := by
    unfold rgN; rw [if_neg (by omega)]
  rw [e1]
  simp only [inR]
  by_cases c : j = b
  · subst c
    have g1 : lt k (if 0 < (j : Int) ∧ (j : Int) ≤ n.pivots.length then n.pivots.getD ((j : Int) - 1).toNat default else []) = false := by
      split
      · have := h2 (j - 1) (by omega)
        unfold kidF at this
        rw [show ((j : Int) - 1).toNat = j - 1 by omega]; exact this
      · exact lt_nil _
    rw [g1]
    by_cases d : (j : Int) < n.pivots.length
    · have g2 := h3 (by omega)
      unfold kidF at g2
      rw [if_pos d, show (j : Int).toNat = j by omega, g2, decide_eq_true d]; simp
    · rw [decide_eq_false d]; simp
  · have e2 : ((j : Int) == (b : Int)) = false := by rw [beq_eq_false_iff_ne]; omega
    rw [e2]
    by_cases d : j < b
    · have g := h2 j d
      unfold kidF at g
      rw [if_pos (show (j : Int) < n.pivots.length by omega), show (j : Int).toNat = j by omega, g, decide_eq_true (show (j : Int) < n.pivots.length by omega)]; simp
    · have g := kid_mono (k := k) hr b (j - 1) (by omega) (by omega) (h3 (by omega))
      unfold kidF at g
      rw [if_pos (by omega), show ((j : Int) - 1).toNat = j - 1 by omega, g]; rfl

/-! ### the statement of ranges -/
theorem gLawRanges (n : Nd) (i : Int) (k : L) (hf : n.fits) (hi : -9223372036854775808 ≤ i ∧ i ≤ 9223372036854775807) : Good Try.prog 7 [.agg n.av, .i .i64 i, .s k] [] (.b true) [] := by
  by_cases hg : great n = true
  · refine Good.w tabOk mixed Try.func7 (N := 69) (by kernel_rfl) rfl (by (repeat (first | exact LE.nil | apply LE.cons)); done) (by (repeat (first | exact LE.nil | apply LE.cons)); done) fun D hD F => ?_
    repeat' (first
    | apply AO.nil
    | (apply AO.kCall 14; refine AO.sCall (hg := (gGreat _ sd)) (h := ?_))
    | (apply AO.kCall 23; refine AO.sCall (hg := gAwake) (h := ?_))
    | (apply AO.kBuildS; first | refine AO.sBuildT (h := ?_) | refine AO.sBuildS (h := ?_))
    | (apply AO.kApp; first | refine AO.sGrowT (h := ?_) | refine AO.sNewT (h := ?_) | refine AO.sGrowBT (h := ?_) | refine AO.sGrow (h := ?_) | refine AO.sNewr (h := ?_))
    | (apply AO.kIx; first | refine AO.sIxN (h := ?_) | refine AO.sIx (h := ?_) | refine AO.sP (h := ?_) | refine AO.sPi (h := ?_))
    | (apply AO.kSl; first | refine AO.sSl (h := ?_) | refine AO.sSlArr (h := ?_) | refine AO.sP (h := ?_))
    | (apply AO.kBox; refine AO.sBox (h := ?_))
    | (apply AO.kAlloc; refine AO.sAlloc (h := ?_))
    | (apply AO.kStore; first | refine AO.sStore (h := ?_) | refine AO.sStB (h := ?_))
    | (apply AO.kAdd; refine AO.sAdd (h := ?_))
    | (apply AO.kSub; refine AO.sSub (h := ?_))
    | (apply AO.kCv; first | refine AO.sBytes (h := ?_) | refine AO.sStr (h := ?_) | refine AO.sStrR (h := ?_))
    | (apply AO.kP; first | refine AO.sP (h := ?_) | refine AO.sPi (h := ?_) | refine AO.sLoadB (h := ?_) | refine AO.sSameB (h := ?_) | refine AO.sMk0 (h := ?_) | refine AO.sArrB (h := ?_) | refine AO.sLoadA (h := ?_) | refine AO.sEqArr (heg := eqgArr) (h := ?_))
    | (apply AO.kP; refine AO.eqNil (h1 := fun h => ?_) (h2 := ?_))
    | apply AW.seq
    | (apply AW.kR; refine AW.sR (h := ?_))
    | apply AW.skip
    | apply AW.block
    | apply AW.out
    | (apply AW.kE; refine AW.sE (h := ?_))
    | apply AW.label
    | (apply AW.kRd; refine AW.sRd (h := ?_))
    | ((first | (apply AO.kG; first | refine AO.sgt (h1 := fun h => ?_) (h2 := fun h => ?_) | refine AO.sgf (h1 := fun h => ?_) (h2 := fun h => ?_) | refine AO.sgs (h := ?_)) | (apply AW.kC; refine AW.sC (h1 := fun h => ?_) (h2 := fun h => ?_)) | (apply AR.kAny; apply AR.kG; first | refine AR.sgt (h1 := fun h => ?_) (h2 := fun h => ?_) | refine AR.sgf (h1 := fun h => ?_) (h2 := fun h => ?_) | refine AR.sgs (h := ?_))) <;> (try (first | exact Bool.noConfusion h | exact absurd h (by decide) | (simp at h; done) | (rw [h]; try simp only [decide_eq_true_eq, decide_eq_false_iff_not, Int.not_lt, Int.not_le, ge_iff_le, gt_iff_lt, Bool.not_eq_true', Bool.not_eq_false', beq_iff_eq, beq_eq_false_iff_ne, ne_eq] at h; try rw [h]; try (exfalso; omega)) | skip)))
    | (apply AR.kAny; first | (apply AR.kCall 14; refine AR.sCall (hg := (gGreat _ sd)) (h := ?_)) | (apply AR.kCall 23; refine AR.sCall (hg := gAwake) (h := ?_)) | (apply AR.kBuildS; first | refine AR.sBuildT (h := ?_) | refine AR.sBuildS (h := ?_)) | (apply AR.kApp; first | refine AR.sGrowT (h := ?_) | refine AR.sNewT (h := ?_) | refine AR.sGrowBT (h := ?_) | refine AR.sGrow (h := ?_) | refine AR.sNewr (h := ?_)) | (apply AR.kIx; first | refine AR.sIxN (h := ?_) | refine AR.sIx (h := ?_) | refine AR.sP (h := ?_) | refine AR.sPi (h := ?_)) | (apply AR.kSl; first | refine AR.sSl (h := ?_) | refine AR.sSlArr (h := ?_) | refine AR.sP (h := ?_)) | (apply AR.kBox; refine AR.sBox (h := ?_)) | (apply AR.kAlloc; refine AR.sAlloc (h := ?_)) | (apply AR.kStore; refine AR.sStore (h := ?_)) | (apply AR.kAdd; refine AR.sAdd (h := ?_)) | (apply AR.kSub; refine AR.sSub (h := ?_)) | (apply AR.kCv; refine AR.sStrR (h := ?_)) | (apply AR.kP; first | refine AR.sP (h := ?_) | refine AR.sPi (h := ?_) | refine AR.sArrB (h := ?_) | refine AR.sLoadA (h := ?_) | refine AR.sEqArr (heg := eqgArr) (h := ?_)))
    | (apply AR.kNil; refine AR.sNil (h := ?_)))
    all_goals first | exact AW.ret (hD rfl (Lx.b rfl)) | (exfalso; simp_all; done)
  · have hg' : great n = false := by cases h : great n <;> simp_all
    have hs := great_small hg'
    have hs2 := hs.pivots; have hs3 := hs.kids
    have l2 : (n.pivots.map sav).length = n.pivots.length := by simp
    have l3 : (n.kids.map Ed.av).length = n.kids.length := by simp
    refine Good.w tabOk mixed Try.func7 (N := 69) (by kernel_rfl) rfl (by (repeat (first | exact LE.nil | apply LE.cons)); done) (by (repeat (first | exact LE.nil | apply LE.cons)); done) fun D hD F => ?_
    repeat' (first
    | apply AO.nil
    | (apply AO.kCall 14; refine AO.sCall (hg := (gGreat _ sd)) (h := ?_))
    | (apply AO.kCall 23; refine AO.sCall (hg := gAwake) (h := ?_))
    | (apply AO.kCall 26; refine AO.sCall (hg := (gRange _ _ sd sd)) (h := ?_))
    | (apply AO.kCall 27; refine AO.sCall (hg := (gRange' _ _ sd sd)) (h := ?_))
    | (apply AO.kCall 21; refine AO.sCall (hg := (gMay' _ sd)) (h := ?_))
    | (apply AO.kCall 28; refine AO.sCall (hg := (gKid _ _ sd)) (h := ?_))
    | (apply AO.kBuildS; first | refine AO.sBuildT (h := ?_) | refine AO.sBuildS (h := ?_))
    | (apply AO.kApp; first | refine AO.sGrowT (h := ?_) | refine AO.sNewT (h := ?_) | refine AO.sGrowBT (h := ?_) | refine AO.sGrow (h := ?_) | refine AO.sNewr (h := ?_))
    | (apply AO.kIx; first | refine AO.sIxN (h := ?_) | refine AO.sIx (h := ?_) | refine AO.sP (h := ?_) | refine AO.sPi (h := ?_))
    | (apply AO.kSl; first | refine AO.sSl (h := ?_) | refine AO.sSlArr (h := ?_) | refine AO.sP (h := ?_))
    | (apply AO.kBox; refine AO.sBox (h := ?_))
    | (apply AO.kAlloc; refine AO.sAlloc (h := ?_))
    | (apply AO.kStore; first | refine AO.sStore (h := ?_) | refine AO.sStB (h := ?_))
    | (apply AO.kAdd; refine AO.sAdd (h := ?_))
    | (apply AO.kSub; refine AO.sSub (h := ?_))
    | (apply AO.kCv; first | refine AO.sBytes (h := ?_) | refine AO.sStr (h := ?_) | refine AO.sStrR (h := ?_))
    | (apply AO.kP; first | refine AO.sP (h := ?_) | refine AO.sPi (h := ?_) | refine AO.sLoadB (h := ?_) | refine AO.sSameB (h := ?_) | refine AO.sMk0 (h := ?_) | refine AO.sArrB (h := ?_) | refine AO.sLoadA (h := ?_) | refine AO.sEqArr (heg := eqgArr) (h := ?_))
    | (apply AO.kP; refine AO.eqNil (h1 := fun h => ?_) (h2 := ?_))
    | apply AW.seq
    | (apply AW.kR; refine AW.sR (h := ?_))
    | apply AW.skip
    | apply AW.block
    | apply AW.out
    | (apply AW.kE; refine AW.sE (h := ?_))
    | apply AW.label
    | (apply AW.kRd; refine AW.sRd (h := ?_))
    | ((first | (apply AO.kG; first | refine AO.sgt (h1 := fun h => ?_) (h2 := fun h => ?_) | refine AO.sgf (h1 := fun h => ?_) (h2 := fun h => ?_) | refine AO.sgs (h := ?_)) | (apply AW.kC; refine AW.sC (h1 := fun h => ?_) (h2 := fun h => ?_)) | (apply AR.kAny; apply AR.kG; first | refine AR.sgt (h1 := fun h => ?_) (h2 := fun h => ?_) | refine AR.sgf (h1 := fun h => ?_) (h2 := fun h => ?_) | refine AR.sgs (h := ?_))) <;> (try (first | exact Bool.noConfusion h | exact absurd h (by decide) | (simp at h; done) | (rw [h]; try simp only [decide_eq_true_eq, decide_eq_false_iff_not, Int.not_lt, Int.not_le, ge_iff_le, gt_iff_lt, Bool.not_eq_true', Bool.not_eq_false', beq_iff_eq, beq_eq_false_iff_ne, ne_eq] at h; try rw [h]; try (exfalso; omega)) | skip)))
    | (apply AR.kAny; first | (apply AR.kCall 14; refine AR.sCall (hg := (gGreat _ sd)) (h := ?_)) | (apply AR.kCall 23; refine AR.sCall (hg := gAwake) (h := ?_)) | (apply AR.kCall 26; refine AR.sCall (hg := (gRange _ _ sd sd)) (h := ?_)) | (apply AR.kCall 27; refine AR.sCall (hg := (gRange' _ _ sd sd)) (h := ?_)) | (apply AR.kCall 21; refine AR.sCall (hg := (gMay' _ sd)) (h := ?_)) | (apply AR.kCall 28; refine AR.sCall (hg := (gKid _ _ sd)) (h := ?_)) | (apply AR.kBuildS; first | refine AR.sBuildT (h := ?_) | refine AR.sBuildS (h := ?_)) | (apply AR.kApp; first | refine AR.sGrowT (h := ?_) | refine AR.sNewT (h := ?_) | refine AR.sGrowBT (h := ?_) | refine AR.sGrow (h := ?_) | refine AR.sNewr (h := ?_)) | (apply AR.kIx; first | refine AR.sIxN (h := ?_) | refine AR.sIx (h := ?_) | refine AR.sP (h := ?_) | refine AR.sPi (h := ?_)) | (apply AR.kSl; first | refine AR.sSl (h := ?_) | refine AR.sSlArr (h := ?_) | refine AR.sP (h := ?_)) | (apply AR.kBox; refine AR.sBox (h := ?_)) | (apply AR.kAlloc; refine AR.sAlloc (h := ?_)) | (apply AR.kStore; refine AR.sStore (h := ?_)) | (apply AR.kAdd; refine AR.sAdd (h := ?_)) | (apply AR.kSub; refine AR.sSub (h := ?_)) | (apply AR.kCv; refine AR.sStrR (h := ?_)) | (apply AR.kP; first | refine AR.sP (h := ?_) | refine AR.sPi (h := ?_) | refine AR.sArrB (h := ?_) | refine AR.sLoadA (h := ?_) | refine AR.sEqArr (heg := eqgArr) (h := ?_)))
    | (apply AR.kNil; refine AR.sNil (h := ?_)))
    · exact AW.ret (hD rfl (Lx.b rfl))
    · exact AW.ret (hD rfl (Lx.b rfl))
    · have h9 : n.kids = [] := List.eq_nil_of_length_eq_zero (by omega)
      exact absurd (kid_none h9) ‹_›
    · exact AW.ret (hD rfl (Lx.b rfl))
    · have h8 := eq0 ‹((mayN n : Int) != 0) = false›
      rcases (by cases n.leaf <;> simp : n.leaf = true ∨ n.leaf = false) with hl | hl
      · have h7 := (leaf_len (may_leaf h8 hl)).2.1
        have e0 : kidN n k = -1 := kid_none h7
        have e1 : n.kids.length = 0 := by rw [h7]; rfl
        refine AW.loopI (fun j : Nat => j = 0) (fun j => ⟨[(2, .s k), (3, .ptr 3 0), (7, .i .i64 (-1)), (8, .i .i64 0)], [(3, .bx n.av)]⟩) (fun j => 0) 0 rfl (by rw [e0]; (constructor <;> (repeat' (first | exact LeT.nil | exact LeB.nil | apply LeT.cons | apply LeB.cons | exact Ol.refl | apply Lx.s | apply Lx.b | apply Lx.i | exact Lx.refl)) <;> (first | rfl | assumption | omega | (simp only [List.length_map, BS_len]; done) | skip))) fun m j hj ih => ?_
        repeat' (first
    | apply AO.nil
    | (apply AO.kCall 23; refine AO.sCall (hg := gAwake) (h := ?_))
    | (apply AO.kBuildS; first | refine AO.sBuildT (h := ?_) | refine AO.sBuildS (h := ?_))
    | (apply AO.kApp; first | refine AO.sGrowT (h := ?_) | refine AO.sNewT (h := ?_) | refine AO.sGrowBT (h := ?_) | refine AO.sGrow (h := ?_) | refine AO.sNewr (h := ?_))
    | (apply AO.kIx; first | refine AO.sIxN (h := ?_) | refine AO.sIx (h := ?_) | refine AO.sP (h := ?_) | refine AO.sPi (h := ?_))
    | (apply AO.kSl; first | refine AO.sSl (h := ?_) | refine AO.sSlArr (h := ?_) | refine AO.sP (h := ?_))
    | (apply AO.kBox; refine AO.sBox (h := ?_))
    | (apply AO.kAlloc; refine AO.sAlloc (h := ?_))
    | (apply AO.kStore; first | refine AO.sStore (h := ?_) | refine AO.sStB (h := ?_))
    | (apply AO.kAdd; refine AO.sAdd (h := ?_))
    | (apply AO.kSub; refine AO.sSub (h := ?_))
    | (apply AO.kCv; first | refine AO.sBytes (h := ?_) | refine AO.sStr (h := ?_) | refine AO.sStrR (h := ?_))
    | (apply AO.kP; first | refine AO.sP (h := ?_) | refine AO.sPi (h := ?_) | refine AO.sLoadB (h := ?_) | refine AO.sSameB (h := ?_) | refine AO.sMk0 (h := ?_) | refine AO.sArrB (h := ?_) | refine AO.sLoadA (h := ?_) | refine AO.sEqArr (heg := eqgArr) (h := ?_))
    | (apply AO.kP; refine AO.eqNil (h1 := fun h => ?_) (h2 := ?_))
    | apply AW.seq
    | (apply AW.kR; refine AW.sR (h := ?_))
    | apply AW.skip
    | apply AW.block
    | apply AW.out
    | (apply AW.kE; refine AW.sE (h := ?_))
    | apply AW.label
    | (apply AW.kRd; refine AW.sRd (h := ?_))
    | ((first | (apply AO.kG; first | refine AO.sgt (h1 := fun h => ?_) (h2 := fun h => ?_) | refine AO.sgf (h1 := fun h => ?_) (h2 := fun h => ?_) | refine AO.sgs (h := ?_)) | (apply AW.kC; refine AW.sC (h1 := fun h => ?_) (h2 := fun h => ?_)) | (apply AR.kAny; apply AR.kG; first | refine AR.sgt (h1 := fun h => ?_) (h2 := fun h => ?_) | refine AR.sgf (h1 := fun h => ?_) (h2 := fun h => ?_) | refine AR.sgs (h := ?_))) <;> (try (first | exact Bool.noConfusion h | exact absurd h (by decide) | (simp at h; done) | (rw [h]; try simp only [decide_eq_true_eq, decide_eq_false_iff_not, Int.not_lt, Int.not_le, ge_iff_le, gt_iff_lt, Bool.not_eq_true', Bool.not_eq_false', beq_iff_eq, beq_eq_false_iff_ne, ne_eq] at h; try rw [h]; try (exfalso; omega)) | skip)))
    | (apply AR.kAny; first | (apply AR.kCall 23; refine AR.sCall (hg := gAwake) (h := ?_)) | (apply AR.kBuildS; first | refine AR.sBuildT (h := ?_) | refine AR.sBuildS (h := ?_)) | (apply AR.kApp; first | refine AR.sGrowT (h := ?_) | refine AR.sNewT (h := ?_) | refine AR.sGrowBT (h := ?_) | refine AR.sGrow (h := ?_) | refine AR.sNewr (h := ?_)) | (apply AR.kIx; first | refine AR.sIxN (h := ?_) | refine AR.sIx (h := ?_) | refine AR.sP (h := ?_) | refine AR.sPi (h := ?_)) | (apply AR.kSl; first | refine AR.sSl (h := ?_) | refine AR.sSlArr (h := ?_) | refine AR.sP (h := ?_)) | (apply AR.kBox; refine AR.sBox (h := ?_)) | (apply AR.kAlloc; refine AR.sAlloc (h := ?_)) | (apply AR.kStore; refine AR.sStore (h := ?_)) | (apply AR.kAdd; refine AR.sAdd (h := ?_)) | (apply AR.kSub; refine AR.sSub (h := ?_)) | (apply AR.kCv; refine AR.sStrR (h := ?_)) | (apply AR.kP; first | refine AR.sP (h := ?_) | refine AR.sPi (h := ?_) | refine AR.sArrB (h := ?_) | refine AR.sLoadA (h := ?_) | refine AR.sEqArr (heg := eqgArr) (h := ?_)))
    | (apply AR.kNil; refine AR.sNil (h := ?_)))
        · exfalso; omega
        · exact AW.ret (hD rfl (Lx.b rfl))
        · exact AW.ret (hD rfl (Lx.b rfl))
      · obtain ⟨l4, hr, _⟩ := inner_len (may_inner h8 hl).1
        refine AW.loopI (fun j : Nat => j ≤ n.kids.length) (fun j => ⟨[(2, .s k), (3, .ptr 3 0), (7, .i .i64 (kidN n k)), (8, .i .i64 j)], [(3, .bx n.av)]⟩) (fun j => n.kids.length - j) 0 (by simp) (by (constructor <;> (repeat' (first | exact LeT.nil | exact LeB.nil | apply LeT.cons | apply LeB.cons | exact Ol.refl | apply Lx.s | apply Lx.b | apply Lx.i | exact Lx.refl)) <;> (first | rfl | assumption | omega | (simp only [List.length_map, BS_len]; done) | skip))) fun m j hj ih => ?_
        repeat' (first
    | apply AO.nil
    | (apply AO.kCall 23; refine AO.sCall (hg := gAwake) (h := ?_))
    | (apply AO.kCall 26; refine AO.sCall (hg := (gRange _ _ sd sd)) (h := ?_))
    | (apply AO.kCall 29; refine AO.sCall (hg := (gIn' _ _ _ _)) (h := ?_))
    | (apply AO.kBuildS; first | refine AO.sBuildT (h := ?_) | refine AO.sBuildS (h := ?_))
    | (apply AO.kApp; first | refine AO.sGrowT (h := ?_) | refine AO.sNewT (h := ?_) | refine AO.sGrowBT (h := ?_) | refine AO.sGrow (h := ?_) | refine AO.sNewr (h := ?_))
    | (apply AO.kIx; first | refine AO.sIxN (h := ?_) | refine AO.sIx (h := ?_) | refine AO.sP (h := ?_) | refine AO.sPi (h := ?_))
    | (apply AO.kSl; first | refine AO.sSl (h := ?_) | refine AO.sSlArr (h := ?_) | refine AO.sP (h := ?_))
    | (apply AO.kBox; refine AO.sBox (h := ?_))
    | (apply AO.kAlloc; refine AO.sAlloc (h := ?_))
    | (apply AO.kStore; first | refine AO.sStore (h := ?_) | refine AO.sStB (h := ?_))
    | (apply AO.kAdd; refine AO.sAdd (h := ?_))
    | (apply AO.kSub; refine AO.sSub (h := ?_))
    | (apply AO.kCv; first | refine AO.sBytes (h := ?_) | refine AO.sStr (h := ?_) | refine AO.sStrR (h := ?_))
    | (apply AO.kP; first | refine AO.sP (h := ?_) | refine AO.sPi (h := ?_) | refine AO.sLoadB (h := ?_) | refine AO.sSameB (h := ?_) | refine AO.sMk0 (h := ?_) | refine AO.sArrB (h := ?_) | refine AO.sLoadA (h := ?_) | refine AO.sEqArr (heg := eqgArr) (h := ?_))
    | (apply AO.kP; refine AO.eqNil (h1 := fun h => ?_) (h2 := ?_))
    | apply AW.seq
    | (apply AW.kR; refine AW.sR (h := ?_))
    | apply AW.skip
    | apply AW.block
    | apply AW.out
    | (apply AW.kE; refine AW.sE (h := ?_))
    | apply AW.label
    | (apply AW.kRd; refine AW.sRd (h := ?_))
    | ((first | (apply AO.kG; first | refine AO.sgt (h1 := fun h => ?_) (h2 := fun h => ?_) | refine AO.sgf (h1 := fun h => ?_) (h2 := fun h => ?_) | refine AO.sgs (h := ?_)) | (apply AW.kC; refine AW.sC (h1 := fun h => ?_) (h2 := fun h => ?_)) | (apply AR.kAny; apply AR.kG; first | refine AR.sgt (h1 := fun h => ?_) (h2 := fun h => ?_) | refine AR.sgf (h1 := fun h => ?_) (h2 := fun h => ?_) | refine AR.sgs (h := ?_))) <;> (try (first | exact Bool.noConfusion h | exact absurd h (by decide) | (simp at h; done) | (rw [h]; try simp only [decide_eq_true_eq, decide_eq_false_iff_not, Int.not_lt, Int.not_le, ge_iff_le, gt_iff_lt, Bool.not_eq_true', Bool.not_eq_false', beq_iff_eq, beq_eq_false_iff_ne, ne_eq] at h; try rw [h]; try (exfalso; omega)) | skip)))
    | (apply AR.kAny; first | (apply AR.kCall 23; refine AR.sCall (hg := gAwake) (h := ?_)) | (apply AR.kCall 26; refine AR.sCall (hg := (gRange _ _ sd sd)) (h := ?_)) | (apply AR.kCall 29; refine AR.sCall (hg := (gIn' _ _ _ _)) (h := ?_)) | (apply AR.kBuildS; first | refine AR.sBuildT (h := ?_) | refine AR.sBuildS (h := ?_)) | (apply AR.kApp; first | refine AR.sGrowT (h := ?_) | refine AR.sNewT (h := ?_) | refine AR.sGrowBT (h := ?_) | refine AR.sGrow (h := ?_) | refine AR.sNewr (h := ?_)) | (apply AR.kIx; first | refine AR.sIxN (h := ?_) | refine AR.sIx (h := ?_) | refine AR.sP (h := ?_) | refine AR.sPi (h := ?_)) | (apply AR.kSl; first | refine AR.sSl (h := ?_) | refine AR.sSlArr (h := ?_) | refine AR.sP (h := ?_)) | (apply AR.kBox; refine AR.sBox (h := ?_)) | (apply AR.kAlloc; refine AR.sAlloc (h := ?_)) | (apply AR.kStore; refine AR.sStore (h := ?_)) | (apply AR.kAdd; refine AR.sAdd (h := ?_)) | (apply AR.kSub; refine AR.sSub (h := ?_)) | (apply AR.kCv; refine AR.sStrR (h := ?_)) | (apply AR.kP; first | refine AR.sP (h := ?_) | refine AR.sPi (h := ?_) | refine AR.sArrB (h := ?_) | refine AR.sLoadA (h := ?_) | refine AR.sEqArr (heg := eqgArr) (h := ?_)))
    | (apply AR.kNil; refine AR.sNil (h := ?_)))
        · exact absurd (kid_in (k := k) l4 hr (j := j) (by omega)) ‹_›
        · exact ih (j + 1) _ (by omega) (by omega) (by (constructor <;> (repeat' (first | exact LeT.nil | exact LeB.nil | apply LeT.cons | apply LeB.cons | exact Ol.refl | apply Lx.s | apply Lx.b | apply Lx.i | exact Lx.refl)) <;> (first | rfl | assumption | omega | (simp only [List.length_map, BS_len]; done) | skip)))
        all_goals first | (rw [hl] at *; contradiction) | exact AW.ret (hD rfl (Lx.b rfl))
    · exact AW.ret (hD rfl (Lx.b rfl))
end Go.Proofs.Ytmfonbehcfjjgaa.Mv
