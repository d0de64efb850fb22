/- A node trimmed by the document. Under no condition. -/
import Derived.Test.YtocppeifkjdeiaaTrimC
import Derived.Test.YtocppeifkjdeiaaNodeR
namespace Go.Proofs.Ytocppeifkjdeiaa.Mv
open Go Go.Proofs
set_option linter.unusedSimpArgs false
set_option linter.unusedVariables false
set_option maxRecDepth 10000
set_option maxHeartbeats 4000000
attribute [local irreducible] AW AO AR

theorem lt_of_le_lt {a b c : L} (h1 : lt b a = false) (h2 : lt b c = true) : lt a c = true := by
  rcases lt_total a b with h | h | h
  · exact lt_trans h h2
  · subst h; exact h2
  · rw [h] at h1; cases h1
/-- A range stands in that of a beginning just if all its keys begin so. -/
theorem ins_und {lo hi : L} {e : Bool} {a : L} (h : emR lo hi e = false) : insS lo hi e a (succS a) (succOk a) = hp (undS lo hi e) a := by
  rw [Bool.eq_iff_iff]
  constructor
  · intro q
    simp only [insS, h, Bool.false_or, Bool.and_eq_true, Bool.or_eq_true, Bool.not_eq_true'] at q
    obtain ⟨q1, q2⟩ := q
    have q3 : hp lo a = true := by
      cases q4 : hp lo a with
      | true => rfl
      | false =>
        obtain ⟨q5, q6⟩ := (succ_facts a lo).2.1 q1 q4
        rcases q2 with q2 | q2
        · rw [q5] at q2; cases q2
        · have q7 := le_trans' q2.2 q6
          simp only [emR, q2.1, Bool.true_and, Bool.not_eq_false'] at h
          rw [h] at q7; cases q7
    have w : wiS lo hi e a = true := by
      simp only [wiS, q3, Bool.true_and, Bool.or_eq_true, Bool.not_eq_true', Bool.and_eq_true]
      exact q2
    have l := hp_len q3
    have t := hp_iff.1 q3
    have u : undS lo hi e = lo.take (undN lo hi e lo.length) := by simp [undS, h]
    obtain ⟨w1, w2⟩ := undN_spec lo hi e lo.length
    have le : a.length ≤ undN lo hi e lo.length := by
      cases Nat.lt_or_ge (undN lo hi e lo.length) a.length with
      | inl g =>
        have := w2 _ g l
        rw [t, w] at this; cases this
      | inr g => exact g
    rw [u, hp_iff, List.take_take, Nat.min_eq_left le, t]
  · intro q
    have all : ∀ k, inR lo hi e k = true → hp k a = true := fun k hk => hp_trans ((und_facts lo hi e k).2.2.1 hk) q
    have q3 := all lo (in_lo h)
    obtain ⟨s1, s2⟩ := (succ_facts a lo).1 q3
    simp only [insS, h, Bool.false_or, Bool.and_eq_true, Bool.or_eq_true, Bool.not_eq_true']
    refine ⟨s1, ?_⟩
    cases ok : succOk a with
    | false => exact .inl rfl
    | true =>
      right
      have bad : inR lo hi e (succS a) = false := by
        cases g : inR lo hi e (succS a) with
        | false => rfl
        | true =>
          have g2 := ((succ_facts a (succS a)).1 (all _ g)).2 ok
          rw [lt_irrefl] at g2; cases g2
      have s3 := lt_asymm (s2 ok)
      simp only [inR, s3, Bool.not_false, Bool.true_and, Bool.or_eq_false_iff, Bool.not_eq_false'] at bad
      exact ⟨bad.1, bad.2⟩
theorem emC_in {x r : L × L × Bool} (h : emC x r = false) : ∃ k, inR x.1 x.2.1 x.2.2 k = true ∧ inR r.1 r.2.1 r.2.2 k = true := by
  obtain ⟨l1, h1, e1⟩ := x
  obtain ⟨l2, h2, e2⟩ := r
  simp only [emC] at h
  have hc : cutEm l1 h1 e1 l2 h2 e2 = false := by
    cases g : cutEm l1 h1 e1 l2 h2 e2 with
    | false => rfl
    | true => simp [cS, g, emR, lt_irrefl] at h
  refine ⟨mxS l1 l2, ?_⟩
  have := in_lo (lo := mxS l1 l2) (hi := cutHi l1 h1 e1 l2 h2 e2) (e := e1 || e2) hc
  rw [cut_in, Bool.and_eq_true] at this
  exact this
theorem le_rise {ks : List L} (h : rise ks = true) {i j : Nat} (hij : i ≤ j) (hj : j < ks.length) : lt (ks.getD j default) (ks.getD i default) = false := by
  by_cases e : i = j
  · subst e; exact lt_irrefl _
  · exact lt_asymm (rise_lt h j (by omega) hj)
/-- The beginning of a kid's range that is not the first in a range stands in it. -/
theorem piv_in {n : Nd} {r : L × L × Bool} (hl : n.pivots.length + 1 = n.kids.length) (hr : rise n.pivots = true) {j q : Nat} (hjq : j < q) (hq : q < n.kids.length) (h1 : emC (rgN n j) r = false) (h2 : emC (rgN n q) r = false) : inR r.1 r.2.1 r.2.2 (rgN n q).1 = true := by
  obtain ⟨k1, a1, b1⟩ := emC_in h1
  obtain ⟨k2, a2, b2⟩ := emC_in h2
  have e1 : (rgN n j).2.1 = n.pivots.getD j default ∧ (rgN n j).2.2 = true := by
    unfold rgN; rw [if_neg (by omega)]
    simp only
    rw [if_pos (by omega), show ((j : Nat) : Int).toNat = j by omega]
    exact ⟨rfl, decide_eq_true (by omega)⟩
  have e2 : (rgN n q).1 = n.pivots.getD (q - 1) default := by
    unfold rgN; rw [if_neg (by omega)]
    simp only
    rw [if_pos (by omega), show (((q : Nat) : Int) - 1).toNat = q - 1 by omega]
  have f1 : lt k1 (n.pivots.getD j default) = true := by
    simp only [inR, e1.1, e1.2, Bool.and_eq_true, Bool.not_true, Bool.false_or] at a1; exact a1.2
  have f2 := lt_of_lt_le f1 (le_rise hr (show j ≤ q - 1 by omega) (by omega))
  rw [← e2] at f2
  simp only [inR, Bool.and_eq_true, Bool.not_eq_true', Bool.or_eq_true] at a2 b1 b2 ⊢
  refine ⟨lt_asymm (lt_of_le_lt b1.1 f2), ?_⟩
  rcases b2.2 with b | b
  · exact .inl b
  · exact .inr (lt_of_le_lt a2.1 b)
theorem gJoin0' (a s2 a2 : L) (h1 : a2.length ≤ 1000000) (h2 : a.length ≤ 1000000) (h3 : s2.length ≤ 1000000) : Good Try.prog 34 [.agg [.s [], .s a], .agg [.s s2, .s a2]] [] (.tup [.agg [.s (joinS [] a s2 a2), .s (joinA [] a s2 a2)], .b (joinOk [] a s2 a2)]) [] :=
  gJoin' [] a s2 a2 (by omega) (by show 0 + _ ≤ _; omega)
theorem gTrimF' (pivots : List L) (kids : List Ed) (buf : List Ms) (r : L × L × Bool) (a : L) (hs : (⟨false, [], pivots, kids, buf⟩ : Nd).small) (hx : (⟨false, [], pivots, kids, buf⟩ : Nd).strs) (ha : a.length ≤ 1000000) (h0 : mayN ⟨false, [], pivots, kids, buf⟩ = 0) (g : (emR r.1 r.2.1 r.2.2 || !hp (undS r.1 r.2.1 r.2.2) a) = false) :
    Good Try.prog 27 [.agg (Nd.av ⟨false, [], pivots, kids, buf⟩), .agg [.s r.1, .s r.2.1, .b r.2.2], .s a] [] (.tup [.agg (trN ⟨false, [], pivots, kids, buf⟩ r a).av, .i .i64 (trE ⟨false, [], pivots, kids, buf⟩ r a)]) [] := by
  have hs3 : kids.length ≤ 1000000 := hs.kids
  have hs4 : buf.length ≤ 1000000 := hs.buf
  have hx1 : buf.all msSm = true := hx.buf
  have ll : (kids.map Ed.av).length = kids.length := by simp
  obtain ⟨pl, pr, _⟩ := inner_len (may_inner h0 rfl).1
  simp only [Bool.or_eq_false_iff, Bool.not_eq_false'] at g
  obtain ⟨g1, g2⟩ := g
  have g3 : insS r.1 r.2.1 r.2.2 a (succS a) (succOk a) = true := by rw [ins_und g1]; exact g2
  have g : (emR r.1 r.2.1 r.2.2 || !hp (undS r.1 r.2.1 r.2.2) a) = false := by rw [g1, g2]; rfl
  refine Good.w tabOk mixed Try.func27 (N := 145) (by kernel_rfl) rfl (by (repeat (first | exact LE.nil | apply LE.cons)); done) (by (repeat (first | exact LE.nil | apply LE.cons)); done) fun D hD F => ?_
  repeat' (first
    | apply AO.nil
    | (apply AO.kCall 22; refine AO.sCall (hg := (gMay' ⟨false, [], pivots, kids, buf⟩ hs)) (h := ?_))
    | (apply AO.kCall 62; refine AO.sCall (hg := (gEmpty' _ _ _)) (h := ?_))
    | (apply AO.kCall 68; refine AO.sCall (hg := (gOf' _ sd)) (h := ?_))
    | (apply AO.kCall 31; refine AO.sCall (hg := (gInside _ _ _ _ _ _)) (h := ?_))
    | (apply AO.kBuildS; first | refine AO.sBuildT (h := ?_) | refine AO.sBuildS (h := ?_))
    | (apply AO.kApp; first | refine AO.sGrowT (h := ?_) | refine AO.sNewT (h := ?_) | refine AO.sGrowBT (h := ?_) | refine AO.sGrow (h := ?_) | refine AO.sNewr (h := ?_))
    | (apply AO.kIx; first | refine AO.sIxN (h := ?_) | refine AO.sIx (h := ?_) | refine AO.sP (h := ?_) | refine AO.sPi (h := ?_))
    | (apply AO.kSl; first | refine AO.sSl (h := ?_) | refine AO.sSlArr (h := ?_) | refine AO.sP (h := ?_))
    | (apply AO.kBox; refine AO.sBox (h := ?_))
    | (apply AO.kAlloc; refine AO.sAlloc (h := ?_))
    | (apply AO.kStore; first | refine AO.sStore (h := ?_) | refine AO.sStB (h := ?_))
    | (apply AO.kAdd; refine AO.sAdd (h := ?_))
    | (apply AO.kSub; refine AO.sSub (h := ?_))
    | (apply AO.kCv; first | refine AO.sBytes (h := ?_) | refine AO.sStr (h := ?_) | refine AO.sStrR (h := ?_))
    | (apply AO.kP; first | refine AO.sP (h := ?_) | refine AO.sPi (h := ?_) | refine AO.sLoadB (h := ?_) | refine AO.sSameB (h := ?_) | refine AO.sMk0 (h := ?_) | refine AO.sArrB (h := ?_) | refine AO.sLoadA (h := ?_) | refine AO.sEqArr (heg := eqgArr) (h := ?_))
    | (apply AO.kP; refine AO.eqNil (h1 := fun h => ?_) (h2 := ?_))
    | apply AW.seq
    | (apply AW.kR; refine AW.sR (h := ?_))
    | apply AW.skip
    | apply AW.block
    | apply AW.out
    | (apply AW.kE; refine AW.sE (h := ?_))
    | apply AW.label
    | (apply AW.kRd; refine AW.sRd (h := ?_))
    | ((first | (apply AO.kG; first | refine AO.sgt (h1 := fun h => ?_) (h2 := fun h => ?_) | refine AO.sgf (h1 := fun h => ?_) (h2 := fun h => ?_) | refine AO.sgs (h := ?_)) | (apply AW.kC; refine AW.sC (h1 := fun h => ?_) (h2 := fun h => ?_)) | (apply AR.kAny; apply AR.kG; first | refine AR.sgt (h1 := fun h => ?_) (h2 := fun h => ?_) | refine AR.sgf (h1 := fun h => ?_) (h2 := fun h => ?_) | refine AR.sgs (h := ?_))) <;> (try (first | exact Bool.noConfusion h | exact absurd h (by decide) | (simp at h; done) | (rw [h]; try simp only [decide_eq_true_eq, decide_eq_false_iff_not, Int.not_lt, Int.not_le, ge_iff_le, gt_iff_lt, Bool.not_eq_true', Bool.not_eq_false', beq_iff_eq, beq_eq_false_iff_ne, ne_eq] at h; try rw [h]; try (exfalso; omega)) | skip)))
    | (apply AR.kAny; first | (apply AR.kCall 22; refine AR.sCall (hg := (gMay' ⟨false, [], pivots, kids, buf⟩ hs)) (h := ?_)) | (apply AR.kCall 62; refine AR.sCall (hg := (gEmpty' _ _ _)) (h := ?_)) | (apply AR.kCall 68; refine AR.sCall (hg := (gOf' _ sd)) (h := ?_)) | (apply AR.kCall 31; refine AR.sCall (hg := (gInside _ _ _ _ _ _)) (h := ?_)) | (apply AR.kBuildS; first | refine AR.sBuildT (h := ?_) | refine AR.sBuildS (h := ?_)) | (apply AR.kApp; first | refine AR.sGrowT (h := ?_) | refine AR.sNewT (h := ?_) | refine AR.sGrowBT (h := ?_) | refine AR.sGrow (h := ?_) | refine AR.sNewr (h := ?_)) | (apply AR.kIx; first | refine AR.sIxN (h := ?_) | refine AR.sIx (h := ?_) | refine AR.sP (h := ?_) | refine AR.sPi (h := ?_)) | (apply AR.kSl; first | refine AR.sSl (h := ?_) | refine AR.sSlArr (h := ?_) | refine AR.sP (h := ?_)) | (apply AR.kBox; refine AR.sBox (h := ?_)) | (apply AR.kAlloc; refine AR.sAlloc (h := ?_)) | (apply AR.kStore; refine AR.sStore (h := ?_)) | (apply AR.kAdd; refine AR.sAdd (h := ?_)) | (apply AR.kSub; refine AR.sSub (h := ?_)) | (apply AR.kCv; refine AR.sStrR (h := ?_)) | (apply AR.kP; first | refine AR.sP (h := ?_) | refine AR.sPi (h := ?_) | refine AR.sArrB (h := ?_) | refine AR.sLoadA (h := ?_) | refine AR.sEqArr (heg := eqgArr) (h := ?_)))
    | (apply AR.kNil; refine AR.sNil (h := ?_)))
  · exact absurd h0 (ne0 h)
  · rw [g3] at h; cases h
  · refine AW.loopI (fun _ : Unit => True) (fun _ => ⟨[(2, .s a), (3, .ptr 3 0), (4, .ptr 4 0), (6, .ptr 6 0), (8, .ptr 8 0), (9, .ptr 9 0), (39, .i .i64 0), (40, .i .i64 0)], [(3, .bx (Nd.av ⟨false, [], pivots, kids, buf⟩)), (4, .bx [.s r.1, .s r.2.1, .b r.2.2]), (6, .bx [.b false, .nil, .nil, .nil, .nil]), (8, .bx [.b false, .nil, .nil, .nil, .nil]), (9, .bx [.b false, .nil, .nil, .nil, .nil])]⟩) (fun _ => 0) () trivial (by (constructor <;> (repeat' (first | exact LeT.nil | exact LeB.nil | apply LeT.cons | apply LeB.cons | exact Ol.refl | apply Lx.s | apply Lx.b | apply Lx.i | exact Lx.refl)) <;> (first | rfl | assumption | omega | (simp only [List.length_map, BS_len]; done) | skip))) fun m _ _ _ => ?_
    repeat' (first
    | apply AO.nil
    | (apply AO.kBuildS; first | refine AO.sBuildT (h := ?_) | refine AO.sBuildS (h := ?_))
    | (apply AO.kApp; first | refine AO.sGrowT (h := ?_) | refine AO.sNewT (h := ?_) | refine AO.sGrowBT (h := ?_) | refine AO.sGrow (h := ?_) | refine AO.sNewr (h := ?_))
    | (apply AO.kIx; first | refine AO.sIxN (h := ?_) | refine AO.sIx (h := ?_) | refine AO.sP (h := ?_) | refine AO.sPi (h := ?_))
    | (apply AO.kSl; first | refine AO.sSl (h := ?_) | refine AO.sSlArr (h := ?_) | refine AO.sP (h := ?_))
    | (apply AO.kBox; refine AO.sBox (h := ?_))
    | (apply AO.kAlloc; refine AO.sAlloc (h := ?_))
    | (apply AO.kStore; first | refine AO.sStore (h := ?_) | refine AO.sStB (h := ?_))
    | (apply AO.kAdd; refine AO.sAdd (h := ?_))
    | (apply AO.kSub; refine AO.sSub (h := ?_))
    | (apply AO.kCv; first | refine AO.sBytes (h := ?_) | refine AO.sStr (h := ?_) | refine AO.sStrR (h := ?_))
    | (apply AO.kP; first | refine AO.sP (h := ?_) | refine AO.sPi (h := ?_) | refine AO.sLoadB (h := ?_) | refine AO.sSameB (h := ?_) | refine AO.sMk0 (h := ?_) | refine AO.sArrB (h := ?_) | refine AO.sLoadA (h := ?_) | refine AO.sEqArr (heg := eqgArr) (h := ?_))
    | (apply AO.kP; refine AO.eqNil (h1 := fun h => ?_) (h2 := ?_))
    | apply AW.seq
    | (apply AW.kR; refine AW.sR (h := ?_))
    | apply AW.skip
    | apply AW.block
    | apply AW.out
    | (apply AW.kE; refine AW.sE (h := ?_))
    | apply AW.label
    | (apply AW.kRd; refine AW.sRd (h := ?_))
    | ((first | (apply AO.kG; first | refine AO.sgt (h1 := fun h => ?_) (h2 := fun h => ?_) | refine AO.sgf (h1 := fun h => ?_) (h2 := fun h => ?_) | refine AO.sgs (h := ?_)) | (apply AW.kC; refine AW.sC (h1 := fun h => ?_) (h2 := fun h => ?_)) | (apply AR.kAny; apply AR.kG; first | refine AR.sgt (h1 := fun h => ?_) (h2 := fun h => ?_) | refine AR.sgf (h1 := fun h => ?_) (h2 := fun h => ?_) | refine AR.sgs (h := ?_))) <;> (try (first | exact Bool.noConfusion h | exact absurd h (by decide) | (simp at h; done) | (rw [h]; try simp only [decide_eq_true_eq, decide_eq_false_iff_not, Int.not_lt, Int.not_le, ge_iff_le, gt_iff_lt, Bool.not_eq_true', Bool.not_eq_false', beq_iff_eq, beq_eq_false_iff_ne, ne_eq] at h; try rw [h]; try (exfalso; omega)) | skip)))
    | (apply AR.kAny; first | (apply AR.kBuildS; first | refine AR.sBuildT (h := ?_) | refine AR.sBuildS (h := ?_)) | (apply AR.kApp; first | refine AR.sGrowT (h := ?_) | refine AR.sNewT (h := ?_) | refine AR.sGrowBT (h := ?_) | refine AR.sGrow (h := ?_) | refine AR.sNewr (h := ?_)) | (apply AR.kIx; first | refine AR.sIxN (h := ?_) | refine AR.sIx (h := ?_) | refine AR.sP (h := ?_) | refine AR.sPi (h := ?_)) | (apply AR.kSl; first | refine AR.sSl (h := ?_) | refine AR.sSlArr (h := ?_) | refine AR.sP (h := ?_)) | (apply AR.kBox; refine AR.sBox (h := ?_)) | (apply AR.kAlloc; refine AR.sAlloc (h := ?_)) | (apply AR.kStore; refine AR.sStore (h := ?_)) | (apply AR.kAdd; refine AR.sAdd (h := ?_)) | (apply AR.kSub; refine AR.sSub (h := ?_)) | (apply AR.kCv; refine AR.sStrR (h := ?_)) | (apply AR.kP; first | refine AR.sP (h := ?_) | refine AR.sPi (h := ?_) | refine AR.sArrB (h := ?_) | refine AR.sLoadA (h := ?_) | refine AR.sEqArr (heg := eqgArr) (h := ?_)))
    | (apply AR.kNil; refine AR.sNil (h := ?_)))
    refine AW.nilrow 901 9 1 (St.freeB_ok rfl) (st' := ⟨[(2, .s a), (3, .ptr 3 0), (4, .ptr 4 0), (6, .ptr 6 0), (8, .ptr 8 0), (9, .ptr 9 0), (68, .i .i64 (kids.length : Nat)), (69, .i .i64 (0 : Nat))], [(3, .bx (Nd.av ⟨false, [], pivots, kids, buf⟩)), (4, .bx [.s r.1, .s r.2.1, .b r.2.2]), (6, .bx [.b false, .nil, .nil, .nil, .nil]), (8, .bx [.b false, .nil, .nil, .nil, .nil]), (9, .bx [.b false, .nil, .gr 901 9 1 [], .nil, .nil]), (901, .gw 0)]⟩) ⟨by ((repeat' (first | exact LeT.nil | apply LeT.cons | exact Lx.nilG | apply Lx.s | apply Lx.b | apply Lx.i | exact Lx.refl)) <;> (first | rfl | assumption | omega | (simp only [List.length_map, BS_len]; done) | skip)), .cons .refl (.cons .refl (.cons .refl (.cons .refl (.cons (.bx (.cons .refl (.cons .refl (.cons .nilG (.cons .refl (.cons .refl .nil)))))) (.cons .refl .nil)))))⟩ ?_
    refine AW.nilrow 902 101 4 (St.freeB_ok rfl) (st' := ⟨[(2, .s a), (3, .ptr 3 0), (4, .ptr 4 0), (6, .ptr 6 0), (8, .ptr 8 0), (9, .ptr 9 0), (68, .i .i64 (kids.length : Nat)), (69, .i .i64 (0 : Nat))], [(3, .bx (Nd.av ⟨false, [], pivots, kids, buf⟩)), (4, .bx [.s r.1, .s r.2.1, .b r.2.2]), (6, .bx [.b false, .nil, .nil, .nil, .nil]), (8, .bx [.b false, .nil, .nil, .nil, .nil]), (9, .bx [.b false, .nil, .gr 901 9 1 [], .gr 902 101 4 [], .nil]), (901, .gw 0), (902, .gw 0)]⟩) ⟨by ((repeat' (first | exact LeT.nil | apply LeT.cons | exact Lx.nilG | apply Lx.s | apply Lx.b | apply Lx.i | exact Lx.refl)) <;> (first | rfl | assumption | omega | (simp only [List.length_map, BS_len]; done) | skip)), .cons .refl (.cons .refl (.cons .refl (.cons .refl (.cons (.bx (.cons .refl (.cons .refl (.cons .refl (.cons .nilG (.cons .refl .nil)))))) (.cons .refl (.cons .refl .nil))))))⟩ ?_
    refine AW.loopI (fun x : Nat × List L × List Ed => x.1 ≤ kids.length ∧ x.2.1.length ≤ x.1 ∧ x.2.2.length ≤ x.1 ∧ kRun ⟨false, [], pivots, kids, buf⟩ r a (kids.length - x.1) x.1 x.2.1 x.2.2 = kRun ⟨false, [], pivots, kids, buf⟩ r a kids.length 0 [] [] ∧ (0 < x.2.2.length → ∃ j, j < x.1 ∧ emC (rgN ⟨false, [], pivots, kids, buf⟩ j) r = false)) (fun x => ⟨[(2, .s a), (3, .ptr 3 0), (4, .ptr 4 0), (6, .ptr 6 0), (8, .ptr 8 0), (9, .ptr 9 0), (68, .i .i64 (kids.length : Nat)), (69, .i .i64 x.1)], [(3, .bx (Nd.av ⟨false, [], pivots, kids, buf⟩)), (4, .bx [.s r.1, .s r.2.1, .b r.2.2]), (6, .bx [.b false, .nil, .nil, .nil, .nil]), (8, .bx [.b false, .nil, .nil, .nil, .nil]), (9, .bx [.b false, .nil, .gr 901 9 1 (x.2.1.map sav), .gr 902 101 4 (x.2.2.map Ed.av), .nil]), (901, .gw (x.2.1.map sav).length), (902, .gw (x.2.2.map Ed.av).length)]⟩) (fun x => kids.length - x.1) (0, [], []) ⟨by simp, by simp, by simp, by simp, by simp⟩ (by (constructor <;> (repeat' (first | exact LeT.nil | exact LeB.nil | apply LeT.cons | apply LeB.cons | exact Ol.refl | apply Lx.s | apply Lx.b | apply Lx.i | exact Lx.refl)) <;> (first | rfl | assumption | omega | (simp only [List.length_map, BS_len]; done) | skip))) fun m ⟨q, ps, ks⟩ ⟨hn, lp, lk, ho, hj⟩ ih => ?_
    dsimp only at hn lp lk ho hj ih ⊢
    have lp' : (ps.map sav).length = ps.length := by simp
    have lk' : (ks.map Ed.av).length = ks.length := by simp
    by_cases hq : q < kids.length
    · obtain ⟨s1, s2⟩ := hx.kids q hq
      have hq2 : emC (rgN ⟨false, [], pivots, kids, buf⟩ q) r = false → 0 < ks.length → hp (rgN ⟨false, [], pivots, kids, buf⟩ q).1 a = true := fun h1 h2 => by
        obtain ⟨j, j1, j2⟩ := hj h2
        exact hp_trans ((und_facts _ _ _ _).2.2.1 (piv_in (n := ⟨false, [], pivots, kids, buf⟩) pl pr j1 hq j2 h1)) g2
      repeat' (first
    | apply AO.nil
    | (apply AO.kCall 73; refine AO.sCall (hg := (gRange' ⟨false, [], pivots, kids, buf⟩ _ hs (by first | decide | omega | assumption | (simp only [List.length_nil]; omega) | (have q9 := hp_len (hq2 ‹emR _ _ _ = false› (by omega)); (try refine ⟨?_, ?_⟩) <;> omega)))) (h := ?_))
    | (apply AO.kCall 56; refine AO.sCall (hg := (gCut' _ _ _ _ _ _)) (h := ?_))
    | (apply AO.kCall 62; refine AO.sCall (hg := (gEmpty' _ _ _)) (h := ?_))
    | (apply AO.kCall 34; refine AO.sCall (hg := (gJoin0' _ _ _ s2 ha s1)) (h := ?_))
    | (apply AO.kBuildS; first | refine AO.sBuildT (h := ?_) | refine AO.sBuildS (h := ?_))
    | (apply AO.kApp; first | refine AO.sGrowT (h := ?_) | refine AO.sNewT (h := ?_) | refine AO.sGrowBT (h := ?_) | refine AO.sGrow (h := ?_) | refine AO.sNewr (h := ?_))
    | (apply AO.kIx; first | refine AO.sIxN (hm := by first | decide | omega | assumption | (simp only [List.length_nil]; omega) | (have q9 := hp_len (hq2 ‹emR _ _ _ = false› (by omega)); (try refine ⟨?_, ?_⟩) <;> omega)) (h := ?_) | refine AO.sIx (hm := by first | decide | omega | assumption | (simp only [List.length_nil]; omega) | (have q9 := hp_len (hq2 ‹emR _ _ _ = false› (by omega)); (try refine ⟨?_, ?_⟩) <;> omega)) (h := ?_) | refine AO.sP (h := ?_) | refine AO.sPi (hq := by first | decide | omega | assumption | (simp only [List.length_nil]; omega) | (have q9 := hp_len (hq2 ‹emR _ _ _ = false› (by omega)); (try refine ⟨?_, ?_⟩) <;> omega)) (h := ?_))
    | (apply AO.kSl; first | refine AO.sSl (hq := by first | decide | omega | assumption | (simp only [List.length_nil]; omega) | (have q9 := hp_len (hq2 ‹emR _ _ _ = false› (by omega)); (try refine ⟨?_, ?_⟩) <;> omega)) (h := ?_) | refine AO.sSlArr (h := ?_) | refine AO.sP (h := ?_))
    | (apply AO.kBox; refine AO.sBox (h := ?_))
    | (apply AO.kAlloc; refine AO.sAlloc (h := ?_))
    | (apply AO.kStore; first | refine AO.sStore (h := ?_) | refine AO.sStB (ho := by first | decide | omega | assumption | (simp only [List.length_nil]; omega) | (have q9 := hp_len (hq2 ‹emR _ _ _ = false› (by omega)); (try refine ⟨?_, ?_⟩) <;> omega)) (h := ?_))
    | (apply AO.kAdd; refine AO.sAdd (hr := by first | decide | omega | assumption | (simp only [List.length_nil]; omega) | (have q9 := hp_len (hq2 ‹emR _ _ _ = false› (by omega)); (try refine ⟨?_, ?_⟩) <;> omega)) (h := ?_))
    | (apply AO.kSub; refine AO.sSub (hr := by first | decide | omega | assumption | (simp only [List.length_nil]; omega) | (have q9 := hp_len (hq2 ‹emR _ _ _ = false› (by omega)); (try refine ⟨?_, ?_⟩) <;> omega)) (h := ?_))
    | (apply AO.kCv; first | refine AO.sBytes (h := ?_) | refine AO.sStr (h := ?_) | refine AO.sStrR (h := ?_))
    | (apply AO.kP; first | refine AO.sP (h := ?_) | refine AO.sPi (hq := by first | decide | omega | assumption | (simp only [List.length_nil]; omega) | (have q9 := hp_len (hq2 ‹emR _ _ _ = false› (by omega)); (try refine ⟨?_, ?_⟩) <;> omega)) (h := ?_) | refine AO.sLoadB (ho := by first | decide | omega | assumption | (simp only [List.length_nil]; omega) | (have q9 := hp_len (hq2 ‹emR _ _ _ = false› (by omega)); (try refine ⟨?_, ?_⟩) <;> omega)) (h := ?_) | refine AO.sSameB (h := ?_) | refine AO.sMk0 (h := ?_) | refine AO.sArrB (h := ?_) | refine AO.sLoadA (h := ?_) | refine AO.sEqArr (heg := eqgArr) (h := ?_))
    | (apply AO.kP; refine AO.eqNil (h1 := fun h => ?_) (h2 := ?_))
    | apply AW.seq
    | (apply AW.kR; refine AW.sR (h := ?_))
    | apply AW.skip
    | apply AW.block
    | apply AW.out
    | (apply AW.kE; refine AW.sE (h := ?_))
    | apply AW.label
    | (apply AW.kRd; refine AW.sRd (h := ?_))
    | ((first | (apply AO.kG; first | refine AO.sgt (h1 := fun h => ?_) (h2 := fun h => ?_) | refine AO.sgf (h1 := fun h => ?_) (h2 := fun h => ?_) | refine AO.sgs (h := ?_)) | (apply AW.kC; refine AW.sC (h1 := fun h => ?_) (h2 := fun h => ?_)) | (apply AR.kAny; apply AR.kG; first | refine AR.sgt (h1 := fun h => ?_) (h2 := fun h => ?_) | refine AR.sgf (h1 := fun h => ?_) (h2 := fun h => ?_) | refine AR.sgs (h := ?_))) <;> (try (first | exact Bool.noConfusion h | exact absurd h (by decide) | (simp at h; done) | (rw [h]; try simp only [decide_eq_true_eq, decide_eq_false_iff_not, Int.not_lt, Int.not_le, ge_iff_le, gt_iff_lt, Bool.not_eq_true', Bool.not_eq_false', beq_iff_eq, beq_eq_false_iff_ne, ne_eq] at h; try rw [h]; try (exfalso; omega)) | skip)))
    | (apply AR.kAny; first | (apply AR.kCall 73; refine AR.sCall (hg := (gRange' ⟨false, [], pivots, kids, buf⟩ _ hs (by first | decide | omega | assumption | (simp only [List.length_nil]; omega) | (have q9 := hp_len (hq2 ‹emR _ _ _ = false› (by omega)); (try refine ⟨?_, ?_⟩) <;> omega)))) (h := ?_)) | (apply AR.kCall 56; refine AR.sCall (hg := (gCut' _ _ _ _ _ _)) (h := ?_)) | (apply AR.kCall 62; refine AR.sCall (hg := (gEmpty' _ _ _)) (h := ?_)) | (apply AR.kCall 34; refine AR.sCall (hg := (gJoin0' _ _ _ s2 ha s1)) (h := ?_)) | (apply AR.kBuildS; first | refine AR.sBuildT (h := ?_) | refine AR.sBuildS (h := ?_)) | (apply AR.kApp; first | refine AR.sGrowT (h := ?_) | refine AR.sNewT (h := ?_) | refine AR.sGrowBT (h := ?_) | refine AR.sGrow (h := ?_) | refine AR.sNewr (h := ?_)) | (apply AR.kIx; first | refine AR.sIxN (hm := by first | decide | omega | assumption | (simp only [List.length_nil]; omega) | (have q9 := hp_len (hq2 ‹emR _ _ _ = false› (by omega)); (try refine ⟨?_, ?_⟩) <;> omega)) (h := ?_) | refine AR.sIx (hm := by first | decide | omega | assumption | (simp only [List.length_nil]; omega) | (have q9 := hp_len (hq2 ‹emR _ _ _ = false› (by omega)); (try refine ⟨?_, ?_⟩) <;> omega)) (h := ?_) | refine AR.sP (h := ?_) | refine AR.sPi (hq := by first | decide | omega | assumption | (simp only [List.length_nil]; omega) | (have q9 := hp_len (hq2 ‹emR _ _ _ = false› (by omega)); (try refine ⟨?_, ?_⟩) <;> omega)) (h := ?_)) | (apply AR.kSl; first | refine AR.sSl (hq := by first | decide | omega | assumption | (simp only [List.length_nil]; omega) | (have q9 := hp_len (hq2 ‹emR _ _ _ = false› (by omega)); (try refine ⟨?_, ?_⟩) <;> omega)) (h := ?_) | refine AR.sSlArr (h := ?_) | refine AR.sP (h := ?_)) | (apply AR.kBox; refine AR.sBox (h := ?_)) | (apply AR.kAlloc; refine AR.sAlloc (h := ?_)) | (apply AR.kStore; refine AR.sStore (h := ?_)) | (apply AR.kAdd; refine AR.sAdd (hr := by first | decide | omega | assumption | (simp only [List.length_nil]; omega) | (have q9 := hp_len (hq2 ‹emR _ _ _ = false› (by omega)); (try refine ⟨?_, ?_⟩) <;> omega)) (h := ?_)) | (apply AR.kSub; refine AR.sSub (hr := by first | decide | omega | assumption | (simp only [List.length_nil]; omega) | (have q9 := hp_len (hq2 ‹emR _ _ _ = false› (by omega)); (try refine ⟨?_, ?_⟩) <;> omega)) (h := ?_)) | (apply AR.kCv; refine AR.sStrR (h := ?_)) | (apply AR.kP; first | refine AR.sP (h := ?_) | refine AR.sPi (hq := by first | decide | omega | assumption | (simp only [List.length_nil]; omega) | (have q9 := hp_len (hq2 ‹emR _ _ _ = false› (by omega)); (try refine ⟨?_, ?_⟩) <;> omega)) (h := ?_) | refine AR.sArrB (h := ?_) | refine AR.sLoadA (h := ?_) | refine AR.sEqArr (heg := eqgArr) (h := ?_)))
    | (apply AR.kNil; refine AR.sNil (h := ?_)))
      · have k1 : emC (rgN (⟨false, [], pivots, kids, buf⟩ : Nd) q) r = true := h
        exact ih (q + 1, ps, ks) _ ⟨by dsimp only; omega, by dsimp only; omega, by dsimp only; omega, by dsimp only; rw [← ho]; exact (kRun_skip (n := (⟨false, [], pivots, kids, buf⟩ : Nd)) hq k1).symm, fun h1 => by obtain ⟨j, j1, j2⟩ := hj h1; exact ⟨j, by dsimp only; omega, j2⟩⟩ (by dsimp only; omega) (by (constructor <;> (repeat' (first | exact LeT.nil | exact LeB.nil | apply LeT.cons | apply LeB.cons | exact Ol.refl | apply Lx.s | apply Lx.b | apply Lx.i | exact Lx.refl)) <;> (first | rfl | assumption | omega | (simp only [List.length_map, BS_len]; done) | skip)))
      · have k1 : emC (rgN (⟨false, [], pivots, kids, buf⟩ : Nd) q) r = false := ‹emR _ _ _ = false›
        have k2 : kidOk (⟨false, [], pivots, kids, buf⟩ : Nd) a q = false := by
          show (joinOk [] a (kids.getD q default).strip (kids.getD q default).add && (decide ((joinS [] a (kids.getD q default).strip (kids.getD q default).add).length ≤ 16) && decide ((joinA [] a (kids.getD q default).strip (kids.getD q default).add).length ≤ 16))) = false
          rw [decide_eq_false (show ¬ (joinA [] a (kids.getD q default).strip (kids.getD q default).add).length ≤ 16 by omega), Bool.and_false, Bool.and_false]
        have k3 := kRun_bad (n := (⟨false, [], pivots, kids, buf⟩ : Nd)) (ps := ps) (ks := ks) hq k1 k2
        obtain ⟨t1, t2⟩ := trK1 (n := (⟨false, [], pivots, kids, buf⟩ : Nd)) (r := r) (a := a) h0 g rfl (by rw [← ho, k3])
        rw [t1, t2] at hD
        exact AW.ret (hD rfl (Lx.tup (.cons (Lx.agg (.cons .refl (.cons .nil (.cons .nil (.cons .nil (.cons .nil .nil)))))) (.cons (Lx.i rfl) .nil))))
      · have k1 : emC (rgN (⟨false, [], pivots, kids, buf⟩ : Nd) q) r = false := ‹emR _ _ _ = false›
        have k2 : kidOk (⟨false, [], pivots, kids, buf⟩ : Nd) a q = true := by
          show (joinOk [] a (kids.getD q default).strip (kids.getD q default).add && (decide ((joinS [] a (kids.getD q default).strip (kids.getD q default).add).length ≤ 16) && decide ((joinA [] a (kids.getD q default).strip (kids.getD q default).add).length ≤ 16))) = true
          rw [‹joinOk _ _ _ _ = true›, decide_eq_true (by omega), decide_eq_true (by omega)]; rfl
        have k3 : 0 < ks.length := by omega
        have ho2 := kRun_more (n := (⟨false, [], pivots, kids, buf⟩ : Nd)) (ps := ps) (ks := ks) hq k1 k2
        rw [if_pos k3, ho] at ho2
        rw [cutS_hp (hq2 k1 k3)] at ho2
        exact ih (q + 1, ps ++ [(rgN (⟨false, [], pivots, kids, buf⟩ : Nd) q).1.drop a.length], ks ++ [trKid (⟨false, [], pivots, kids, buf⟩ : Nd) a q]) _ ⟨by dsimp only; omega, by dsimp only; (try simp only [List.length_append, List.length_cons, List.length_nil]); omega, by dsimp only; simp only [List.length_append, List.length_cons, List.length_nil]; omega, ho2.symm, fun _ => ⟨q, by dsimp only; omega, k1⟩⟩ (by dsimp only; omega) (by ((constructor <;> (repeat' (first | exact LeT.nil | exact LeB.nil | apply LeT.cons | apply LeB.cons | exact Ol.refl | apply Lx.s | apply Lx.b | apply Lx.i | exact Lx.refl)) <;> (first | rfl | assumption | omega | (simp only [List.length_map, BS_len]; done) | skip)) <;> (first | (refine Lx.eq (congrArg (AV.gr _ _ _) ?_); simp only [List.map_append, List.map_cons, List.map_nil]; rfl) | (refine Ol.eq (congrArg Ob.gw ?_); simp only [List.map_append, List.map_cons, List.map_nil, List.length_append, List.length_map, List.length_cons, List.length_nil]; done) | (refine Ol.bx ?_; (repeat' (first | exact LxL.nil | apply LxL.cons | exact Lx.refl | (refine Lx.eq (congrArg (AV.gr _ _ _) ?_); simp only [List.map_append, List.map_cons, List.map_nil]; rfl)))) | skip)))
      · have k1 : emC (rgN (⟨false, [], pivots, kids, buf⟩ : Nd) q) r = false := ‹emR _ _ _ = false›
        have k2 : kidOk (⟨false, [], pivots, kids, buf⟩ : Nd) a q = true := by
          show (joinOk [] a (kids.getD q default).strip (kids.getD q default).add && (decide ((joinS [] a (kids.getD q default).strip (kids.getD q default).add).length ≤ 16) && decide ((joinA [] a (kids.getD q default).strip (kids.getD q default).add).length ≤ 16))) = true
          rw [‹joinOk _ _ _ _ = true›, decide_eq_true (by omega), decide_eq_true (by omega)]; rfl
        have k3 : ¬ 0 < ks.length := by omega
        have ho2 := kRun_more (n := (⟨false, [], pivots, kids, buf⟩ : Nd)) (ps := ps) (ks := ks) hq k1 k2
        rw [if_neg k3, ho] at ho2
        skip
        exact ih (q + 1, ps, ks ++ [trKid (⟨false, [], pivots, kids, buf⟩ : Nd) a q]) _ ⟨by dsimp only; omega, by dsimp only; (try simp only [List.length_append, List.length_cons, List.length_nil]); omega, by dsimp only; simp only [List.length_append, List.length_cons, List.length_nil]; omega, ho2.symm, fun _ => ⟨q, by dsimp only; omega, k1⟩⟩ (by dsimp only; omega) (by ((constructor <;> (repeat' (first | exact LeT.nil | exact LeB.nil | apply LeT.cons | apply LeB.cons | exact Ol.refl | apply Lx.s | apply Lx.b | apply Lx.i | exact Lx.refl)) <;> (first | rfl | assumption | omega | (simp only [List.length_map, BS_len]; done) | skip)) <;> (first | (refine Lx.eq (congrArg (AV.gr _ _ _) ?_); simp only [List.map_append, List.map_cons, List.map_nil]; rfl) | (refine Ol.eq (congrArg Ob.gw ?_); simp only [List.map_append, List.map_cons, List.map_nil, List.length_append, List.length_map, List.length_cons, List.length_nil]; done) | (refine Ol.bx ?_; (repeat' (first | exact LxL.nil | apply LxL.cons | exact Lx.refl | (refine Lx.eq (congrArg (AV.gr _ _ _) ?_); simp only [List.map_append, List.map_cons, List.map_nil]; rfl)))) | skip)))
      · have k1 : emC (rgN (⟨false, [], pivots, kids, buf⟩ : Nd) q) r = false := ‹emR _ _ _ = false›
        have k2 : kidOk (⟨false, [], pivots, kids, buf⟩ : Nd) a q = false := by
          show (joinOk [] a (kids.getD q default).strip (kids.getD q default).add && (decide ((joinS [] a (kids.getD q default).strip (kids.getD q default).add).length ≤ 16) && decide ((joinA [] a (kids.getD q default).strip (kids.getD q default).add).length ≤ 16))) = false
          rw [decide_eq_false (show ¬ (joinS [] a (kids.getD q default).strip (kids.getD q default).add).length ≤ 16 by omega), Bool.false_and, Bool.and_false]
        have k3 := kRun_bad (n := (⟨false, [], pivots, kids, buf⟩ : Nd)) (ps := ps) (ks := ks) hq k1 k2
        obtain ⟨t1, t2⟩ := trK1 (n := (⟨false, [], pivots, kids, buf⟩ : Nd)) (r := r) (a := a) h0 g rfl (by rw [← ho, k3])
        rw [t1, t2] at hD
        exact AW.ret (hD rfl (Lx.tup (.cons (Lx.agg (.cons .refl (.cons .nil (.cons .nil (.cons .nil (.cons .nil .nil)))))) (.cons (Lx.i rfl) .nil))))
      · have k1 : emC (rgN (⟨false, [], pivots, kids, buf⟩ : Nd) q) r = false := ‹emR _ _ _ = false›
        have k2 : kidOk (⟨false, [], pivots, kids, buf⟩ : Nd) a q = false := by
          show (joinOk [] a (kids.getD q default).strip (kids.getD q default).add && (decide ((joinS [] a (kids.getD q default).strip (kids.getD q default).add).length ≤ 16) && decide ((joinA [] a (kids.getD q default).strip (kids.getD q default).add).length ≤ 16))) = false
          rw [‹joinOk _ _ _ _ = false›, Bool.false_and]
        have k3 := kRun_bad (n := (⟨false, [], pivots, kids, buf⟩ : Nd)) (ps := ps) (ks := ks) hq k1 k2
        obtain ⟨t1, t2⟩ := trK1 (n := (⟨false, [], pivots, kids, buf⟩ : Nd)) (r := r) (a := a) h0 g rfl (by rw [← ho, k3])
        rw [t1, t2] at hD
        exact AW.ret (hD rfl (Lx.tup (.cons (Lx.agg (.cons .refl (.cons .nil (.cons .nil (.cons .nil (.cons .nil .nil)))))) (.cons (Lx.i rfl) .nil))))
      all_goals omega
    · repeat' (first
    | apply AO.nil
    | (apply AO.kCall 74; refine AO.sCall (hg := (gTrimMs' _ _ _ hs4 ha hx1)) (h := ?_))
    | (apply AO.kBuildS; first | refine AO.sBuildT (h := ?_) | refine AO.sBuildS (h := ?_))
    | (apply AO.kApp; first | refine AO.sGrowT (h := ?_) | refine AO.sNewT (h := ?_) | refine AO.sGrowBT (h := ?_) | refine AO.sGrow (h := ?_) | refine AO.sNewr (h := ?_))
    | (apply AO.kIx; first | refine AO.sIxN (h := ?_) | refine AO.sIx (h := ?_) | refine AO.sP (h := ?_) | refine AO.sPi (h := ?_))
    | (apply AO.kSl; first | refine AO.sSl (h := ?_) | refine AO.sSlArr (h := ?_) | refine AO.sP (h := ?_))
    | (apply AO.kBox; refine AO.sBox (h := ?_))
    | (apply AO.kAlloc; refine AO.sAlloc (h := ?_))
    | (apply AO.kStore; first | refine AO.sStore (h := ?_) | refine AO.sStB (h := ?_))
    | (apply AO.kAdd; refine AO.sAdd (h := ?_))
    | (apply AO.kSub; refine AO.sSub (h := ?_))
    | (apply AO.kCv; first | refine AO.sBytes (h := ?_) | refine AO.sStr (h := ?_) | refine AO.sStrR (h := ?_))
    | (apply AO.kP; first | refine AO.sP (h := ?_) | refine AO.sPi (h := ?_) | refine AO.sLoadB (h := ?_) | refine AO.sSameB (h := ?_) | refine AO.sMk0 (h := ?_) | refine AO.sArrB (h := ?_) | refine AO.sLoadA (h := ?_) | refine AO.sEqArr (heg := eqgArr) (h := ?_))
    | (apply AO.kP; refine AO.eqNil (h1 := fun h => ?_) (h2 := ?_))
    | apply AW.seq
    | (apply AW.kR; refine AW.sR (h := ?_))
    | apply AW.skip
    | apply AW.block
    | apply AW.out
    | (apply AW.kE; refine AW.sE (h := ?_))
    | apply AW.label
    | (apply AW.kRd; refine AW.sRd (h := ?_))
    | ((first | (apply AO.kG; first | refine AO.sgt (h1 := fun h => ?_) (h2 := fun h => ?_) | refine AO.sgf (h1 := fun h => ?_) (h2 := fun h => ?_) | refine AO.sgs (h := ?_)) | (apply AW.kC; refine AW.sC (h1 := fun h => ?_) (h2 := fun h => ?_)) | (apply AR.kAny; apply AR.kG; first | refine AR.sgt (h1 := fun h => ?_) (h2 := fun h => ?_) | refine AR.sgf (h1 := fun h => ?_) (h2 := fun h => ?_) | refine AR.sgs (h := ?_))) <;> (try (first | exact Bool.noConfusion h | exact absurd h (by decide) | (simp at h; done) | (rw [h]; try simp only [decide_eq_true_eq, decide_eq_false_iff_not, Int.not_lt, Int.not_le, ge_iff_le, gt_iff_lt, Bool.not_eq_true', Bool.not_eq_false', beq_iff_eq, beq_eq_false_iff_ne, ne_eq] at h; try rw [h]; try (exfalso; omega)) | skip)))
    | (apply AR.kAny; first | (apply AR.kCall 74; refine AR.sCall (hg := (gTrimMs' _ _ _ hs4 ha hx1)) (h := ?_)) | (apply AR.kBuildS; first | refine AR.sBuildT (h := ?_) | refine AR.sBuildS (h := ?_)) | (apply AR.kApp; first | refine AR.sGrowT (h := ?_) | refine AR.sNewT (h := ?_) | refine AR.sGrowBT (h := ?_) | refine AR.sGrow (h := ?_) | refine AR.sNewr (h := ?_)) | (apply AR.kIx; first | refine AR.sIxN (h := ?_) | refine AR.sIx (h := ?_) | refine AR.sP (h := ?_) | refine AR.sPi (h := ?_)) | (apply AR.kSl; first | refine AR.sSl (h := ?_) | refine AR.sSlArr (h := ?_) | refine AR.sP (h := ?_)) | (apply AR.kBox; refine AR.sBox (h := ?_)) | (apply AR.kAlloc; refine AR.sAlloc (h := ?_)) | (apply AR.kStore; refine AR.sStore (h := ?_)) | (apply AR.kAdd; refine AR.sAdd (h := ?_)) | (apply AR.kSub; refine AR.sSub (h := ?_)) | (apply AR.kCv; refine AR.sStrR (h := ?_)) | (apply AR.kP; first | refine AR.sP (h := ?_) | refine AR.sPi (h := ?_) | refine AR.sArrB (h := ?_) | refine AR.sLoadA (h := ?_) | refine AR.sEqArr (heg := eqgArr) (h := ?_)))
    | (apply AR.kNil; refine AR.sNil (h := ?_)))
      · omega
      all_goals (have e : kids.length - q = 0 := by omega)
      all_goals rw [e, kRun] at ho
      · have g5 : trMsOk buf r a = false := by
          cases q : trMsOk buf r a with
          | false => rfl
          | true => rw [q] at h; cases h
        obtain ⟨t1, t2⟩ := trK2 (n := (⟨false, [], pivots, kids, buf⟩ : Nd)) (r := r) (a := a) h0 g rfl (by rw [← ho]) g5
        rw [t1, t2] at hD
        exact AW.ret (hD rfl (Lx.tup (.cons (Lx.agg (.cons .refl (.cons .nil (.cons .nil (.cons .nil (.cons .nil .nil)))))) (.cons (Lx.i (by show (if trMsOk buf r a = true then (0 : Int) else 1) = _; rw [g5]; rfl)) .nil))))
      · have g5 : trMsOk buf r a = true := by
          cases q : trMsOk buf r a with
          | true => rfl
          | false => rw [q] at h; cases h
        obtain ⟨t1, t2⟩ := trK3 (n := (⟨false, [], pivots, kids, buf⟩ : Nd)) (r := r) (a := a) h0 g rfl (by rw [← ho]) g5
        rw [t1, t2, ← ho] at hD
        refine AW.ret (hD rfl (Lx.tup (.cons (Lx.agg (.cons .refl (.cons .nil (.cons .gr (.cons .gr (.cons ?_ .nil)))))) (.cons (Lx.i rfl) .nil))))
        exact Lx.eq (congrArg (fun l : List Ms => AV.sh 6 (l.map Ms.av)) (if_pos g5))
  · rw [g1] at *; contradiction
theorem gTrimT' (pairs : List Pr) (r : L × L × Bool) (a : L) (hs : (⟨true, pairs, [], [], []⟩ : Nd).small) (ha : a.length ≤ 1000000) (h0 : mayN (⟨true, pairs, [], [], []⟩ : Nd) = 0) (g : (emR r.1 r.2.1 r.2.2 || !hp (undS r.1 r.2.1 r.2.2) a) = false) :
    Good Try.prog 27 [.agg (Nd.av (⟨true, pairs, [], [], []⟩ : Nd)), .agg [.s r.1, .s r.2.1, .b r.2.2], .s a] [] (.tup [.agg (trN (⟨true, pairs, [], [], []⟩ : Nd) r a).av, .i .i64 (trE (⟨true, pairs, [], [], []⟩ : Nd) r a)]) [] := by
  have hs1 : pairs.length ≤ 1000000 := hs.pairs
  have ll : (pairs.map Pr.av).length = pairs.length := by simp
  simp only [Bool.or_eq_false_iff, Bool.not_eq_false'] at g
  obtain ⟨g1, g2⟩ := g
  have g3 : insS r.1 r.2.1 r.2.2 a (succS a) (succOk a) = true := by rw [ins_und g1]; exact g2
  have g : (emR r.1 r.2.1 r.2.2 || !hp (undS r.1 r.2.1 r.2.2) a) = false := by rw [g1, g2]; rfl
  refine Good.w tabOk mixed Try.func27 (N := 145) (by kernel_rfl) rfl (by (repeat (first | exact LE.nil | apply LE.cons)); done) (by (repeat (first | exact LE.nil | apply LE.cons)); done) fun D hD F => ?_
  repeat' (first
    | apply AO.nil
    | (apply AO.kCall 22; refine AO.sCall (hg := (gMay' (⟨true, pairs, [], [], []⟩ : Nd) hs)) (h := ?_))
    | (apply AO.kCall 62; refine AO.sCall (hg := (gEmpty' _ _ _)) (h := ?_))
    | (apply AO.kCall 68; refine AO.sCall (hg := (gOf' _ sd)) (h := ?_))
    | (apply AO.kCall 31; refine AO.sCall (hg := (gInside _ _ _ _ _ _)) (h := ?_))
    | (apply AO.kBuildS; first | refine AO.sBuildT (h := ?_) | refine AO.sBuildS (h := ?_))
    | (apply AO.kApp; first | refine AO.sGrowT (h := ?_) | refine AO.sNewT (h := ?_) | refine AO.sGrowBT (h := ?_) | refine AO.sGrow (h := ?_) | refine AO.sNewr (h := ?_))
    | (apply AO.kIx; first | refine AO.sIxN (h := ?_) | refine AO.sIx (h := ?_) | refine AO.sP (h := ?_) | refine AO.sPi (h := ?_))
    | (apply AO.kSl; first | refine AO.sSl (h := ?_) | refine AO.sSlArr (h := ?_) | refine AO.sP (h := ?_))
    | (apply AO.kBox; refine AO.sBox (h := ?_))
    | (apply AO.kAlloc; refine AO.sAlloc (h := ?_))
    | (apply AO.kStore; first | refine AO.sStore (h := ?_) | refine AO.sStB (h := ?_))
    | (apply AO.kAdd; refine AO.sAdd (h := ?_))
    | (apply AO.kSub; refine AO.sSub (h := ?_))
    | (apply AO.kCv; first | refine AO.sBytes (h := ?_) | refine AO.sStr (h := ?_) | refine AO.sStrR (h := ?_))
    | (apply AO.kP; first | refine AO.sP (h := ?_) | refine AO.sPi (h := ?_) | refine AO.sLoadB (h := ?_) | refine AO.sSameB (h := ?_) | refine AO.sMk0 (h := ?_) | refine AO.sArrB (h := ?_) | refine AO.sLoadA (h := ?_) | refine AO.sEqArr (heg := eqgArr) (h := ?_))
    | (apply AO.kP; refine AO.eqNil (h1 := fun h => ?_) (h2 := ?_))
    | apply AW.seq
    | (apply AW.kR; refine AW.sR (h := ?_))
    | apply AW.skip
    | apply AW.block
    | apply AW.out
    | (apply AW.kE; refine AW.sE (h := ?_))
    | apply AW.label
    | (apply AW.kRd; refine AW.sRd (h := ?_))
    | ((first | (apply AO.kG; first | refine AO.sgt (h1 := fun h => ?_) (h2 := fun h => ?_) | refine AO.sgf (h1 := fun h => ?_) (h2 := fun h => ?_) | refine AO.sgs (h := ?_)) | (apply AW.kC; refine AW.sC (h1 := fun h => ?_) (h2 := fun h => ?_)) | (apply AR.kAny; apply AR.kG; first | refine AR.sgt (h1 := fun h => ?_) (h2 := fun h => ?_) | refine AR.sgf (h1 := fun h => ?_) (h2 := fun h => ?_) | refine AR.sgs (h := ?_))) <;> (try (first | exact Bool.noConfusion h | exact absurd h (by decide) | (simp at h; done) | (rw [h]; try simp only [decide_eq_true_eq, decide_eq_false_iff_not, Int.not_lt, Int.not_le, ge_iff_le, gt_iff_lt, Bool.not_eq_true', Bool.not_eq_false', beq_iff_eq, beq_eq_false_iff_ne, ne_eq] at h; try rw [h]; try (exfalso; omega)) | skip)))
    | (apply AR.kAny; first | (apply AR.kCall 22; refine AR.sCall (hg := (gMay' (⟨true, pairs, [], [], []⟩ : Nd) hs)) (h := ?_)) | (apply AR.kCall 62; refine AR.sCall (hg := (gEmpty' _ _ _)) (h := ?_)) | (apply AR.kCall 68; refine AR.sCall (hg := (gOf' _ sd)) (h := ?_)) | (apply AR.kCall 31; refine AR.sCall (hg := (gInside _ _ _ _ _ _)) (h := ?_)) | (apply AR.kBuildS; first | refine AR.sBuildT (h := ?_) | refine AR.sBuildS (h := ?_)) | (apply AR.kApp; first | refine AR.sGrowT (h := ?_) | refine AR.sNewT (h := ?_) | refine AR.sGrowBT (h := ?_) | refine AR.sGrow (h := ?_) | refine AR.sNewr (h := ?_)) | (apply AR.kIx; first | refine AR.sIxN (h := ?_) | refine AR.sIx (h := ?_) | refine AR.sP (h := ?_) | refine AR.sPi (h := ?_)) | (apply AR.kSl; first | refine AR.sSl (h := ?_) | refine AR.sSlArr (h := ?_) | refine AR.sP (h := ?_)) | (apply AR.kBox; refine AR.sBox (h := ?_)) | (apply AR.kAlloc; refine AR.sAlloc (h := ?_)) | (apply AR.kStore; refine AR.sStore (h := ?_)) | (apply AR.kAdd; refine AR.sAdd (h := ?_)) | (apply AR.kSub; refine AR.sSub (h := ?_)) | (apply AR.kCv; refine AR.sStrR (h := ?_)) | (apply AR.kP; first | refine AR.sP (h := ?_) | refine AR.sPi (h := ?_) | refine AR.sArrB (h := ?_) | refine AR.sLoadA (h := ?_) | refine AR.sEqArr (heg := eqgArr) (h := ?_)))
    | (apply AR.kNil; refine AR.sNil (h := ?_)))
  · exact absurd h0 (ne0 h)
  · rw [g3] at h; cases h
  · refine AW.nilrow 900 43 2 (St.freeB_ok rfl) (st' := ⟨[(2, .s a), (3, .ptr 3 0), (4, .ptr 4 0), (6, .ptr 6 0), (8, .ptr 8 0), (9, .ptr 9 0), (39, .i .i64 (pairs.length : Nat)), (40, .i .i64 (0 : Nat))], [(3, .bx (Nd.av (⟨true, pairs, [], [], []⟩ : Nd))), (4, .bx [.s r.1, .s r.2.1, .b r.2.2]), (6, .bx [.b false, .nil, .nil, .nil, .nil]), (8, .bx [.b false, .nil, .nil, .nil, .nil]), (9, .bx [.b true, .gr 900 43 2 [], .nil, .nil, .nil]), (900, .gw 0)]⟩) ⟨by ((repeat' (first | exact LeT.nil | apply LeT.cons | exact Lx.nilG | apply Lx.s | apply Lx.b | apply Lx.i | exact Lx.refl)) <;> (first | rfl | assumption | omega | (simp only [List.length_map, BS_len]; done) | skip)), .cons .refl (.cons .refl (.cons .refl (.cons .refl (.cons (.bx (.cons .refl (.cons .nilG (.cons .refl (.cons .refl (.cons .refl .nil)))))) (.cons .refl .nil)))))⟩ ?_
    refine AW.loopI (fun x : Nat × List Pr => x.1 ≤ pairs.length ∧ x.2 = trPr (pairs.take x.1) r a) (fun x => ⟨[(2, .s a), (3, .ptr 3 0), (4, .ptr 4 0), (6, .ptr 6 0), (8, .ptr 8 0), (9, .ptr 9 0), (39, .i .i64 (pairs.length : Nat)), (40, .i .i64 x.1)], [(3, .bx (Nd.av (⟨true, pairs, [], [], []⟩ : Nd))), (4, .bx [.s r.1, .s r.2.1, .b r.2.2]), (6, .bx [.b false, .nil, .nil, .nil, .nil]), (8, .bx [.b false, .nil, .nil, .nil, .nil]), (9, .bx [.b true, .gr 900 43 2 (x.2.map Pr.av), .nil, .nil, .nil]), (900, .gw (x.2.map Pr.av).length)]⟩) (fun x => pairs.length - x.1) (0, []) ⟨by simp, rfl⟩ (by (constructor <;> (repeat' (first | exact LeT.nil | exact LeB.nil | apply LeT.cons | apply LeB.cons | exact Ol.refl | apply Lx.s | apply Lx.b | apply Lx.i | exact Lx.refl)) <;> (first | rfl | assumption | omega | (simp only [List.length_map, BS_len]; done) | skip))) fun m ⟨q, o⟩ ⟨hn, ho⟩ ih => ?_
    dsimp only at hn ho ih ⊢
    have lo : o.length ≤ q := by
      rw [ho]; exact Nat.le_trans (trPr_len _ _ _) (by rw [List.length_take]; omega)
    have lo' : (o.map Pr.av).length = o.length := by simp
    have hq2 : inR r.1 r.2.1 r.2.2 (pairs.getD q default).k = true → hp (pairs.getD q default).k a = true := fun h1 => hp_trans ((und_facts _ _ _ _).2.2.1 h1) g2
    repeat' (first
    | apply AO.nil
    | (apply AO.kCall 29; refine AO.sCall (hg := (gIn' _ _ _ _)) (h := ?_))
    | (apply AO.kBuildS; first | refine AO.sBuildT (h := ?_) | refine AO.sBuildS (h := ?_))
    | (apply AO.kApp; first | refine AO.sGrowT (h := ?_) | refine AO.sNewT (h := ?_) | refine AO.sGrowBT (h := ?_) | refine AO.sGrow (h := ?_) | refine AO.sNewr (h := ?_))
    | (apply AO.kIx; first | refine AO.sIxN (hm := by first | decide | omega | assumption | (simp only [List.length_map]; omega) | (have q9 := hp_len (hq2 ‹inR _ _ _ _ = true›); (try refine ⟨?_, ?_⟩) <;> (try dsimp only) <;> omega)) (h := ?_) | refine AO.sIx (hm := by first | decide | omega | assumption | (simp only [List.length_map]; omega) | (have q9 := hp_len (hq2 ‹inR _ _ _ _ = true›); (try refine ⟨?_, ?_⟩) <;> (try dsimp only) <;> omega)) (h := ?_) | refine AO.sP (h := ?_) | refine AO.sPi (hq := by first | decide | omega | assumption | (simp only [List.length_map]; omega) | (have q9 := hp_len (hq2 ‹inR _ _ _ _ = true›); (try refine ⟨?_, ?_⟩) <;> (try dsimp only) <;> omega)) (h := ?_))
    | (apply AO.kSl; first | refine AO.sSl (hq := by first | decide | omega | assumption | (simp only [List.length_map]; omega) | (have q9 := hp_len (hq2 ‹inR _ _ _ _ = true›); (try refine ⟨?_, ?_⟩) <;> (try dsimp only) <;> omega)) (h := ?_) | refine AO.sSlArr (h := ?_) | refine AO.sP (h := ?_))
    | (apply AO.kBox; refine AO.sBox (h := ?_))
    | (apply AO.kAlloc; refine AO.sAlloc (h := ?_))
    | (apply AO.kStore; first | refine AO.sStore (h := ?_) | refine AO.sStB (ho := by first | decide | omega | assumption | (simp only [List.length_map]; omega) | (have q9 := hp_len (hq2 ‹inR _ _ _ _ = true›); (try refine ⟨?_, ?_⟩) <;> (try dsimp only) <;> omega)) (h := ?_))
    | (apply AO.kAdd; refine AO.sAdd (hr := by first | decide | omega | assumption | (simp only [List.length_map]; omega) | (have q9 := hp_len (hq2 ‹inR _ _ _ _ = true›); (try refine ⟨?_, ?_⟩) <;> (try dsimp only) <;> omega)) (h := ?_))
    | (apply AO.kSub; refine AO.sSub (hr := by first | decide | omega | assumption | (simp only [List.length_map]; omega) | (have q9 := hp_len (hq2 ‹inR _ _ _ _ = true›); (try refine ⟨?_, ?_⟩) <;> (try dsimp only) <;> omega)) (h := ?_))
    | (apply AO.kCv; first | refine AO.sBytes (h := ?_) | refine AO.sStr (h := ?_) | refine AO.sStrR (h := ?_))
    | (apply AO.kP; first | refine AO.sP (h := ?_) | refine AO.sPi (hq := by first | decide | omega | assumption | (simp only [List.length_map]; omega) | (have q9 := hp_len (hq2 ‹inR _ _ _ _ = true›); (try refine ⟨?_, ?_⟩) <;> (try dsimp only) <;> omega)) (h := ?_) | refine AO.sLoadB (ho := by first | decide | omega | assumption | (simp only [List.length_map]; omega) | (have q9 := hp_len (hq2 ‹inR _ _ _ _ = true›); (try refine ⟨?_, ?_⟩) <;> (try dsimp only) <;> omega)) (h := ?_) | refine AO.sSameB (h := ?_) | refine AO.sMk0 (h := ?_) | refine AO.sArrB (h := ?_) | refine AO.sLoadA (h := ?_) | refine AO.sEqArr (heg := eqgArr) (h := ?_))
    | (apply AO.kP; refine AO.eqNil (h1 := fun h => ?_) (h2 := ?_))
    | apply AW.seq
    | (apply AW.kR; refine AW.sR (h := ?_))
    | apply AW.skip
    | apply AW.block
    | apply AW.out
    | (apply AW.kE; refine AW.sE (h := ?_))
    | apply AW.label
    | (apply AW.kRd; refine AW.sRd (h := ?_))
    | ((first | (apply AO.kG; first | refine AO.sgt (h1 := fun h => ?_) (h2 := fun h => ?_) | refine AO.sgf (h1 := fun h => ?_) (h2 := fun h => ?_) | refine AO.sgs (h := ?_)) | (apply AW.kC; refine AW.sC (h1 := fun h => ?_) (h2 := fun h => ?_)) | (apply AR.kAny; apply AR.kG; first | refine AR.sgt (h1 := fun h => ?_) (h2 := fun h => ?_) | refine AR.sgf (h1 := fun h => ?_) (h2 := fun h => ?_) | refine AR.sgs (h := ?_))) <;> (try (first | exact Bool.noConfusion h | exact absurd h (by decide) | (simp at h; done) | (rw [h]; try simp only [decide_eq_true_eq, decide_eq_false_iff_not, Int.not_lt, Int.not_le, ge_iff_le, gt_iff_lt, Bool.not_eq_true', Bool.not_eq_false', beq_iff_eq, beq_eq_false_iff_ne, ne_eq] at h; try rw [h]; try (exfalso; omega)) | skip)))
    | (apply AR.kAny; first | (apply AR.kCall 29; refine AR.sCall (hg := (gIn' _ _ _ _)) (h := ?_)) | (apply AR.kBuildS; first | refine AR.sBuildT (h := ?_) | refine AR.sBuildS (h := ?_)) | (apply AR.kApp; first | refine AR.sGrowT (h := ?_) | refine AR.sNewT (h := ?_) | refine AR.sGrowBT (h := ?_) | refine AR.sGrow (h := ?_) | refine AR.sNewr (h := ?_)) | (apply AR.kIx; first | refine AR.sIxN (hm := by first | decide | omega | assumption | (simp only [List.length_map]; omega) | (have q9 := hp_len (hq2 ‹inR _ _ _ _ = true›); (try refine ⟨?_, ?_⟩) <;> (try dsimp only) <;> omega)) (h := ?_) | refine AR.sIx (hm := by first | decide | omega | assumption | (simp only [List.length_map]; omega) | (have q9 := hp_len (hq2 ‹inR _ _ _ _ = true›); (try refine ⟨?_, ?_⟩) <;> (try dsimp only) <;> omega)) (h := ?_) | refine AR.sP (h := ?_) | refine AR.sPi (hq := by first | decide | omega | assumption | (simp only [List.length_map]; omega) | (have q9 := hp_len (hq2 ‹inR _ _ _ _ = true›); (try refine ⟨?_, ?_⟩) <;> (try dsimp only) <;> omega)) (h := ?_)) | (apply AR.kSl; first | refine AR.sSl (hq := by first | decide | omega | assumption | (simp only [List.length_map]; omega) | (have q9 := hp_len (hq2 ‹inR _ _ _ _ = true›); (try refine ⟨?_, ?_⟩) <;> (try dsimp only) <;> omega)) (h := ?_) | refine AR.sSlArr (h := ?_) | refine AR.sP (h := ?_)) | (apply AR.kBox; refine AR.sBox (h := ?_)) | (apply AR.kAlloc; refine AR.sAlloc (h := ?_)) | (apply AR.kStore; refine AR.sStore (h := ?_)) | (apply AR.kAdd; refine AR.sAdd (hr := by first | decide | omega | assumption | (simp only [List.length_map]; omega) | (have q9 := hp_len (hq2 ‹inR _ _ _ _ = true›); (try refine ⟨?_, ?_⟩) <;> (try dsimp only) <;> omega)) (h := ?_)) | (apply AR.kSub; refine AR.sSub (hr := by first | decide | omega | assumption | (simp only [List.length_map]; omega) | (have q9 := hp_len (hq2 ‹inR _ _ _ _ = true›); (try refine ⟨?_, ?_⟩) <;> (try dsimp only) <;> omega)) (h := ?_)) | (apply AR.kCv; refine AR.sStrR (h := ?_)) | (apply AR.kP; first | refine AR.sP (h := ?_) | refine AR.sPi (hq := by first | decide | omega | assumption | (simp only [List.length_map]; omega) | (have q9 := hp_len (hq2 ‹inR _ _ _ _ = true›); (try refine ⟨?_, ?_⟩) <;> (try dsimp only) <;> omega)) (h := ?_) | refine AR.sArrB (h := ?_) | refine AR.sLoadA (h := ?_) | refine AR.sEqArr (heg := eqgArr) (h := ?_)))
    | (apply AR.kNil; refine AR.sNil (h := ?_)))
    · have hq : q < pairs.length := by omega
      have k1 : prKeep r (pairs.getD q default) = true := h
      exact ih (q + 1, o ++ [⟨(pairs.getD q default).k.drop a.length, (pairs.getD q default).v⟩]) _ ⟨by dsimp only; omega, by dsimp only; rw [ho, trPr, trPr, filt_yes hq k1, List.map_append, List.map_cons, prCut, cutS_hp (hq2 h)]; rfl⟩ (by dsimp only; omega) (by ((constructor <;> (repeat' (first | exact LeT.nil | exact LeB.nil | apply LeT.cons | apply LeB.cons | exact Ol.refl | apply Lx.s | apply Lx.b | apply Lx.i | exact Lx.refl)) <;> (first | rfl | assumption | omega | (simp only [List.length_map, BS_len]; done) | skip)) <;> (first | (refine Lx.eq (congrArg (AV.gr _ _ _) ?_); simp only [List.map_append, List.map_cons, List.map_nil]; rfl) | (refine Ol.eq (congrArg Ob.gw ?_); simp only [List.map_append, List.map_cons, List.map_nil, List.length_append, List.length_map, List.length_cons, List.length_nil]; done) | (refine Ol.bx ?_; (repeat' (first | exact LxL.nil | apply LxL.cons | exact Lx.refl | (refine Lx.eq (congrArg (AV.gr _ _ _) ?_); simp only [List.map_append, List.map_cons, List.map_nil]; rfl)))) | skip)))
    · have hq : q < pairs.length := by omega
      have k1 : prKeep r (pairs.getD q default) = false := h
      exact ih (q + 1, o) _ ⟨by dsimp only; omega, by dsimp only; rw [ho, trPr, trPr, filt_no hq k1]⟩ (by dsimp only; omega) (by (constructor <;> (repeat' (first | exact LeT.nil | exact LeB.nil | apply LeT.cons | apply LeB.cons | exact Ol.refl | apply Lx.s | apply Lx.b | apply Lx.i | exact Lx.refl)) <;> (first | rfl | assumption | omega | (simp only [List.length_map, BS_len]; done) | skip)))
    · have e : q = pairs.length := by omega
      subst e
      rw [List.take_length] at ho
      subst ho
      obtain ⟨t1, t2⟩ := trL (n := (⟨true, pairs, [], [], []⟩ : Nd)) (r := r) (a := a) h0 g rfl
      rw [t1, t2] at hD
      refine AW.loopI (fun _ : Unit => True) (fun _ => ⟨[(2, .s a), (3, .ptr 3 0), (4, .ptr 4 0), (6, .ptr 6 0), (8, .ptr 8 0), (9, .ptr 9 0), (68, .i .i64 0), (69, .i .i64 0)], [(3, .bx (Nd.av (⟨true, pairs, [], [], []⟩ : Nd))), (4, .bx [.s r.1, .s r.2.1, .b r.2.2]), (6, .bx [.b false, .nil, .nil, .nil, .nil]), (8, .bx [.b false, .nil, .nil, .nil, .nil]), (9, .bx [.b true, .gr 900 43 2 ((trPr pairs r a).map Pr.av), .nil, .nil, .nil]), (900, .gw ((trPr pairs r a).map Pr.av).length)]⟩) (fun _ => 0) () trivial (by (constructor <;> (repeat' (first | exact LeT.nil | exact LeB.nil | apply LeT.cons | apply LeB.cons | exact Ol.refl | apply Lx.s | apply Lx.b | apply Lx.i | exact Lx.refl)) <;> (first | rfl | assumption | omega | (simp only [List.length_map, BS_len]; done) | skip))) fun m _ _ _ => ?_
      repeat' (first
    | apply AO.nil
    | (apply AO.kCall 74; refine AO.sCall (hg := (gTrimMs' [] _ _ (by decide) ha rfl)) (h := ?_))
    | (apply AO.kBuildS; first | refine AO.sBuildT (h := ?_) | refine AO.sBuildS (h := ?_))
    | (apply AO.kApp; first | refine AO.sGrowT (h := ?_) | refine AO.sNewT (h := ?_) | refine AO.sGrowBT (h := ?_) | refine AO.sGrow (h := ?_) | refine AO.sNewr (h := ?_))
    | (apply AO.kIx; first | refine AO.sIxN (h := ?_) | refine AO.sIx (h := ?_) | refine AO.sP (h := ?_) | refine AO.sPi (h := ?_))
    | (apply AO.kSl; first | refine AO.sSl (h := ?_) | refine AO.sSlArr (h := ?_) | refine AO.sP (h := ?_))
    | (apply AO.kBox; refine AO.sBox (h := ?_))
    | (apply AO.kAlloc; refine AO.sAlloc (h := ?_))
    | (apply AO.kStore; first | refine AO.sStore (h := ?_) | refine AO.sStB (h := ?_))
    | (apply AO.kAdd; refine AO.sAdd (h := ?_))
    | (apply AO.kSub; refine AO.sSub (h := ?_))
    | (apply AO.kCv; first | refine AO.sBytes (h := ?_) | refine AO.sStr (h := ?_) | refine AO.sStrR (h := ?_))
    | (apply AO.kP; first | refine AO.sP (h := ?_) | refine AO.sPi (h := ?_) | refine AO.sLoadB (h := ?_) | refine AO.sSameB (h := ?_) | refine AO.sMk0 (h := ?_) | refine AO.sArrB (h := ?_) | refine AO.sLoadA (h := ?_) | refine AO.sEqArr (heg := eqgArr) (h := ?_))
    | (apply AO.kP; refine AO.eqNil (h1 := fun h => ?_) (h2 := ?_))
    | apply AW.seq
    | (apply AW.kR; refine AW.sR (h := ?_))
    | apply AW.skip
    | apply AW.block
    | apply AW.out
    | (apply AW.kE; refine AW.sE (h := ?_))
    | apply AW.label
    | (apply AW.kRd; refine AW.sRd (h := ?_))
    | ((first | (apply AO.kG; first | refine AO.sgt (h1 := fun h => ?_) (h2 := fun h => ?_) | refine AO.sgf (h1 := fun h => ?_) (h2 := fun h => ?_) | refine AO.sgs (h := ?_)) | (apply AW.kC; refine AW.sC (h1 := fun h => ?_) (h2 := fun h => ?_)) | (apply AR.kAny; apply AR.kG; first | refine AR.sgt (h1 := fun h => ?_) (h2 := fun h => ?_) | refine AR.sgf (h1 := fun h => ?_) (h2 := fun h => ?_) | refine AR.sgs (h := ?_))) <;> (try (first | exact Bool.noConfusion h | exact absurd h (by decide) | (simp at h; done) | (rw [h]; try simp only [decide_eq_true_eq, decide_eq_false_iff_not, Int.not_lt, Int.not_le, ge_iff_le, gt_iff_lt, Bool.not_eq_true', Bool.not_eq_false', beq_iff_eq, beq_eq_false_iff_ne, ne_eq] at h; try rw [h]; try (exfalso; omega)) | skip)))
    | (apply AR.kAny; first | (apply AR.kCall 74; refine AR.sCall (hg := (gTrimMs' [] _ _ (by decide) ha rfl)) (h := ?_)) | (apply AR.kBuildS; first | refine AR.sBuildT (h := ?_) | refine AR.sBuildS (h := ?_)) | (apply AR.kApp; first | refine AR.sGrowT (h := ?_) | refine AR.sNewT (h := ?_) | refine AR.sGrowBT (h := ?_) | refine AR.sGrow (h := ?_) | refine AR.sNewr (h := ?_)) | (apply AR.kIx; first | refine AR.sIxN (h := ?_) | refine AR.sIx (h := ?_) | refine AR.sP (h := ?_) | refine AR.sPi (h := ?_)) | (apply AR.kSl; first | refine AR.sSl (h := ?_) | refine AR.sSlArr (h := ?_) | refine AR.sP (h := ?_)) | (apply AR.kBox; refine AR.sBox (h := ?_)) | (apply AR.kAlloc; refine AR.sAlloc (h := ?_)) | (apply AR.kStore; refine AR.sStore (h := ?_)) | (apply AR.kAdd; refine AR.sAdd (h := ?_)) | (apply AR.kSub; refine AR.sSub (h := ?_)) | (apply AR.kCv; refine AR.sStrR (h := ?_)) | (apply AR.kP; first | refine AR.sP (h := ?_) | refine AR.sPi (h := ?_) | refine AR.sArrB (h := ?_) | refine AR.sLoadA (h := ?_) | refine AR.sEqArr (heg := eqgArr) (h := ?_)))
    | (apply AR.kNil; refine AR.sNil (h := ?_)))
      exact AW.ret (hD rfl (Lx.tup (.cons (Lx.agg (.cons .refl (.cons .gr (.cons .nil (.cons .nil (.cons .refl .nil)))))) (.cons (Lx.i rfl) .nil))))
  · rw [g1] at *; contradiction
theorem gTrim' (n : Nd) (r : L × L × Bool) (a : L) (hs : n.small) (hx : n.strs) (ha : a.length ≤ 1000000) :
    Good Try.prog 27 [.agg n.av, .agg [.s r.1, .s r.2.1, .b r.2.2], .s a] [] (.tup [.agg (trN n r a).av, .i .i64 (trE n r a)]) [] := by
  by_cases h0 : mayN n = 0
  · cases g : (emR r.1 r.2.1 r.2.2 || !hp (undS r.1 r.2.1 r.2.2) a) with
    | false =>
      obtain ⟨leaf, pairs, pivots, kids, buf⟩ := n
      cases leaf
      · obtain rfl : pairs = [] := (inner_len (may_inner h0 rfl).1).2.2
        exact gTrimF' _ _ _ _ _ hs hx ha h0 g
      · obtain ⟨e1, e2, e3⟩ := leaf_len (may_leaf h0 rfl)
        obtain rfl : pivots = [] := e1
        obtain rfl : kids = [] := e2
        obtain rfl : buf = [] := e3
        exact gTrimT' _ _ _ hs ha h0 g
    | true =>
      obtain ⟨t1, t2⟩ := tr1 (n := n) (r := r) (a := a) h0 g
      rw [t1, t2]
      have g3 : emR r.1 r.2.1 r.2.2 = false → insS r.1 r.2.1 r.2.2 a (succS a) (succOk a) = false := fun g1 => by
        rw [ins_und g1]; rw [g1] at g; simpa using g
      refine Good.w tabOk mixed Try.func27 (N := 145) (by kernel_rfl) rfl (by (repeat (first | exact LE.nil | apply LE.cons)); done) (by (repeat (first | exact LE.nil | apply LE.cons)); done) fun D hD F => ?_
      repeat' (first
    | apply AO.nil
    | (apply AO.kCall 22; refine AO.sCall (hg := (gMay' n hs)) (h := ?_))
    | (apply AO.kCall 62; refine AO.sCall (hg := (gEmpty' _ _ _)) (h := ?_))
    | (apply AO.kCall 68; refine AO.sCall (hg := (gOf' _ sd)) (h := ?_))
    | (apply AO.kCall 31; refine AO.sCall (hg := (gInside _ _ _ _ _ _)) (h := ?_))
    | (apply AO.kBuildS; first | refine AO.sBuildT (h := ?_) | refine AO.sBuildS (h := ?_))
    | (apply AO.kApp; first | refine AO.sGrowT (h := ?_) | refine AO.sNewT (h := ?_) | refine AO.sGrowBT (h := ?_) | refine AO.sGrow (h := ?_) | refine AO.sNewr (h := ?_))
    | (apply AO.kIx; first | refine AO.sIxN (h := ?_) | refine AO.sIx (h := ?_) | refine AO.sP (h := ?_) | refine AO.sPi (h := ?_))
    | (apply AO.kSl; first | refine AO.sSl (h := ?_) | refine AO.sSlArr (h := ?_) | refine AO.sP (h := ?_))
    | (apply AO.kBox; refine AO.sBox (h := ?_))
    | (apply AO.kAlloc; refine AO.sAlloc (h := ?_))
    | (apply AO.kStore; first | refine AO.sStore (h := ?_) | refine AO.sStB (h := ?_))
    | (apply AO.kAdd; refine AO.sAdd (h := ?_))
    | (apply AO.kSub; refine AO.sSub (h := ?_))
    | (apply AO.kCv; first | refine AO.sBytes (h := ?_) | refine AO.sStr (h := ?_) | refine AO.sStrR (h := ?_))
    | (apply AO.kP; first | refine AO.sP (h := ?_) | refine AO.sPi (h := ?_) | refine AO.sLoadB (h := ?_) | refine AO.sSameB (h := ?_) | refine AO.sMk0 (h := ?_) | refine AO.sArrB (h := ?_) | refine AO.sLoadA (h := ?_) | refine AO.sEqArr (heg := eqgArr) (h := ?_))
    | (apply AO.kP; refine AO.eqNil (h1 := fun h => ?_) (h2 := ?_))
    | apply AW.seq
    | (apply AW.kR; refine AW.sR (h := ?_))
    | apply AW.skip
    | apply AW.block
    | apply AW.out
    | (apply AW.kE; refine AW.sE (h := ?_))
    | apply AW.label
    | (apply AW.kRd; refine AW.sRd (h := ?_))
    | ((first | (apply AO.kG; first | refine AO.sgt (h1 := fun h => ?_) (h2 := fun h => ?_) | refine AO.sgf (h1 := fun h => ?_) (h2 := fun h => ?_) | refine AO.sgs (h := ?_)) | (apply AW.kC; refine AW.sC (h1 := fun h => ?_) (h2 := fun h => ?_)) | (apply AR.kAny; apply AR.kG; first | refine AR.sgt (h1 := fun h => ?_) (h2 := fun h => ?_) | refine AR.sgf (h1 := fun h => ?_) (h2 := fun h => ?_) | refine AR.sgs (h := ?_))) <;> (try (first | exact Bool.noConfusion h | exact absurd h (by decide) | (simp at h; done) | (rw [h]; try simp only [decide_eq_true_eq, decide_eq_false_iff_not, Int.not_lt, Int.not_le, ge_iff_le, gt_iff_lt, Bool.not_eq_true', Bool.not_eq_false', beq_iff_eq, beq_eq_false_iff_ne, ne_eq] at h; try rw [h]; try (exfalso; omega)) | skip)))
    | (apply AR.kAny; first | (apply AR.kCall 22; refine AR.sCall (hg := (gMay' n hs)) (h := ?_)) | (apply AR.kCall 62; refine AR.sCall (hg := (gEmpty' _ _ _)) (h := ?_)) | (apply AR.kCall 68; refine AR.sCall (hg := (gOf' _ sd)) (h := ?_)) | (apply AR.kCall 31; refine AR.sCall (hg := (gInside _ _ _ _ _ _)) (h := ?_)) | (apply AR.kBuildS; first | refine AR.sBuildT (h := ?_) | refine AR.sBuildS (h := ?_)) | (apply AR.kApp; first | refine AR.sGrowT (h := ?_) | refine AR.sNewT (h := ?_) | refine AR.sGrowBT (h := ?_) | refine AR.sGrow (h := ?_) | refine AR.sNewr (h := ?_)) | (apply AR.kIx; first | refine AR.sIxN (h := ?_) | refine AR.sIx (h := ?_) | refine AR.sP (h := ?_) | refine AR.sPi (h := ?_)) | (apply AR.kSl; first | refine AR.sSl (h := ?_) | refine AR.sSlArr (h := ?_) | refine AR.sP (h := ?_)) | (apply AR.kBox; refine AR.sBox (h := ?_)) | (apply AR.kAlloc; refine AR.sAlloc (h := ?_)) | (apply AR.kStore; refine AR.sStore (h := ?_)) | (apply AR.kAdd; refine AR.sAdd (h := ?_)) | (apply AR.kSub; refine AR.sSub (h := ?_)) | (apply AR.kCv; refine AR.sStrR (h := ?_)) | (apply AR.kP; first | refine AR.sP (h := ?_) | refine AR.sPi (h := ?_) | refine AR.sArrB (h := ?_) | refine AR.sLoadA (h := ?_) | refine AR.sEqArr (heg := eqgArr) (h := ?_)))
    | (apply AR.kNil; refine AR.sNil (h := ?_)))
      · exact absurd h0 (ne0 h)
      · exact AW.ret (hD rfl (Lx.tup (.cons (Lx.agg (.cons .refl (.cons .nil (.cons .nil (.cons .nil (.cons .nil .nil)))))) (.cons (Lx.i rfl) .nil))))
      · exfalso
        have g4 := g3 (by assumption)
        rw [h] at g4; cases g4
      · exact AW.ret (hD rfl (Lx.tup (.cons (Lx.agg (.cons .refl (.cons .nil (.cons .nil (.cons .nil (.cons .nil .nil)))))) (.cons (Lx.i rfl) .nil))))
  · obtain ⟨t1, t2⟩ := tr3 (n := n) (r := r) (a := a) h0
    rw [t1, t2]
    refine Good.w tabOk mixed Try.func27 (N := 145) (by kernel_rfl) rfl (by (repeat (first | exact LE.nil | apply LE.cons)); done) (by (repeat (first | exact LE.nil | apply LE.cons)); done) fun D hD F => ?_
    repeat' (first
    | apply AO.nil
    | (apply AO.kCall 22; refine AO.sCall (hg := (gMay' n hs)) (h := ?_))
    | (apply AO.kBuildS; first | refine AO.sBuildT (h := ?_) | refine AO.sBuildS (h := ?_))
    | (apply AO.kApp; first | refine AO.sGrowT (h := ?_) | refine AO.sNewT (h := ?_) | refine AO.sGrowBT (h := ?_) | refine AO.sGrow (h := ?_) | refine AO.sNewr (h := ?_))
    | (apply AO.kIx; first | refine AO.sIxN (h := ?_) | refine AO.sIx (h := ?_) | refine AO.sP (h := ?_) | refine AO.sPi (h := ?_))
    | (apply AO.kSl; first | refine AO.sSl (h := ?_) | refine AO.sSlArr (h := ?_) | refine AO.sP (h := ?_))
    | (apply AO.kBox; refine AO.sBox (h := ?_))
    | (apply AO.kAlloc; refine AO.sAlloc (h := ?_))
    | (apply AO.kStore; first | refine AO.sStore (h := ?_) | refine AO.sStB (h := ?_))
    | (apply AO.kAdd; refine AO.sAdd (h := ?_))
    | (apply AO.kSub; refine AO.sSub (h := ?_))
    | (apply AO.kCv; first | refine AO.sBytes (h := ?_) | refine AO.sStr (h := ?_) | refine AO.sStrR (h := ?_))
    | (apply AO.kP; first | refine AO.sP (h := ?_) | refine AO.sPi (h := ?_) | refine AO.sLoadB (h := ?_) | refine AO.sSameB (h := ?_) | refine AO.sMk0 (h := ?_) | refine AO.sArrB (h := ?_) | refine AO.sLoadA (h := ?_) | refine AO.sEqArr (heg := eqgArr) (h := ?_))
    | (apply AO.kP; refine AO.eqNil (h1 := fun h => ?_) (h2 := ?_))
    | apply AW.seq
    | (apply AW.kR; refine AW.sR (h := ?_))
    | apply AW.skip
    | apply AW.block
    | apply AW.out
    | (apply AW.kE; refine AW.sE (h := ?_))
    | apply AW.label
    | (apply AW.kRd; refine AW.sRd (h := ?_))
    | ((first | (apply AO.kG; first | refine AO.sgt (h1 := fun h => ?_) (h2 := fun h => ?_) | refine AO.sgf (h1 := fun h => ?_) (h2 := fun h => ?_) | refine AO.sgs (h := ?_)) | (apply AW.kC; refine AW.sC (h1 := fun h => ?_) (h2 := fun h => ?_)) | (apply AR.kAny; apply AR.kG; first | refine AR.sgt (h1 := fun h => ?_) (h2 := fun h => ?_) | refine AR.sgf (h1 := fun h => ?_) (h2 := fun h => ?_) | refine AR.sgs (h := ?_))) <;> (try (first | exact Bool.noConfusion h | exact absurd h (by decide) | (simp at h; done) | (rw [h]; try simp only [decide_eq_true_eq, decide_eq_false_iff_not, Int.not_lt, Int.not_le, ge_iff_le, gt_iff_lt, Bool.not_eq_true', Bool.not_eq_false', beq_iff_eq, beq_eq_false_iff_ne, ne_eq] at h; try rw [h]; try (exfalso; omega)) | skip)))
    | (apply AR.kAny; first | (apply AR.kCall 22; refine AR.sCall (hg := (gMay' n hs)) (h := ?_)) | (apply AR.kBuildS; first | refine AR.sBuildT (h := ?_) | refine AR.sBuildS (h := ?_)) | (apply AR.kApp; first | refine AR.sGrowT (h := ?_) | refine AR.sNewT (h := ?_) | refine AR.sGrowBT (h := ?_) | refine AR.sGrow (h := ?_) | refine AR.sNewr (h := ?_)) | (apply AR.kIx; first | refine AR.sIxN (h := ?_) | refine AR.sIx (h := ?_) | refine AR.sP (h := ?_) | refine AR.sPi (h := ?_)) | (apply AR.kSl; first | refine AR.sSl (h := ?_) | refine AR.sSlArr (h := ?_) | refine AR.sP (h := ?_)) | (apply AR.kBox; refine AR.sBox (h := ?_)) | (apply AR.kAlloc; refine AR.sAlloc (h := ?_)) | (apply AR.kStore; refine AR.sStore (h := ?_)) | (apply AR.kAdd; refine AR.sAdd (h := ?_)) | (apply AR.kSub; refine AR.sSub (h := ?_)) | (apply AR.kCv; refine AR.sStrR (h := ?_)) | (apply AR.kP; first | refine AR.sP (h := ?_) | refine AR.sPi (h := ?_) | refine AR.sArrB (h := ?_) | refine AR.sLoadA (h := ?_) | refine AR.sEqArr (heg := eqgArr) (h := ?_)))
    | (apply AR.kNil; refine AR.sNil (h := ?_)))
    · exact AW.ret (hD rfl (Lx.tup (.cons (Lx.agg (.cons .refl (.cons .nil (.cons .nil (.cons .nil (.cons .nil .nil)))))) (.cons (Lx.i rfl) .nil))))
    · exact absurd (eq0 h) h0
end Go.Proofs.Ytocppeifkjdeiaa.Mv
