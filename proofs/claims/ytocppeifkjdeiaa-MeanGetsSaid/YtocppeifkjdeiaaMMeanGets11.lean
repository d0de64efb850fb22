/- What the statement MeanGets needs, part 11. Under no condition. -/
import Derived.Test.YtocppeifkjdeiaaMMeanGets10
/- A node trimmed by the document. Under no condition. -/
namespace Go.Proofs.Ytocppeifkjdeiaa.Mv
open Go Go.Proofs
set_option linter.unusedSimpArgs false
set_option linter.unusedVariables false
set_option maxRecDepth 10000
set_option maxHeartbeats 4000000
attribute [local irreducible] AW AO AR

theorem lt_of_le_lt {a b c : L} (h1 : lt b a = false) (h2 : lt b c = true) : lt a c = true := by
  rcases lt_total a b with h | h | h
  · exact lt_trans h h2
  · subst h; exact h2
  · rw [h] at h1; cases h1
/-- A range stands in that of a beginning just if all its keys begin so. -/
theorem ins_und {lo hi : L} {e : Bool} {a : L} (h : emR lo hi e = false) : insS lo hi e a (succS a) (succOk a) = hp (undS lo hi e) a := by
  rw [Bool.eq_iff_iff]
  constructor
  · intro q
    simp only [insS, h, Bool.false_or, Bool.and_eq_true, Bool.or_eq_true, Bool.not_eq_true'] at q
    obtain ⟨q1, q2⟩ := q
    have q3 : hp lo a = true := by
      cases q4 : hp lo a with
      | true => rfl
      | false =>
        obtain ⟨q5, q6⟩ := (succ_facts a lo).2.1 q1 q4
        rcases q2 with q2 | q2
        · rw [q5] at q2; cases q2
        · have q7 := le_trans' q2.2 q6
          simp only [emR, q2.1, Bool.true_and, Bool.not_eq_false'] at h
          rw [h] at q7; cases q7
    have w : wiS lo hi e a = true := by
      simp only [wiS, q3, Bool.true_and, Bool.or_eq_true, Bool.not_eq_true', Bool.and_eq_true]
      exact q2
    have l := hp_len q3
    have t := hp_iff.1 q3
    have u : undS lo hi e = lo.take (undN lo hi e lo.length) := by simp [undS, h]
    obtain ⟨w1, w2⟩ := undN_spec lo hi e lo.length
    have le : a.length ≤ undN lo hi e lo.length := by
      cases Nat.lt_or_ge (undN lo hi e lo.length) a.length with
      | inl g =>
        have := w2 _ g l
        rw [t, w] at this; cases this
      | inr g => exact g
    rw [u, hp_iff, List.take_take, Nat.min_eq_left le, t]
  · intro q
    have all : ∀ k, inR lo hi e k = true → hp k a = true := fun k hk => hp_trans ((und_facts lo hi e k).2.2.1 hk) q
    have q3 := all lo (in_lo h)
    obtain ⟨s1, s2⟩ := (succ_facts a lo).1 q3
    simp only [insS, h, Bool.false_or, Bool.and_eq_true, Bool.or_eq_true, Bool.not_eq_true']
    refine ⟨s1, ?_⟩
    cases ok : succOk a with
    | false => exact .inl rfl
    | true =>
      right
      have bad : inR lo hi e (succS a) = false := by
        cases g : inR lo hi e (succS a) with
        | false => rfl
        | true =>
          have g2 := ((succ_facts a (succS a)).1 (all _ g)).2 ok
          rw [lt_irrefl] at g2; cases g2
      have s3 := lt_asymm (s2 ok)
      simp only [inR, s3, Bool.not_false, Bool.true_and, Bool.or_eq_false_iff, Bool.not_eq_false'] at bad
      exact ⟨bad.1, bad.2⟩
theorem emC_in {x r : L × L × Bool} (h : emC x r = false) : ∃ k, inR x.1 x.2.1 x.2.2 k = true ∧ inR r.1 r.2.1 r.2.2 k = true := by
  obtain ⟨l1, h1, e1⟩ := x
  obtain ⟨l2, h2, e2⟩ := r
  simp only [emC] at h
  have hc : cutEm l1 h1 e1 l2 h2 e2 = false := by
    cases g : cutEm l1 h1 e1 l2 h2 e2 with
    | false => rfl
    | true => simp [cS, g, emR, lt_irrefl] at h
  refine ⟨mxS l1 l2, ?_⟩
  have := in_lo (lo := mxS l1 l2) (hi := cutHi l1 h1 e1 l2 h2 e2) (e := e1 || e2) hc
  rw [cut_in, Bool.and_eq_true] at this
  exact this
theorem le_rise {ks : List L} (h : rise ks = true) {i j : Nat} (hij : i ≤ j) (hj : j < ks.length) : lt (ks.getD j default) (ks.getD i default) = false := by
  by_cases e : i = j
  · subst e; exact lt_irrefl _
  · exact lt_asymm (rise_lt h j (by omega) hj)
/-- The beginning of a kid's range that is not the first in a range stands in it. -/
theorem piv_in {n : Nd} {r : L × L × Bool} (hl : n.pivots.length + 1 = n.kids.length) (hr : rise n.pivots = true) {j q : Nat} (hjq : j < q) (hq : q < n.kids.length) (h1 : emC (rgN n j) r = false) (h2 : emC (rgN n q) r = false) : inR r.1 r.2.1 r.2.2 (rgN n q).1 = true := by
  obtain ⟨k1, a1, b1⟩ := emC_in h1
  obtain ⟨k2, a2, b2⟩ := emC_in h2
  have e1 : (rgN n j).2.1 = n.pivots.getD j default ∧ (rgN n j).2.2 = true := by
    unfold rgN; rw [if_neg (by omega)]
    simp only
    rw [if_pos (by omega), show ((j : Nat) : Int).toNat = j by omega]
    exact ⟨rfl, decide_eq_true (by omega)⟩
  have e2 : (rgN n q).1 = n.pivots.getD (q - 1) default := by
    unfold rgN; rw [if_neg (by omega)]
    simp only
    rw [if_pos (by omega), show (((q : Nat) : Int) - 1).toNat = q - 1 by omega]
  have f1 : lt k1 (n.pivots.getD j default) = true := by
    simp only [inR, e1.1, e1.2, Bool.and_eq_true, Bool.not_true, Bool.false_or] at a1; exact a1.2
  have f2 := lt_of_lt_le f1 (le_rise hr (show j ≤ q - 1 by omega) (by omega))
  rw [← e2] at f2
  simp only [inR, Bool.and_eq_true, Bool.not_eq_true', Bool.or_eq_true] at a2 b1 b2 ⊢
  refine ⟨lt_asymm (lt_of_le_lt b1.1 f2), ?_⟩
  rcases b2.2 with b | b
  · exact .inl b
  · exact .inr (lt_of_le_lt a2.1 b)
theorem gJoin0' (a s2 a2 : L) (h1 : a2.length ≤ 1000000) (h2 : a.length ≤ 1000000) (h3 : s2.length ≤ 1000000) : Good Try.prog 34 [.agg [.s [], .s a], .agg [.s s2, .s a2]] [] (.tup [.agg [.s (joinS [] a s2 a2), .s (joinA [] a s2 a2)], .b (joinOk [] a s2 a2)]) [] :=
  gJoin' [] a s2 a2 (by omega) (by show 0 + _ ≤ _; omega)
theorem gTrimF' (pivots : List L) (kids : List Ed) (buf : List Ms) (r : L × L × Bool) (a : L) (hs : (⟨false, [], pivots, kids, buf⟩ : Nd).small) (hx : (⟨false, [], pivots, kids, buf⟩ : Nd).strs) (ha : a.length ≤ 1000000) (h0 : mayN ⟨false, [], pivots, kids, buf⟩ = 0) (g : (emR r.1 r.2.1 r.2.2 || !hp (undS r.1 r.2.1 r.2.2) a) = false) :
    Good Try.prog 27 [.agg (Nd.av ⟨false, [], pivots, kids, buf⟩), .agg [.s r.1, .s r.2.1, .b r.2.2], .s a] [] (.tup [.agg (trN ⟨false, [], pivots, kids, buf⟩ r a).av, .i .i64 (trE ⟨false, [], pivots, kids, buf⟩ r a)]) [] := by
  have hs3 : kids.length ≤ 1000000 := hs.kids
  have hs4 : buf.length ≤ 1000000 := hs.buf
  have hx1 : buf.all msSm = true := hx.buf
  have ll : (kids.map Ed.av).length = kids.length := by simp
  obtain ⟨pl, pr, _⟩ := inner_len (may_inner h0 rfl).1
  simp only [Bool.or_eq_false_iff, Bool.not_eq_false'] at g
  obtain ⟨g1, g2⟩ := g
  have g3 : insS r.1 r.2.1 r.2.2 a (succS a) (succOk a) = true := by rw [ins_und g1]; exact g2
  have g : (emR r.1 r.2.1 r.2.2 || !hp (undS r.1 r.2.1 r.2.2) a) = false := by rw [g1, g2]; rfl
  refine Good.w tabOk mixed Try.func27 (N := 145) (by kernel_rfl) rfl (by (repeat (first | exact LE.nil | apply LE.cons)); done) (by (repeat (first | exact LE.nil | apply LE.cons)); done) fun D hD F => ?_
  repeat' (first
    | apply AO.nil
    | (apply AO.kCall 22; refine AO.sCall (hg := (gMay' ⟨false, [], pivots, kids, buf⟩ hs)) (h := ?_))
    | (apply AO.kCall 62; refine AO.sCall (hg := (gEmpty' _ _ _)) (h := ?_))
    | (apply AO.kCall 68; refine AO.sCall (hg := (gOf' _ sd)) (h := ?_))
    | (apply AO.kCall 31; refine AO.sCall (hg := (gInside _ _ _ _ _ _)) (h := ?_))
    | (apply AO.kBuildS; first | refine AO.sBuildT (h := ?_) | refine AO.sBuildS (h := ?_))
    | (apply AO.kApp; first | refine AO.sGrowT (h := ?_) | refine AO.sNewT (h := ?_) | refine AO.sGrowBT (h := ?_) | refine AO.sGrow (h := ?_) | refine AO.sNewr (h := ?_))
    | (apply AO.kIx; first | refine AO.sIxN (h := ?_) | refine AO.sIx (h := ?_) | refine AO.sP (h := ?_) | refine AO.sPi (h := ?_))
    | (apply AO.kSl; first | refine AO.sSl (h := ?_) | refine AO.sSlArr (h := ?_) | refine AO.sP (h := ?_))
    | (apply AO.kBox; refine AO.sBox (h := ?_))
    | (apply AO.kAlloc; refine AO.sAlloc (h := ?_))
    | (apply AO.kStore; first | refine AO.sStore (h := ?_) | refine AO.sStB (h := ?_))
    | (apply AO.kAdd; refine AO.sAdd (h := ?_))
    | (apply AO.kP; first | refine AO.sP (h := ?_) | refine AO.sPi (h := ?_) | refine AO.sLoadB (h := ?_) | refine AO.sSameB (h := ?_))
    | apply AW.seq
    | (apply AW.kR; refine AW.sR (h := ?_))
    | apply AW.skip
    | apply AW.block
    | apply AW.out
    | (apply AW.kE; refine AW.sE (h := ?_))
    | apply AW.label
    | (apply AW.kRd; refine AW.sRd (h := ?_))
    | ((first | (apply AO.kG; first | refine AO.sgt (h1 := fun h => ?_) (h2 := fun h => ?_) | refine AO.sgf (h1 := fun h => ?_) (h2 := fun h => ?_) | refine AO.sgs (h := ?_)) | (apply AW.kC; refine AW.sC (h1 := fun h => ?_) (h2 := fun h => ?_)) | (apply AR.kAny; apply AR.kG; first | refine AR.sgt (h1 := fun h => ?_) (h2 := fun h => ?_) | refine AR.sgf (h1 := fun h => ?_) (h2 := fun h => ?_) | refine AR.sgs (h := ?_))) <;> (try (first | exact Bool.noConfusion h | exact absurd h (by decide) | (simp at h; done) | (rw [h]; try simp only [nrm] at h; try rw [h]; try (exfalso; omega)) | skip)))
    | (apply AR.kAny; first | (apply AR.kCall 22; refine AR.sCall (hg := (gMay' ⟨false, [], pivots, kids, buf⟩ hs)) (h := ?_)) | (apply AR.kCall 62; refine AR.sCall (hg := (gEmpty' _ _ _)) (h := ?_)) | (apply AR.kCall 68; refine AR.sCall (hg := (gOf' _ sd)) (h := ?_)) | (apply AR.kCall 31; refine AR.sCall (hg := (gInside _ _ _ _ _ _)) (h := ?_)) | (apply AR.kBuildS; first | refine AR.sBuildT (h := ?_) | refine AR.sBuildS (h := ?_)) | (apply AR.kApp; first | refine AR.sGrowT (h := ?_) | refine AR.sNewT (h := ?_) | refine AR.sGrowBT (h := ?_) | refine AR.sGrow (h := ?_) | refine AR.sNewr (h := ?_)) | (apply AR.kIx; first | refine AR.sIxN (h := ?_) | refine AR.sIx (h := ?_) | refine AR.sP (h := ?_) | refine AR.sPi (h := ?_)) | (apply AR.kSl; first | refine AR.sSl (h := ?_) | refine AR.sSlArr (h := ?_) | refine AR.sP (h := ?_)) | (apply AR.kBox; refine AR.sBox (h := ?_)) | (apply AR.kAlloc; refine AR.sAlloc (h := ?_)) | (apply AR.kStore; refine AR.sStore (h := ?_)) | (apply AR.kAdd; refine AR.sAdd (h := ?_)) | (apply AR.kP; first | refine AR.sP (h := ?_) | refine AR.sPi (h := ?_)))
    | (apply AR.kNil; refine AR.sNil (h := ?_)))
  · exact absurd h0 (ne0 h)
  · rw [g3] at h; cases h
  · refine AW.loopI (fun _ : Unit => True) (fun _ => ⟨[(2, .s a), (3, .ptr 3 0), (4, .ptr 4 0), (6, .ptr 6 0), (8, .ptr 8 0), (9, .ptr 9 0), (39, .i .i64 0), (40, .i .i64 0)], [(3, .bx (Nd.av ⟨false, [], pivots, kids, buf⟩)), (4, .bx [.s r.1, .s r.2.1, .b r.2.2]), (6, .bx [.b false, .nil, .nil, .nil, .nil]), (8, .bx [.b false, .nil, .nil, .nil, .nil]), (9, .bx [.b false, .nil, .nil, .nil, .nil])]⟩) (fun _ => 0) () trivial (by (constructor <;> (repeat' (first | exact LeT.nil | exact LeB.nil | apply LeT.cons | apply LeB.cons | exact Ol.refl | apply Lx.s | apply Lx.b | apply Lx.i | exact Lx.refl)) <;> (first | rfl | assumption | omega | (simp only [List.length_map, BS_len]; done) | skip))) fun m _ _ _ => ?_
    repeat' (first
    | apply AO.nil
    | (apply AO.kBuildS; first | refine AO.sBuildT (h := ?_) | refine AO.sBuildS (h := ?_))
    | (apply AO.kApp; first | refine AO.sGrowT (h := ?_) | refine AO.sNewT (h := ?_) | refine AO.sGrowBT (h := ?_) | refine AO.sGrow (h := ?_) | refine AO.sNewr (h := ?_))
    | (apply AO.kIx; first | refine AO.sIxN (h := ?_) | refine AO.sIx (h := ?_) | refine AO.sP (h := ?_) | refine AO.sPi (h := ?_))
    | (apply AO.kSl; first | refine AO.sSl (h := ?_) | refine AO.sSlArr (h := ?_) | refine AO.sP (h := ?_))
    | (apply AO.kBox; refine AO.sBox (h := ?_))
    | (apply AO.kAlloc; refine AO.sAlloc (h := ?_))
    | (apply AO.kStore; first | refine AO.sStore (h := ?_) | refine AO.sStB (h := ?_))
    | (apply AO.kAdd; refine AO.sAdd (h := ?_))
    | (apply AO.kP; first | refine AO.sP (h := ?_) | refine AO.sPi (h := ?_) | refine AO.sLoadB (h := ?_) | refine AO.sSameB (h := ?_))
    | apply AW.seq
    | (apply AW.kR; refine AW.sR (h := ?_))
    | apply AW.skip
    | apply AW.block
    | apply AW.out
    | (apply AW.kE; refine AW.sE (h := ?_))
    | apply AW.label
    | (apply AW.kRd; refine AW.sRd (h := ?_))
    | ((first | (apply AO.kG; first | refine AO.sgt (h1 := fun h => ?_) (h2 := fun h => ?_) | refine AO.sgf (h1 := fun h => ?_) (h2 := fun h => ?_) | refine AO.sgs (h := ?_)) | (apply AW.kC; refine AW.sC (h1 := fun h => ?_) (h2 := fun h => ?_)) | (apply AR.kAny; apply AR.kG; first | refine AR.sgt (h1 := fun h => ?_) (h2 := fun h => ?_) | refine AR.sgf (h1 := fun h => ?_) (h2 := fun h => ?_) | refine AR.sgs (h := ?_))) <;> (try (first | exact Bool.noConfusion h | exact absurd h (by decide) | (simp at h; done) | (rw [h]; try simp only [nrm] at h; try rw [h]; try (exfalso; omega)) | skip)))
    | (apply AR.kAny; first | (apply AR.kBuildS; first | refine AR.sBuildT (h := ?_) | refine AR.sBuildS (h := ?_)) | (apply AR.kApp; first | refine AR.sGrowT (h := ?_) | refine AR.sNewT (h := ?_) | refine AR.sGrowBT (h := ?_) | refine AR.sGrow (h := ?_) | refine AR.sNewr (h := ?_)) | (apply AR.kIx; first | refine AR.sIxN (h := ?_) | refine AR.sIx (h := ?_) | refine AR.sP (h := ?_) | refine AR.sPi (h := ?_)) | (apply AR.kSl; first | refine AR.sSl (h := ?_) | refine AR.sSlArr (h := ?_) | refine AR.sP (h := ?_)) | (apply AR.kBox; refine AR.sBox (h := ?_)) | (apply AR.kAlloc; refine AR.sAlloc (h := ?_)) | (apply AR.kStore; refine AR.sStore (h := ?_)) | (apply AR.kAdd; refine AR.sAdd (h := ?_)) | (apply AR.kP; first | refine AR.sP (h := ?_) | refine AR.sPi (h := ?_)))
    | (apply AR.kNil; refine AR.sNil (h := ?_)))
    refine AW.nilrow 901 9 1 (St.freeB_ok rfl) (st' := ⟨[(2, .s a), (3, .ptr 3 0), (4, .ptr 4 0), (6, .ptr 6 0), (8, .ptr 8 0), (9, .ptr 9 0), (68, .i .i64 (kids.length : Nat)), (69, .i .i64 (0 : Nat))], [(3, .bx (Nd.av ⟨false, [], pivots, kids, buf⟩)), (4, .bx [.s r.1, .s r.2.1, .b r.2.2]), (6, .bx [.b false, .nil, .nil, .nil, .nil]), (8, .bx [.b false, .nil, .nil, .nil, .nil]), (9, .bx [.b false, .nil, .gr 901 9 1 [], .nil, .nil]), (901, .gw 0)]⟩) ⟨by ((repeat' (first | exact LeT.nil | apply LeT.cons | exact Lx.nilG | apply Lx.s | apply Lx.b | apply Lx.i | exact Lx.refl)) <;> (first | rfl | assumption | omega | (simp only [List.length_map, BS_len]; done) | skip)), .cons .refl (.cons .refl (.cons .refl (.cons .refl (.cons (.bx (.cons .refl (.cons .refl (.cons .nilG (.cons .refl (.cons .refl .nil)))))) (.cons .refl .nil)))))⟩ ?_
    refine AW.nilrow 902 101 4 (St.freeB_ok rfl) (st' := ⟨[(2, .s a), (3, .ptr 3 0), (4, .ptr 4 0), (6, .ptr 6 0), (8, .ptr 8 0), (9, .ptr 9 0), (68, .i .i64 (kids.length : Nat)), (69, .i .i64 (0 : Nat))], [(3, .bx (Nd.av ⟨false, [], pivots, kids, buf⟩)), (4, .bx [.s r.1, .s r.2.1, .b r.2.2]), (6, .bx [.b false, .nil, .nil, .nil, .nil]), (8, .bx [.b false, .nil, .nil, .nil, .nil]), (9, .bx [.b false, .nil, .gr 901 9 1 [], .gr 902 101 4 [], .nil]), (901, .gw 0), (902, .gw 0)]⟩) ⟨by ((repeat' (first | exact LeT.nil | apply LeT.cons | exact Lx.nilG | apply Lx.s | apply Lx.b | apply Lx.i | exact Lx.refl)) <;> (first | rfl | assumption | omega | (simp only [List.length_map, BS_len]; done) | skip)), .cons .refl (.cons .refl (.cons .refl (.cons .refl (.cons (.bx (.cons .refl (.cons .refl (.cons .refl (.cons .nilG (.cons .refl .nil)))))) (.cons .refl (.cons .refl .nil))))))⟩ ?_
    refine AW.loopI (fun x : Nat × List L × List Ed => x.1 ≤ kids.length ∧ x.2.1.length ≤ x.1 ∧ x.2.2.length ≤ x.1 ∧ kRun ⟨false, [], pivots, kids, buf⟩ r a (kids.length - x.1) x.1 x.2.1 x.2.2 = kRun ⟨false, [], pivots, kids, buf⟩ r a kids.length 0 [] [] ∧ (0 < x.2.2.length → ∃ j, j < x.1 ∧ emC (rgN ⟨false, [], pivots, kids, buf⟩ j) r = false)) (fun x => ⟨[(2, .s a), (3, .ptr 3 0), (4, .ptr 4 0), (6, .ptr 6 0), (8, .ptr 8 0), (9, .ptr 9 0), (68, .i .i64 (kids.length : Nat)), (69, .i .i64 x.1)], [(3, .bx (Nd.av ⟨false, [], pivots, kids, buf⟩)), (4, .bx [.s r.1, .s r.2.1, .b r.2.2]), (6, .bx [.b false, .nil, .nil, .nil, .nil]), (8, .bx [.b false, .nil, .nil, .nil, .nil]), (9, .bx [.b false, .nil, .gr 901 9 1 (x.2.1.map sav), .gr 902 101 4 (x.2.2.map Ed.av), .nil]), (901, .gw (x.2.1.map sav).length), (902, .gw (x.2.2.map Ed.av).length)]⟩) (fun x => kids.length - x.1) (0, [], []) ⟨by simp, by simp, by simp, by simp, by simp⟩ (by (constructor <;> (repeat' (first | exact LeT.nil | exact LeB.nil | apply LeT.cons | apply LeB.cons | exact Ol.refl | apply Lx.s | apply Lx.b | apply Lx.i | exact Lx.refl)) <;> (first | rfl | assumption | omega | (simp only [List.length_map, BS_len]; done) | skip))) fun m ⟨q, ps, ks⟩ ⟨hn, lp, lk, ho, hj⟩ ih => ?_
    dsimp only at hn lp lk ho hj ih ⊢
    have lp' : (ps.map sav).length = ps.length := by simp
    have lk' : (ks.map Ed.av).length = ks.length := by simp
    by_cases hq : q < kids.length
    · obtain ⟨s1, s2⟩ := hx.kids q hq
      have hq2 : emC (rgN ⟨false, [], pivots, kids, buf⟩ q) r = false → 0 < ks.length → hp (rgN ⟨false, [], pivots, kids, buf⟩ q).1 a = true := fun h1 h2 => by
        obtain ⟨j, j1, j2⟩ := hj h2
        exact hp_trans ((und_facts _ _ _ _).2.2.1 (piv_in (n := ⟨false, [], pivots, kids, buf⟩) pl pr j1 hq j2 h1)) g2
      repeat' (first
    | apply AO.nil
    | (apply AO.kCall 73; refine AO.sCall (hg := (gRange' ⟨false, [], pivots, kids, buf⟩ _ hs (by first | decide | omega | assumption | (simp only [List.length_nil]; omega) | (have q9 := hp_len (hq2 ‹emR _ _ _ = false› (by omega)); (try refine ⟨?_, ?_⟩) <;> omega)))) (h := ?_))
    | (apply AO.kCall 56; refine AO.sCall (hg := (gCut' _ _ _ _ _ _)) (h := ?_))
    | (apply AO.kCall 62; refine AO.sCall (hg := (gEmpty' _ _ _)) (h := ?_))
    | (apply AO.kCall 34; refine AO.sCall (hg := (gJoin0' _ _ _ s2 ha s1)) (h := ?_))
    | (apply AO.kBuildS; first | refine AO.sBuildT (h := ?_) | refine AO.sBuildS (h := ?_))
    | (apply AO.kApp; first | refine AO.sGrowT (h := ?_) | refine AO.sNewT (h := ?_) | refine AO.sGrowBT (h := ?_) | refine AO.sGrow (h := ?_) | refine AO.sNewr (h := ?_))
    | (apply AO.kIx; first | refine AO.sIxN (hm := by first | decide | omega | assumption | (simp only [List.length_nil]; omega) | (have q9 := hp_len (hq2 ‹emR _ _ _ = false› (by omega)); (try refine ⟨?_, ?_⟩) <;> omega)) (h := ?_) | refine AO.sIx (hm := by first | decide | omega | assumption | (simp only [List.length_nil]; omega) | (have q9 := hp_len (hq2 ‹emR _ _ _ = false› (by omega)); (try refine ⟨?_, ?_⟩) <;> omega)) (h := ?_) | refine AO.sP (h := ?_) | refine AO.sPi (hq := by first | decide | omega | assumption | (simp only [List.length_nil]; omega) | (have q9 := hp_len (hq2 ‹emR _ _ _ = false› (by omega)); (try refine ⟨?_, ?_⟩) <;> omega)) (h := ?_))
    | (apply AO.kSl; first | refine AO.sSl (hq := by first | decide | omega | assumption | (simp only [List.length_nil]; omega) | (have q9 := hp_len (hq2 ‹emR _ _ _ = false› (by omega)); (try refine ⟨?_, ?_⟩) <;> omega)) (h := ?_) | refine AO.sSlArr (h := ?_) | refine AO.sP (h := ?_))
    | (apply AO.kBox; refine AO.sBox (h := ?_))
    | (apply AO.kAlloc; refine AO.sAlloc (h := ?_))
    | (apply AO.kStore; first | refine AO.sStore (h := ?_) | refine AO.sStB (ho := by first | decide | omega | assumption | (simp only [List.length_nil]; omega) | (have q9 := hp_len (hq2 ‹emR _ _ _ = false› (by omega)); (try refine ⟨?_, ?_⟩) <;> omega)) (h := ?_))
    | (apply AO.kAdd; refine AO.sAdd (hr := by first | decide | omega | assumption | (simp only [List.length_nil]; omega) | (have q9 := hp_len (hq2 ‹emR _ _ _ = false› (by omega)); (try refine ⟨?_, ?_⟩) <;> omega)) (h := ?_))
    | (apply AO.kP; first | refine AO.sP (h := ?_) | refine AO.sPi (hq := by first | decide | omega | assumption | (simp only [List.length_nil]; omega) | (have q9 := hp_len (hq2 ‹emR _ _ _ = false› (by omega)); (try refine ⟨?_, ?_⟩) <;> omega)) (h := ?_) | refine AO.sLoadB (ho := by first | decide | omega | assumption | (simp only [List.length_nil]; omega) | (have q9 := hp_len (hq2 ‹emR _ _ _ = false› (by omega)); (try refine ⟨?_, ?_⟩) <;> omega)) (h := ?_) | refine AO.sSameB (h := ?_))
    | apply AW.seq
    | (apply AW.kR; refine AW.sR (h := ?_))
    | apply AW.skip
    | apply AW.block
    | apply AW.out
    | (apply AW.kE; refine AW.sE (h := ?_))
    | apply AW.label
    | (apply AW.kRd; refine AW.sRd (h := ?_))
    | ((first | (apply AO.kG; first | refine AO.sgt (h1 := fun h => ?_) (h2 := fun h => ?_) | refine AO.sgf (h1 := fun h => ?_) (h2 := fun h => ?_) | refine AO.sgs (h := ?_)) | (apply AW.kC; refine AW.sC (h1 := fun h => ?_) (h2 := fun h => ?_)) | (apply AR.kAny; apply AR.kG; first | refine AR.sgt (h1 := fun h => ?_) (h2 := fun h => ?_) | refine AR.sgf (h1 := fun h => ?_) (h2 := fun h => ?_) | refine AR.sgs (h := ?_))) <;> (try (first | exact Bool.noConfusion h | exact absurd h (by decide) | (simp at h; done) | (rw [h]; try simp only [nrm] at h; try rw [h]; try (exfalso; omega)) | skip)))
    | (apply AR.kAny; first | (apply AR.kCall 73; refine AR.sCall (hg := (gRange' ⟨false, [], pivots, kids, buf⟩ _ hs (by first | decide | omega | assumption | (simp only [List.length_nil]; omega) | (have q9 := hp_len (hq2 ‹emR _ _ _ = false› (by omega)); (try refine ⟨?_, ?_⟩) <;> omega)))) (h := ?_)) | (apply AR.kCall 56; refine AR.sCall (hg := (gCut' _ _ _ _ _ _)) (h := ?_)) | (apply AR.kCall 62; refine AR.sCall (hg := (gEmpty' _ _ _)) (h := ?_)) | (apply AR.kCall 34; refine AR.sCall (hg := (gJoin0' _ _ _ s2 ha s1)) (h := ?_)) | (apply AR.kBuildS; first | refine AR.sBuildT (h := ?_) | refine AR.sBuildS (h := ?_)) | (apply AR.kApp; first | refine AR.sGrowT (h := ?_) | refine AR.sNewT (h := ?_) | refine AR.sGrowBT (h := ?_) | refine AR.sGrow (h := ?_) | refine AR.sNewr (h := ?_)) | (apply AR.kIx; first | refine AR.sIxN (hm := by first | decide | omega | assumption | (simp only [List.length_nil]; omega) | (have q9 := hp_len (hq2 ‹emR _ _ _ = false› (by omega)); (try refine ⟨?_, ?_⟩) <;> omega)) (h := ?_) | refine AR.sIx (hm := by first | decide | omega | assumption | (simp only [List.length_nil]; omega) | (have q9 := hp_len (hq2 ‹emR _ _ _ = false› (by omega)); (try refine ⟨?_, ?_⟩) <;> omega)) (h := ?_) | refine AR.sP (h := ?_) | refine AR.sPi (hq := by first | decide | omega | assumption | (simp only [List.length_nil]; omega) | (have q9 := hp_len (hq2 ‹emR _ _ _ = false› (by omega)); (try refine ⟨?_, ?_⟩) <;> omega)) (h := ?_)) | (apply AR.kSl; first | refine AR.sSl (hq := by first | decide | omega | assumption | (simp only [List.length_nil]; omega) | (have q9 := hp_len (hq2 ‹emR _ _ _ = false› (by omega)); (try refine ⟨?_, ?_⟩) <;> omega)) (h := ?_) | refine AR.sSlArr (h := ?_) | refine AR.sP (h := ?_)) | (apply AR.kBox; refine AR.sBox (h := ?_)) | (apply AR.kAlloc; refine AR.sAlloc (h := ?_)) | (apply AR.kStore; refine AR.sStore (h := ?_)) | (apply AR.kAdd; refine AR.sAdd (hr := by first | decide | omega | assumption | (simp only [List.length_nil]; omega) | (have q9 := hp_len (hq2 ‹emR _ _ _ = false› (by omega)); (try refine ⟨?_, ?_⟩) <;> omega)) (h := ?_)) | (apply AR.kP; first | refine AR.sP (h := ?_) | refine AR.sPi (hq := by first | decide | omega | assumption | (simp only [List.length_nil]; omega) | (have q9 := hp_len (hq2 ‹emR _ _ _ = false› (by omega)); (try refine ⟨?_, ?_⟩) <;> omega)) (h := ?_)))
    | (apply AR.kNil; refine AR.sNil (h := ?_)))
      · have k1 : emC (rgN (⟨false, [], pivots, kids, buf⟩ : Nd) q) r = true := h
        exact ih (q + 1, ps, ks) _ ⟨by dsimp only; omega, by dsimp only; omega, by dsimp only; omega, by dsimp only; rw [← ho]; exact (kRun_skip (n := (⟨false, [], pivots, kids, buf⟩ : Nd)) hq k1).symm, fun h1 => by obtain ⟨j, j1, j2⟩ := hj h1; exact ⟨j, by dsimp only; omega, j2⟩⟩ (by dsimp only; omega) (by (constructor <;> (repeat' (first | exact LeT.nil | exact LeB.nil | apply LeT.cons | apply LeB.cons | exact Ol.refl | apply Lx.s | apply Lx.b | apply Lx.i | exact Lx.refl)) <;> (first | rfl | assumption | omega | (simp only [List.length_map, BS_len]; done) | skip)))
      · have k1 : emC (rgN (⟨false, [], pivots, kids, buf⟩ : Nd) q) r = false := ‹emR _ _ _ = false›
        have k2 : kidOk (⟨false, [], pivots, kids, buf⟩ : Nd) a q = false := by
          show (joinOk [] a (kids.getD q default).strip (kids.getD q default).add && (decide ((joinS [] a (kids.getD q default).strip (kids.getD q default).add).length ≤ 16) && decide ((joinA [] a (kids.getD q default).strip (kids.getD q default).add).length ≤ 16))) = false
          rw [decide_eq_false (show ¬ (joinA [] a (kids.getD q default).strip (kids.getD q default).add).length ≤ 16 by omega), Bool.and_false, Bool.and_false]
        have k3 := kRun_bad (n := (⟨false, [], pivots, kids, buf⟩ : Nd)) (ps := ps) (ks := ks) hq k1 k2
        obtain ⟨t1, t2⟩ := trK1 (n := (⟨false, [], pivots, kids, buf⟩ : Nd)) (r := r) (a := a) h0 g rfl (by rw [← ho, k3])
        rw [t1, t2] at hD
        exact AW.ret (hD rfl (Lx.tup (.cons (Lx.agg (.cons .refl (.cons .nil (.cons .nil (.cons .nil (.cons .nil .nil)))))) (.cons (Lx.i rfl) .nil))))
      · have k1 : emC (rgN (⟨false, [], pivots, kids, buf⟩ : Nd) q) r = false := ‹emR _ _ _ = false›
        have k2 : kidOk (⟨false, [], pivots, kids, buf⟩ : Nd) a q = true := by
          show (joinOk [] a (kids.getD q default).strip (kids.getD q default).add && (decide ((joinS [] a (kids.getD q default).strip (kids.getD q default).add).length ≤ 16) && decide ((joinA [] a (kids.getD q default).strip (kids.getD q default).add).length ≤ 16))) = true
          rw [‹joinOk _ _ _ _ = true›, decide_eq_true (by omega), decide_eq_true (by omega)]; rfl
        have k3 : 0 < ks.length := by omega
        have ho2 := kRun_more (n := (⟨false, [], pivots, kids, buf⟩ : Nd)) (ps := ps) (ks := ks) hq k1 k2
        rw [if_pos k3, ho] at ho2
        rw [cutS_hp (hq2 k1 k3)] at ho2
        exact ih (q + 1, ps ++ [(rgN (⟨false, [], pivots, kids, buf⟩ : Nd) q).1.drop a.length], ks ++ [trKid (⟨false, [], pivots, kids, buf⟩ : Nd) a q]) _ ⟨by dsimp only; omega, by dsimp only; (try simp only [List.length_append, List.length_cons, List.length_nil]); omega, by dsimp only; simp only [List.length_append, List.length_cons, List.length_nil]; omega, ho2.symm, fun _ => ⟨q, by dsimp only; omega, k1⟩⟩ (by dsimp only; omega) (by ((constructor <;> (repeat' (first | exact LeT.nil | exact LeB.nil | apply LeT.cons | apply LeB.cons | exact Ol.refl | apply Lx.s | apply Lx.b | apply Lx.i | exact Lx.refl)) <;> (first | rfl | assumption | omega | (simp only [List.length_map, BS_len]; done) | skip)) <;> (first | (refine Lx.eq (congrArg (AV.gr _ _ _) ?_); simp only [List.map_append, List.map_cons, List.map_nil]; rfl) | (refine Ol.eq (congrArg Ob.gw ?_); simp only [List.map_append, List.map_cons, List.map_nil, List.length_append, List.length_map, List.length_cons, List.length_nil]; done) | (refine Ol.bx ?_; (repeat' (first | exact LxL.nil | apply LxL.cons | exact Lx.refl | (refine Lx.eq (congrArg (AV.gr _ _ _) ?_); simp only [List.map_append, List.map_cons, List.map_nil]; rfl)))) | skip)))
      · have k1 : emC (rgN (⟨false, [], pivots, kids, buf⟩ : Nd) q) r = false := ‹emR _ _ _ = false›
        have k2 : kidOk (⟨false, [], pivots, kids, buf⟩ : Nd) a q = true := by
          show (joinOk [] a (kids.getD q default).strip (kids.getD q default).add && (decide ((joinS [] a (kids.getD q default).strip (kids.getD q default).add).length ≤ 16) && decide ((joinA [] a (kids.getD q default).strip (kids.getD q default).add).length ≤ 16))) = true
          rw [‹joinOk _ _ _ _ = true›, decide_eq_true (by omega), decide_eq_true (by omega)]; rfl
        have k3 : ¬ 0 < ks.length := by omega
        have ho2 := kRun_more (n := (⟨false, [], pivots, kids, buf⟩ : Nd)) (ps := ps) (ks := ks) hq k1 k2
        rw [if_neg k3, ho] at ho2
        skip
        exact ih (q + 1, ps, ks ++ [trKid (⟨false, [], pivots, kids, buf⟩ : Nd) a q]) _ ⟨by dsimp only; omega, by dsimp only; (try simp only [List.length_append, List.length_cons, List.length_nil]); omega, by dsimp only; simp only [List.length_append, List.length_cons, List.length_nil]; omega, ho2.symm, fun _ => ⟨q, by dsimp only; omega, k1⟩⟩ (by dsimp only; omega) (by ((constructor <;> (repeat' (first | exact LeT.nil | exact LeB.nil | apply LeT.cons | apply LeB.cons | exact Ol.refl | apply Lx.s | apply Lx.b | apply Lx.i | exact Lx.refl)) <;> (first | rfl | assumption | omega | (simp only [List.length_map, BS_len]; done) | skip)) <;> (first | (refine Lx.eq (congrArg (AV.gr _ _ _) ?_); simp only [List.map_append, List.map_cons, List.map_nil]; rfl) | (refine Ol.eq (congrArg Ob.gw ?_); simp only [List.map_append, List.map_cons, List.map_nil, List.length_append, List.length_map, List.length_cons, List.length_nil]; done) | (refine Ol.bx ?_; (repeat' (first | exact LxL.nil | apply LxL.cons | exact Lx.refl | (refine Lx.eq (congrArg (AV.gr _ _ _) ?_); simp only [List.map_append, List.map_cons, List.map_nil]; rfl)))) | skip)))
      · have k1 : emC (rgN (⟨false, [], pivots, kids, buf⟩ : Nd) q) r = false := ‹emR _ _ _ = false›
        have k2 : kidOk (⟨false, [], pivots, kids, buf⟩ : Nd) a q = false := by
          show (joinOk [] a (kids.getD q default).strip (kids.getD q default).add && (decide ((joinS [] a (kids.getD q default).strip (kids.getD q default).add).length ≤ 16) && decide ((joinA [] a (kids.getD q default).strip (kids.getD q default).add).length ≤ 16))) = false
          rw [decide_eq_false (show ¬ (joinS [] a (kids.getD q default).strip (kids.getD q default).add).length ≤ 16 by omega), Bool.false_and, Bool.and_false]
        have k3 := kRun_bad (n := (⟨false, [], pivots, kids, buf⟩ : Nd)) (ps := ps) (ks := ks) hq k1 k2
        obtain ⟨t1, t2⟩ := trK1 (n := (⟨false, [], pivots, kids, buf⟩ : Nd)) (r := r) (a := a) h0 g rfl (by rw [← ho, k3])
        rw [t1, t2] at hD
        exact AW.ret (hD rfl (Lx.tup (.cons (Lx.agg (.cons .refl (.cons .nil (.cons .nil (.cons .nil (.cons .nil .nil)))))) (.cons (Lx.i rfl) .nil))))
      · have k1 : emC (rgN (⟨false, [], pivots, kids, buf⟩ : Nd) q) r = false := ‹emR _ _ _ = false›
        have k2 : kidOk (⟨false, [], pivots, kids, buf⟩ : Nd) a q = false := by
          show (joinOk [] a (kids.getD q default).strip (kids.getD q default).add && (decide ((joinS [] a (kids.getD q default).strip (kids.getD q default).add).length ≤ 16) && decide ((joinA [] a (kids.getD q default).strip (kids.getD q default).add).length ≤ 16))) = false
          rw [‹joinOk _ _ _ _ = false›, Bool.false_and]
        have k3 := kRun_bad (n := (⟨false, [], pivots, kids, buf⟩ : Nd)) (ps := ps) (ks := ks) hq k1 k2
        obtain ⟨t1, t2⟩ := trK1 (n := (⟨false, [], pivots, kids, buf⟩ : Nd)) (r := r) (a := a) h0 g rfl (by rw [← ho, k3])
        rw [t1, t2] at hD
        exact AW.ret (hD rfl (Lx.tup (.cons (Lx.agg (.cons .refl (.cons .nil (.cons .nil (.cons .nil (.cons .nil .nil)))))) (.cons (Lx.i rfl) .nil))))
      all_goals omega
    · repeat' (first
    | apply AO.nil
    | (apply AO.kCall 74; refine AO.sCall (hg := (gTrimMs' _ _ _ hs4 ha hx1)) (h := ?_))
    | (apply AO.kBuildS; first | refine AO.sBuildT (h := ?_) | refine AO.sBuildS (h := ?_))
    | (apply AO.kApp; first | refine AO.sGrowT (h := ?_) | refine AO.sNewT (h := ?_) | refine AO.sGrowBT (h := ?_) | refine AO.sGrow (h := ?_) | refine AO.sNewr (h := ?_))
    | (apply AO.kIx; first | refine AO.sIxN (h := ?_) | refine AO.sIx (h := ?_) | refine AO.sP (h := ?_) | refine AO.sPi (h := ?_))
    | (apply AO.kSl; first | refine AO.sSl (h := ?_) | refine AO.sSlArr (h := ?_) | refine AO.sP (h := ?_))
    | (apply AO.kBox; refine AO.sBox (h := ?_))
    | (apply AO.kAlloc; refine AO.sAlloc (h := ?_))
    | (apply AO.kStore; first | refine AO.sStore (h := ?_) | refine AO.sStB (h := ?_))
    | (apply AO.kAdd; refine AO.sAdd (h := ?_))
    | (apply AO.kP; first | refine AO.sP (h := ?_) | refine AO.sPi (h := ?_) | refine AO.sLoadB (h := ?_) | refine AO.sSameB (h := ?_))
    | apply AW.seq
    | (apply AW.kR; refine AW.sR (h := ?_))
    | apply AW.skip
    | apply AW.block
    | apply AW.out
    | (apply AW.kE; refine AW.sE (h := ?_))
    | apply AW.label
    | (apply AW.kRd; refine AW.sRd (h := ?_))
    | ((first | (apply AO.kG; first | refine AO.sgt (h1 := fun h => ?_) (h2 := fun h => ?_) | refine AO.sgf (h1 := fun h => ?_) (h2 := fun h => ?_) | refine AO.sgs (h := ?_)) | (apply AW.kC; refine AW.sC (h1 := fun h => ?_) (h2 := fun h => ?_)) | (apply AR.kAny; apply AR.kG; first | refine AR.sgt (h1 := fun h => ?_) (h2 := fun h => ?_) | refine AR.sgf (h1 := fun h => ?_) (h2 := fun h => ?_) | refine AR.sgs (h := ?_))) <;> (try (first | exact Bool.noConfusion h | exact absurd h (by decide) | (simp at h; done) | (rw [h]; try simp only [nrm] at h; try rw [h]; try (exfalso; omega)) | skip)))
    | (apply AR.kAny; first | (apply AR.kCall 74; refine AR.sCall (hg := (gTrimMs' _ _ _ hs4 ha hx1)) (h := ?_)) | (apply AR.kBuildS; first | refine AR.sBuildT (h := ?_) | refine AR.sBuildS (h := ?_)) | (apply AR.kApp; first | refine AR.sGrowT (h := ?_) | refine AR.sNewT (h := ?_) | refine AR.sGrowBT (h := ?_) | refine AR.sGrow (h := ?_) | refine AR.sNewr (h := ?_)) | (apply AR.kIx; first | refine AR.sIxN (h := ?_) | refine AR.sIx (h := ?_) | refine AR.sP (h := ?_) | refine AR.sPi (h := ?_)) | (apply AR.kSl; first | refine AR.sSl (h := ?_) | refine AR.sSlArr (h := ?_) | refine AR.sP (h := ?_)) | (apply AR.kBox; refine AR.sBox (h := ?_)) | (apply AR.kAlloc; refine AR.sAlloc (h := ?_)) | (apply AR.kStore; refine AR.sStore (h := ?_)) | (apply AR.kAdd; refine AR.sAdd (h := ?_)) | (apply AR.kP; first | refine AR.sP (h := ?_) | refine AR.sPi (h := ?_)))
    | (apply AR.kNil; refine AR.sNil (h := ?_)))
      · omega
      all_goals (have e : kids.length - q = 0 := by omega)
      all_goals rw [e, kRun] at ho
      · have g5 : trMsOk buf r a = false := by
          cases q : trMsOk buf r a with
          | false => rfl
          | true => rw [q] at h; cases h
        obtain ⟨t1, t2⟩ := trK2 (n := (⟨false, [], pivots, kids, buf⟩ : Nd)) (r := r) (a := a) h0 g rfl (by rw [← ho]) g5
        rw [t1, t2] at hD
        exact AW.ret (hD rfl (Lx.tup (.cons (Lx.agg (.cons .refl (.cons .nil (.cons .nil (.cons .nil (.cons .nil .nil)))))) (.cons (Lx.i (by show (if trMsOk buf r a = true then (0 : Int) else 1) = _; rw [g5]; rfl)) .nil))))
      · have g5 : trMsOk buf r a = true := by
          cases q : trMsOk buf r a with
          | true => rfl
          | false => rw [q] at h; cases h
        obtain ⟨t1, t2⟩ := trK3 (n := (⟨false, [], pivots, kids, buf⟩ : Nd)) (r := r) (a := a) h0 g rfl (by rw [← ho]) g5
        rw [t1, t2, ← ho] at hD
        refine AW.ret (hD rfl (Lx.tup (.cons (Lx.agg (.cons .refl (.cons .nil (.cons .gr (.cons .gr (.cons ?_ .nil)))))) (.cons (Lx.i rfl) .nil))))
        exact Lx.eq (congrArg (fun l : List Ms => AV.sh 6 (l.map Ms.av)) (if_pos g5))
  · rw [g1] at *; contradiction
theorem gTrimT' (pairs : List Pr) (r : L × L × Bool) (a : L) (hs : (⟨true, pairs, [], [], []⟩ : Nd).small) (ha : a.length ≤ 1000000) (h0 : mayN (⟨true, pairs, [], [], []⟩ : Nd) = 0) (g : (emR r.1 r.2.1 r.2.2 || !hp (undS r.1 r.2.1 r.2.2) a) = false) :
    Good Try.prog 27 [.agg (Nd.av (⟨true, pairs, [], [], []⟩ : Nd)), .agg [.s r.1, .s r.2.1, .b r.2.2], .s a] [] (.tup [.agg (trN (⟨true, pairs, [], [], []⟩ : Nd) r a).av, .i .i64 (trE (⟨true, pairs, [], [], []⟩ : Nd) r a)]) [] := by
  have hs1 : pairs.length ≤ 1000000 := hs.pairs
  have ll : (pairs.map Pr.av).length = pairs.length := by simp
  simp only [Bool.or_eq_false_iff, Bool.not_eq_false'] at g
  obtain ⟨g1, g2⟩ := g
  have g3 : insS r.1 r.2.1 r.2.2 a (succS a) (succOk a) = true := by rw [ins_und g1]; exact g2
  have g : (emR r.1 r.2.1 r.2.2 || !hp (undS r.1 r.2.1 r.2.2) a) = false := by rw [g1, g2]; rfl
  refine Good.w tabOk mixed Try.func27 (N := 145) (by kernel_rfl) rfl (by (repeat (first | exact LE.nil | apply LE.cons)); done) (by (repeat (first | exact LE.nil | apply LE.cons)); done) fun D hD F => ?_
  repeat' (first
    | apply AO.nil
    | (apply AO.kCall 22; refine AO.sCall (hg := (gMay' (⟨true, pairs, [], [], []⟩ : Nd) hs)) (h := ?_))
    | (apply AO.kCall 62; refine AO.sCall (hg := (gEmpty' _ _ _)) (h := ?_))
    | (apply AO.kCall 68; refine AO.sCall (hg := (gOf' _ sd)) (h := ?_))
    | (apply AO.kCall 31; refine AO.sCall (hg := (gInside _ _ _ _ _ _)) (h := ?_))
    | (apply AO.kBuildS; first | refine AO.sBuildT (h := ?_) | refine AO.sBuildS (h := ?_))
    | (apply AO.kApp; first | refine AO.sGrowT (h := ?_) | refine AO.sNewT (h := ?_) | refine AO.sGrowBT (h := ?_) | refine AO.sGrow (h := ?_) | refine AO.sNewr (h := ?_))
    | (apply AO.kIx; first | refine AO.sIxN (h := ?_) | refine AO.sIx (h := ?_) | refine AO.sP (h := ?_) | refine AO.sPi (h := ?_))
    | (apply AO.kSl; first | refine AO.sSl (h := ?_) | refine AO.sSlArr (h := ?_) | refine AO.sP (h := ?_))
    | (apply AO.kBox; refine AO.sBox (h := ?_))
    | (apply AO.kAlloc; refine AO.sAlloc (h := ?_))
    | (apply AO.kStore; first | refine AO.sStore (h := ?_) | refine AO.sStB (h := ?_))
    | (apply AO.kAdd; refine AO.sAdd (h := ?_))
    | (apply AO.kP; first | refine AO.sP (h := ?_) | refine AO.sPi (h := ?_) | refine AO.sLoadB (h := ?_) | refine AO.sSameB (h := ?_))
    | apply AW.seq
    | (apply AW.kR; refine AW.sR (h := ?_))
    | apply AW.skip
    | apply AW.block
    | apply AW.out
    | (apply AW.kE; refine AW.sE (h := ?_))
    | apply AW.label
    | (apply AW.kRd; refine AW.sRd (h := ?_))
    | ((first | (apply AO.kG; first | refine AO.sgt (h1 := fun h => ?_) (h2 := fun h => ?_) | refine AO.sgf (h1 := fun h => ?_) (h2 := fun h => ?_) | refine AO.sgs (h := ?_)) | (apply AW.kC; refine AW.sC (h1 := fun h => ?_) (h2 := fun h => ?_)) | (apply AR.kAny; apply AR.kG; first | refine AR.sgt (h1 := fun h => ?_) (h2 := fun h => ?_) | refine AR.sgf (h1 := fun h => ?_) (h2 := fun h => ?_) | refine AR.sgs (h := ?_))) <;> (try (first | exact Bool.noConfusion h | exact absurd h (by decide) | (simp at h; done) | (rw [h]; try simp only [nrm] at h; try rw [h]; try (exfalso; omega)) | skip)))
    | (apply AR.kAny; first | (apply AR.kCall 22; refine AR.sCall (hg := (gMay' (⟨true, pairs, [], [], []⟩ : Nd) hs)) (h := ?_)) | (apply AR.kCall 62; refine AR.sCall (hg := (gEmpty' _ _ _)) (h := ?_)) | (apply AR.kCall 68; refine AR.sCall (hg := (gOf' _ sd)) (h := ?_)) | (apply AR.kCall 31; refine AR.sCall (hg := (gInside _ _ _ _ _ _)) (h := ?_)) | (apply AR.kBuildS; first | refine AR.sBuildT (h := ?_) | refine AR.sBuildS (h := ?_)) | (apply AR.kApp; first | refine AR.sGrowT (h := ?_) | refine AR.sNewT (h := ?_) | refine AR.sGrowBT (h := ?_) | refine AR.sGrow (h := ?_) | refine AR.sNewr (h := ?_)) | (apply AR.kIx; first | refine AR.sIxN (h := ?_) | refine AR.sIx (h := ?_) | refine AR.sP (h := ?_) | refine AR.sPi (h := ?_)) | (apply AR.kSl; first | refine AR.sSl (h := ?_) | refine AR.sSlArr (h := ?_) | refine AR.sP (h := ?_)) | (apply AR.kBox; refine AR.sBox (h := ?_)) | (apply AR.kAlloc; refine AR.sAlloc (h := ?_)) | (apply AR.kStore; refine AR.sStore (h := ?_)) | (apply AR.kAdd; refine AR.sAdd (h := ?_)) | (apply AR.kP; first | refine AR.sP (h := ?_) | refine AR.sPi (h := ?_)))
    | (apply AR.kNil; refine AR.sNil (h := ?_)))
  · exact absurd h0 (ne0 h)
  · rw [g3] at h; cases h
  · refine AW.nilrow 900 43 2 (St.freeB_ok rfl) (st' := ⟨[(2, .s a), (3, .ptr 3 0), (4, .ptr 4 0), (6, .ptr 6 0), (8, .ptr 8 0), (9, .ptr 9 0), (39, .i .i64 (pairs.length : Nat)), (40, .i .i64 (0 : Nat))], [(3, .bx (Nd.av (⟨true, pairs, [], [], []⟩ : Nd))), (4, .bx [.s r.1, .s r.2.1, .b r.2.2]), (6, .bx [.b false, .nil, .nil, .nil, .nil]), (8, .bx [.b false, .nil, .nil, .nil, .nil]), (9, .bx [.b true, .gr 900 43 2 [], .nil, .nil, .nil]), (900, .gw 0)]⟩) ⟨by ((repeat' (first | exact LeT.nil | apply LeT.cons | exact Lx.nilG | apply Lx.s | apply Lx.b | apply Lx.i | exact Lx.refl)) <;> (first | rfl | assumption | omega | (simp only [List.length_map, BS_len]; done) | skip)), .cons .refl (.cons .refl (.cons .refl (.cons .refl (.cons (.bx (.cons .refl (.cons .nilG (.cons .refl (.cons .refl (.cons .refl .nil)))))) (.cons .refl .nil)))))⟩ ?_
    refine AW.loopI (fun x : Nat × List Pr => x.1 ≤ pairs.length ∧ x.2 = trPr (pairs.take x.1) r a) (fun x => ⟨[(2, .s a), (3, .ptr 3 0), (4, .ptr 4 0), (6, .ptr 6 0), (8, .ptr 8 0), (9, .ptr 9 0), (39, .i .i64 (pairs.length : Nat)), (40, .i .i64 x.1)], [(3, .bx (Nd.av (⟨true, pairs, [], [], []⟩ : Nd))), (4, .bx [.s r.1, .s r.2.1, .b r.2.2]), (6, .bx [.b false, .nil, .nil, .nil, .nil]), (8, .bx [.b false, .nil, .nil, .nil, .nil]), (9, .bx [.b true, .gr 900 43 2 (x.2.map Pr.av), .nil, .nil, .nil]), (900, .gw (x.2.map Pr.av).length)]⟩) (fun x => pairs.length - x.1) (0, []) ⟨by simp, rfl⟩ (by (constructor <;> (repeat' (first | exact LeT.nil | exact LeB.nil | apply LeT.cons | apply LeB.cons | exact Ol.refl | apply Lx.s | apply Lx.b | apply Lx.i | exact Lx.refl)) <;> (first | rfl | assumption | omega | (simp only [List.length_map, BS_len]; done) | skip))) fun m ⟨q, o⟩ ⟨hn, ho⟩ ih => ?_
    dsimp only at hn ho ih ⊢
    have lo : o.length ≤ q := by
      rw [ho]; exact Nat.le_trans (trPr_len _ _ _) (by rw [List.length_take]; omega)
    have lo' : (o.map Pr.av).length = o.length := by simp
    have hq2 : inR r.1 r.2.1 r.2.2 (pairs.getD q default).k = true → hp (pairs.getD q default).k a = true := fun h1 => hp_trans ((und_facts _ _ _ _).2.2.1 h1) g2
    repeat' (first
    | apply AO.nil
    | (apply AO.kCall 29; refine AO.sCall (hg := (gIn' _ _ _ _)) (h := ?_))
    | (apply AO.kBuildS; first | refine AO.sBuildT (h := ?_) | refine AO.sBuildS (h := ?_))
    | (apply AO.kApp; first | refine AO.sGrowT (h := ?_) | refine AO.sNewT (h := ?_) | refine AO.sGrowBT (h := ?_) | refine AO.sGrow (h := ?_) | refine AO.sNewr (h := ?_))
    | (apply AO.kIx; first | refine AO.sIxN (hm := by first | decide | omega | assumption | (simp only [List.length_map]; omega) | (have q9 := hp_len (hq2 ‹inR _ _ _ _ = true›); (try refine ⟨?_, ?_⟩) <;> (try dsimp only) <;> omega)) (h := ?_) | refine AO.sIx (hm := by first | decide | omega | assumption | (simp only [List.length_map]; omega) | (have q9 := hp_len (hq2 ‹inR _ _ _ _ = true›); (try refine ⟨?_, ?_⟩) <;> (try dsimp only) <;> omega)) (h := ?_) | refine AO.sP (h := ?_) | refine AO.sPi (hq := by first | decide | omega | assumption | (simp only [List.length_map]; omega) | (have q9 := hp_len (hq2 ‹inR _ _ _ _ = true›); (try refine ⟨?_, ?_⟩) <;> (try dsimp only) <;> omega)) (h := ?_))
    | (apply AO.kSl; first | refine AO.sSl (hq := by first | decide | omega | assumption | (simp only [List.length_map]; omega) | (have q9 := hp_len (hq2 ‹inR _ _ _ _ = true›); (try refine ⟨?_, ?_⟩) <;> (try dsimp only) <;> omega)) (h := ?_) | refine AO.sSlArr (h := ?_) | refine AO.sP (h := ?_))
    | (apply AO.kBox; refine AO.sBox (h := ?_))
    | (apply AO.kAlloc; refine AO.sAlloc (h := ?_))
    | (apply AO.kStore; first | refine AO.sStore (h := ?_) | refine AO.sStB (ho := by first | decide | omega | assumption | (simp only [List.length_map]; omega) | (have q9 := hp_len (hq2 ‹inR _ _ _ _ = true›); (try refine ⟨?_, ?_⟩) <;> (try dsimp only) <;> omega)) (h := ?_))
    | (apply AO.kAdd; refine AO.sAdd (hr := by first | decide | omega | assumption | (simp only [List.length_map]; omega) | (have q9 := hp_len (hq2 ‹inR _ _ _ _ = true›); (try refine ⟨?_, ?_⟩) <;> (try dsimp only) <;> omega)) (h := ?_))
    | (apply AO.kP; first | refine AO.sP (h := ?_) | refine AO.sPi (hq := by first | decide | omega | assumption | (simp only [List.length_map]; omega) | (have q9 := hp_len (hq2 ‹inR _ _ _ _ = true›); (try refine ⟨?_, ?_⟩) <;> (try dsimp only) <;> omega)) (h := ?_) | refine AO.sLoadB (ho := by first | decide | omega | assumption | (simp only [List.length_map]; omega) | (have q9 := hp_len (hq2 ‹inR _ _ _ _ = true›); (try refine ⟨?_, ?_⟩) <;> (try dsimp only) <;> omega)) (h := ?_) | refine AO.sSameB (h := ?_))
    | apply AW.seq
    | (apply AW.kR; refine AW.sR (h := ?_))
    | apply AW.skip
    | apply AW.block
    | apply AW.out
    | (apply AW.kE; refine AW.sE (h := ?_))
    | apply AW.label
    | (apply AW.kRd; refine AW.sRd (h := ?_))
    | ((first | (apply AO.kG; first | refine AO.sgt (h1 := fun h => ?_) (h2 := fun h => ?_) | refine AO.sgf (h1 := fun h => ?_) (h2 := fun h => ?_) | refine AO.sgs (h := ?_)) | (apply AW.kC; refine AW.sC (h1 := fun h => ?_) (h2 := fun h => ?_)) | (apply AR.kAny; apply AR.kG; first | refine AR.sgt (h1 := fun h => ?_) (h2 := fun h => ?_) | refine AR.sgf (h1 := fun h => ?_) (h2 := fun h => ?_) | refine AR.sgs (h := ?_))) <;> (try (first | exact Bool.noConfusion h | exact absurd h (by decide) | (simp at h; done) | (rw [h]; try simp only [nrm] at h; try rw [h]; try (exfalso; omega)) | skip)))
    | (apply AR.kAny; first | (apply AR.kCall 29; refine AR.sCall (hg := (gIn' _ _ _ _)) (h := ?_)) | (apply AR.kBuildS; first | refine AR.sBuildT (h := ?_) | refine AR.sBuildS (h := ?_)) | (apply AR.kApp; first | refine AR.sGrowT (h := ?_) | refine AR.sNewT (h := ?_) | refine AR.sGrowBT (h := ?_) | refine AR.sGrow (h := ?_) | refine AR.sNewr (h := ?_)) | (apply AR.kIx; first | refine AR.sIxN (hm := by first | decide | omega | assumption | (simp only [List.length_map]; omega) | (have q9 := hp_len (hq2 ‹inR _ _ _ _ = true›); (try refine ⟨?_, ?_⟩) <;> (try dsimp only) <;> omega)) (h := ?_) | refine AR.sIx (hm := by first | decide | omega | assumption | (simp only [List.length_map]; omega) | (have q9 := hp_len (hq2 ‹inR _ _ _ _ = true›); (try refine ⟨?_, ?_⟩) <;> (try dsimp only) <;> omega)) (h := ?_) | refine AR.sP (h := ?_) | refine AR.sPi (hq := by first | decide | omega | assumption | (simp only [List.length_map]; omega) | (have q9 := hp_len (hq2 ‹inR _ _ _ _ = true›); (try refine ⟨?_, ?_⟩) <;> (try dsimp only) <;> omega)) (h := ?_)) | (apply AR.kSl; first | refine AR.sSl (hq := by first | decide | omega | assumption | (simp only [List.length_map]; omega) | (have q9 := hp_len (hq2 ‹inR _ _ _ _ = true›); (try refine ⟨?_, ?_⟩) <;> (try dsimp only) <;> omega)) (h := ?_) | refine AR.sSlArr (h := ?_) | refine AR.sP (h := ?_)) | (apply AR.kBox; refine AR.sBox (h := ?_)) | (apply AR.kAlloc; refine AR.sAlloc (h := ?_)) | (apply AR.kStore; refine AR.sStore (h := ?_)) | (apply AR.kAdd; refine AR.sAdd (hr := by first | decide | omega | assumption | (simp only [List.length_map]; omega) | (have q9 := hp_len (hq2 ‹inR _ _ _ _ = true›); (try refine ⟨?_, ?_⟩) <;> (try dsimp only) <;> omega)) (h := ?_)) | (apply AR.kP; first | refine AR.sP (h := ?_) | refine AR.sPi (hq := by first | decide | omega | assumption | (simp only [List.length_map]; omega) | (have q9 := hp_len (hq2 ‹inR _ _ _ _ = true›); (try refine ⟨?_, ?_⟩) <;> (try dsimp only) <;> omega)) (h := ?_)))
    | (apply AR.kNil; refine AR.sNil (h := ?_)))
    · have hq : q < pairs.length := by omega
      have k1 : prKeep r (pairs.getD q default) = true := h
      exact ih (q + 1, o ++ [⟨(pairs.getD q default).k.drop a.length, (pairs.getD q default).v⟩]) _ ⟨by dsimp only; omega, by dsimp only; rw [ho, trPr, trPr, filt_yes hq k1, List.map_append, List.map_cons, prCut, cutS_hp (hq2 h)]; rfl⟩ (by dsimp only; omega) (by ((constructor <;> (repeat' (first | exact LeT.nil | exact LeB.nil | apply LeT.cons | apply LeB.cons | exact Ol.refl | apply Lx.s | apply Lx.b | apply Lx.i | exact Lx.refl)) <;> (first | rfl | assumption | omega | (simp only [List.length_map, BS_len]; done) | skip)) <;> (first | (refine Lx.eq (congrArg (AV.gr _ _ _) ?_); simp only [List.map_append, List.map_cons, List.map_nil]; rfl) | (refine Ol.eq (congrArg Ob.gw ?_); simp only [List.map_append, List.map_cons, List.map_nil, List.length_append, List.length_map, List.length_cons, List.length_nil]; done) | (refine Ol.bx ?_; (repeat' (first | exact LxL.nil | apply LxL.cons | exact Lx.refl | (refine Lx.eq (congrArg (AV.gr _ _ _) ?_); simp only [List.map_append, List.map_cons, List.map_nil]; rfl)))) | skip)))
    · have hq : q < pairs.length := by omega
      have k1 : prKeep r (pairs.getD q default) = false := h
      exact ih (q + 1, o) _ ⟨by dsimp only; omega, by dsimp only; rw [ho, trPr, trPr, filt_no hq k1]⟩ (by dsimp only; omega) (by (constructor <;> (repeat' (first | exact LeT.nil | exact LeB.nil | apply LeT.cons | apply LeB.cons | exact Ol.refl | apply Lx.s | apply Lx.b | apply Lx.i | exact Lx.refl)) <;> (first | rfl | assumption | omega | (simp only [List.length_map, BS_len]; done) | skip)))
    · have e : q = pairs.length := by omega
      subst e
      rw [List.take_length] at ho
      subst ho
      obtain ⟨t1, t2⟩ := trL (n := (⟨true, pairs, [], [], []⟩ : Nd)) (r := r) (a := a) h0 g rfl
      rw [t1, t2] at hD
      refine AW.loopI (fun _ : Unit => True) (fun _ => ⟨[(2, .s a), (3, .ptr 3 0), (4, .ptr 4 0), (6, .ptr 6 0), (8, .ptr 8 0), (9, .ptr 9 0), (68, .i .i64 0), (69, .i .i64 0)], [(3, .bx (Nd.av (⟨true, pairs, [], [], []⟩ : Nd))), (4, .bx [.s r.1, .s r.2.1, .b r.2.2]), (6, .bx [.b false, .nil, .nil, .nil, .nil]), (8, .bx [.b false, .nil, .nil, .nil, .nil]), (9, .bx [.b true, .gr 900 43 2 ((trPr pairs r a).map Pr.av), .nil, .nil, .nil]), (900, .gw ((trPr pairs r a).map Pr.av).length)]⟩) (fun _ => 0) () trivial (by (constructor <;> (repeat' (first | exact LeT.nil | exact LeB.nil | apply LeT.cons | apply LeB.cons | exact Ol.refl | apply Lx.s | apply Lx.b | apply Lx.i | exact Lx.refl)) <;> (first | rfl | assumption | omega | (simp only [List.length_map, BS_len]; done) | skip))) fun m _ _ _ => ?_
      repeat' (first
    | apply AO.nil
    | (apply AO.kCall 74; refine AO.sCall (hg := (gTrimMs' [] _ _ (by decide) ha rfl)) (h := ?_))
    | (apply AO.kBuildS; first | refine AO.sBuildT (h := ?_) | refine AO.sBuildS (h := ?_))
    | (apply AO.kApp; first | refine AO.sGrowT (h := ?_) | refine AO.sNewT (h := ?_) | refine AO.sGrowBT (h := ?_) | refine AO.sGrow (h := ?_) | refine AO.sNewr (h := ?_))
    | (apply AO.kIx; first | refine AO.sIxN (h := ?_) | refine AO.sIx (h := ?_) | refine AO.sP (h := ?_) | refine AO.sPi (h := ?_))
    | (apply AO.kSl; first | refine AO.sSl (h := ?_) | refine AO.sSlArr (h := ?_) | refine AO.sP (h := ?_))
    | (apply AO.kBox; refine AO.sBox (h := ?_))
    | (apply AO.kAlloc; refine AO.sAlloc (h := ?_))
    | (apply AO.kStore; first | refine AO.sStore (h := ?_) | refine AO.sStB (h := ?_))
    | (apply AO.kAdd; refine AO.sAdd (h := ?_))
    | (apply AO.kP; first | refine AO.sP (h := ?_) | refine AO.sPi (h := ?_) | refine AO.sLoadB (h := ?_) | refine AO.sSameB (h := ?_))
    | apply AW.seq
    | (apply AW.kR; refine AW.sR (h := ?_))
    | apply AW.skip
    | apply AW.block
    | apply AW.out
    | (apply AW.kE; refine AW.sE (h := ?_))
    | apply AW.label
    | (apply AW.kRd; refine AW.sRd (h := ?_))
    | ((first | (apply AO.kG; first | refine AO.sgt (h1 := fun h => ?_) (h2 := fun h => ?_) | refine AO.sgf (h1 := fun h => ?_) (h2 := fun h => ?_) | refine AO.sgs (h := ?_)) | (apply AW.kC; refine AW.sC (h1 := fun h => ?_) (h2 := fun h => ?_)) | (apply AR.kAny; apply AR.kG; first | refine AR.sgt (h1 := fun h => ?_) (h2 := fun h => ?_) | refine AR.sgf (h1 := fun h => ?_) (h2 := fun h => ?_) | refine AR.sgs (h := ?_))) <;> (try (first | exact Bool.noConfusion h | exact absurd h (by decide) | (simp at h; done) | (rw [h]; try simp only [nrm] at h; try rw [h]; try (exfalso; omega)) | skip)))
    | (apply AR.kAny; first | (apply AR.kCall 74; refine AR.sCall (hg := (gTrimMs' [] _ _ (by decide) ha rfl)) (h := ?_)) | (apply AR.kBuildS; first | refine AR.sBuildT (h := ?_) | refine AR.sBuildS (h := ?_)) | (apply AR.kApp; first | refine AR.sGrowT (h := ?_) | refine AR.sNewT (h := ?_) | refine AR.sGrowBT (h := ?_) | refine AR.sGrow (h := ?_) | refine AR.sNewr (h := ?_)) | (apply AR.kIx; first | refine AR.sIxN (h := ?_) | refine AR.sIx (h := ?_) | refine AR.sP (h := ?_) | refine AR.sPi (h := ?_)) | (apply AR.kSl; first | refine AR.sSl (h := ?_) | refine AR.sSlArr (h := ?_) | refine AR.sP (h := ?_)) | (apply AR.kBox; refine AR.sBox (h := ?_)) | (apply AR.kAlloc; refine AR.sAlloc (h := ?_)) | (apply AR.kStore; refine AR.sStore (h := ?_)) | (apply AR.kAdd; refine AR.sAdd (h := ?_)) | (apply AR.kP; first | refine AR.sP (h := ?_) | refine AR.sPi (h := ?_)))
    | (apply AR.kNil; refine AR.sNil (h := ?_)))
      exact AW.ret (hD rfl (Lx.tup (.cons (Lx.agg (.cons .refl (.cons .gr (.cons .nil (.cons .nil (.cons .refl .nil)))))) (.cons (Lx.i rfl) .nil))))
  · rw [g1] at *; contradiction
theorem gTrim' (n : Nd) (r : L × L × Bool) (a : L) (hs : n.small) (hx : n.strs) (ha : a.length ≤ 1000000) :
    Good Try.prog 27 [.agg n.av, .agg [.s r.1, .s r.2.1, .b r.2.2], .s a] [] (.tup [.agg (trN n r a).av, .i .i64 (trE n r a)]) [] := by
  by_cases h0 : mayN n = 0
  · cases g : (emR r.1 r.2.1 r.2.2 || !hp (undS r.1 r.2.1 r.2.2) a) with
    | false =>
      obtain ⟨leaf, pairs, pivots, kids, buf⟩ := n
      cases leaf
      · obtain rfl : pairs = [] := (inner_len (may_inner h0 rfl).1).2.2
        exact gTrimF' _ _ _ _ _ hs hx ha h0 g
      · obtain ⟨e1, e2, e3⟩ := leaf_len (may_leaf h0 rfl)
        obtain rfl : pivots = [] := e1
        obtain rfl : kids = [] := e2
        obtain rfl : buf = [] := e3
        exact gTrimT' _ _ _ hs ha h0 g
    | true =>
      obtain ⟨t1, t2⟩ := tr1 (n := n) (r := r) (a := a) h0 g
      rw [t1, t2]
      have g3 : emR r.1 r.2.1 r.2.2 = false → insS r.1 r.2.1 r.2.2 a (succS a) (succOk a) = false := fun g1 => by
        rw [ins_und g1]; rw [g1] at g; simpa using g
      refine Good.w tabOk mixed Try.func27 (N := 145) (by kernel_rfl) rfl (by (repeat (first | exact LE.nil | apply LE.cons)); done) (by (repeat (first | exact LE.nil | apply LE.cons)); done) fun D hD F => ?_
      repeat' (first
    | apply AO.nil
    | (apply AO.kCall 22; refine AO.sCall (hg := (gMay' n hs)) (h := ?_))
    | (apply AO.kCall 62; refine AO.sCall (hg := (gEmpty' _ _ _)) (h := ?_))
    | (apply AO.kCall 68; refine AO.sCall (hg := (gOf' _ sd)) (h := ?_))
    | (apply AO.kCall 31; refine AO.sCall (hg := (gInside _ _ _ _ _ _)) (h := ?_))
    | (apply AO.kBuildS; first | refine AO.sBuildT (h := ?_) | refine AO.sBuildS (h := ?_))
    | (apply AO.kApp; first | refine AO.sGrowT (h := ?_) | refine AO.sNewT (h := ?_) | refine AO.sGrowBT (h := ?_) | refine AO.sGrow (h := ?_) | refine AO.sNewr (h := ?_))
    | (apply AO.kIx; first | refine AO.sIxN (h := ?_) | refine AO.sIx (h := ?_) | refine AO.sP (h := ?_) | refine AO.sPi (h := ?_))
    | (apply AO.kSl; first | refine AO.sSl (h := ?_) | refine AO.sSlArr (h := ?_) | refine AO.sP (h := ?_))
    | (apply AO.kBox; refine AO.sBox (h := ?_))
    | (apply AO.kAlloc; refine AO.sAlloc (h := ?_))
    | (apply AO.kStore; first | refine AO.sStore (h := ?_) | refine AO.sStB (h := ?_))
    | (apply AO.kAdd; refine AO.sAdd (h := ?_))
    | (apply AO.kP; first | refine AO.sP (h := ?_) | refine AO.sPi (h := ?_) | refine AO.sLoadB (h := ?_) | refine AO.sSameB (h := ?_))
    | apply AW.seq
    | (apply AW.kR; refine AW.sR (h := ?_))
    | apply AW.skip
    | apply AW.block
    | apply AW.out
    | (apply AW.kE; refine AW.sE (h := ?_))
    | apply AW.label
    | (apply AW.kRd; refine AW.sRd (h := ?_))
    | ((first | (apply AO.kG; first | refine AO.sgt (h1 := fun h => ?_) (h2 := fun h => ?_) | refine AO.sgf (h1 := fun h => ?_) (h2 := fun h => ?_) | refine AO.sgs (h := ?_)) | (apply AW.kC; refine AW.sC (h1 := fun h => ?_) (h2 := fun h => ?_)) | (apply AR.kAny; apply AR.kG; first | refine AR.sgt (h1 := fun h => ?_) (h2 := fun h => ?_) | refine AR.sgf (h1 := fun h => ?_) (h2 := fun h => ?_) | refine AR.sgs (h := ?_))) <;> (try (first | exact Bool.noConfusion h | exact absurd h (by decide) | (simp at h; done) | (rw [h]; try simp only [nrm] at h; try rw [h]; try (exfalso; omega)) | skip)))
    | (apply AR.kAny; first | (apply AR.kCall 22; refine AR.sCall (hg := (gMay' n hs)) (h := ?_)) | (apply AR.kCall 62; refine AR.sCall (hg := (gEmpty' _ _ _)) (h := ?_)) | (apply AR.kCall 68; refine AR.sCall (hg := (gOf' _ sd)) (h := ?_)) | (apply AR.kCall 31; refine AR.sCall (hg := (gInside _ _ _ _ _ _)) (h := ?_)) | (apply AR.kBuildS; first | refine AR.sBuildT (h := ?_) | refine AR.sBuildS (h := ?_)) | (apply AR.kApp; first | refine AR.sGrowT (h := ?_) | refine AR.sNewT (h := ?_) | refine AR.sGrowBT (h := ?_) | refine AR.sGrow (h := ?_) | refine AR.sNewr (h := ?_)) | (apply AR.kIx; first | refine AR.sIxN (h := ?_) | refine AR.sIx (h := ?_) | refine AR.sP (h := ?_) | refine AR.sPi (h := ?_)) | (apply AR.kSl; first | refine AR.sSl (h := ?_) | refine AR.sSlArr (h := ?_) | refine AR.sP (h := ?_)) | (apply AR.kBox; refine AR.sBox (h := ?_)) | (apply AR.kAlloc; refine AR.sAlloc (h := ?_)) | (apply AR.kStore; refine AR.sStore (h := ?_)) | (apply AR.kAdd; refine AR.sAdd (h := ?_)) | (apply AR.kP; first | refine AR.sP (h := ?_) | refine AR.sPi (h := ?_)))
    | (apply AR.kNil; refine AR.sNil (h := ?_)))
      · exact absurd h0 (ne0 h)
      · exact AW.ret (hD rfl (Lx.tup (.cons (Lx.agg (.cons .refl (.cons .nil (.cons .nil (.cons .nil (.cons .nil .nil)))))) (.cons (Lx.i rfl) .nil))))
      · exfalso
        have g4 := g3 (by assumption)
        rw [h] at g4; cases g4
      · exact AW.ret (hD rfl (Lx.tup (.cons (Lx.agg (.cons .refl (.cons .nil (.cons .nil (.cons .nil (.cons .nil .nil)))))) (.cons (Lx.i rfl) .nil))))
  · obtain ⟨t1, t2⟩ := tr3 (n := n) (r := r) (a := a) h0
    rw [t1, t2]
    refine Good.w tabOk mixed Try.func27 (N := 145) (by kernel_rfl) rfl (by (repeat (first | exact LE.nil | apply LE.cons)); done) (by (repeat (first | exact LE.nil | apply LE.cons)); done) fun D hD F => ?_
    repeat' (first
    | apply AO.nil
    | (apply AO.kCall 22; refine AO.sCall (hg := (gMay' n hs)) (h := ?_))
    | (apply AO.kBuildS; first | refine AO.sBuildT (h := ?_) | refine AO.sBuildS (h := ?_))
    | (apply AO.kApp; first | refine AO.sGrowT (h := ?_) | refine AO.sNewT (h := ?_) | refine AO.sGrowBT (h := ?_) | refine AO.sGrow (h := ?_) | refine AO.sNewr (h := ?_))
    | (apply AO.kIx; first | refine AO.sIxN (h := ?_) | refine AO.sIx (h := ?_) | refine AO.sP (h := ?_) | refine AO.sPi (h := ?_))
    | (apply AO.kSl; first | refine AO.sSl (h := ?_) | refine AO.sSlArr (h := ?_) | refine AO.sP (h := ?_))
    | (apply AO.kBox; refine AO.sBox (h := ?_))
    | (apply AO.kAlloc; refine AO.sAlloc (h := ?_))
    | (apply AO.kStore; first | refine AO.sStore (h := ?_) | refine AO.sStB (h := ?_))
    | (apply AO.kAdd; refine AO.sAdd (h := ?_))
    | (apply AO.kP; first | refine AO.sP (h := ?_) | refine AO.sPi (h := ?_) | refine AO.sLoadB (h := ?_) | refine AO.sSameB (h := ?_))
    | apply AW.seq
    | (apply AW.kR; refine AW.sR (h := ?_))
    | apply AW.skip
    | apply AW.block
    | apply AW.out
    | (apply AW.kE; refine AW.sE (h := ?_))
    | apply AW.label
    | (apply AW.kRd; refine AW.sRd (h := ?_))
    | ((first | (apply AO.kG; first | refine AO.sgt (h1 := fun h => ?_) (h2 := fun h => ?_) | refine AO.sgf (h1 := fun h => ?_) (h2 := fun h => ?_) | refine AO.sgs (h := ?_)) | (apply AW.kC; refine AW.sC (h1 := fun h => ?_) (h2 := fun h => ?_)) | (apply AR.kAny; apply AR.kG; first | refine AR.sgt (h1 := fun h => ?_) (h2 := fun h => ?_) | refine AR.sgf (h1 := fun h => ?_) (h2 := fun h => ?_) | refine AR.sgs (h := ?_))) <;> (try (first | exact Bool.noConfusion h | exact absurd h (by decide) | (simp at h; done) | (rw [h]; try simp only [nrm] at h; try rw [h]; try (exfalso; omega)) | skip)))
    | (apply AR.kAny; first | (apply AR.kCall 22; refine AR.sCall (hg := (gMay' n hs)) (h := ?_)) | (apply AR.kBuildS; first | refine AR.sBuildT (h := ?_) | refine AR.sBuildS (h := ?_)) | (apply AR.kApp; first | refine AR.sGrowT (h := ?_) | refine AR.sNewT (h := ?_) | refine AR.sGrowBT (h := ?_) | refine AR.sGrow (h := ?_) | refine AR.sNewr (h := ?_)) | (apply AR.kIx; first | refine AR.sIxN (h := ?_) | refine AR.sIx (h := ?_) | refine AR.sP (h := ?_) | refine AR.sPi (h := ?_)) | (apply AR.kSl; first | refine AR.sSl (h := ?_) | refine AR.sSlArr (h := ?_) | refine AR.sP (h := ?_)) | (apply AR.kBox; refine AR.sBox (h := ?_)) | (apply AR.kAlloc; refine AR.sAlloc (h := ?_)) | (apply AR.kStore; refine AR.sStore (h := ?_)) | (apply AR.kAdd; refine AR.sAdd (h := ?_)) | (apply AR.kP; first | refine AR.sP (h := ?_) | refine AR.sPi (h := ?_)))
    | (apply AR.kNil; refine AR.sNil (h := ?_)))
    · exact AW.ret (hD rfl (Lx.tup (.cons (Lx.agg (.cons .refl (.cons .nil (.cons .nil (.cons .nil (.cons .nil .nil)))))) (.cons (Lx.i rfl) .nil))))
    · exact absurd (eq0 h) h0
end Go.Proofs.Ytocppeifkjdeiaa.Mv

/- The document's example of trimming; the statement of Shifts. Under no condition. -/
namespace Go.Proofs.Ytocppeifkjdeiaa.Mv
open Go Go.Proofs
set_option linter.unusedSimpArgs false
set_option linter.unusedVariables false
set_option maxRecDepth 10000
set_option maxHeartbeats 4000000
attribute [local irreducible] AW AO AR

theorem Good.le {P : Program} {f : FuncId} {args args' : List AV} {res : AV} {outs : List (Nat × Ob)} (h : Good P f args [] res outs) (hl : LeL args' args) : Good P f args' [] res outs :=
  ⟨h.fn, fun w Γ m vals gok hv hobs hinj => h.calls w Γ m vals gok (hl.rep hv) hobs hinj⟩
def nT : Nd := ⟨true, [⟨[97, 98], []⟩, ⟨[97, 99], []⟩, ⟨[98], []⟩], [], [], []⟩
def nT2 : Nd := ⟨true, [⟨[98], []⟩, ⟨[99], []⟩], [], [], []⟩
theorem nTs : nT.small := ⟨by decide, by decide, by decide, by decide⟩
theorem nT2s : nT2.small := ⟨by decide, by decide, by decide, by decide⟩
theorem nTx : nT.strs := ⟨fun i hi => by simp [nT] at hi, rfl⟩
theorem nTn : trN nT ([97], succS [97], succOk [97]) [97] = nT2 := by decide +kernel
theorem nTe : trE nT ([97], succS [97], succOk [97]) [97] = 0 := by decide +kernel
theorem gTrimA : Good Try.prog 26 [.agg nT.av, .agg [.s [97], .s (succS [97]), .b (succOk [97])], .s [97]] [] (.tup [.agg nT2.av, .i .i64 0]) [] := by
  have h := gTrim nT ([97], succS [97], succOk [97]) [97] nTs nTx (by decide) (by decide)
  rw [nTn, nTe] at h
  exact h
theorem gSameA : Good Try.prog 28 [.agg nT2.av, .agg [.b true, .gr 21 43 2 [[.s [98], .s []], [.s [99], .s []]], .nil, .nil, .nil]] [] (.b true) [] := by
  have h := gSame' nT2 nT2 nT2s nT2s
  rw [decide_eq_true rfl] at h
  exact h.le (.cons (.refl _) (.cons (.aggL (.cons (.refl _) (.cons .gr (.cons .nil (.cons .nil (.cons .nil .nil)))))) .nil))
theorem gAwakeT : Good Try.prog 25 [] [] (.b true) [] := by
  refine Good.w tabOk mixed Try.func25 (N := 25) (by kernel_rfl) rfl (by (repeat (first | exact LE.nil | apply LE.cons)); done) (by (repeat (first | exact LE.nil | apply LE.cons)); done) fun D hD F => ?_
  (repeat (first | apply AW.seq | apply AW.block)); apply AW.kR; refine AW.sR (h := ?_); repeat' (first
    | apply AO.nil
    | (apply AO.kBuildS; first | refine AO.sBuildT (h := ?_) | refine AO.sBuildS (h := ?_))
    | (apply AO.kAlloc; refine AO.sAlloc (h := ?_))
    | (apply AO.kStore; first | refine AO.sStore (h := ?_) | refine AO.sStB (h := ?_))
    | (apply AO.kP; first | refine AO.sP (h := ?_) | refine AO.sPi (h := ?_) | refine AO.sLoadB (h := ?_)))
  (repeat (first | apply AW.seq | apply AW.block)); apply AW.kR; refine AW.sR (h := ?_); repeat' (first
    | apply AO.nil
    | (apply AO.kBuildS; first | refine AO.sBuildT (h := ?_) | refine AO.sBuildS (h := ?_))
    | (apply AO.kAlloc; refine AO.sAlloc (h := ?_))
    | (apply AO.kStore; first | refine AO.sStore (h := ?_) | refine AO.sStB (h := ?_))
    | (apply AO.kP; first | refine AO.sP (h := ?_) | refine AO.sPi (h := ?_) | refine AO.sLoadB (h := ?_)))
  refine AW.less (st' := ⟨[(1, .ptr 1 0)], [(1, .bx nT.av)]⟩) ⟨.cons .refl .nil, .cons (.bx (.cons .refl (.cons .gr (.cons .nil (.cons .nil (.cons .nil .nil)))))) .nil⟩ ?_
  repeat' (first
    | apply AO.nil
    | (apply AO.kCall 68; refine AO.sCall (hg := (gOf' _ sd)) (h := ?_))
    | (apply AO.kCall 26; refine AO.sCall (hg := gTrimA) (h := ?_))
    | (apply AO.kCall 28; refine AO.sCall (hg := gSameA) (h := ?_))
    | (apply AO.kBuildS; first | refine AO.sBuildT (h := ?_) | refine AO.sBuildS (h := ?_))
    | (apply AO.kAlloc; refine AO.sAlloc (h := ?_))
    | (apply AO.kStore; first | refine AO.sStore (h := ?_) | refine AO.sStB (h := ?_))
    | (apply AO.kP; first | refine AO.sP (h := ?_) | refine AO.sPi (h := ?_) | refine AO.sLoadB (h := ?_))
    | apply AW.seq
    | (apply AW.kR; refine AW.sR (h := ?_))
    | apply AW.skip
    | apply AW.block
    | apply AW.out
    | (apply AW.kE; refine AW.sE (h := ?_))
    | apply AW.label
    | (apply AW.kRd; refine AW.sRd (h := ?_))
    | ((first | (apply AO.kG; first | refine AO.sgt (h1 := fun h => ?_) (h2 := fun h => ?_) | refine AO.sgf (h1 := fun h => ?_) (h2 := fun h => ?_) | refine AO.sgs (h := ?_)) | (apply AR.kAny; apply AR.kG; first | refine AR.sgt (h1 := fun h => ?_) (h2 := fun h => ?_) | refine AR.sgf (h1 := fun h => ?_) (h2 := fun h => ?_) | refine AR.sgs (h := ?_))) <;> (try (first | exact Bool.noConfusion h | exact absurd h (by decide) | (simp at h; done) | (rw [h]; try simp only [nrm] at h; try rw [h]; try (exfalso; omega)) | skip)))
    | (apply AR.kAny; first | (apply AR.kCall 68; refine AR.sCall (hg := (gOf' _ sd)) (h := ?_)) | (apply AR.kCall 26; refine AR.sCall (hg := gTrimA) (h := ?_)) | (apply AR.kCall 28; refine AR.sCall (hg := gSameA) (h := ?_)) | (apply AR.kBuildS; first | refine AR.sBuildT (h := ?_) | refine AR.sBuildS (h := ?_)) | (apply AR.kAlloc; refine AR.sAlloc (h := ?_)) | (apply AR.kStore; refine AR.sStore (h := ?_)) | (apply AR.kP; first | refine AR.sP (h := ?_) | refine AR.sPi (h := ?_)))
    | (apply AR.kNil; refine AR.sNil (h := ?_)))
  exact AW.ret (hD rfl (Lx.b rfl))

/-! ### the statement of Shifts */ -/
theorem shift_law (s2 a2 a k : L) (h : joinOk [] a s2 a2 = true) : upS (joinS [] a s2 a2) (joinA [] a s2 a2) k = upS s2 a2 (a ++ k) ∧ hp k (joinS [] a s2 a2) = hp (a ++ k) s2 := by
  have q := (join_law [] a s2 a2 k).2 h
  have u : upS [] a k = a ++ k := by simp [upS, hp_nil]
  rw [u, hp_nil, Bool.true_and, if_pos rfl] at q
  exact ⟨q.2, q.1⟩
theorem gLawShifts (s2 a2 a k : L) : Good Try.prog 7 [.agg [.s s2, .s a2], .s a, .s k] [] (.b true) [] := by
  cases hg : great2 s2 a2 with
  | true =>
    refine Good.w tabOk mixed Try.func7 (N := 78) (by kernel_rfl) rfl (by (repeat (first | exact LE.nil | apply LE.cons)); done) (by (repeat (first | exact LE.nil | apply LE.cons)); done) fun D hD F => ?_
    repeat' (first
    | apply AO.nil
    | (apply AO.kCall 32; refine AO.sCall (hg := (gGreat4 _ _)) (h := ?_))
    | (apply AO.kCall 25; refine AO.sCall (hg := gAwakeT) (h := ?_))
    | (apply AO.kBox; refine AO.sBox (h := ?_))
    | (apply AO.kAlloc; refine AO.sAlloc (h := ?_))
    | (apply AO.kStore; first | refine AO.sStore (h := ?_) | refine AO.sStB (h := ?_))
    | (apply AO.kAdd; refine AO.sAdd (h := ?_))
    | (apply AO.kP; first | refine AO.sP (h := ?_) | refine AO.sPi (h := ?_) | refine AO.sLoadB (h := ?_))
    | apply AW.seq
    | (apply AW.kR; refine AW.sR (h := ?_))
    | apply AW.skip
    | apply AW.block
    | apply AW.out
    | (apply AW.kE; refine AW.sE (h := ?_))
    | apply AW.label
    | ((first | (apply AO.kG; first | refine AO.sgt (h1 := fun h => ?_) (h2 := fun h => ?_) | refine AO.sgf (h1 := fun h => ?_) (h2 := fun h => ?_) | refine AO.sgs (h := ?_)) | (apply AW.kC; refine AW.sC (h1 := fun h => ?_) (h2 := fun h => ?_))) <;> (try (first | exact Bool.noConfusion h | exact absurd h (by decide) | (simp at h; done) | (rw [h]; try simp only [nrm] at h; try rw [h]; try (exfalso; omega)) | skip))))
    all_goals first | exact AW.ret (hD rfl (Lx.b rfl)) | (exfalso; simp_all; done)
  | false =>
    obtain ⟨g1, g2⟩ := great2_false hg
    have g3 := joinS_len [] a s2 a2
    have g4 := joinA_len [] a s2 a2
    rw [List.length_nil] at g3
    refine Good.w tabOk mixed Try.func7 (N := 78) (by kernel_rfl) rfl (by (repeat (first | exact LE.nil | apply LE.cons)); done) (by (repeat (first | exact LE.nil | apply LE.cons)); done) fun D hD F => ?_
    repeat' (first
    | apply AO.nil
    | (apply AO.kCall 32; refine AO.sCall (hg := (gGreat4 _ _)) (h := ?_))
    | (apply AO.kCall 25; refine AO.sCall (hg := gAwakeT) (h := ?_))
    | (apply AO.kCall 33; refine AO.sCall (hg := (gShift _ _ _ sd sd sd)) (h := ?_))
    | (apply AO.kCall 34; refine AO.sCall (hg := (gJoin0' _ _ _ sd sd sd)) (h := ?_))
    | (apply AO.kCall 35; refine AO.sCall (hg := (gUp' _ _ _ sd)) (h := ?_))
    | (apply AO.kBox; refine AO.sBox (h := ?_))
    | (apply AO.kAlloc; refine AO.sAlloc (h := ?_))
    | (apply AO.kStore; first | refine AO.sStore (h := ?_) | refine AO.sStB (h := ?_))
    | (apply AO.kAdd; refine AO.sAdd (h := ?_))
    | (apply AO.kP; first | refine AO.sP (h := ?_) | refine AO.sPi (h := ?_) | refine AO.sLoadB (h := ?_))
    | apply AW.seq
    | (apply AW.kR; refine AW.sR (h := ?_))
    | apply AW.skip
    | apply AW.block
    | apply AW.out
    | (apply AW.kE; refine AW.sE (h := ?_))
    | apply AW.label
    | ((first | (apply AO.kG; first | refine AO.sgt (h1 := fun h => ?_) (h2 := fun h => ?_) | refine AO.sgf (h1 := fun h => ?_) (h2 := fun h => ?_) | refine AO.sgs (h := ?_)) | (apply AW.kC; refine AW.sC (h1 := fun h => ?_) (h2 := fun h => ?_))) <;> (try (first | exact Bool.noConfusion h | exact absurd h (by decide) | (simp at h; done) | (rw [h]; try simp only [nrm] at h; try rw [h]; try (exfalso; omega)) | skip))))
    all_goals first | exact AW.ret (hD rfl (Lx.b rfl)) | (exfalso; obtain ⟨q1, q2⟩ := shift_law s2 a2 a k ‹_›; first | exact absurd q1 ‹_› | exact absurd q2 ‹_›)
end Go.Proofs.Ytocppeifkjdeiaa.Mv

/- What is trimmed may be. Plain. -/
namespace Go.Proofs.Ytocppeifkjdeiaa.Mv
open Go Go.Proofs
set_option linter.unusedSimpArgs false
set_option linter.unusedVariables false
set_option maxRecDepth 10000
set_option maxHeartbeats 4000000

theorem rise_pw : ∀ {ks : List L}, rise ks = true ↔ ks.Pairwise (fun x y => lt x y = true)
  | [] => by simp [rise]
  | [a] => by simp [rise]
  | a :: b :: r => by
    rw [rise_cons, Bool.and_eq_true, rise_pw (ks := b :: r)]
    constructor
    · rintro ⟨h1, h2⟩
      refine List.pairwise_cons.2 ⟨fun x hx => ?_, h2⟩
      rcases List.mem_cons.1 hx with rfl | hx
      · exact h1
      · exact lt_trans h1 ((List.pairwise_cons.1 h2).1 x hx)
    · intro h
      obtain ⟨h1, h2⟩ := List.pairwise_cons.1 h
      exact ⟨h1 b (by simp), h2⟩
theorem lt_cut {x y a : L} (hx : hp x a = true) (hy : hp y a = true) : lt (cutS x a) (cutS y a) = lt x y := by
  obtain ⟨s, rfl⟩ := hp_pre.1 hx
  obtain ⟨t, rfl⟩ := hp_pre.1 hy
  rw [cutS_hp hx, cutS_hp hy, List.drop_left', List.drop_left', lt_app] <;> rfl
theorem in_em {lo hi : L} {e : Bool} {k : L} (h : inR lo hi e k = true) : emR lo hi e = false := by
  simp only [inR, Bool.and_eq_true, Bool.not_eq_true', Bool.or_eq_true] at h
  rcases h.2 with g | g
  · rw [emR, g]; rfl
  · rw [emR, lt_of_le_lt h.1 g]; simp
theorem emC_some {x r : L × L × Bool} {k : L} (h1 : inR x.1 x.2.1 x.2.2 k = true) (h2 : inR r.1 r.2.1 r.2.2 k = true) : emC x r = false := by
  refine in_em (k := k) ?_
  rw [cS_in, h1, h2]; rfl
/-! ### a leaf -/
theorem leaf_parts {n : Nd} (h : leafOk n = true) : rise (n.pairs.map Pr.k) = true ∧ n.pairs.all prLen = true := by
  simp only [leafOk, Bool.and_eq_true] at h
  exact ⟨h.1.2, h.2⟩
theorem trPr_rise {l : List Pr} {r : L × L × Bool} {a : L} (hr : rise (l.map Pr.k) = true) (hu : hp (undS r.1 r.2.1 r.2.2) a = true) : rise ((trPr l r a).map Pr.k) = true := by
  rw [rise_pw, List.pairwise_map] at hr
  rw [rise_pw, trPr, List.pairwise_map, List.pairwise_map]
  have h := hr.filter (prKeep r)
  refine List.Pairwise.imp_of_mem ?_ h
  intro x y hx hy hxy
  have kx := (List.mem_filter.1 hx).2
  have ky := (List.mem_filter.1 hy).2
  have px := hp_trans ((und_facts _ _ _ _).2.2.1 kx) hu
  have py := hp_trans ((und_facts _ _ _ _).2.2.1 ky) hu
  show lt (cutS x.k a) (cutS y.k a) = true
  rw [lt_cut px py]; exact hxy
theorem trPr_all {l : List Pr} {r : L × L × Bool} {a : L} (h : l.all prLen = true) : (trPr l r a).all prLen = true := by
  rw [List.all_eq_true] at h ⊢
  intro x hx
  obtain ⟨y, hy, rfl⟩ := List.mem_map.1 hx
  have q := h y (List.mem_filter.1 hy).1
  have := cutS_len y.k a
  simp only [prLen, Bool.and_eq_true, decide_eq_true_eq] at q
  show (decide ((cutS y.k a).length ≤ 16) && decide (y.v.length ≤ 32)) = true
  rw [Bool.and_eq_true, decide_eq_true_eq, decide_eq_true_eq]; exact ⟨by omega, q.2⟩
/-! ### messages -/
theorem mv_may {m : Ms} {a : L} (h : msMay m = true) (h2 : (mvR m a).2 = true) : msMay (mvR m a).1 = true := by
  unfold mvR at h2 ⊢
  by_cases c : hp m.key a = true
  · rw [if_pos c]
    have l := cutS_len m.key a
    simp only [msMay, Bool.and_eq_true, decide_eq_true_eq] at h ⊢
    exact ⟨by omega, h.2⟩
  · rw [if_neg c] at h2 ⊢
    by_cases d : m.kind = 3 ∧ hp a m.key = true ∧ m.add.length + (cutS a m.key).length ≤ 16
    · rw [if_pos d]
      simp only [msMay, Bool.and_eq_true, decide_eq_true_eq] at h ⊢
      refine ⟨by simp, ?_⟩
      have h3 := h.2
      rw [d.1] at h3 ⊢
      simp only [show ¬ ((3 : UInt8) = 1) by decide, show ¬ ((3 : UInt8) = 2) by decide, if_false, if_true, Bool.and_eq_true, decide_eq_true_eq] at h3 ⊢
      exact ⟨⟨by rw [List.length_append]; exact d.2.2, h3.1.2⟩, h3.2⟩
    · rw [if_neg d] at h2; cases h2
theorem trMs_may {l : List Ms} {r : L × L × Bool} {a : L} (h : l.all msMay = true) (h2 : trMsOk l r a = true) : (trMsR l r a).all msMay = true := by
  rw [trMsOk, List.all_eq_true] at h2
  rw [List.all_eq_true] at h ⊢
  intro x hx
  obtain ⟨y, hy, rfl⟩ := List.mem_map.1 hx
  exact mv_may (h y (List.mem_filter.1 hy).1) (h2 y hy)
/-! ### kids -/
theorem rg_lo {n : Nd} {q : Nat} (h0 : 0 < q) (hl : n.pivots.length + 1 = n.kids.length) (hq : q < n.kids.length) : (rgN n q).1 = n.pivots.getD (q - 1) default := by
  unfold rgN; rw [if_neg (by omega)]
  simp only
  rw [if_pos (by omega), show (((q : Nat) : Int) - 1).toNat = q - 1 by omega]
theorem rg_hi {n : Nd} {j : Nat} (hl : n.pivots.length + 1 = n.kids.length) (hj : j < n.pivots.length) : (rgN n j).2.1 = n.pivots.getD j default ∧ (rgN n j).2.2 = true := by
  unfold rgN; rw [if_neg (by omega)]
  simp only
  rw [if_pos (by omega), show ((j : Nat) : Int).toNat = j by omega]
  exact ⟨rfl, decide_eq_true (by omega)⟩
/-- What holds of a node's kids while they are trimmed. -/
structure KI (n : Nd) (r : L × L × Bool) (a : L) (q : Nat) (ps : List L) (ks : List Ed) : Prop where
  len : (ks = [] ∧ ps = []) ∨ ps.length + 1 = ks.length
  most : ks.length ≤ q
  ok : ks.all edOk = true
  piv : ∀ p ∈ ps, p ≠ [] ∧ p.length ≤ 16 ∧ ∃ i, 0 < i ∧ i < q ∧ p = cutS (rgN n i).1 a ∧ hp (rgN n i).1 a = true
  up : ps.Pairwise (fun x y => lt x y = true)
  some : ks ≠ [] → ∃ j, j < q ∧ emC (rgN n j) r = false
  none : ks = [] → ∀ j, j < q → emC (rgN n j) r = true
theorem KI.start (n : Nd) (r : L × L × Bool) (a : L) : KI n r a 0 [] [] :=
  ⟨.inl ⟨rfl, rfl⟩, by simp, rfl, fun p hp => by simp at hp, List.Pairwise.nil, fun h => absurd rfl h, fun _ j hj => by omega⟩
theorem KI.skip {n : Nd} {r : L × L × Bool} {a : L} {q : Nat} {ps : List L} {ks : List Ed} (h : KI n r a q ps ks) (hq : emC (rgN n q) r = true) : KI n r a (q + 1) ps ks :=
  ⟨h.len, by have := h.most; omega, h.ok, fun p hp => by obtain ⟨a1, a2, i, b1, b2, b3⟩ := h.piv p hp; exact ⟨a1, a2, i, b1, by omega, b3⟩, h.up, fun g => by obtain ⟨j, j1, j2⟩ := h.some g; exact ⟨j, by omega, j2⟩, fun g j hj => by
    by_cases e : j = q
    · subst e; exact hq
    · exact h.none g j (by omega)⟩
theorem kid_edOk {n : Nd} {a : L} {q : Nat} (hq : q < n.kids.length) (hk : n.kids.all edOk = true) (h : kidOk n a q = true) : edOk (trKid n a q) = true := by
  have g := List.all_eq_true.1 hk (n.kids.getD q default) (by rw [List.getD_eq_getElem?_getD, List.getElem?_eq_getElem hq]; exact List.getElem_mem hq)
  simp only [kidOk, Bool.and_eq_true] at h
  simp only [edOk, Bool.and_eq_true] at g ⊢
  exact ⟨⟨g.1.1, h.2.1⟩, h.2.2⟩
theorem KI.more {n : Nd} {r : L × L × Bool} {a : L} {q : Nat} {ps : List L} {ks : List Ed} (hi : innerOk n = true) (hu : hp (undS r.1 r.2.1 r.2.2) a = true) (h : KI n r a q ps ks) (hq : q < n.kids.length) (he : emC (rgN n q) r = false) (hk : kidOk n a q = true) :
    KI n r a (q + 1) (if 0 < ks.length then ps ++ [cutS (rgN n q).1 a] else ps) (ks ++ [trKid n a q]) := by
  obtain ⟨pl, pr, _⟩ := inner_len hi
  have hi2 := hi
  simp only [innerOk, Bool.and_eq_true] at hi2
  have kok := hi2.1.1.2
  have p16 := hi2.1.2.2
  have ok2 : (ks ++ [trKid n a q]).all edOk = true := by
    rw [List.all_append, h.ok, List.all_cons, kid_edOk hq kok hk]; rfl
  have most2 : (ks ++ [trKid n a q]).length ≤ q + 1 := by
    have := h.most; simp; omega
  by_cases c : 0 < ks.length
  · rw [if_pos c]
    have hne : ks ≠ [] := fun e => by rw [e] at c; simp at c
    obtain ⟨j, j1, j2⟩ := h.some hne
    have hin := piv_in pl pr j1 hq j2 he
    have hpre : hp (rgN n q).1 a = true := hp_trans ((und_facts _ _ _ _).2.2.1 hin) hu
    have lo := rg_lo (n := n) (q := q) (by omega) pl hq
    refine ⟨.inr ?_, most2, ok2, ?_, ?_, fun _ => ⟨q, by omega, he⟩, fun e => by simp at e⟩
    · rcases h.len with ⟨e, _⟩ | e
      · exact absurd e hne
      · simp; omega
    · intro p hp'
      rcases List.mem_append.1 hp' with g | g
      · obtain ⟨a1, a2, i, b1, b2, b3⟩ := h.piv p g; exact ⟨a1, a2, i, b1, by omega, b3⟩
      · obtain rfl : p = cutS (rgN n q).1 a := by simpa using g
        refine ⟨?_, ?_, q, by omega, by omega, rfl, hpre⟩
        · intro e
          obtain ⟨k, k1, k2⟩ := emC_in j2
          have kp : hp k a = true := hp_trans ((und_facts _ _ _ _).2.2.1 k2) hu
          have hj := rg_hi (n := n) pl (show j < n.pivots.length by omega)
          have f1 : lt k (n.pivots.getD j default) = true := by
            simp only [inR, hj.1, hj.2, Bool.and_eq_true, Bool.not_true, Bool.false_or] at k1; exact k1.2
          have f2 := lt_of_lt_le f1 (le_rise pr (show j ≤ q - 1 by omega) (by omega))
          rw [← lo, ← lt_cut kp hpre, e, lt_nil] at f2
          cases f2
        · have := cutS_len (rgN n q).1 a
          have g16 := List.all_eq_true.1 p16 (n.pivots.getD (q - 1) default) (by rw [List.getD_eq_getElem?_getD, List.getElem?_eq_getElem (show q - 1 < n.pivots.length by omega)]; exact List.getElem_mem _)
          rw [← lo, decide_eq_true_eq] at g16
          omega
    · rw [List.pairwise_append]
      refine ⟨h.up, by simp, fun x hx y hy => ?_⟩
      obtain rfl : y = cutS (rgN n q).1 a := by simpa using hy
      obtain ⟨_, _, i, i0, iq, rfl, ip⟩ := h.piv x hx
      rw [lt_cut ip hpre, lo, rg_lo i0 pl (by omega)]
      exact rise_lt pr _ (by omega) (by omega)
  · rw [if_neg c]
    have e : ks = [] := List.eq_nil_of_length_eq_zero (by omega)
    have e2 : ps = [] := by
      rcases h.len with ⟨_, g⟩ | g
      · exact g
      · rw [e] at g; simp at g
    subst e; subst e2
    exact ⟨.inr rfl, most2, ok2, fun p hp' => by simp at hp', List.Pairwise.nil, fun _ => ⟨q, by omega, he⟩, fun e => by simp at e⟩
theorem KI.run {n : Nd} {r : L × L × Bool} {a : L} (hi : innerOk n = true) (hu : hp (undS r.1 r.2.1 r.2.2) a = true) : ∀ (u q : Nat) (ps : List L) (ks : List Ed), q + u = n.kids.length → KI n r a q ps ks → (kRun n r a u q ps ks).2 = true → KI n r a n.kids.length (kRun n r a u q ps ks).1.1 (kRun n r a u q ps ks).1.2
  | 0, q, ps, ks, hq, h, _ => by
    obtain rfl : q = n.kids.length := by omega
    exact h
  | u + 1, q, ps, ks, hq, h, hok => by
    rw [kRun] at hok ⊢
    by_cases c : emC (rgN n q) r = true
    · rw [if_pos c] at hok ⊢
      exact KI.run hi hu u (q + 1) _ _ (by omega) (h.skip c) hok
    · rw [if_neg c] at hok ⊢
      by_cases d : kidOk n a q = false
      · rw [if_pos d] at hok; cases hok
      · rw [if_neg d] at hok ⊢
        exact KI.run hi hu u (q + 1) _ _ (by omega) (h.more hi hu (by omega) (by simpa using c) (by simpa using d)) hok
/-- What is trimmed may be. -/
theorem tr_may {n : Nd} {r : L × L × Bool} {a : L} (h : trE n r a = 0) : mayN (trN n r a) = 0 := by
  by_cases h0 : mayN n = 0
  · cases g : (emR r.1 r.2.1 r.2.2 || !hp (undS r.1 r.2.1 r.2.2) a) with
    | true => rw [(tr1 h0 g).1] at h; cases h
    | false =>
      have g' := g
      simp only [Bool.or_eq_false_iff, Bool.not_eq_false'] at g'
      obtain ⟨g1, hu⟩ := g'
      cases hl : n.leaf with
      | true =>
        rw [(trL h0 g hl).2]
        obtain ⟨p1, p2⟩ := leaf_parts (may_leaf h0 hl)
        have m16 : n.pairs.length ≤ 16 := by
          unfold mayN at h0; split at h0
          · cases h0
          · omega
        have l16 := trPr_len n.pairs r a
        unfold mayN
        rw [if_neg (by simp only [List.length_nil]; omega)]
        simp only [if_true]
        rw [if_pos]
        simp only [leafOk, List.isEmpty_nil, Bool.true_and, Bool.and_eq_true]
        exact ⟨trPr_rise p1 hu, trPr_all p2⟩
      | false =>
        obtain ⟨hi, k8, b16⟩ := may_inner h0 hl
        cases h4 : (kRun n r a n.kids.length 0 [] []).2 with
        | false => rw [(trK1 h0 g hl h4).1] at h; cases h
        | true =>
          cases h5 : trMsOk n.buf r a with
          | false => rw [(trK2 h0 g hl h4 h5).1] at h; cases h
          | true =>
            rw [(trK3 h0 g hl h4 h5).2]
            have K := KI.run hi hu _ 0 [] [] (by omega) (KI.start n r a) h4
            generalize (kRun n r a n.kids.length 0 [] []).1.1 = ps at *
            generalize (kRun n r a n.kids.length 0 [] []).1.2 = ks at *
            obtain ⟨pl, pr, _⟩ := inner_len hi
            have hne : ks ≠ [] := fun e => by
              obtain ⟨e1, e2⟩ := kid_at (n := n) (k := r.1) pl pr
              have hb : bs (kidF n r.1) 0 n.pivots.length < n.kids.length := by omega
              have i1 := kid_in (n := n) (k := r.1) pl pr hb
              rw [e1, beq_self_eq_true] at i1
              have := K.none e _ hb
              rw [emC_some i1 (in_lo g1)] at this
              cases this
            have hlen : ps.length + 1 = ks.length := by
              rcases K.len with ⟨e, _⟩ | e
              · exact absurd e hne
              · exact e
            have hml := trMsR_len n.buf r a
            have hkm := K.most
            unfold mayN
            rw [if_neg (by simp only [List.length_nil]; omega)]
            simp only [Bool.false_eq_true, if_false]
            rw [if_pos]
            have i2 := hi
            simp only [innerOk, Bool.and_eq_true] at i2
            simp only [innerOk, List.isEmpty_nil, Bool.true_and, Bool.and_eq_true, decide_eq_true_eq, Bool.not_eq_true', List.isEmpty_eq_false_iff]
            refine ⟨⟨⟨⟨hne, hlen⟩, K.ok⟩, ?_, ?_⟩, trMs_may i2.2 h5⟩
            · rw [rise_pw, List.pairwise_cons]
              refine ⟨fun p hp' => ?_, K.up⟩
              have := (K.piv p hp').1
              rw [lt_nil_iff]; simpa using this
            · rw [List.all_eq_true]; intro p hp'
              exact decide_eq_true (K.piv p hp').2.1
  · rw [(tr3 h0).1] at h; cases h
end Go.Proofs.Ytocppeifkjdeiaa.Mv

/- The statement of trimmed parts. Under no condition. -/
namespace Go.Proofs.Ytocppeifkjdeiaa.Mv
open Go Go.Proofs
set_option linter.unusedSimpArgs false
set_option linter.unusedVariables false
set_option maxRecDepth 10000
set_option maxHeartbeats 4000000
attribute [local irreducible] AW AO AR

theorem may_small {n : Nd} (h : mayN n = 0) : n.small := by
  have h' := h
  unfold mayN at h'
  split at h'
  · cases h'
  · rename_i c
    rcases (by cases n.leaf <;> simp : n.leaf = true ∨ n.leaf = false) with hl | hl
    · obtain ⟨e1, e2, e3⟩ := leaf_len (may_leaf h hl)
      exact ⟨by omega, by rw [e1]; simp, by omega, by omega⟩
    · obtain ⟨e1, _, _⟩ := inner_len (may_inner h hl).1
      exact ⟨by omega, by omega, by omega, by omega⟩
theorem zero_small : ndZ.small := ⟨by decide, by decide, by decide, by decide⟩
theorem trN_bad {n : Nd} {r : L × L × Bool} {a : L} (h : trE n r a ≠ 0) : trN n r a = ndZ := by rw [trN, if_pos h]
theorem trN_small (n : Nd) (r : L × L × Bool) (a : L) : (trN n r a).small := by
  by_cases h : trE n r a = 0
  · exact may_small (tr_may h)
  · rw [trN_bad h]; exact zero_small
theorem great_strs {n : Nd} (h : great n = false) : n.strs := by
  simp only [great, greatM, Bool.or_eq_false_iff, Bool.not_eq_false'] at h
  obtain ⟨⟨⟨⟨⟨_, _⟩, _⟩, _, h4⟩, _⟩, h6⟩ := h
  refine ⟨fun i hi => ?_, ?_⟩
  · have := List.all_eq_true.1 h6 (n.kids.getD i default) (by rw [List.getD_eq_getElem?_getD, List.getElem?_eq_getElem hi]; exact List.getElem_mem hi)
    simp only [edG, Bool.and_eq_true, Bool.not_eq_true', decide_eq_false_iff_not] at this
    omega
  · rw [List.all_eq_true] at h4 ⊢
    intro x hx
    have := h4 x hx
    simp only [msG, Bool.and_eq_true, Bool.not_eq_true', decide_eq_false_iff_not] at this
    simp only [msSm, Bool.and_eq_true, decide_eq_true_eq]
    omega
theorem gLawParts (n : Nd) (lo hi : L) (e : Bool) (a : L) (hf : n.fits) : Good Try.prog 4 [.agg n.av, .agg [.s lo, .s hi, .b e], .s a] [] (.b true) [] := by
  cases hg : great n with
  | true =>
    refine Good.w tabOk mixed Try.func4 (N := 56) (by kernel_rfl) rfl (by (repeat (first | exact LE.nil | apply LE.cons)); done) (by (repeat (first | exact LE.nil | apply LE.cons)); done) fun D hD F => ?_
    repeat' (first
    | apply AO.nil
    | (apply AO.kCall 24; refine AO.sCall (hg := (gGreat _ sd)) (h := ?_))
    | (apply AO.kCall 25; refine AO.sCall (hg := gAwakeT) (h := ?_))
    | (apply AO.kBox; refine AO.sBox (h := ?_))
    | (apply AO.kAlloc; refine AO.sAlloc (h := ?_))
    | (apply AO.kStore; first | refine AO.sStore (h := ?_) | refine AO.sStB (h := ?_))
    | (apply AO.kP; first | refine AO.sP (h := ?_) | refine AO.sPi (h := ?_) | refine AO.sLoadB (h := ?_))
    | apply AW.seq
    | (apply AW.kR; refine AW.sR (h := ?_))
    | apply AW.skip
    | apply AW.block
    | apply AW.out
    | (apply AW.kE; refine AW.sE (h := ?_))
    | apply AW.label
    | ((first | (apply AO.kG; first | refine AO.sgt (h1 := fun h => ?_) (h2 := fun h => ?_) | refine AO.sgf (h1 := fun h => ?_) (h2 := fun h => ?_) | refine AO.sgs (h := ?_)) | (apply AW.kC; refine AW.sC (h1 := fun h => ?_) (h2 := fun h => ?_))) <;> (try (first | exact Bool.noConfusion h | exact absurd h (by decide) | (simp at h; done) | (rw [h]; try simp only [nrm] at h; try rw [h]; try (exfalso; omega)) | skip))))
    all_goals first | exact AW.ret (hD rfl (Lx.b rfl)) | (exfalso; simp_all; done)
  | false =>
    cases hr : great2 lo hi with
    | true =>
      refine Good.w tabOk mixed Try.func4 (N := 56) (by kernel_rfl) rfl (by (repeat (first | exact LE.nil | apply LE.cons)); done) (by (repeat (first | exact LE.nil | apply LE.cons)); done) fun D hD F => ?_
      repeat' (first
    | apply AO.nil
    | (apply AO.kCall 24; refine AO.sCall (hg := (gGreat _ sd)) (h := ?_))
    | (apply AO.kCall 16; refine AO.sCall (hg := (gGreat3 _ _ _)) (h := ?_))
    | (apply AO.kCall 25; refine AO.sCall (hg := gAwakeT) (h := ?_))
    | (apply AO.kBox; refine AO.sBox (h := ?_))
    | (apply AO.kAlloc; refine AO.sAlloc (h := ?_))
    | (apply AO.kStore; first | refine AO.sStore (h := ?_) | refine AO.sStB (h := ?_))
    | (apply AO.kP; first | refine AO.sP (h := ?_) | refine AO.sPi (h := ?_) | refine AO.sLoadB (h := ?_))
    | apply AW.seq
    | (apply AW.kR; refine AW.sR (h := ?_))
    | apply AW.skip
    | apply AW.block
    | apply AW.out
    | (apply AW.kE; refine AW.sE (h := ?_))
    | apply AW.label
    | ((first | (apply AO.kG; first | refine AO.sgt (h1 := fun h => ?_) (h2 := fun h => ?_) | refine AO.sgf (h1 := fun h => ?_) (h2 := fun h => ?_) | refine AO.sgs (h := ?_)) | (apply AW.kC; refine AW.sC (h1 := fun h => ?_) (h2 := fun h => ?_))) <;> (try (first | exact Bool.noConfusion h | exact absurd h (by decide) | (simp at h; done) | (rw [h]; try simp only [nrm] at h; try rw [h]; try (exfalso; omega)) | skip))))
      all_goals first | exact AW.ret (hD rfl (Lx.b rfl)) | (exfalso; simp_all; done)
    | false =>
      by_cases ha : a.length ≤ 100
      · have hs := great_small hg
        have hx := great_strs hg
        obtain ⟨r1, r2⟩ := great2_false hr
        have ha' : a.length ≤ 1000000 := by omega
        have hr' : (lo, hi, e).1.length ≤ 1000000 := by show lo.length ≤ _; omega
        have ht := trN_small n (lo, hi, e) a
        have hm := tr_may (n := n) (r := (lo, hi, e)) (a := a)
        refine Good.w tabOk mixed Try.func4 (N := 56) (by kernel_rfl) rfl (by (repeat (first | exact LE.nil | apply LE.cons)); done) (by (repeat (first | exact LE.nil | apply LE.cons)); done) fun D hD F => ?_
        repeat' (first
    | apply AO.nil
    | (apply AO.kCall 24; refine AO.sCall (hg := (gGreat _ sd)) (h := ?_))
    | (apply AO.kCall 16; refine AO.sCall (hg := (gGreat3 _ _ _)) (h := ?_))
    | (apply AO.kCall 25; refine AO.sCall (hg := gAwakeT) (h := ?_))
    | (apply AO.kCall 26; refine AO.sCall (hg := (gTrim n (lo, hi, e) a hs hx ha' hr')) (h := ?_))
    | (apply AO.kCall 27; refine AO.sCall (hg := (gTrim' n (lo, hi, e) a hs hx ha')) (h := ?_))
    | (apply AO.kCall 28; refine AO.sCall (hg := (gSame' (trN n (lo, hi, e) a) (trN n (lo, hi, e) a) ht ht)) (h := ?_))
    | (apply AO.kCall 22; refine AO.sCall (hg := (gMay' (trN n (lo, hi, e) a) ht)) (h := ?_))
    | (apply AO.kBox; refine AO.sBox (h := ?_))
    | (apply AO.kAlloc; refine AO.sAlloc (h := ?_))
    | (apply AO.kStore; first | refine AO.sStore (h := ?_) | refine AO.sStB (h := ?_))
    | (apply AO.kP; first | refine AO.sP (h := ?_) | refine AO.sPi (h := ?_) | refine AO.sLoadB (h := ?_))
    | apply AW.seq
    | (apply AW.kR; refine AW.sR (h := ?_))
    | apply AW.skip
    | apply AW.block
    | apply AW.out
    | (apply AW.kE; refine AW.sE (h := ?_))
    | apply AW.label
    | ((first | (apply AO.kG; first | refine AO.sgt (h1 := fun h => ?_) (h2 := fun h => ?_) | refine AO.sgf (h1 := fun h => ?_) (h2 := fun h => ?_) | refine AO.sgs (h := ?_)) | (apply AW.kC; refine AW.sC (h1 := fun h => ?_) (h2 := fun h => ?_))) <;> (try (first | exact Bool.noConfusion h | exact absurd h (by decide) | (simp at h; done) | (rw [h]; try simp only [nrm] at h; try rw [h]; try (exfalso; omega)) | skip))))
        all_goals first | exact AW.ret (hD rfl (Lx.b rfl)) | (exfalso; have q := hm (eq0 ‹_›); exact absurd (by rw [q]; rfl) h)
      · refine Good.w tabOk mixed Try.func4 (N := 56) (by kernel_rfl) rfl (by (repeat (first | exact LE.nil | apply LE.cons)); done) (by (repeat (first | exact LE.nil | apply LE.cons)); done) fun D hD F => ?_
        repeat' (first
    | apply AO.nil
    | (apply AO.kCall 24; refine AO.sCall (hg := (gGreat _ sd)) (h := ?_))
    | (apply AO.kCall 16; refine AO.sCall (hg := (gGreat3 _ _ _)) (h := ?_))
    | (apply AO.kCall 25; refine AO.sCall (hg := gAwakeT) (h := ?_))
    | (apply AO.kBox; refine AO.sBox (h := ?_))
    | (apply AO.kAlloc; refine AO.sAlloc (h := ?_))
    | (apply AO.kStore; first | refine AO.sStore (h := ?_) | refine AO.sStB (h := ?_))
    | (apply AO.kP; first | refine AO.sP (h := ?_) | refine AO.sPi (h := ?_) | refine AO.sLoadB (h := ?_))
    | apply AW.seq
    | (apply AW.kR; refine AW.sR (h := ?_))
    | apply AW.skip
    | apply AW.block
    | apply AW.out
    | (apply AW.kE; refine AW.sE (h := ?_))
    | apply AW.label
    | ((first | (apply AO.kG; first | refine AO.sgt (h1 := fun h => ?_) (h2 := fun h => ?_) | refine AO.sgf (h1 := fun h => ?_) (h2 := fun h => ?_) | refine AO.sgs (h := ?_)) | (apply AW.kC; refine AW.sC (h1 := fun h => ?_) (h2 := fun h => ?_))) <;> (try (first | exact Bool.noConfusion h | exact absurd h (by decide) | (simp at h; done) | (rw [h]; try simp only [nrm] at h; try rw [h]; try (exfalso; omega)) | skip))))
        all_goals first | exact AW.ret (hD rfl (Lx.b rfl)) | (exfalso; simp_all; done) | (exfalso; omega)
end Go.Proofs.Ytocppeifkjdeiaa.Mv

/- Nodes: where a key leads, by the document. Under no condition. -/
namespace Go.Proofs.Ytocppeifkjdeiaa.Mv
open Go Go.Proofs
set_option linter.unusedSimpArgs false
set_option linter.unusedVariables false
set_option maxRecDepth 10000
set_option maxHeartbeats 4000000
attribute [local irreducible] AW AO AR

def getP : List Pr → L → Option L
  | [], _ => none
  | p :: l, k => if p.k = k then some p.v else getP l k
theorem gGet (l : List Pr) (k : L) (hl : l.length ≤ 1000000) : Good Try.prog 55 [.sh 2 (l.map Pr.av), .s k] [] (.tup [.s ((getP l k).getD []), .b (getP l k).isSome]) [] := by
  have ll : (l.map Pr.av).length = l.length := by simp
  refine Good.w tabOk mixed Try.func55 (N := 25) (by kernel_rfl) rfl (by (repeat (first | exact LE.nil | apply LE.cons)); done) (by (repeat (first | exact LE.nil | apply LE.cons)); done) fun D hD F => ?_
  repeat' (first
    | apply AO.nil
    | (apply AO.kIx; first | refine AO.sIxN (h := ?_) | refine AO.sIx (h := ?_) | refine AO.sP (h := ?_) | refine AO.sPi (h := ?_))
    | (apply AO.kAdd; refine AO.sAdd (h := ?_))
    | (apply AO.kP; first | refine AO.sP (h := ?_) | refine AO.sPi (h := ?_) | refine AO.sLoadB (h := ?_))
    | apply AW.seq
    | (apply AW.kR; refine AW.sR (h := ?_))
    | apply AW.skip
    | apply AW.block
    | apply AW.out
    | (apply AW.kE; refine AW.sE (h := ?_))
    | apply AW.label
    | ((first | (apply AW.kC; refine AW.sC (h1 := fun h => ?_) (h2 := fun h => ?_))) <;> (try (first | exact Bool.noConfusion h | exact absurd h (by decide) | (simp at h; done) | (rw [h]; try simp only [nrm] at h; try rw [h]; try (exfalso; omega)) | skip))))
  refine AW.loopI (fun q : Nat => q ≤ l.length ∧ getP (l.drop q) k = getP l k) (fun q => ⟨[(0, .sh 2 (l.map Pr.av)), (1, .s k), (8, .i .i64 l.length), (9, .i .i64 q)], []⟩) (fun q => l.length - q) 0 ⟨by simp, by simp⟩ (by (constructor <;> (repeat' (first | exact LeT.nil | exact LeB.nil | apply LeT.cons | apply LeB.cons | exact Ol.refl | apply Lx.s | apply Lx.b | apply Lx.i | exact Lx.refl)) <;> (first | rfl | assumption | omega | (simp only [List.length_map, BS_len]; done) | skip))) fun m q ⟨hn, hc⟩ ih => ?_
  repeat' (first
    | apply AO.nil
    | (apply AO.kIx; first | refine AO.sIxN (h := ?_) | refine AO.sIx (h := ?_) | refine AO.sP (h := ?_) | refine AO.sPi (h := ?_))
    | (apply AO.kAdd; refine AO.sAdd (h := ?_))
    | (apply AO.kP; first | refine AO.sP (h := ?_) | refine AO.sPi (h := ?_) | refine AO.sLoadB (h := ?_))
    | apply AW.seq
    | (apply AW.kR; refine AW.sR (h := ?_))
    | apply AW.skip
    | apply AW.block
    | apply AW.out
    | (apply AW.kE; refine AW.sE (h := ?_))
    | apply AW.label
    | ((first | (apply AW.kC; refine AW.sC (h1 := fun h => ?_) (h2 := fun h => ?_))) <;> (try (first | exact Bool.noConfusion h | exact absurd h (by decide) | (simp at h; done) | (rw [h]; try simp only [nrm] at h; try rw [h]; try (exfalso; omega)) | skip))))
  · have hq : q < l.length := by omega
    rw [dropD hq, getP, if_pos h] at hc
    rw [← hc] at hD
    exact AW.ret (hD rfl .refl)
  · have hq : q < l.length := by omega
    rw [dropD hq, getP, if_neg h] at hc
    exact ih (q + 1) _ ⟨by omega, hc⟩ (by omega) (by (constructor <;> (repeat' (first | exact LeT.nil | exact LeB.nil | apply LeT.cons | apply LeB.cons | exact Ol.refl | apply Lx.s | apply Lx.b | apply Lx.i | exact Lx.refl)) <;> (first | rfl | assumption | omega | (simp only [List.length_map, BS_len]; done) | skip)))
  · rw [List.drop_of_length_le (by omega), getP] at hc
    rw [← hc] at hD
    exact AW.ret (hD rfl .refl)
/-- Does a message speak of a key? -/
def spk (m : Ms) (k : L) : Bool := if m.kind = 3 then hp k m.key else (m.kind == 1 || m.kind == 2) && k == m.key
theorem gSpeaks' (m : Ms) (k : L) : Good Try.prog 129 [.agg m.av, .s k] [] (.b (spk m k)) [] := by
  refine Good.w tabOk mixed Try.func129 (N := 26) (by kernel_rfl) rfl (by (repeat (first | exact LE.nil | apply LE.cons)); done) (by (repeat (first | exact LE.nil | apply LE.cons)); done) fun D hD F => ?_
  repeat' (first
    | apply AO.nil
    | (apply AO.kCall 21; refine AO.sCall (hg := (gHas' _ _)) (h := ?_))
    | (apply AO.kBox; refine AO.sBox (h := ?_))
    | (apply AO.kP; first | refine AO.sP (h := ?_) | refine AO.sPi (h := ?_) | refine AO.sLoadB (h := ?_))
    | apply AW.seq
    | (apply AW.kR; refine AW.sR (h := ?_))
    | apply AW.skip
    | apply AW.block
    | apply AW.out
    | (apply AW.kE; refine AW.sE (h := ?_))
    | apply AW.label
    | ((first | (apply AO.kG; first | refine AO.sgt (h1 := fun h => ?_) (h2 := fun h => ?_) | refine AO.sgf (h1 := fun h => ?_) (h2 := fun h => ?_) | refine AO.sgs (h := ?_)) | (apply AW.kC; refine AW.sC (h1 := fun h => ?_) (h2 := fun h => ?_))) <;> (try (first | exact Bool.noConfusion h | exact absurd h (by decide) | (simp at h; done) | (rw [h]; try simp only [nrm] at h; try rw [h]; try (exfalso; omega)) | skip))))
  all_goals (refine AW.ret (hD rfl ?_); (repeat' (first | apply Lx.s | apply Lx.b | apply Lx.i | apply LxL.cons | exact LxL.nil | apply Lx.tup | apply Lx.agg | apply Lx.refl)) <;> (try with_reducible rfl))
  all_goals (simp only [k1, k2, k3] at *; simp_all [spk])
/-- The last message that speaks of a key. -/
def lastI (l : List Ms) (k : L) : Nat → Int
  | 0 => -1
  | q + 1 => if spk (l.getD q default) k = true then (q : Int) else lastI l k q
theorem lastI_lt (l : List Ms) (k : L) : ∀ q, -1 ≤ lastI l k q ∧ lastI l k q < q
  | 0 => by simp [lastI]
  | q + 1 => by
    have := lastI_lt l k q
    rw [lastI]; split <;> omega
theorem gLast' (l : List Ms) (k : L) (hl : l.length ≤ 1000000) : Good Try.prog 96 [.sh 6 (l.map Ms.av), .s k] [] (.i .i64 (lastI l k l.length)) [] := by
  have ll : (l.map Ms.av).length = l.length := by simp
  refine Good.w tabOk mixed Try.func96 (N := 21) (by kernel_rfl) rfl (by (repeat (first | exact LE.nil | apply LE.cons)); done) (by (repeat (first | exact LE.nil | apply LE.cons)); done) fun D hD F => ?_
  repeat' (first
    | apply AO.nil
    | (apply AO.kIx; first | refine AO.sIxN (h := ?_) | refine AO.sIx (h := ?_) | refine AO.sP (h := ?_) | refine AO.sPi (h := ?_))
    | (apply AO.kAdd; refine AO.sAdd (h := ?_))
    | (apply AO.kP; first | refine AO.sP (h := ?_) | refine AO.sPi (h := ?_) | refine AO.sLoadB (h := ?_))
    | apply AW.seq
    | (apply AW.kR; refine AW.sR (h := ?_))
    | apply AW.skip
    | apply AW.block
    | apply AW.out
    | (apply AW.kE; refine AW.sE (h := ?_))
    | apply AW.label
    | ((first | (apply AW.kC; refine AW.sC (h1 := fun h => ?_) (h2 := fun h => ?_))) <;> (try (first | exact Bool.noConfusion h | exact absurd h (by decide) | (simp at h; done) | (rw [h]; try simp only [nrm] at h; try rw [h]; try (exfalso; omega)) | skip))))
  refine AW.loopI (fun q : Nat => q ≤ l.length) (fun q => ⟨[(0, .sh 6 (l.map Ms.av)), (1, .s k), (5, .i .i64 (lastI l k q)), (8, .i .i64 l.length), (9, .i .i64 q)], []⟩) (fun q => l.length - q) 0 (by simp) (by (constructor <;> (repeat' (first | exact LeT.nil | exact LeB.nil | apply LeT.cons | apply LeB.cons | exact Ol.refl | apply Lx.s | apply Lx.b | apply Lx.i | exact Lx.refl)) <;> (first | rfl | assumption | omega | (simp only [List.length_map, BS_len]; done) | skip))) fun m q hn ih => ?_
  repeat' (first
    | apply AO.nil
    | (apply AO.kCall 129; refine AO.sCall (hg := (gSpeaks' _ _)) (h := ?_))
    | (apply AO.kIx; first | refine AO.sIxN (h := ?_) | refine AO.sIx (h := ?_) | refine AO.sP (h := ?_) | refine AO.sPi (h := ?_))
    | (apply AO.kAdd; refine AO.sAdd (h := ?_))
    | (apply AO.kP; first | refine AO.sP (h := ?_) | refine AO.sPi (h := ?_) | refine AO.sLoadB (h := ?_))
    | apply AW.seq
    | (apply AW.kR; refine AW.sR (h := ?_))
    | apply AW.skip
    | apply AW.block
    | apply AW.out
    | (apply AW.kE; refine AW.sE (h := ?_))
    | apply AW.label
    | ((first | (apply AW.kC; refine AW.sC (h1 := fun h => ?_) (h2 := fun h => ?_))) <;> (try (first | exact Bool.noConfusion h | exact absurd h (by decide) | (simp at h; done) | (rw [h]; try simp only [nrm] at h; try rw [h]; try (exfalso; omega)) | skip))))
  · have e : lastI l k (q + 1) = (q : Int) := by rw [lastI, if_pos h]
    exact ih (q + 1) _ (by omega) (by omega) (by rw [e]; (constructor <;> (repeat' (first | exact LeT.nil | exact LeB.nil | apply LeT.cons | apply LeB.cons | exact Ol.refl | apply Lx.s | apply Lx.b | apply Lx.i | exact Lx.refl)) <;> (first | rfl | assumption | omega | (simp only [List.length_map, BS_len]; done) | skip)))
  · have e : lastI l k (q + 1) = lastI l k q := by rw [lastI, if_neg (by rw [h]; decide)]
    exact ih (q + 1) _ (by omega) (by omega) (by rw [e]; (constructor <;> (repeat' (first | exact LeT.nil | exact LeB.nil | apply LeT.cons | apply LeB.cons | exact Ol.refl | apply Lx.s | apply Lx.b | apply Lx.i | exact Lx.refl)) <;> (first | rfl | assumption | omega | (simp only [List.length_map, BS_len]; done) | skip)))
  all_goals (obtain rfl : q = l.length := by omega)
  all_goals exact AW.ret (hD rfl .refl)
def onW (b : B32) (d : W16) (s a k : L) : Wy := if hp k s = true then ⟨2, [], b, d, upS s a k⟩ else wayZ
theorem gOn' (b : B32) (d : W16) (s a k : L) (h1 : a.length + k.length ≤ 137438953472) : Good Try.prog 98 [.i .u32 b.toNat, .i .u16 d.toNat, .agg [.s s, .s a], .s k] [] (.agg (onW b d s a k).av) [] := by
  refine Good.w tabOk mixed Try.func98 (N := 24) (by kernel_rfl) rfl (by (repeat (first | exact LE.nil | apply LE.cons)); done) (by (repeat (first | exact LE.nil | apply LE.cons)); done) fun D hD F => ?_
  repeat' (first
    | apply AO.nil
    | (apply AO.kCall 35; refine AO.sCall (hg := (gUp' _ _ _ h1)) (h := ?_))
    | (apply AO.kBox; refine AO.sBox (h := ?_))
    | (apply AO.kAlloc; refine AO.sAlloc (h := ?_))
    | (apply AO.kStore; first | refine AO.sStore (h := ?_) | refine AO.sStB (h := ?_))
    | (apply AO.kP; first | refine AO.sP (h := ?_) | refine AO.sPi (h := ?_) | refine AO.sLoadB (h := ?_))
    | apply AW.seq
    | (apply AW.kR; refine AW.sR (h := ?_))
    | apply AW.skip
    | apply AW.block
    | apply AW.out
    | (apply AW.kE; refine AW.sE (h := ?_))
    | apply AW.label
    | ((first | (apply AW.kC; refine AW.sC (h1 := fun h => ?_) (h2 := fun h => ?_))) <;> (try (first | exact Bool.noConfusion h | exact absurd h (by decide) | (simp at h; done) | (rw [h]; try simp only [nrm] at h; try rw [h]; try (exfalso; omega)) | skip))))
  · rw [onW, if_neg (by rw [h]; decide)] at hD
    exact AW.ret (hD rfl .refl)
  · rw [onW, if_pos h] at hD
    exact AW.ret (hD rfl .refl)
/-- Where a key leads. -/
def leadN (n : Nd) (k : L) : Wy :=
  if n.leaf = true then (match getP n.pairs k with | some v => wayV v | none => wayZ)
  else if lastI n.buf k n.buf.length < 0 then
    onW (n.kids.getD (kidL n k n.kids.length).toNat default).block (n.kids.getD (kidL n k n.kids.length).toNat default).deep (n.kids.getD (kidL n k n.kids.length).toNat default).strip (n.kids.getD (kidL n k n.kids.length).toNat default).add k
  else if (n.buf.getD (lastI n.buf k n.buf.length).toNat default).kind = 1 then wayV (n.buf.getD (lastI n.buf k n.buf.length).toNat default).val
  else if (n.buf.getD (lastI n.buf k n.buf.length).toNat default).kind = 3 then
    onW (n.buf.getD (lastI n.buf k n.buf.length).toNat default).block (n.buf.getD (lastI n.buf k n.buf.length).toNat default).deep (n.buf.getD (lastI n.buf k n.buf.length).toNat default).key (n.buf.getD (lastI n.buf k n.buf.length).toNat default).add k
  else wayZ
theorem gLeadT (pairs : List Pr) (pivots : List L) (kids : List Ed) (buf : List Ms) (k : L) (hs : (⟨true, pairs, pivots, kids, buf⟩ : Nd).small) : Good Try.prog 65 [.agg (Nd.av ⟨true, pairs, pivots, kids, buf⟩), .s k] [] (.agg (leadN ⟨true, pairs, pivots, kids, buf⟩ k).av) [] := by
  have hs1 : pairs.length ≤ 1000000 := hs.pairs
  refine Good.w tabOk mixed Try.func65 (N := 70) (by kernel_rfl) rfl (by (repeat (first | exact LE.nil | apply LE.cons)); done) (by (repeat (first | exact LE.nil | apply LE.cons)); done) fun D hD F => ?_
  repeat' (first
    | apply AO.nil
    | (apply AO.kCall 55; refine AO.sCall (hg := (gGet _ _ hs1)) (h := ?_))
    | (apply AO.kIx; first | refine AO.sIxN (h := ?_) | refine AO.sIx (h := ?_) | refine AO.sP (h := ?_) | refine AO.sPi (h := ?_))
    | (apply AO.kBox; refine AO.sBox (h := ?_))
    | (apply AO.kAlloc; refine AO.sAlloc (h := ?_))
    | (apply AO.kStore; first | refine AO.sStore (h := ?_) | refine AO.sStB (h := ?_))
    | (apply AO.kP; first | refine AO.sP (h := ?_) | refine AO.sPi (h := ?_) | refine AO.sLoadB (h := ?_))
    | apply AW.seq
    | (apply AW.kR; refine AW.sR (h := ?_))
    | apply AW.skip
    | apply AW.block
    | apply AW.out
    | (apply AW.kE; refine AW.sE (h := ?_))
    | apply AW.label
    | (apply AW.kRd; refine AW.sRd (h := ?_))
    | ((first | (apply AW.kC; refine AW.sC (h1 := fun h => ?_) (h2 := fun h => ?_))) <;> (try (first | exact Bool.noConfusion h | exact absurd h (by decide) | (simp at h; done) | (rw [h]; try simp only [nrm] at h; try rw [h]; try (exfalso; omega)) | skip)))
    | (apply AR.kAny; first | (apply AR.kCall 55; refine AR.sCall (hg := (gGet _ _ hs1)) (h := ?_)) | (apply AR.kIx; first | refine AR.sIxN (h := ?_) | refine AR.sIx (h := ?_) | refine AR.sP (h := ?_) | refine AR.sPi (h := ?_)) | (apply AR.kBox; refine AR.sBox (h := ?_)) | (apply AR.kAlloc; refine AR.sAlloc (h := ?_)) | (apply AR.kStore; refine AR.sStore (h := ?_)) | (apply AR.kP; first | refine AR.sP (h := ?_) | refine AR.sPi (h := ?_)))
    | (apply AR.kNil; refine AR.sNil (h := ?_)))
  · have e : leadN ⟨true, pairs, pivots, kids, buf⟩ k = wayV ((getP pairs k).getD []) := by
      cases g : getP pairs k with
      | none => rw [g] at h; cases h
      | some v => simp [leadN, g]
    rw [e] at hD
    exact AW.ret (hD rfl .refl)
  · have e : leadN ⟨true, pairs, pivots, kids, buf⟩ k = wayZ := by
      cases g : getP pairs k with
      | some v => rw [g] at h; cases h
      | none => simp [leadN, g]
    rw [e] at hD
    exact AW.ret (hD rfl .refl)
theorem leadF1 {pairs : List Pr} {pivots : List L} {kids : List Ed} {buf : List Ms} {k : L} (h : lastI buf k buf.length < 0) : leadN ⟨false, pairs, pivots, kids, buf⟩ k = onW (kids.getD (kidL ⟨false, pairs, pivots, kids, buf⟩ k kids.length).toNat default).block (kids.getD (kidL ⟨false, pairs, pivots, kids, buf⟩ k kids.length).toNat default).deep (kids.getD (kidL ⟨false, pairs, pivots, kids, buf⟩ k kids.length).toNat default).strip (kids.getD (kidL ⟨false, pairs, pivots, kids, buf⟩ k kids.length).toNat default).add k := by
  unfold leadN; rw [if_neg Bool.false_ne_true, if_pos h]
theorem leadF2 {pairs : List Pr} {pivots : List L} {kids : List Ed} {buf : List Ms} {k : L} (h : 0 ≤ lastI buf k buf.length) (h1 : (buf.getD (lastI buf k buf.length).toNat default).kind = 1) : leadN ⟨false, pairs, pivots, kids, buf⟩ k = wayV (buf.getD (lastI buf k buf.length).toNat default).val := by
  unfold leadN; rw [if_neg Bool.false_ne_true, if_neg (by show ¬ lastI buf k buf.length < 0; omega), if_pos h1]
theorem leadF3 {pairs : List Pr} {pivots : List L} {kids : List Ed} {buf : List Ms} {k : L} (h : 0 ≤ lastI buf k buf.length) (h1 : ¬ (buf.getD (lastI buf k buf.length).toNat default).kind = 1) (h3 : (buf.getD (lastI buf k buf.length).toNat default).kind = 3) : leadN ⟨false, pairs, pivots, kids, buf⟩ k = onW (buf.getD (lastI buf k buf.length).toNat default).block (buf.getD (lastI buf k buf.length).toNat default).deep (buf.getD (lastI buf k buf.length).toNat default).key (buf.getD (lastI buf k buf.length).toNat default).add k := by
  unfold leadN; rw [if_neg Bool.false_ne_true, if_neg (by show ¬ lastI buf k buf.length < 0; omega), if_neg h1, if_pos h3]
theorem leadF4 {pairs : List Pr} {pivots : List L} {kids : List Ed} {buf : List Ms} {k : L} (h : 0 ≤ lastI buf k buf.length) (h1 : ¬ (buf.getD (lastI buf k buf.length).toNat default).kind = 1) (h3 : ¬ (buf.getD (lastI buf k buf.length).toNat default).kind = 3) : leadN ⟨false, pairs, pivots, kids, buf⟩ k = wayZ := by
  unfold leadN; rw [if_neg Bool.false_ne_true, if_neg (by show ¬ lastI buf k buf.length < 0; omega), if_neg h1, if_neg h3]
theorem sm_any {l : List Ms} (h : l.all msSm = true) (i : Nat) : (l.getD i default).key.length ≤ 1000000 ∧ (l.getD i default).add.length ≤ 1000000 := by
  by_cases hi : i < l.length
  · exact sm_at h hi
  · rw [List.getD_eq_getElem?_getD, List.getElem?_eq_none (by omega)]; decide
theorem gLeadF (pairs : List Pr) (pivots : List L) (kids : List Ed) (buf : List Ms) (k : L) (hs : (⟨false, pairs, pivots, kids, buf⟩ : Nd).small) (hx : (⟨false, pairs, pivots, kids, buf⟩ : Nd).strs) (hk : k.length ≤ 1000000)
    (hr : 0 ≤ kidL ⟨false, pairs, pivots, kids, buf⟩ k kids.length ∧ kidL ⟨false, pairs, pivots, kids, buf⟩ k kids.length < kids.length) : Good Try.prog 65 [.agg (Nd.av ⟨false, pairs, pivots, kids, buf⟩), .s k] [] (.agg (leadN ⟨false, pairs, pivots, kids, buf⟩ k).av) [] := by
  have hs3 : kids.length ≤ 1000000 := hs.kids
  have hs4 : buf.length ≤ 1000000 := hs.buf
  have l3 : (kids.map Ed.av).length = kids.length := by simp
  have l4 : (buf.map Ms.av).length = buf.length := by simp
  obtain ⟨i1, i2⟩ := lastI_lt buf k buf.length
  have sk := hx.kids (kidL ⟨false, pairs, pivots, kids, buf⟩ k kids.length).toNat (by show _ < kids.length; omega)
  have u1 : (kids.getD (kidL ⟨false, pairs, pivots, kids, buf⟩ k kids.length).toNat default).add.length + k.length ≤ 137438953472 := by have := sk.2; dsimp only at this; omega
  have u2 : (buf.getD (lastI buf k buf.length).toNat default).add.length + k.length ≤ 137438953472 := by have := (sm_any hx.buf (lastI buf k buf.length).toNat).2; dsimp only at this; omega
  refine Good.w tabOk mixed Try.func65 (N := 70) (by kernel_rfl) rfl (by (repeat (first | exact LE.nil | apply LE.cons)); done) (by (repeat (first | exact LE.nil | apply LE.cons)); done) fun D hD F => ?_
  repeat' (first
    | apply AO.nil
    | (apply AO.kCall 96; refine AO.sCall (hg := (gLast' _ _ hs4)) (h := ?_))
    | (apply AO.kCall 97; refine AO.sCall (hg := (gKid' ⟨false, pairs, pivots, kids, buf⟩ k hs)) (h := ?_))
    | (apply AO.kIx; first | refine AO.sIxN (hm := by first | decide | omega | assumption | (simp only [List.length_map]; omega) | (refine ⟨?_, ?_⟩ <;> (simp only [List.length_map]; omega))) (h := ?_) | refine AO.sIx (hm := by first | decide | omega | assumption | (simp only [List.length_map]; omega) | (refine ⟨?_, ?_⟩ <;> (simp only [List.length_map]; omega))) (h := ?_) | refine AO.sP (h := ?_) | refine AO.sPi (hq := by first | decide | omega | assumption | (simp only [List.length_map]; omega) | (refine ⟨?_, ?_⟩ <;> (simp only [List.length_map]; omega))) (h := ?_))
    | (apply AO.kBox; refine AO.sBox (h := ?_))
    | (apply AO.kAlloc; refine AO.sAlloc (h := ?_))
    | (apply AO.kStore; first | refine AO.sStore (h := ?_) | refine AO.sStB (ho := by first | decide | omega | assumption | (simp only [List.length_map]; omega) | (refine ⟨?_, ?_⟩ <;> (simp only [List.length_map]; omega))) (h := ?_))
    | (apply AO.kP; first | refine AO.sP (h := ?_) | refine AO.sPi (hq := by first | decide | omega | assumption | (simp only [List.length_map]; omega) | (refine ⟨?_, ?_⟩ <;> (simp only [List.length_map]; omega))) (h := ?_) | refine AO.sLoadB (ho := by first | decide | omega | assumption | (simp only [List.length_map]; omega) | (refine ⟨?_, ?_⟩ <;> (simp only [List.length_map]; omega))) (h := ?_))
    | apply AW.seq
    | (apply AW.kR; refine AW.sR (h := ?_))
    | apply AW.skip
    | apply AW.block
    | apply AW.out
    | (apply AW.kE; refine AW.sE (h := ?_))
    | apply AW.label
    | (apply AW.kRd; refine AW.sRd (h := ?_))
    | ((first | (apply AW.kC; refine AW.sC (h1 := fun h => ?_) (h2 := fun h => ?_))) <;> (try (first | exact Bool.noConfusion h | exact absurd h (by decide) | (simp at h; done) | (rw [h]; try simp only [nrm] at h; try rw [h]; try (exfalso; omega)) | skip)))
    | (apply AR.kAny; first | (apply AR.kCall 96; refine AR.sCall (hg := (gLast' _ _ hs4)) (h := ?_)) | (apply AR.kCall 97; refine AR.sCall (hg := (gKid' ⟨false, pairs, pivots, kids, buf⟩ k hs)) (h := ?_)) | (apply AR.kIx; first | refine AR.sIxN (hm := by first | decide | omega | assumption | (simp only [List.length_map]; omega) | (refine ⟨?_, ?_⟩ <;> (simp only [List.length_map]; omega))) (h := ?_) | refine AR.sIx (hm := by first | decide | omega | assumption | (simp only [List.length_map]; omega) | (refine ⟨?_, ?_⟩ <;> (simp only [List.length_map]; omega))) (h := ?_) | refine AR.sP (h := ?_) | refine AR.sPi (hq := by first | decide | omega | assumption | (simp only [List.length_map]; omega) | (refine ⟨?_, ?_⟩ <;> (simp only [List.length_map]; omega))) (h := ?_)) | (apply AR.kBox; refine AR.sBox (h := ?_)) | (apply AR.kAlloc; refine AR.sAlloc (h := ?_)) | (apply AR.kStore; refine AR.sStore (h := ?_)) | (apply AR.kP; first | refine AR.sP (h := ?_) | refine AR.sPi (hq := by first | decide | omega | assumption | (simp only [List.length_map]; omega) | (refine ⟨?_, ?_⟩ <;> (simp only [List.length_map]; omega))) (h := ?_)))
    | (apply AR.kNil; refine AR.sNil (h := ?_)))
  · repeat' (first
    | apply AO.nil
    | (apply AO.kCall 98; refine AO.sCall (hg := (gOn' (kids.getD (kidL ⟨false, pairs, pivots, kids, buf⟩ k kids.length).toNat default).block (kids.getD (kidL ⟨false, pairs, pivots, kids, buf⟩ k kids.length).toNat default).deep (kids.getD (kidL ⟨false, pairs, pivots, kids, buf⟩ k kids.length).toNat default).strip (kids.getD (kidL ⟨false, pairs, pivots, kids, buf⟩ k kids.length).toNat default).add k u1)) (h := ?_))
    | (apply AO.kIx; first | refine AO.sIxN (h := ?_) | refine AO.sIx (h := ?_) | refine AO.sP (h := ?_) | refine AO.sPi (h := ?_))
    | (apply AO.kBox; refine AO.sBox (h := ?_))
    | (apply AO.kAlloc; refine AO.sAlloc (h := ?_))
    | (apply AO.kStore; first | refine AO.sStore (h := ?_) | refine AO.sStB (h := ?_))
    | (apply AO.kP; first | refine AO.sP (h := ?_) | refine AO.sPi (h := ?_) | refine AO.sLoadB (h := ?_))
    | apply AW.seq
    | (apply AW.kR; refine AW.sR (h := ?_))
    | apply AW.skip
    | apply AW.block
    | apply AW.out
    | (apply AW.kE; refine AW.sE (h := ?_))
    | apply AW.label
    | (apply AW.kRd; refine AW.sRd (h := ?_))
    | ((first | (apply AW.kC; refine AW.sC (h1 := fun h => ?_) (h2 := fun h => ?_))) <;> (try (first | exact Bool.noConfusion h | exact absurd h (by decide) | (simp at h; done) | (rw [h]; try simp only [nrm] at h; try rw [h]; try (exfalso; omega)) | skip)))
    | (apply AR.kAny; first | (apply AR.kCall 98; refine AR.sCall (hg := (gOn' (kids.getD (kidL ⟨false, pairs, pivots, kids, buf⟩ k kids.length).toNat default).block (kids.getD (kidL ⟨false, pairs, pivots, kids, buf⟩ k kids.length).toNat default).deep (kids.getD (kidL ⟨false, pairs, pivots, kids, buf⟩ k kids.length).toNat default).strip (kids.getD (kidL ⟨false, pairs, pivots, kids, buf⟩ k kids.length).toNat default).add k u1)) (h := ?_)) | (apply AR.kIx; first | refine AR.sIxN (h := ?_) | refine AR.sIx (h := ?_) | refine AR.sP (h := ?_) | refine AR.sPi (h := ?_)) | (apply AR.kBox; refine AR.sBox (h := ?_)) | (apply AR.kAlloc; refine AR.sAlloc (h := ?_)) | (apply AR.kStore; refine AR.sStore (h := ?_)) | (apply AR.kP; first | refine AR.sP (h := ?_) | refine AR.sPi (h := ?_)))
    | (apply AR.kNil; refine AR.sNil (h := ?_)))
    rw [leadF1 h] at hD
    exact AW.ret (hD rfl .refl)
  · rw [leadF2 (by assumption) (by rw [← k1]; assumption)] at hD
    exact AW.ret (hD rfl .refl)
  · repeat' (first
    | apply AO.nil
    | (apply AO.kCall 98; refine AO.sCall (hg := (gOn' (buf.getD (lastI buf k buf.length).toNat default).block (buf.getD (lastI buf k buf.length).toNat default).deep (buf.getD (lastI buf k buf.length).toNat default).key (buf.getD (lastI buf k buf.length).toNat default).add k u2)) (h := ?_))
    | (apply AO.kIx; first | refine AO.sIxN (h := ?_) | refine AO.sIx (h := ?_) | refine AO.sP (h := ?_) | refine AO.sPi (h := ?_))
    | (apply AO.kBox; refine AO.sBox (h := ?_))
    | (apply AO.kAlloc; refine AO.sAlloc (h := ?_))
    | (apply AO.kStore; first | refine AO.sStore (h := ?_) | refine AO.sStB (h := ?_))
    | (apply AO.kP; first | refine AO.sP (h := ?_) | refine AO.sPi (h := ?_) | refine AO.sLoadB (h := ?_))
    | apply AW.seq
    | (apply AW.kR; refine AW.sR (h := ?_))
    | apply AW.skip
    | apply AW.block
    | apply AW.out
    | (apply AW.kE; refine AW.sE (h := ?_))
    | apply AW.label
    | (apply AW.kRd; refine AW.sRd (h := ?_))
    | ((first | (apply AW.kC; refine AW.sC (h1 := fun h => ?_) (h2 := fun h => ?_))) <;> (try (first | exact Bool.noConfusion h | exact absurd h (by decide) | (simp at h; done) | (rw [h]; try simp only [nrm] at h; try rw [h]; try (exfalso; omega)) | skip)))
    | (apply AR.kAny; first | (apply AR.kCall 98; refine AR.sCall (hg := (gOn' (buf.getD (lastI buf k buf.length).toNat default).block (buf.getD (lastI buf k buf.length).toNat default).deep (buf.getD (lastI buf k buf.length).toNat default).key (buf.getD (lastI buf k buf.length).toNat default).add k u2)) (h := ?_)) | (apply AR.kIx; first | refine AR.sIxN (h := ?_) | refine AR.sIx (h := ?_) | refine AR.sP (h := ?_) | refine AR.sPi (h := ?_)) | (apply AR.kBox; refine AR.sBox (h := ?_)) | (apply AR.kAlloc; refine AR.sAlloc (h := ?_)) | (apply AR.kStore; refine AR.sStore (h := ?_)) | (apply AR.kP; first | refine AR.sP (h := ?_) | refine AR.sPi (h := ?_)))
    | (apply AR.kNil; refine AR.sNil (h := ?_)))
    rw [leadF3 (by assumption) (by rw [← k1]; assumption) (by rw [← k3]; assumption)] at hD
    exact AW.ret (hD rfl .refl)
  · rw [leadF4 (by assumption) (by rw [← k1]; assumption) (by rw [← k3]; assumption)] at hD
    exact AW.ret (hD rfl .refl)
/-- The last kid in whose range a key is, where there is just one. -/
theorem kidL_at {n : Nd} {k : L} {b : Nat} (h : ∀ j, j < n.kids.length → inR (rgN n j).1 (rgN n j).2.1 (rgN n j).2.2 k = ((j : Int) == (b : Int))) : ∀ q, q ≤ n.kids.length → kidL n k q = if b < q then (b : Int) else -1
  | 0, _ => by simp [kidL]
  | q + 1, hq => by
    rw [kidL, h q (by omega), kidL_at h q (by omega)]
    by_cases e : q = b
    · subst e; simp
    · rw [if_neg (by rw [beq_iff_eq]; omega)]
      by_cases g : b < q
      · rw [if_pos g, if_pos (by omega)]
      · rw [if_neg g, if_neg (by omega)]
theorem kidL_may {n : Nd} {k : L} (h : innerOk n = true) : kidL n k n.kids.length = kidN n k ∧ 0 ≤ kidN n k ∧ kidN n k < n.kids.length := by
  obtain ⟨pl, pr, _⟩ := inner_len h
  obtain ⟨e1, e2⟩ := kid_at (n := n) (k := k) pl pr
  have := kidL_at (n := n) (k := k) (b := bs (kidF n k) 0 n.pivots.length) (fun j hj => by rw [kid_in pl pr hj, e1]) n.kids.length (Nat.le_refl _)
  rw [if_pos (by omega)] at this
  rw [this, e1]; omega
/-- A step by the document. -/
def stepN (n : Nd) (k : L) : Wy := if mayN n = 0 then leadN n k else wayZ
theorem gStep' (n : Nd) (k : L) (hs : n.small) (hx : n.strs) (hk : k.length ≤ 1000000) : Good Try.prog 23 [.agg n.av, .s k] [] (.agg (stepN n k).av) [] := by
  by_cases h0 : mayN n = 0
  · rw [stepN, if_pos h0]
    have hl : Good Try.prog 65 [.agg n.av, .s k] [] (.agg (leadN n k).av) [] := by
      have hn : n.leaf = false → 0 ≤ kidL n k n.kids.length ∧ kidL n k n.kids.length < n.kids.length := fun e => by
        obtain ⟨e1, e2, e3⟩ := kidL_may (k := k) (may_inner h0 e).1
        rw [e1]; exact ⟨e2, e3⟩
      obtain ⟨leaf, pairs, pivots, kids, buf⟩ := n
      cases leaf
      · exact gLeadF _ _ _ _ _ hs hx hk (hn rfl)
      · exact gLeadT _ _ _ _ _ hs
    refine Good.w tabOk mixed Try.func23 (N := 12) (by kernel_rfl) rfl (by (repeat (first | exact LE.nil | apply LE.cons)); done) (by (repeat (first | exact LE.nil | apply LE.cons)); done) fun D hD F => ?_
    repeat' (first
    | apply AO.nil
    | (apply AO.kCall 22; refine AO.sCall (hg := (gMay' n hs)) (h := ?_))
    | (apply AO.kCall 65; refine AO.sCall (hg := hl) (h := ?_))
    | (apply AO.kBox; refine AO.sBox (h := ?_))
    | (apply AO.kAlloc; refine AO.sAlloc (h := ?_))
    | (apply AO.kStore; first | refine AO.sStore (h := ?_) | refine AO.sStB (h := ?_))
    | (apply AO.kP; first | refine AO.sP (h := ?_) | refine AO.sPi (h := ?_) | refine AO.sLoadB (h := ?_))
    | apply AW.seq
    | (apply AW.kR; refine AW.sR (h := ?_))
    | apply AW.skip
    | apply AW.block
    | apply AW.out
    | (apply AW.kE; refine AW.sE (h := ?_))
    | apply AW.label
    | ((first | (apply AW.kC; refine AW.sC (h1 := fun h => ?_) (h2 := fun h => ?_))) <;> (try (first | exact Bool.noConfusion h | exact absurd h (by decide) | (simp at h; done) | (rw [h]; try simp only [nrm] at h; try rw [h]; try (exfalso; omega)) | skip))))
    · exact absurd h0 (ne0 h)
    · exact AW.ret (hD rfl .refl)
  · rw [stepN, if_neg h0]
    refine Good.w tabOk mixed Try.func23 (N := 12) (by kernel_rfl) rfl (by (repeat (first | exact LE.nil | apply LE.cons)); done) (by (repeat (first | exact LE.nil | apply LE.cons)); done) fun D hD F => ?_
    repeat' (first
    | apply AO.nil
    | (apply AO.kCall 22; refine AO.sCall (hg := (gMay' n hs)) (h := ?_))
    | (apply AO.kBox; refine AO.sBox (h := ?_))
    | (apply AO.kAlloc; refine AO.sAlloc (h := ?_))
    | (apply AO.kStore; first | refine AO.sStore (h := ?_) | refine AO.sStB (h := ?_))
    | (apply AO.kP; first | refine AO.sP (h := ?_) | refine AO.sPi (h := ?_) | refine AO.sLoadB (h := ?_))
    | apply AW.seq
    | (apply AW.kR; refine AW.sR (h := ?_))
    | apply AW.skip
    | apply AW.block
    | apply AW.out
    | (apply AW.kE; refine AW.sE (h := ?_))
    | apply AW.label
    | ((first | (apply AW.kC; refine AW.sC (h1 := fun h => ?_) (h2 := fun h => ?_))) <;> (try (first | exact Bool.noConfusion h | exact absurd h (by decide) | (simp at h; done) | (rw [h]; try simp only [nrm] at h; try rw [h]; try (exfalso; omega)) | skip))))
    · exact AW.ret (hD rfl .refl)
    · exact absurd (eq0 h) h0
end Go.Proofs.Ytocppeifkjdeiaa.Mv

/- Where a key leads in a trimmed node. Plain. -/
namespace Go.Proofs.Ytocppeifkjdeiaa.Mv
open Go Go.Proofs
set_option linter.unusedSimpArgs false
set_option linter.unusedVariables false
set_option maxRecDepth 10000
set_option maxHeartbeats 4000000

theorem cut_iff {x a k : L} (h : hp x a = true) : cutS x a = k ↔ x = a ++ k := by
  obtain ⟨t, rfl⟩ := hp_pre.1 h
  rw [cutS_hp h, List.drop_left' rfl, List.append_cancel_left_eq]
/-! ### pairs -/
theorem getP_tr {r : L × L × Bool} {a k : L} (hu : hp (undS r.1 r.2.1 r.2.2) a = true) (hk : inR r.1 r.2.1 r.2.2 (a ++ k) = true) : ∀ l : List Pr, getP (trPr l r a) k = getP l (a ++ k)
  | [] => rfl
  | p :: l => by
    have ih := getP_tr hu hk l
    cases g : prKeep r p with
    | true =>
      have e : trPr (p :: l) r a = prCut a p :: trPr l r a := by rw [trPr, List.filter_cons_of_pos g]; rfl
      have hp' : hp p.k a = true := hp_trans ((und_facts _ _ _ _).2.2.1 g) hu
      rw [e, getP, getP, ih]
      have := cut_iff (k := k) hp'
      show (if cutS p.k a = k then some p.v else _) = _
      by_cases c : p.k = a ++ k
      · rw [if_pos c, if_pos (this.2 c)]
      · rw [if_neg c, if_neg (fun q => c (this.1 q))]
    | false =>
      have e : trPr (p :: l) r a = trPr l r a := by rw [trPr, List.filter_cons_of_neg (by rw [g]; decide)]; rfl
      rw [e, getP, ih, if_neg]
      intro c
      rw [prKeep, c, hk] at g; cases g
/-! ### messages -/
theorem next_in (p k : L) : inR p (p ++ [0]) true k = (k == p) := by
  rw [Bool.eq_iff_iff]
  simp only [inR, Bool.and_eq_true, Bool.not_eq_true', Bool.not_true, Bool.false_or, beq_iff_eq]
  constructor
  · rintro ⟨h1, h2⟩
    cases g : hp k p with
    | false => rw [lt_off [0] g] at h2; rw [h2] at h1; cases h1
    | true =>
      obtain ⟨t, rfl⟩ := hp_pre.1 g
      rw [lt_app] at h2
      cases t with
      | nil => simp
      | cons c t => rw [lt_one] at h2; simp at h2
  · rintro rfl
    exact ⟨lt_irrefl _, lt_pre _ 0 []⟩
theorem ab_in (m : Ms) (k : L) : inR (abS m).1 (abS m).2.1 (abS m).2.2 k = spk m k := by
  unfold abS spk
  by_cases h1 : m.kind = 1
  · rw [if_pos h1, if_neg (by rw [h1]; decide), h1]
    simp only [next_in]; simp
  · rw [if_neg h1]
    by_cases h2 : m.kind = 2
    · rw [if_pos h2, if_neg (by rw [h2]; decide), h2]
      simp only [next_in]; simp
    · rw [if_neg h2]
      by_cases h3 : m.kind = 3
      · rw [if_pos h3, if_pos h3]; exact of_in _ _
      · rw [if_neg h3, if_neg h3]
        have e1 : (m.kind == 1) = false := by simpa using h1
        have e2 : (m.kind == 2) = false := by simpa using h2
        rw [e1, e2]; simp [inR, lt_nil]
theorem spk_keep {r : L × L × Bool} {k : L} (hk : inR r.1 r.2.1 r.2.2 k = true) {m : Ms} (h : spk m k = true) : msKeep r m = true := by
  rw [← ab_in] at h
  rw [msKeep, emC_some h hk]; rfl
theorem eq_app {a t k : L} : (a ++ k == a ++ t) = (k == t) := by
  rw [Bool.eq_iff_iff]; simp
theorem spk_mv {m : Ms} {a k : L} (h : (mvR m a).2 = true) : spk (mvR m a).1 k = spk m (a ++ k) := by
  unfold mvR at h ⊢
  by_cases c : hp m.key a = true
  · rw [if_pos c]
    obtain ⟨t, e⟩ := hp_pre.1 c
    have e2 : cutS (a ++ t) a = t := by rw [cut_iff (hp_app a t)]
    simp only [spk, e2, e, hp_app2, eq_app]
  · rw [if_neg c] at h ⊢
    by_cases d : m.kind = 3 ∧ hp a m.key = true ∧ m.add.length + (cutS a m.key).length ≤ 16
    · rw [if_pos d]
      obtain ⟨t, e⟩ := hp_pre.1 d.2.1
      simp only [spk, d.1, if_true, hp_nil]
      rw [e, List.append_assoc, hp_app]
    · rw [if_neg d] at h; cases h
def msW (m : Ms) (k : L) : Wy := if m.kind = 1 then wayV m.val else if m.kind = 3 then onW m.block m.deep m.key m.add k else wayZ
theorem msW_mv {m : Ms} {a k : L} (h : (mvR m a).2 = true) : msW (mvR m a).1 k = msW m (a ++ k) := by
  unfold mvR at h ⊢
  by_cases c : hp m.key a = true
  · rw [if_pos c]
    obtain ⟨t, e⟩ := hp_pre.1 c
    have e2 : cutS (a ++ t) a = t := by rw [cut_iff (hp_app a t)]
    simp only [msW, e2, e, onW, hp_app2]
    have e3 : ∀ g : hp k t = true, upS t m.add k = upS (a ++ t) m.add (a ++ k) := fun g => by
      obtain ⟨x, rfl⟩ := hp_pre.1 g
      rw [upS_app, ← List.append_assoc, upS_app]
    by_cases g : hp k t = true
    · simp only [if_pos g, e3 g]
    · simp only [if_neg g]
  · rw [if_neg c] at h ⊢
    by_cases d : m.kind = 3 ∧ hp a m.key = true ∧ m.add.length + (cutS a m.key).length ≤ 16
    · rw [if_pos d]
      obtain ⟨t, e⟩ := hp_pre.1 d.2.1
      have e2 : cutS a m.key = t := by rw [cut_iff d.2.1]; exact e
      have n1 : ¬ ((3 : UInt8) = 1) := by decide
      simp only [msW, d.1, if_neg n1, if_true, onW, hp_nil, e2]
      rw [e, List.append_assoc, hp_app, if_pos rfl, upS_app]
      have : upS [] (m.add ++ t) k = m.add ++ (t ++ k) := by
        rw [show k = [] ++ k from rfl, upS_app]; simp
      rw [this]
    · rw [if_neg d] at h; cases h
/-- The last message that speaks. -/
def lastM (l : List Ms) (k : L) : Option Ms := (l.filter (fun m => spk m k)).getLast?
theorem lastI_spec {l : List Ms} {k : L} : ∀ q, q ≤ l.length → (lastI l k q < 0 ∧ ((l.take q).filter (fun m => spk m k)).getLast? = none) ∨ (0 ≤ lastI l k q ∧ ((l.take q).filter (fun m => spk m k)).getLast? = some (l.getD (lastI l k q).toNat default))
  | 0, _ => .inl ⟨by simp [lastI], by simp⟩
  | q + 1, hq => by
    rw [lastI]
    cases g : spk (l.getD q default) k with
    | true =>
      rw [if_pos rfl, filt_yes (p := fun m => spk m k) (by omega) g]
      exact .inr ⟨by omega, by rw [List.getLast?_append]; simp⟩
    | false =>
      rw [if_neg (by decide), filt_no (p := fun m => spk m k) (by omega) g]
      exact lastI_spec q (by omega)
theorem lastM_tr {l : List Ms} {r : L × L × Bool} {a k : L} (hok : trMsOk l r a = true) (hk : inR r.1 r.2.1 r.2.2 (a ++ k) = true) : lastM (trMsR l r a) k = (lastM l (a ++ k)).map (fun m => (mvR m a).1) := by
  have e : (trMsR l r a).filter (fun m => spk m k) = (l.filter (fun m => spk m (a ++ k))).map (fun m => (mvR m a).1) := by
    rw [trMsR, List.filter_map, List.filter_filter]
    congr 1
    rw [trMsOk, List.all_eq_true] at hok
    refine List.filter_congr fun m hm => ?_
    cases g : msKeep r m with
    | true =>
      rw [Bool.and_true]
      exact spk_mv (hok m (List.mem_filter.2 ⟨hm, g⟩))
    | false =>
      rw [Bool.and_false]
      cases q : spk m (a ++ k) with
      | false => rfl
      | true => rw [spk_keep hk q] at g; cases g
  rw [lastM, e, List.getLast?_map, lastM]
def kidW (n : Nd) (k : L) : Wy := onW (n.kids.getD (kidL n k n.kids.length).toNat default).block (n.kids.getD (kidL n k n.kids.length).toNat default).deep (n.kids.getD (kidL n k n.kids.length).toNat default).strip (n.kids.getD (kidL n k n.kids.length).toNat default).add k
theorem lead_in {n : Nd} {k : L} (hl : n.leaf = false) : leadN n k = match lastM n.buf k with | none => kidW n k | some m => msW m k := by
  unfold leadN
  rw [if_neg (by rw [hl]; decide)]
  rcases lastI_spec (l := n.buf) (k := k) n.buf.length (Nat.le_refl _) with ⟨h1, h2⟩ | ⟨h1, h2⟩
  · rw [List.take_length] at h2
    rw [if_pos h1, lastM, h2]; rfl
  · rw [List.take_length] at h2
    rw [if_neg (by omega), lastM, h2]; rfl
/-! ### kids */ -/
def kept (n : Nd) (r : L × L × Bool) (q : Nat) : List Nat := (List.range q).filter (fun i => !emC (rgN n i) r)
theorem kept_yes {n : Nd} {r : L × L × Bool} {q : Nat} (h : emC (rgN n q) r = false) : kept n r (q + 1) = kept n r q ++ [q] := by
  rw [kept, List.range_succ, List.filter_append, List.filter_cons_of_pos (by rw [h]; rfl)]; rfl
theorem kept_no {n : Nd} {r : L × L × Bool} {q : Nat} (h : emC (rgN n q) r = true) : kept n r (q + 1) = kept n r q := by
  rw [kept, List.range_succ, List.filter_append, List.filter_cons_of_neg (by rw [h]; decide), List.filter_nil, List.append_nil]; rfl
theorem kept_run {n : Nd} {r : L × L × Bool} {a : L} : ∀ (u q : Nat) (ps : List L) (ks : List Ed), q + u = n.kids.length → ks = (kept n r q).map (trKid n a) → ps = ((kept n r q).drop 1).map (fun i : Nat => cutS (rgN n i).1 a) → (kRun n r a u q ps ks).2 = true →
    (kRun n r a u q ps ks).1.2 = (kept n r n.kids.length).map (trKid n a) ∧ (kRun n r a u q ps ks).1.1 = ((kept n r n.kids.length).drop 1).map (fun i : Nat => cutS (rgN n i).1 a)
  | 0, q, ps, ks, hq, h1, h2, _ => by
    obtain rfl : q = n.kids.length := by omega
    exact ⟨h1, h2⟩
  | u + 1, q, ps, ks, hq, h1, h2, hok => by
    rw [kRun] at hok ⊢
    by_cases c : emC (rgN n q) r = true
    · rw [if_pos c] at hok ⊢
      exact kept_run u (q + 1) _ _ (by omega) (by rw [kept_no c]; exact h1) (by rw [kept_no c]; exact h2) hok
    · rw [if_neg c] at hok ⊢
      have c' : emC (rgN n q) r = false := by simpa using c
      by_cases d : kidOk n a q = false
      · rw [if_pos d] at hok; cases hok
      · rw [if_neg d] at hok ⊢
        refine kept_run u (q + 1) _ _ (by omega) (by rw [kept_yes c', List.map_append, ← h1]; rfl) ?_ hok
        rw [kept_yes c']
        have hl : ks.length = (kept n r q).length := by rw [h1, List.length_map]
        by_cases e : 0 < ks.length
        · rw [if_pos e, List.drop_append_of_le_length (by omega), List.map_append, ← h2]; rfl
        · rw [if_neg e]
          have e0 : kept n r q = [] := List.eq_nil_of_length_eq_zero (by omega)
          rw [h2, e0]; rfl
theorem ok_run {n : Nd} {r : L × L × Bool} {a : L} : ∀ (u q : Nat) (ps : List L) (ks : List Ed), (kRun n r a u q ps ks).2 = true → ∀ i, q ≤ i → i < q + u → emC (rgN n i) r = false → kidOk n a i = true
  | 0, q, ps, ks, _, i, h1, h2, _ => by omega
  | u + 1, q, ps, ks, hok, i, h1, h2, he => by
    rw [kRun] at hok
    by_cases c : emC (rgN n q) r = true
    · rw [if_pos c] at hok
      by_cases e : i = q
      · subst e; rw [c] at he; cases he
      · exact ok_run u (q + 1) _ _ hok i (by omega) (by omega) he
    · rw [if_neg c] at hok
      by_cases d : kidOk n a q = false
      · rw [if_pos d] at hok; cases hok
      · rw [if_neg d] at hok
        by_cases e : i = q
        · subst e; simpa using d
        · exact ok_run u (q + 1) _ _ hok i (by omega) (by omega) he
theorem kept_pw (n : Nd) (r : L × L × Bool) (q : Nat) : (kept n r q).Pairwise (· < ·) := List.Pairwise.filter _ List.pairwise_lt_range
theorem kept_mem {n : Nd} {r : L × L × Bool} {q i : Nat} : i ∈ kept n r q ↔ i < q ∧ emC (rgN n i) r = false := by
  rw [kept, List.mem_filter, List.mem_range]; simp
theorem getD_at {α : Type} [Inhabited α] {l : List α} {i : Nat} (h : i < l.length) : l.getD i default = l[i] := by
  rw [List.getD_eq_getElem?_getD, List.getElem?_eq_getElem h]; rfl
/-- The kid of a key in a trimmed node. -/
theorem kid_tr {n : Nd} {r : L × L × Bool} {a k : L} {ps : List L} {ks : List Ed} {ms : List Ms} (hi : innerOk n = true) (hu : hp (undS r.1 r.2.1 r.2.2) a = true) (hk : inR r.1 r.2.1 r.2.2 (a ++ k) = true)
    (h1 : ks = (kept n r n.kids.length).map (trKid n a)) (h2 : ps = ((kept n r n.kids.length).drop 1).map (fun i : Nat => cutS (rgN n i).1 a)) (hi2 : innerOk ⟨false, [], ps, ks, ms⟩ = true) :
    (ks.getD (kidL ⟨false, [], ps, ks, ms⟩ k ks.length).toNat default) = trKid n a (kidL n (a ++ k) n.kids.length).toNat ∧ (kidL n (a ++ k) n.kids.length).toNat < n.kids.length ∧ emC (rgN n (kidL n (a ++ k) n.kids.length).toNat) r = false := by
  obtain ⟨pl, pr, _⟩ := inner_len hi
  obtain ⟨e1, e2, e3⟩ := kidL_may (k := a ++ k) hi
  obtain ⟨b, hb⟩ : ∃ b : Nat, kidN n (a ++ k) = b := ⟨(kidN n (a ++ k)).toNat, by omega⟩
  rw [e1, hb]
  have hbl : b < n.kids.length := by omega
  have ib := kid_in (k := a ++ k) pl pr hbl
  rw [hb, beq_self_eq_true] at ib
  have eb := emC_some ib hk
  have mb : b ∈ kept n r n.kids.length := kept_mem.2 ⟨hbl, eb⟩
  obtain ⟨j, hj, hjb⟩ := List.getElem_of_mem mb
  generalize hK : kept n r n.kids.length = K at *
  have pw : K.Pairwise (· < ·) := hK ▸ kept_pw n r _
  have mem : ∀ i, i ∈ K ↔ i < n.kids.length ∧ emC (rgN n i) r = false := fun i => hK ▸ kept_mem
  obtain ⟨pl2, pr2, _⟩ := inner_len hi2
  dsimp only at pl2 pr2
  have lk : ks.length = K.length := by rw [h1, List.length_map]
  have hp1 : ∀ i (h : i < K.length), 0 < i → hp (rgN n K[i]).1 a = true := fun i h h0 => by
    have m1 := (mem K[i]).1 (List.getElem_mem h)
    have m0 := (mem K[0]).1 (List.getElem_mem (by omega))
    have lt0 : K[0] < K[i] := List.pairwise_iff_getElem.1 pw 0 i (by omega) h h0
    exact hp_trans ((und_facts _ _ _ _).2.2.1 (piv_in pl pr lt0 m1.1 m0.2 m1.2)) hu
  have pat : ∀ i (h : i + 1 < K.length), ps.getD i default = cutS (rgN n K[i + 1]).1 a := fun i h => by
    rw [getD_at (by rw [h2, List.length_map, List.length_drop]; omega)]
    simp only [h2, List.getElem_map, List.getElem_drop]
    simp only [Nat.add_comm 1 i]
  have in2 : inR (rgN ⟨false, [], ps, ks, ms⟩ j).1 (rgN ⟨false, [], ps, ks, ms⟩ j).2.1 (rgN ⟨false, [], ps, ks, ms⟩ j).2.2 k = true := by
    simp only [inR, Bool.and_eq_true, Bool.not_eq_true', Bool.or_eq_true] at ib ⊢
    constructor
    · by_cases h0 : 0 < j
      · rw [rg_lo h0 pl2 (by show j < ks.length; omega)]
        dsimp only
        have := pat (j - 1) (by omega)
        rw [this]
        have ej : K[j - 1 + 1]'(by omega) = b := by
          rw [← hjb]; congr 1; omega
        rw [ej]
        have hb2 : hp (rgN n b).1 a = true := by have := hp1 j hj h0; rw [hjb] at this; exact this
        obtain ⟨t, ht⟩ := hp_pre.1 hb2
        rw [(cut_iff hb2).2 ht]
        have q := ib.1
        rw [ht, lt_app] at q; exact q
      · obtain rfl : j = 0 := by omega
        have : (rgN ⟨false, [], ps, ks, ms⟩ (0 : Nat)).1 = [] := by
          unfold rgN; rw [if_neg (by dsimp only; omega)]; simp
        rw [this]; exact lt_nil _
    · by_cases hl : j < ps.length
      · obtain ⟨g1, g2⟩ := rg_hi (n := ⟨false, [], ps, ks, ms⟩) pl2 hl
        right
        rw [g1]
        dsimp only
        rw [pat j (by omega)]
        have hj1 : j + 1 < K.length := by omega
        have m1 := (mem K[j + 1]).1 (List.getElem_mem hj1)
        have lt1 : b < K[j + 1] := by rw [← hjb]; exact List.pairwise_iff_getElem.1 pw j (j + 1) hj hj1 (by omega)
        have hpre := hp1 (j + 1) hj1 (by omega)
        obtain ⟨t, ht⟩ := hp_pre.1 hpre
        rw [(cut_iff hpre).2 ht]
        have hh := rg_hi (n := n) pl (show b < n.pivots.length by omega)
        have f1 : lt (a ++ k) (n.pivots.getD b default) = true := by
          rcases ib.2 with q | q
          · rw [hh.2] at q; cases q
          · rw [hh.1] at q; exact q
        have f2 := lt_of_lt_le f1 (le_rise pr (show b ≤ K[j + 1] - 1 by omega) (by omega))
        rw [← rg_lo (n := n) (q := K[j + 1]) (by omega) pl m1.1, ht, lt_app] at f2
        exact f2
      · left
        unfold rgN; rw [if_neg (by dsimp only; omega)]
        exact decide_eq_false (by dsimp only; omega)
  have kk := kid_in (n := ⟨false, [], ps, ks, ms⟩) (k := k) pl2 pr2 (j := j) (by show j < ks.length; omega)
  rw [in2] at kk
  have kj : kidN ⟨false, [], ps, ks, ms⟩ k = (j : Int) := by have := beq_iff_eq.1 kk.symm; omega
  have kl := (kidL_may (k := k) hi2).1
  dsimp only at kl
  rw [kl, kj]
  refine ⟨?_, by omega, by rw [Int.toNat_natCast]; exact eb⟩
  rw [Int.toNat_natCast, Int.toNat_natCast, getD_at (by omega)]
  simp only [h1, List.getElem_map, hjb]
/-- Where a key leads in a trimmed node is where it led with the beginning ahead of it. -/
theorem lead_tr {n : Nd} {r : L × L × Bool} {a k : L} (h : trE n r a = 0) (hk : inR r.1 r.2.1 r.2.2 (a ++ k) = true) : stepN (trN n r a) k = stepN n (a ++ k) := by
  have hm := tr_may h
  have h0 : mayN n = 0 := by
    by_cases h0 : mayN n = 0
    · exact h0
    · rw [(tr3 h0).1] at h; cases h
  rw [stepN, stepN, if_pos hm, if_pos h0]
  cases g : (emR r.1 r.2.1 r.2.2 || !hp (undS r.1 r.2.1 r.2.2) a) with
  | true => rw [(tr1 h0 g).1] at h; cases h
  | false =>
    have g' := g
    simp only [Bool.or_eq_false_iff, Bool.not_eq_false'] at g'
    obtain ⟨g1, hu⟩ := g'
    cases hl : n.leaf with
    | true =>
      rw [(trL h0 g hl).2]
      unfold leadN
      rw [if_pos rfl, if_pos hl, getP_tr hu hk]
    | false =>
      cases h4 : (kRun n r a n.kids.length 0 [] []).2 with
      | false => rw [(trK1 h0 g hl h4).1] at h; cases h
      | true =>
        cases h5 : trMsOk n.buf r a with
        | false => rw [(trK2 h0 g hl h4 h5).1] at h; cases h
        | true =>
          have hi := (may_inner h0 hl).1
          rw [(trK3 h0 g hl h4 h5).2] at hm ⊢
          obtain ⟨q1, q2⟩ := kept_run n.kids.length 0 [] [] (by omega) rfl rfl h4
          have hi2 := (may_inner hm rfl).1
          have okr : ∀ b, b < n.kids.length → emC (rgN n b) r = false → kidOk n a b = true := fun b b1 b2 => ok_run _ _ _ _ h4 b (by omega) (by omega) b2
          generalize (kRun n r a n.kids.length 0 [] []).1.1 = ps at *
          generalize (kRun n r a n.kids.length 0 [] []).1.2 = ks at *
          rw [lead_in rfl, lead_in hl]
          dsimp only
          rw [lastM_tr h5 hk]
          cases o : lastM n.buf (a ++ k) with
          | none =>
            show kidW _ _ = kidW _ _
            obtain ⟨t1, t2, t3⟩ := kid_tr (ms := trMsR n.buf r a) hi hu hk q1 q2 hi2
            unfold kidW
            dsimp only
            rw [t1]
            generalize (kidL n (a ++ k) n.kids.length).toNat = b at *
            have ok : kidOk n a b = true := okr b t2 t3
            simp only [kidOk, Bool.and_eq_true] at ok
            obtain ⟨s1, s2⟩ := shift_law (n.kids.getD b default).strip (n.kids.getD b default).add a k ok.1
            simp only [trKid, onW, s1, s2]
          | some m =>
            show msW _ _ = msW _ _
            have mm := List.mem_of_getLast? o
            obtain ⟨m1, m2⟩ := List.mem_filter.1 mm
            rw [trMsOk, List.all_eq_true] at h5
            exact msW_mv (h5 m (List.mem_filter.2 ⟨m1, spk_keep hk m2⟩))
end Go.Proofs.Ytocppeifkjdeiaa.Mv

/- The statement of where trimmed nodes lead. Under no condition. -/
namespace Go.Proofs.Ytocppeifkjdeiaa.Mv
open Go Go.Proofs
set_option linter.unusedSimpArgs false
set_option linter.unusedVariables false
set_option maxRecDepth 10000
set_option maxHeartbeats 4000000
attribute [local irreducible] AW AO AR

theorem mv_sm {m : Ms} {a : L} (h : msSm m = true) (h2 : (mvR m a).2 = true) : msSm (mvR m a).1 = true := by
  unfold mvR at h2 ⊢
  have l := cutS_len m.key a
  simp only [msSm, Bool.and_eq_true, decide_eq_true_eq] at h
  by_cases c : hp m.key a = true
  · rw [if_pos c]
    simp only [msSm, Bool.and_eq_true, decide_eq_true_eq]; omega
  · rw [if_neg c] at h2 ⊢
    by_cases d : m.kind = 3 ∧ hp a m.key = true ∧ m.add.length + (cutS a m.key).length ≤ 16
    · rw [if_pos d]
      simp only [msSm, Bool.and_eq_true, decide_eq_true_eq, List.length_append, List.length_nil]; omega
    · rw [if_neg d] at h2; cases h2
theorem may_strs {n : Nd} (h : mayN n = 0) : n.strs := by
  rcases (by cases n.leaf <;> simp : n.leaf = true ∨ n.leaf = false) with hl | hl
  · obtain ⟨e1, e2, e3⟩ := leaf_len (may_leaf h hl)
    exact ⟨fun i hi => by rw [e2] at hi; simp at hi, by rw [e3]; rfl⟩
  · have hi := (may_inner h hl).1
    simp only [innerOk, Bool.and_eq_true] at hi
    refine ⟨fun i hik => ?_, ?_⟩
    · have := List.all_eq_true.1 hi.1.1.2 (n.kids.getD i default) (by rw [List.getD_eq_getElem?_getD, List.getElem?_eq_getElem hik]; exact List.getElem_mem hik)
      simp only [edOk, Bool.and_eq_true, decide_eq_true_eq] at this
      omega
    · rw [List.all_eq_true]
      intro m hm
      have := List.all_eq_true.1 hi.2 m hm
      simp only [msMay, Bool.and_eq_true, decide_eq_true_eq] at this
      simp only [msSm, Bool.and_eq_true, decide_eq_true_eq]
      refine ⟨by omega, ?_⟩
      have t := this.2
      split at t
      · simp only [Bool.and_eq_true, beq_iff_eq] at t; rw [t.2]; simp
      · split at t
        · simp only [Bool.and_eq_true, beq_iff_eq] at t; rw [t.2]; simp
        · split at t
          · simp only [Bool.and_eq_true, decide_eq_true_eq] at t; omega
          · cases t
theorem zero_strs : ndZ.strs := ⟨fun i hi => by simp [ndZ] at hi, rfl⟩
theorem trN_strs (n : Nd) (r : L × L × Bool) (a : L) : (trN n r a).strs := by
  by_cases h : trE n r a = 0
  · exact may_strs (tr_may h)
  · rw [trN_bad h]; exact zero_strs
theorem gLawLeads (n : Nd) (lo hi : L) (e : Bool) (a k : L) (hf : n.fits) : Good Try.prog 5 [.agg n.av, .agg [.s lo, .s hi, .b e], .s a, .s k] [] (.b true) [] := by
  by_cases hc : great n = false ∧ great2 lo hi = false ∧ a.length ≤ 100 ∧ k.length ≤ 100
  · obtain ⟨hg, hr, ha, hk⟩ := hc
    have hs := great_small hg
    have hx := great_strs hg
    obtain ⟨r1, r2⟩ := great2_false hr
    have ha' : a.length ≤ 1000000 := by omega
    have hk' : k.length ≤ 1000000 := by omega
    have hak : (a ++ k).length ≤ 1000000 := by rw [List.length_append]; omega
    have hr' : (lo, hi, e).1.length ≤ 1000000 := by show lo.length ≤ _; omega
    have ht := trN_small n (lo, hi, e) a
    have hts := trN_strs n (lo, hi, e) a
    refine Good.w tabOk mixed Try.func5 (N := 58) (by kernel_rfl) rfl (by (repeat (first | exact LE.nil | apply LE.cons)); done) (by (repeat (first | exact LE.nil | apply LE.cons)); done) fun D hD F => ?_
    repeat' (first
    | apply AO.nil
    | (apply AO.kCall 24; refine AO.sCall (hg := (gGreat _ sd)) (h := ?_))
    | (apply AO.kCall 16; refine AO.sCall (hg := (gGreat3 _ _ _)) (h := ?_))
    | (apply AO.kCall 29; refine AO.sCall (hg := (gIn' _ _ _ _)) (h := ?_))
    | (apply AO.kCall 25; refine AO.sCall (hg := gAwakeT) (h := ?_))
    | (apply AO.kCall 26; refine AO.sCall (hg := (gTrim n (lo, hi, e) a hs hx ha' hr')) (h := ?_))
    | (apply AO.kBox; refine AO.sBox (h := ?_))
    | (apply AO.kAlloc; refine AO.sAlloc (h := ?_))
    | (apply AO.kStore; first | refine AO.sStore (h := ?_) | refine AO.sStB (h := ?_))
    | (apply AO.kAdd; refine AO.sAdd (h := ?_))
    | (apply AO.kP; first | refine AO.sP (h := ?_) | refine AO.sPi (h := ?_) | refine AO.sLoadB (h := ?_))
    | apply AW.seq
    | (apply AW.kR; refine AW.sR (h := ?_))
    | apply AW.skip
    | apply AW.block
    | apply AW.out
    | (apply AW.kE; refine AW.sE (h := ?_))
    | apply AW.label
    | (apply AW.kRd; refine AW.sRd (h := ?_))
    | ((first | (apply AO.kG; first | refine AO.sgt (h1 := fun h => ?_) (h2 := fun h => ?_) | refine AO.sgf (h1 := fun h => ?_) (h2 := fun h => ?_) | refine AO.sgs (h := ?_)) | (apply AW.kC; refine AW.sC (h1 := fun h => ?_) (h2 := fun h => ?_)) | (apply AR.kAny; apply AR.kG; first | refine AR.sgt (h1 := fun h => ?_) (h2 := fun h => ?_) | refine AR.sgf (h1 := fun h => ?_) (h2 := fun h => ?_) | refine AR.sgs (h := ?_))) <;> (try (first | exact Bool.noConfusion h | exact absurd h (by decide) | (simp at h; done) | (rw [h]; try simp only [nrm] at h; try rw [h]; try (exfalso; omega)) | skip)))
    | (apply AR.kAny; first | (apply AR.kCall 24; refine AR.sCall (hg := (gGreat _ sd)) (h := ?_)) | (apply AR.kCall 16; refine AR.sCall (hg := (gGreat3 _ _ _)) (h := ?_)) | (apply AR.kCall 29; refine AR.sCall (hg := (gIn' _ _ _ _)) (h := ?_)) | (apply AR.kCall 25; refine AR.sCall (hg := gAwakeT) (h := ?_)) | (apply AR.kCall 26; refine AR.sCall (hg := (gTrim n (lo, hi, e) a hs hx ha' hr')) (h := ?_)) | (apply AR.kBox; refine AR.sBox (h := ?_)) | (apply AR.kAlloc; refine AR.sAlloc (h := ?_)) | (apply AR.kStore; refine AR.sStore (h := ?_)) | (apply AR.kAdd; refine AR.sAdd (h := ?_)) | (apply AR.kP; first | refine AR.sP (h := ?_) | refine AR.sPi (h := ?_)))
    | (apply AR.kNil; refine AR.sNil (h := ?_)))
    · exact AW.ret (hD rfl (Lx.b rfl))
    · exact AW.ret (hD rfl (Lx.b rfl))
    · have q := lead_tr (n := n) (r := (lo, hi, e)) (a := a) (k := k) (eq0 h) ‹inR lo hi e (a ++ k) = true›
      have c1 := gStep' (trN n (lo, hi, e) a) k ht hts hk'
      rw [q] at c1
      apply AR.kAny; apply AR.kCall 23; refine AR.sCall (hg := c1) (h := ?_)
      repeat' (first
    | apply AO.nil
    | (apply AO.kCall 23; refine AO.sCall (hg := (gStep' n (a ++ k) hs hx hak)) (h := ?_))
    | (apply AO.kCall 25; refine AO.sCall (hg := gAwakeT) (h := ?_))
    | (apply AO.kBox; refine AO.sBox (h := ?_))
    | (apply AO.kAlloc; refine AO.sAlloc (h := ?_))
    | (apply AO.kStore; first | refine AO.sStore (h := ?_) | refine AO.sStB (h := ?_))
    | (apply AO.kAdd; refine AO.sAdd (h := ?_))
    | (apply AO.kP; first | refine AO.sP (h := ?_) | refine AO.sPi (h := ?_) | refine AO.sLoadB (h := ?_))
    | apply AW.seq
    | (apply AW.kR; refine AW.sR (h := ?_))
    | apply AW.skip
    | apply AW.block
    | apply AW.out
    | (apply AW.kE; refine AW.sE (h := ?_))
    | apply AW.label
    | (apply AW.kRd; refine AW.sRd (h := ?_))
    | ((first | (apply AO.kG; first | refine AO.sgt (h1 := fun h => ?_) (h2 := fun h => ?_) | refine AO.sgf (h1 := fun h => ?_) (h2 := fun h => ?_) | refine AO.sgs (h := ?_)) | (apply AW.kC; refine AW.sC (h1 := fun h => ?_) (h2 := fun h => ?_)) | (apply AR.kAny; apply AR.kG; first | refine AR.sgt (h1 := fun h => ?_) (h2 := fun h => ?_) | refine AR.sgf (h1 := fun h => ?_) (h2 := fun h => ?_) | refine AR.sgs (h := ?_))) <;> (try (first | exact Bool.noConfusion h | exact absurd h (by decide) | (simp at h; done) | (rw [h]; try simp only [nrm] at h; try rw [h]; try (exfalso; omega)) | skip)))
    | (apply AR.kAny; first | (apply AR.kCall 23; refine AR.sCall (hg := (gStep' n (a ++ k) hs hx hak)) (h := ?_)) | (apply AR.kCall 25; refine AR.sCall (hg := gAwakeT) (h := ?_)) | (apply AR.kBox; refine AR.sBox (h := ?_)) | (apply AR.kAlloc; refine AR.sAlloc (h := ?_)) | (apply AR.kStore; refine AR.sStore (h := ?_)) | (apply AR.kAdd; refine AR.sAdd (h := ?_)) | (apply AR.kP; first | refine AR.sP (h := ?_) | refine AR.sPi (h := ?_)))
    | (apply AR.kNil; refine AR.sNil (h := ?_)))
      all_goals first | exact AW.ret (hD rfl (Lx.b rfl)) | (exfalso; simp_all; done)
    all_goals first | exact AW.ret (hD rfl (Lx.b rfl)) | (exfalso; omega) | (exfalso; simp_all; done)
  · refine Good.w tabOk mixed Try.func5 (N := 58) (by kernel_rfl) rfl (by (repeat (first | exact LE.nil | apply LE.cons)); done) (by (repeat (first | exact LE.nil | apply LE.cons)); done) fun D hD F => ?_
    repeat' (first
    | apply AO.nil
    | (apply AO.kCall 24; refine AO.sCall (hg := (gGreat _ sd)) (h := ?_))
    | (apply AO.kCall 16; refine AO.sCall (hg := (gGreat3 _ _ _)) (h := ?_))
    | (apply AO.kCall 29; refine AO.sCall (hg := (gIn' _ _ _ _)) (h := ?_))
    | (apply AO.kCall 25; refine AO.sCall (hg := gAwakeT) (h := ?_))
    | (apply AO.kBox; refine AO.sBox (h := ?_))
    | (apply AO.kAlloc; refine AO.sAlloc (h := ?_))
    | (apply AO.kStore; first | refine AO.sStore (h := ?_) | refine AO.sStB (h := ?_))
    | (apply AO.kAdd; refine AO.sAdd (h := ?_))
    | (apply AO.kP; first | refine AO.sP (h := ?_) | refine AO.sPi (h := ?_) | refine AO.sLoadB (h := ?_))
    | apply AW.seq
    | (apply AW.kR; refine AW.sR (h := ?_))
    | apply AW.skip
    | apply AW.block
    | apply AW.out
    | (apply AW.kE; refine AW.sE (h := ?_))
    | apply AW.label
    | (apply AW.kRd; refine AW.sRd (h := ?_))
    | ((first | (apply AO.kG; first | refine AO.sgt (h1 := fun h => ?_) (h2 := fun h => ?_) | refine AO.sgf (h1 := fun h => ?_) (h2 := fun h => ?_) | refine AO.sgs (h := ?_)) | (apply AW.kC; refine AW.sC (h1 := fun h => ?_) (h2 := fun h => ?_)) | (apply AR.kAny; apply AR.kG; first | refine AR.sgt (h1 := fun h => ?_) (h2 := fun h => ?_) | refine AR.sgf (h1 := fun h => ?_) (h2 := fun h => ?_) | refine AR.sgs (h := ?_))) <;> (try (first | exact Bool.noConfusion h | exact absurd h (by decide) | (simp at h; done) | (rw [h]; try simp only [nrm] at h; try rw [h]; try (exfalso; omega)) | skip)))
    | (apply AR.kAny; first | (apply AR.kCall 24; refine AR.sCall (hg := (gGreat _ sd)) (h := ?_)) | (apply AR.kCall 16; refine AR.sCall (hg := (gGreat3 _ _ _)) (h := ?_)) | (apply AR.kCall 29; refine AR.sCall (hg := (gIn' _ _ _ _)) (h := ?_)) | (apply AR.kCall 25; refine AR.sCall (hg := gAwakeT) (h := ?_)) | (apply AR.kBox; refine AR.sBox (h := ?_)) | (apply AR.kAlloc; refine AR.sAlloc (h := ?_)) | (apply AR.kStore; refine AR.sStore (h := ?_)) | (apply AR.kAdd; refine AR.sAdd (h := ?_)) | (apply AR.kP; first | refine AR.sP (h := ?_) | refine AR.sPi (h := ?_)))
    | (apply AR.kNil; refine AR.sNil (h := ?_)))
    all_goals first | exact AW.ret (hD rfl (Lx.b rfl)) | (exfalso; apply hc; refine ⟨?_, ?_, ?_, ?_⟩ <;> first | assumption | omega)
end Go.Proofs.Ytocppeifkjdeiaa.Mv
