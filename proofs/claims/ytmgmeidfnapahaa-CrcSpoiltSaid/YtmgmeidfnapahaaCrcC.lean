/- Sums: bytes that are spoilt. Under no condition. -/
import Derived.Test.YtmgmeidfnapahaaCrcB
import Derived.Test.YtmgmeidfnapahaaXtG
namespace Go.Proofs.Ytmgmeidfnapahaa.Mv
open Go Go.Proofs
set_option linter.unusedSimpArgs false
set_option linter.unusedVariables false
set_option maxRecDepth 10000
set_option maxHeartbeats 4000000
attribute [local irreducible] AW AO AR

theorem byW_xor (c d : UInt8) : byW (c ^^^ d) = byW c ^^^ byW d := by
  apply BitVec.eq_of_getLsbD_eq
  intro i hi
  rw [BitVec.getLsbD_xor, byW_bit, byW_bit, byW_bit, UInt8.toNat_xor, Nat.testBit_xor]
theorem carry_lin (r x : W32) (c d : UInt8) : carryS (r ^^^ x) (c ^^^ d) = carryS r c ^^^ carryS x d := by
  simp only [carryS, byW_xor]
  rw [xor4, iter_xor]
theorem fold_lin : ∀ (q e : L) (r x : W32), q.length = e.length → foldS (r ^^^ x) (List.zipWith (· ^^^ ·) q e) = foldS r q ^^^ foldS x e
  | [], [], r, x, _ => rfl
  | c :: q, d :: e, r, x, h => by
    simp only [List.zipWith_cons_cons, foldS, List.foldl_cons] at *
    rw [carry_lin]
    exact fold_lin q e _ _ (by simpa using h)
  | [], _ :: _, _, _, h => by simp at h
  | _ :: _, [], _, _, h => by simp at h
theorem sum_burst (p q t : L) {y : W32} (hq : q.length = 4) (hy : y ≠ 0#32) : sumS (p ++ (List.zipWith (· ^^^ ·) q (bytesS y) ++ t)) ≠ sumS (p ++ (q ++ t)) := by
  intro h
  have h1 := not_inj h
  rw [fold_app, fold_app, fold_app, fold_app] at h1
  have h2 := fold_inj h1
  have h3 := fold_lin q (bytesS y) (foldS (~~~0#32) p) 0#32 (by rw [hq]; rfl)
  rw [BitVec.xor_zero] at h3
  rw [h3, fold_bytes, BitVec.zero_xor] at h2
  have h4 : iter 32 y = 0#32 := by
    have : foldS (foldS (~~~0#32) p) q ^^^ iter 32 y = foldS (foldS (~~~0#32) p) q ^^^ 0#32 := by rw [BitVec.xor_zero]; exact h2
    exact xor_left this
  exact hy (iter_zero h4)
/-- The first k of four bytes spoilt. -/
def spN (b : L) (a : Nat) (y : W32) : Nat → L
  | 0 => b
  | k + 1 => (spN b a y k).set (a + k) ((spN b a y k).getD (a + k) 0 ^^^ loB (y >>> (8 * k)))
theorem spN_len (b : L) (a : Nat) (y : W32) (k : Nat) : (spN b a y k).length = b.length := by
  induction k with
  | zero => rfl
  | succ k ih => simp [spN, ih]
theorem spN_app (p q : L) (y : W32) (k : Nat) : spN (p ++ q) p.length y k = p ++ spN q 0 y k := by
  induction k with
  | zero => rfl
  | succ k ih =>
    simp only [spN, ih, Nat.zero_add]
    rw [List.set_append_right _ _ (by omega), Nat.add_sub_cancel_left]
    congr 3
    rw [List.getD_eq_getElem?_getD, List.getD_eq_getElem?_getD, List.getElem?_append_right (by omega), Nat.add_sub_cancel_left]
theorem spN_four (c0 c1 c2 c3 : UInt8) (t : L) (y : W32) : spN (c0 :: c1 :: c2 :: c3 :: t) 0 y 4 = List.zipWith (· ^^^ ·) [c0, c1, c2, c3] (bytesS y) ++ t := by
  simp [spN, bytesS]
theorem four_split {b : L} {a : Nat} (h : a + 4 ≤ b.length) : ∃ p c0 c1 c2 c3 t, b = p ++ c0 :: c1 :: c2 :: c3 :: t ∧ p.length = a := by
  refine ⟨b.take a, ?_⟩
  have h1 : 4 ≤ (b.drop a).length := by rw [List.length_drop]; omega
  match hd : b.drop a, h1 with
  | c0 :: c1 :: c2 :: c3 :: t, _ => exact ⟨c0, c1, c2, c3, t, by rw [← hd, List.take_append_drop], by simp; omega⟩
theorem spoilt_sum {b : L} {a : Nat} (h : a + 4 ≤ b.length) {y : W32} (hy : y ≠ 0#32) : sumS (spN b a y 4) ≠ sumS b := by
  obtain ⟨p, c0, c1, c2, c3, t, rfl, rfl⟩ := four_split h
  rw [spN_app, spN_four]
  exact sum_burst p [c0, c1, c2, c3] t rfl hy
theorem spN_pre {b m : L} {a : Nat} (h : a + 4 ≤ b.length) (y : W32) : spN (b ++ m) a y 4 = spN b a y 4 ++ m := by
  obtain ⟨p, c0, c1, c2, c3, t, rfl, rfl⟩ := four_split h
  rw [spN_app, spN_four, List.append_assoc, spN_app]
  simp only [List.cons_append]
  rw [spN_four]
  simp
theorem spoilt_fits {b : L} {a : Nat} (h : a + 4 ≤ b.length) {y : W32} (hy : y ≠ 0#32) : fitsS (spN (markS b) a y 4) = false := by
  rw [markS, spN_pre h]
  have hl := spN_len b a y 4
  have h1 : (spN b a y 4 ++ bytesS (sumS b)).length - 4 = b.length := by rw [List.length_append, hl, bytesS_len]; omega
  have e1 : (spN b a y 4 ++ bytesS (sumS b)).take b.length = spN b a y 4 := List.take_left' hl
  have e2 : (spN b a y 4 ++ bytesS (sumS b)).drop b.length = bytesS (sumS b) := List.drop_left' hl
  rw [fitsS, h1, e1, e2]
  cases h2 : bytesS (sumS (spN b a y 4)) == bytesS (sumS b) with
  | false => simp
  | true => exact absurd (bytes_inj (beq_iff_eq.1 h2)) (spoilt_sum h hy)
theorem gMarkB (t : Nat) (b : L) (hb : b.length ≤ 100000) : Good Try.prog 17 [.sh 1 (BS b)] [] (.bsl t 0 (markS b).length 1) [(t, .bx (cellsB (markS b)))] := (gMark t b hb).boxB (by rw [markS_len]; omega)
theorem lSpoilt (b : L) (a : Int) (y : W32) : Good Try.prog 8 [.sh 1 (BS b), .i .i64 a, .i .u32 (wi y)] [] (.b true) [] := by
  have h1 := markS_len b
  refine Good.w tabOk mixed Try.func8 (N := 104) (by kernel_rfl) rfl (by (repeat (first | exact LE.nil | apply LE.cons)); done) (by (repeat (first | exact LE.nil | apply LE.cons)); done) fun D hD F => ?_
  repeat' (first
    | apply AO.nil
    | (apply AO.kCall 12; refine AO.sCall (hg := gAwake1) (h := ?_))
    | (apply AO.kCall 17; refine AO.sCall1 (hg := (gMarkB _ _ sd)) (h := ?_))
    | (apply AO.kCall 27; refine AO.sCall (hg := (gFits _ sd)) (h := ?_))
    | (apply AO.kCall 13; refine AO.sCall (hg := (gSum _ sd)) (h := ?_))
    | (apply AO.kBuildS; first | refine AO.sBuildT (h := ?_) | refine AO.sBuildS (h := ?_))
    | (apply AO.kApp; first | refine AO.sAppBox (h := ?_) | refine AO.sGrowT (h := ?_) | refine AO.sNewT (h := ?_) | refine AO.sGrowBT (h := ?_) | refine AO.sGrow (h := ?_) | refine AO.sNewr (h := ?_))
    | (apply AO.kIx; first | refine AO.sIxN (h := ?_) | refine AO.sIx (h := ?_) | refine AO.sP (h := ?_) | refine AO.sPi (h := ?_))
    | (apply AO.kSl; first | refine AO.sSl (h := ?_) | refine AO.sSlArr (h := ?_) | refine AO.sP (h := ?_))
    | (apply AO.kBox; refine AO.sBox (h := ?_))
    | (apply AO.kAlloc; refine AO.sAlloc (h := ?_))
    | (apply AO.kStore; first | refine AO.sStore (h := ?_) | refine AO.sStB (h := ?_))
    | (apply AO.kAdd; refine AO.sAdd (h := ?_))
    | (apply AO.kSub; refine AO.sSub (h := ?_))
    | (apply AO.kCv; first | refine AO.sBytes (h := ?_) | refine AO.sStr (h := ?_) | refine AO.sStrR (h := ?_))
    | (apply AO.kP; first | refine AO.sP (h := ?_) | refine AO.sPi (h := ?_) | refine AO.sLoadB (h := ?_) | refine AO.sSameB (h := ?_) | refine AO.sMk0 (h := ?_) | refine AO.sArrB (h := ?_) | refine AO.sLoadA (h := ?_) | refine AO.sEqArr (heg := eqgArr) (h := ?_))
    | (apply AO.kP; refine AO.eqNil (h1 := fun h => ?_) (h2 := ?_))
    | apply AW.seq
    | (apply AW.kR; refine AW.sR (h := ?_))
    | apply AW.skip
    | apply AW.block
    | apply AW.out
    | (apply AW.kE; refine AW.sE (h := ?_))
    | apply AW.label
    | (apply AW.kRd; refine AW.sRd (h := ?_))
    | ((first | (apply AO.kG; first | refine AO.sgt (h1 := fun h => ?_) (h2 := fun h => ?_) | refine AO.sgf (h1 := fun h => ?_) (h2 := fun h => ?_) | refine AO.sgs (h := ?_)) | (apply AW.kC; refine AW.sC (h1 := fun h => ?_) (h2 := fun h => ?_)) | (apply AR.kAny; apply AR.kG; first | refine AR.sgt (h1 := fun h => ?_) (h2 := fun h => ?_) | refine AR.sgf (h1 := fun h => ?_) (h2 := fun h => ?_) | refine AR.sgs (h := ?_))) <;> (try (first | exact Bool.noConfusion h | exact absurd h (by decide) | (simp at h; done) | (rw [h]; try simp only [decide_eq_true_eq, decide_eq_false_iff_not, Int.not_lt, Int.not_le, ge_iff_le, gt_iff_lt, Bool.not_eq_true', Bool.not_eq_false', beq_iff_eq, beq_eq_false_iff_ne, ne_eq] at h; try rw [h]; try (exfalso; omega)) | skip)))
    | (apply AR.kAny; first | (apply AR.kCall 12; refine AR.sCall (hg := gAwake1) (h := ?_)) | (apply AR.kCall 17; refine AR.sCall1 (hg := (gMarkB _ _ sd)) (h := ?_)) | (apply AR.kCall 27; refine AR.sCall (hg := (gFits _ sd)) (h := ?_)) | (apply AR.kCall 13; refine AR.sCall (hg := (gSum _ sd)) (h := ?_)) | (apply AR.kBuildS; first | refine AR.sBuildT (h := ?_) | refine AR.sBuildS (h := ?_)) | (apply AR.kApp; first | refine AR.sAppBox (h := ?_) | refine AR.sGrowT (h := ?_) | refine AR.sNewT (h := ?_) | refine AR.sGrowBT (h := ?_) | refine AR.sGrow (h := ?_) | refine AR.sNewr (h := ?_)) | (apply AR.kIx; first | refine AR.sIxN (h := ?_) | refine AR.sIx (h := ?_) | refine AR.sP (h := ?_) | refine AR.sPi (h := ?_)) | (apply AR.kSl; first | refine AR.sSl (h := ?_) | refine AR.sSlArr (h := ?_) | refine AR.sP (h := ?_)) | (apply AR.kBox; refine AR.sBox (h := ?_)) | (apply AR.kAlloc; refine AR.sAlloc (h := ?_)) | (apply AR.kStore; refine AR.sStore (h := ?_)) | (apply AR.kAdd; refine AR.sAdd (h := ?_)) | (apply AR.kSub; refine AR.sSub (h := ?_)) | (apply AR.kCv; refine AR.sStrR (h := ?_)) | (apply AR.kP; first | refine AR.sP (h := ?_) | refine AR.sPi (h := ?_) | refine AR.sArrB (h := ?_) | refine AR.sLoadA (h := ?_) | refine AR.sEqArr (heg := eqgArr) (h := ?_)))
    | (apply AR.kNil; refine AR.sNil (h := ?_)))
  any_goals (refine AW.ret (hD rfl ?_); (repeat' (first | apply Lx.s | apply Lx.b | apply Lx.i | apply LxL.cons | exact LxL.nil | apply Lx.tup | apply Lx.agg | apply Lx.refl)) <;> (try with_reducible rfl))
  have hy : y ≠ 0#32 := fun e => by subst e; exact absurd rfl ‹¬ wi 0#32 = 0›
  obtain ⟨n, rfl⟩ : ∃ n : Nat, a = n := ⟨a.toNat, by omega⟩
  have hlen : n + 4 ≤ b.length := by rw [BS_len] at *; omega
  have h5 : b.length ≤ 5000 := by rw [BS_len] at *; omega
  refine AW.loopI (fun q : Nat => q ≤ 4) (fun q => ⟨[(0, .sh 1 (BS b)), (1, .i .i64 n), (2, .i .u32 (wi y)), (7, .bsl 40 0 b.length 1), (8, .i .u32 (wi (y >>> (8 * q)))), (9, .i .i64 q)], [(40, .bx (cellsB (spN b n y q)))]⟩) (fun q => 4 - q) 0 (by simp) (by (constructor <;> (repeat' (first | exact LeT.nil | exact LeB.nil | apply LeT.cons | apply LeB.cons | exact Ol.refl | apply Lx.s | apply Lx.b | apply Lx.i | exact Lx.refl)) <;> (first | rfl | assumption | omega | skip))) fun m q hq ih => ?_
  have hsl := spN_len b n y q
  repeat' (first
    | apply AO.nil
    | (apply AO.kBuildS; first | refine AO.sBuildT (h := ?_) | refine AO.sBuildS (h := ?_))
    | (apply AO.kApp; first | refine AO.sGrowT (h := ?_) | refine AO.sNewT (h := ?_) | refine AO.sGrowBT (h := ?_) | refine AO.sGrow (h := ?_) | refine AO.sNewr (h := ?_))
    | (apply AO.kIx; first | refine AO.sIxN (hm := by first | decide | omega | (refine ⟨rfl, ?_⟩; omega) | (show 0 + ((n : Int) + (q : Int)).toNat * 1 < _; rw [hsl]; omega)) (h := ?_) | refine AO.sIx (hm := by first | decide | omega | (refine ⟨rfl, ?_⟩; omega) | (show 0 + ((n : Int) + (q : Int)).toNat * 1 < _; rw [hsl]; omega)) (h := ?_) | refine AO.sP (h := ?_) | refine AO.sPi (hq := by first | decide | omega | (refine ⟨rfl, ?_⟩; omega) | (show 0 + ((n : Int) + (q : Int)).toNat * 1 < _; rw [hsl]; omega)) (h := ?_))
    | (apply AO.kSl; first | refine AO.sSl (hq := by first | decide | omega | (refine ⟨rfl, ?_⟩; omega) | (show 0 + ((n : Int) + (q : Int)).toNat * 1 < _; rw [hsl]; omega)) (h := ?_) | refine AO.sSlArr (h := ?_) | refine AO.sP (h := ?_))
    | (apply AO.kBox; refine AO.sBox (h := ?_))
    | (apply AO.kAlloc; refine AO.sAlloc (h := ?_))
    | (apply AO.kStore; first | refine AO.sStore (h := ?_) | refine AO.sStB (ho := by first | decide | omega | (refine ⟨rfl, ?_⟩; omega) | (show 0 + ((n : Int) + (q : Int)).toNat * 1 < _; rw [hsl]; omega)) (h := ?_))
    | (apply AO.kAdd; refine AO.sAdd (hr := by first | decide | omega | (refine ⟨rfl, ?_⟩; omega) | (show 0 + ((n : Int) + (q : Int)).toNat * 1 < _; rw [hsl]; omega)) (h := ?_))
    | (apply AO.kSub; refine AO.sSub (hr := by first | decide | omega | (refine ⟨rfl, ?_⟩; omega) | (show 0 + ((n : Int) + (q : Int)).toNat * 1 < _; rw [hsl]; omega)) (h := ?_))
    | (apply AO.kCv; first | refine AO.sBytes (h := ?_) | refine AO.sStr (h := ?_) | refine AO.sStrR (h := ?_))
    | (apply AO.kP; first | refine AO.sP (h := ?_) | refine AO.sPi (hq := by first | decide | omega | (refine ⟨rfl, ?_⟩; omega) | (show 0 + ((n : Int) + (q : Int)).toNat * 1 < _; rw [hsl]; omega)) (h := ?_) | refine AO.sLoadB (ho := by first | decide | omega | (refine ⟨rfl, ?_⟩; omega) | (show 0 + ((n : Int) + (q : Int)).toNat * 1 < _; rw [hsl]; omega)) (h := ?_) | refine AO.sSameB (h := ?_) | refine AO.sMk0 (h := ?_) | refine AO.sArrB (h := ?_) | refine AO.sLoadA (h := ?_) | refine AO.sEqArr (heg := eqgArr) (h := ?_))
    | (apply AO.kP; refine AO.eqNil (h1 := fun h => ?_) (h2 := ?_))
    | apply AW.seq
    | (apply AW.kR; refine AW.sR (h := ?_))
    | apply AW.skip
    | apply AW.block
    | apply AW.out
    | (apply AW.kE; refine AW.sE (h := ?_))
    | apply AW.label
    | (apply AW.kRd; refine AW.sRd (h := ?_))
    | ((first | (apply AO.kG; first | refine AO.sgt (h1 := fun h => ?_) (h2 := fun h => ?_) | refine AO.sgf (h1 := fun h => ?_) (h2 := fun h => ?_) | refine AO.sgs (h := ?_)) | (apply AW.kC; refine AW.sC (h1 := fun h => ?_) (h2 := fun h => ?_)) | (apply AR.kAny; apply AR.kG; first | refine AR.sgt (h1 := fun h => ?_) (h2 := fun h => ?_) | refine AR.sgf (h1 := fun h => ?_) (h2 := fun h => ?_) | refine AR.sgs (h := ?_))) <;> (try (first | exact Bool.noConfusion h | exact absurd h (by decide) | (simp at h; done) | (rw [h]; try simp only [decide_eq_true_eq, decide_eq_false_iff_not, Int.not_lt, Int.not_le, ge_iff_le, gt_iff_lt, Bool.not_eq_true', Bool.not_eq_false', beq_iff_eq, beq_eq_false_iff_ne, ne_eq] at h; try rw [h]; try (exfalso; omega)) | skip)))
    | (apply AR.kAny; first | (apply AR.kBuildS; first | refine AR.sBuildT (h := ?_) | refine AR.sBuildS (h := ?_)) | (apply AR.kApp; first | refine AR.sGrowT (h := ?_) | refine AR.sNewT (h := ?_) | refine AR.sGrowBT (h := ?_) | refine AR.sGrow (h := ?_) | refine AR.sNewr (h := ?_)) | (apply AR.kIx; first | refine AR.sIxN (hm := by first | decide | omega | (refine ⟨rfl, ?_⟩; omega) | (show 0 + ((n : Int) + (q : Int)).toNat * 1 < _; rw [hsl]; omega)) (h := ?_) | refine AR.sIx (hm := by first | decide | omega | (refine ⟨rfl, ?_⟩; omega) | (show 0 + ((n : Int) + (q : Int)).toNat * 1 < _; rw [hsl]; omega)) (h := ?_) | refine AR.sP (h := ?_) | refine AR.sPi (hq := by first | decide | omega | (refine ⟨rfl, ?_⟩; omega) | (show 0 + ((n : Int) + (q : Int)).toNat * 1 < _; rw [hsl]; omega)) (h := ?_)) | (apply AR.kSl; first | refine AR.sSl (hq := by first | decide | omega | (refine ⟨rfl, ?_⟩; omega) | (show 0 + ((n : Int) + (q : Int)).toNat * 1 < _; rw [hsl]; omega)) (h := ?_) | refine AR.sSlArr (h := ?_) | refine AR.sP (h := ?_)) | (apply AR.kBox; refine AR.sBox (h := ?_)) | (apply AR.kAlloc; refine AR.sAlloc (h := ?_)) | (apply AR.kStore; refine AR.sStore (h := ?_)) | (apply AR.kAdd; refine AR.sAdd (hr := by first | decide | omega | (refine ⟨rfl, ?_⟩; omega) | (show 0 + ((n : Int) + (q : Int)).toNat * 1 < _; rw [hsl]; omega)) (h := ?_)) | (apply AR.kSub; refine AR.sSub (hr := by first | decide | omega | (refine ⟨rfl, ?_⟩; omega) | (show 0 + ((n : Int) + (q : Int)).toNat * 1 < _; rw [hsl]; omega)) (h := ?_)) | (apply AR.kCv; refine AR.sStrR (h := ?_)) | (apply AR.kP; first | refine AR.sP (h := ?_) | refine AR.sPi (hq := by first | decide | omega | (refine ⟨rfl, ?_⟩; omega) | (show 0 + ((n : Int) + (q : Int)).toNat * 1 < _; rw [hsl]; omega)) (h := ?_) | refine AR.sArrB (h := ?_) | refine AR.sLoadA (h := ?_) | refine AR.sEqArr (heg := eqgArr) (h := ?_)))
    | (apply AR.kNil; refine AR.sNil (h := ?_)))
  · have hq4 : q < 4 := by omega
    have e0 : 0 + ((n : Int) + (q : Int)).toNat * 1 = n + q := by omega
    have e1 : IntKind.wrap .u32 ((wi (y >>> (8 * q))).tdiv 256) = wi (y >>> (8 * (q + 1))) := by
      rw [wi_tdiv8, shr_add]; rfl
    refine ih (q + 1) _ (by omega) (by omega) ⟨by ((repeat' (first | exact LeT.nil | apply LeT.cons | apply Lx.s | apply Lx.b | apply Lx.i | exact Lx.refl)) <;> (first | rfl | omega | skip)), .cons (.eq ?_) .nil⟩
    show Ob.bx (cellsB (List.set (spN b n y q) (0 + ((n : Int) + (q : Int)).toNat * 1) (List.getD (spN b n y q) (0 + ((n : Int) + (q : Int)).toNat * 1) 0 ^^^ u8 ((wi (y >>> (8 * q))).tmod 256)))) = _
    rw [e0, u8_tmod]; rfl
  · have : q = 4 := by omega
    subst this
    refine AO.freeze 40 (st' := ⟨[(63, .sh 1 (BS (spN b n y 4))), (0, .sh 1 (BS b)), (1, .i .i64 n), (2, .i .u32 (wi y))], []⟩) rfl (cellsB_shut _) ⟨.cons (by rw [← hsl]; exact Lx.fzB) (by ((repeat' (first | exact LeT.nil | apply LeT.cons | apply Lx.s | apply Lx.b | apply Lx.i | exact Lx.refl)) <;> (first | rfl | omega | skip))), .nil⟩ ?_
    repeat' (first
    | apply AO.nil
    | (apply AO.kCall 12; refine AO.sCall (hg := gAwake1) (h := ?_))
    | (apply AO.kCall 17; refine AO.sCall1 (hg := (gMarkB _ _ sd)) (h := ?_))
    | (apply AO.kCall 13; refine AO.sCall (hg := (gSum _ sd)) (h := ?_))
    | (apply AO.kBuildS; first | refine AO.sBuildT (h := ?_) | refine AO.sBuildS (h := ?_))
    | (apply AO.kApp; first | refine AO.sGrowT (h := ?_) | refine AO.sNewT (h := ?_) | refine AO.sGrowBT (h := ?_) | refine AO.sGrow (h := ?_) | refine AO.sNewr (h := ?_))
    | (apply AO.kIx; first | refine AO.sIxN (h := ?_) | refine AO.sIx (h := ?_) | refine AO.sP (h := ?_) | refine AO.sPi (h := ?_))
    | (apply AO.kSl; first | refine AO.sSl (h := ?_) | refine AO.sSlArr (h := ?_) | refine AO.sP (h := ?_))
    | (apply AO.kBox; refine AO.sBox (h := ?_))
    | (apply AO.kAlloc; refine AO.sAlloc (h := ?_))
    | (apply AO.kStore; first | refine AO.sStore (h := ?_) | refine AO.sStB (h := ?_))
    | (apply AO.kAdd; refine AO.sAdd (h := ?_))
    | (apply AO.kSub; refine AO.sSub (h := ?_))
    | (apply AO.kCv; first | refine AO.sBytes (h := ?_) | refine AO.sStr (h := ?_) | refine AO.sStrR (h := ?_))
    | (apply AO.kP; first | refine AO.sP (h := ?_) | refine AO.sPi (h := ?_) | refine AO.sLoadB (h := ?_) | refine AO.sSameB (h := ?_) | refine AO.sMk0 (h := ?_) | refine AO.sArrB (h := ?_) | refine AO.sLoadA (h := ?_) | refine AO.sEqArr (heg := eqgArr) (h := ?_))
    | (apply AO.kP; refine AO.eqNil (h1 := fun h => ?_) (h2 := ?_))
    | apply AW.seq
    | (apply AW.kR; refine AW.sR (h := ?_))
    | apply AW.skip
    | apply AW.block
    | apply AW.out
    | (apply AW.kE; refine AW.sE (h := ?_))
    | apply AW.label
    | (apply AW.kRd; refine AW.sRd (h := ?_))
    | ((first | (apply AO.kG; first | refine AO.sgt (h1 := fun h => ?_) (h2 := fun h => ?_) | refine AO.sgf (h1 := fun h => ?_) (h2 := fun h => ?_) | refine AO.sgs (h := ?_)) | (apply AW.kC; refine AW.sC (h1 := fun h => ?_) (h2 := fun h => ?_)) | (apply AR.kAny; apply AR.kG; first | refine AR.sgt (h1 := fun h => ?_) (h2 := fun h => ?_) | refine AR.sgf (h1 := fun h => ?_) (h2 := fun h => ?_) | refine AR.sgs (h := ?_))) <;> (try (first | exact Bool.noConfusion h | exact absurd h (by decide) | (simp at h; done) | (rw [h]; try simp only [decide_eq_true_eq, decide_eq_false_iff_not, Int.not_lt, Int.not_le, ge_iff_le, gt_iff_lt, Bool.not_eq_true', Bool.not_eq_false', beq_iff_eq, beq_eq_false_iff_ne, ne_eq] at h; try rw [h]; try (exfalso; omega)) | skip)))
    | (apply AR.kAny; first | (apply AR.kCall 12; refine AR.sCall (hg := gAwake1) (h := ?_)) | (apply AR.kCall 17; refine AR.sCall1 (hg := (gMarkB _ _ sd)) (h := ?_)) | (apply AR.kCall 13; refine AR.sCall (hg := (gSum _ sd)) (h := ?_)) | (apply AR.kBuildS; first | refine AR.sBuildT (h := ?_) | refine AR.sBuildS (h := ?_)) | (apply AR.kApp; first | refine AR.sGrowT (h := ?_) | refine AR.sNewT (h := ?_) | refine AR.sGrowBT (h := ?_) | refine AR.sGrow (h := ?_) | refine AR.sNewr (h := ?_)) | (apply AR.kIx; first | refine AR.sIxN (h := ?_) | refine AR.sIx (h := ?_) | refine AR.sP (h := ?_) | refine AR.sPi (h := ?_)) | (apply AR.kSl; first | refine AR.sSl (h := ?_) | refine AR.sSlArr (h := ?_) | refine AR.sP (h := ?_)) | (apply AR.kBox; refine AR.sBox (h := ?_)) | (apply AR.kAlloc; refine AR.sAlloc (h := ?_)) | (apply AR.kStore; refine AR.sStore (h := ?_)) | (apply AR.kAdd; refine AR.sAdd (h := ?_)) | (apply AR.kSub; refine AR.sSub (h := ?_)) | (apply AR.kCv; refine AR.sStrR (h := ?_)) | (apply AR.kP; first | refine AR.sP (h := ?_) | refine AR.sPi (h := ?_) | refine AR.sArrB (h := ?_) | refine AR.sLoadA (h := ?_) | refine AR.sEqArr (heg := eqgArr) (h := ?_)))
    | (apply AR.kNil; refine AR.sNil (h := ?_)))
    · exfalso
      have hw : wi (sumS (spN b n y 4)) = wi (sumS b) := by assumption
      exact spoilt_sum hlen hy (BitVec.eq_of_toNat_eq (by simp only [wi] at hw; omega))
    · exfalso
      have hw : ((((markS b).length : Nat) : Int) != ((BS b).length : Int) + 4) = true := by assumption
      rw [BS_len, h1] at hw
      simp at hw
    · have hlm : n + 4 ≤ (markS b).length := by omega
      refine AW.loopI (fun q : Nat => q ≤ 4) (fun q => ⟨[(1, .i .i64 n), (10, .bsl 69 0 (markS b).length 1), (11, .i .u32 (wi (y >>> (8 * q)))), (12, .i .i64 q)], [(69, .bx (cellsB (spN (markS b) n y q)))]⟩) (fun q => 4 - q) 0 (by simp) (by (constructor <;> (repeat' (first | exact LeT.nil | exact LeB.nil | apply LeT.cons | apply LeB.cons | exact Ol.refl | apply Lx.s | apply Lx.b | apply Lx.i | exact Lx.refl)) <;> (first | rfl | assumption | omega | skip))) fun m q hq ih => ?_
      have hsm := spN_len (markS b) n y q
      repeat' (first
    | apply AO.nil
    | (apply AO.kBuildS; first | refine AO.sBuildT (h := ?_) | refine AO.sBuildS (h := ?_))
    | (apply AO.kApp; first | refine AO.sGrowT (h := ?_) | refine AO.sNewT (h := ?_) | refine AO.sGrowBT (h := ?_) | refine AO.sGrow (h := ?_) | refine AO.sNewr (h := ?_))
    | (apply AO.kIx; first | refine AO.sIxN (hm := by first | decide | omega | (refine ⟨rfl, ?_⟩; omega) | (show 0 + ((n : Int) + (q : Int)).toNat * 1 < _; rw [hsm]; omega)) (h := ?_) | refine AO.sIx (hm := by first | decide | omega | (refine ⟨rfl, ?_⟩; omega) | (show 0 + ((n : Int) + (q : Int)).toNat * 1 < _; rw [hsm]; omega)) (h := ?_) | refine AO.sP (h := ?_) | refine AO.sPi (hq := by first | decide | omega | (refine ⟨rfl, ?_⟩; omega) | (show 0 + ((n : Int) + (q : Int)).toNat * 1 < _; rw [hsm]; omega)) (h := ?_))
    | (apply AO.kSl; first | refine AO.sSl (hq := by first | decide | omega | (refine ⟨rfl, ?_⟩; omega) | (show 0 + ((n : Int) + (q : Int)).toNat * 1 < _; rw [hsm]; omega)) (h := ?_) | refine AO.sSlArr (h := ?_) | refine AO.sP (h := ?_))
    | (apply AO.kBox; refine AO.sBox (h := ?_))
    | (apply AO.kAlloc; refine AO.sAlloc (h := ?_))
    | (apply AO.kStore; first | refine AO.sStore (h := ?_) | refine AO.sStB (ho := by first | decide | omega | (refine ⟨rfl, ?_⟩; omega) | (show 0 + ((n : Int) + (q : Int)).toNat * 1 < _; rw [hsm]; omega)) (h := ?_))
    | (apply AO.kAdd; refine AO.sAdd (hr := by first | decide | omega | (refine ⟨rfl, ?_⟩; omega) | (show 0 + ((n : Int) + (q : Int)).toNat * 1 < _; rw [hsm]; omega)) (h := ?_))
    | (apply AO.kSub; refine AO.sSub (hr := by first | decide | omega | (refine ⟨rfl, ?_⟩; omega) | (show 0 + ((n : Int) + (q : Int)).toNat * 1 < _; rw [hsm]; omega)) (h := ?_))
    | (apply AO.kCv; first | refine AO.sBytes (h := ?_) | refine AO.sStr (h := ?_) | refine AO.sStrR (h := ?_))
    | (apply AO.kP; first | refine AO.sP (h := ?_) | refine AO.sPi (hq := by first | decide | omega | (refine ⟨rfl, ?_⟩; omega) | (show 0 + ((n : Int) + (q : Int)).toNat * 1 < _; rw [hsm]; omega)) (h := ?_) | refine AO.sLoadB (ho := by first | decide | omega | (refine ⟨rfl, ?_⟩; omega) | (show 0 + ((n : Int) + (q : Int)).toNat * 1 < _; rw [hsm]; omega)) (h := ?_) | refine AO.sSameB (h := ?_) | refine AO.sMk0 (h := ?_) | refine AO.sArrB (h := ?_) | refine AO.sLoadA (h := ?_) | refine AO.sEqArr (heg := eqgArr) (h := ?_))
    | (apply AO.kP; refine AO.eqNil (h1 := fun h => ?_) (h2 := ?_))
    | apply AW.seq
    | (apply AW.kR; refine AW.sR (h := ?_))
    | apply AW.skip
    | apply AW.block
    | apply AW.out
    | (apply AW.kE; refine AW.sE (h := ?_))
    | apply AW.label
    | (apply AW.kRd; refine AW.sRd (h := ?_))
    | ((first | (apply AO.kG; first | refine AO.sgt (h1 := fun h => ?_) (h2 := fun h => ?_) | refine AO.sgf (h1 := fun h => ?_) (h2 := fun h => ?_) | refine AO.sgs (h := ?_)) | (apply AW.kC; refine AW.sC (h1 := fun h => ?_) (h2 := fun h => ?_)) | (apply AR.kAny; apply AR.kG; first | refine AR.sgt (h1 := fun h => ?_) (h2 := fun h => ?_) | refine AR.sgf (h1 := fun h => ?_) (h2 := fun h => ?_) | refine AR.sgs (h := ?_))) <;> (try (first | exact Bool.noConfusion h | exact absurd h (by decide) | (simp at h; done) | (rw [h]; try simp only [decide_eq_true_eq, decide_eq_false_iff_not, Int.not_lt, Int.not_le, ge_iff_le, gt_iff_lt, Bool.not_eq_true', Bool.not_eq_false', beq_iff_eq, beq_eq_false_iff_ne, ne_eq] at h; try rw [h]; try (exfalso; omega)) | skip)))
    | (apply AR.kAny; first | (apply AR.kBuildS; first | refine AR.sBuildT (h := ?_) | refine AR.sBuildS (h := ?_)) | (apply AR.kApp; first | refine AR.sGrowT (h := ?_) | refine AR.sNewT (h := ?_) | refine AR.sGrowBT (h := ?_) | refine AR.sGrow (h := ?_) | refine AR.sNewr (h := ?_)) | (apply AR.kIx; first | refine AR.sIxN (hm := by first | decide | omega | (refine ⟨rfl, ?_⟩; omega) | (show 0 + ((n : Int) + (q : Int)).toNat * 1 < _; rw [hsm]; omega)) (h := ?_) | refine AR.sIx (hm := by first | decide | omega | (refine ⟨rfl, ?_⟩; omega) | (show 0 + ((n : Int) + (q : Int)).toNat * 1 < _; rw [hsm]; omega)) (h := ?_) | refine AR.sP (h := ?_) | refine AR.sPi (hq := by first | decide | omega | (refine ⟨rfl, ?_⟩; omega) | (show 0 + ((n : Int) + (q : Int)).toNat * 1 < _; rw [hsm]; omega)) (h := ?_)) | (apply AR.kSl; first | refine AR.sSl (hq := by first | decide | omega | (refine ⟨rfl, ?_⟩; omega) | (show 0 + ((n : Int) + (q : Int)).toNat * 1 < _; rw [hsm]; omega)) (h := ?_) | refine AR.sSlArr (h := ?_) | refine AR.sP (h := ?_)) | (apply AR.kBox; refine AR.sBox (h := ?_)) | (apply AR.kAlloc; refine AR.sAlloc (h := ?_)) | (apply AR.kStore; refine AR.sStore (h := ?_)) | (apply AR.kAdd; refine AR.sAdd (hr := by first | decide | omega | (refine ⟨rfl, ?_⟩; omega) | (show 0 + ((n : Int) + (q : Int)).toNat * 1 < _; rw [hsm]; omega)) (h := ?_)) | (apply AR.kSub; refine AR.sSub (hr := by first | decide | omega | (refine ⟨rfl, ?_⟩; omega) | (show 0 + ((n : Int) + (q : Int)).toNat * 1 < _; rw [hsm]; omega)) (h := ?_)) | (apply AR.kCv; refine AR.sStrR (h := ?_)) | (apply AR.kP; first | refine AR.sP (h := ?_) | refine AR.sPi (hq := by first | decide | omega | (refine ⟨rfl, ?_⟩; omega) | (show 0 + ((n : Int) + (q : Int)).toNat * 1 < _; rw [hsm]; omega)) (h := ?_) | refine AR.sArrB (h := ?_) | refine AR.sLoadA (h := ?_) | refine AR.sEqArr (heg := eqgArr) (h := ?_)))
    | (apply AR.kNil; refine AR.sNil (h := ?_)))
      · have hq4 : q < 4 := by omega
        have e0 : 0 + ((n : Int) + (q : Int)).toNat * 1 = n + q := by omega
        have e1 : IntKind.wrap .u32 ((wi (y >>> (8 * q))).tdiv 256) = wi (y >>> (8 * (q + 1))) := by
          rw [wi_tdiv8, shr_add]; rfl
        refine ih (q + 1) _ (by omega) (by omega) ⟨by ((repeat' (first | exact LeT.nil | apply LeT.cons | apply Lx.s | apply Lx.b | apply Lx.i | exact Lx.refl)) <;> (first | rfl | omega | skip)), .cons (.eq ?_) .nil⟩
        show Ob.bx (cellsB (List.set (spN (markS b) n y q) (0 + ((n : Int) + (q : Int)).toNat * 1) (List.getD (spN (markS b) n y q) (0 + ((n : Int) + (q : Int)).toNat * 1) 0 ^^^ u8 ((wi (y >>> (8 * q))).tmod 256)))) = _
        rw [e0, u8_tmod]; rfl
      · have : q = 4 := by omega
        subst this
        refine AO.freeze 69 (st' := ⟨[(98, .sh 1 (BS (spN (markS b) n y 4)))], []⟩) rfl (cellsB_shut _) ⟨.cons (by rw [← hsm]; exact Lx.fzB) .nil, .nil⟩ ?_
        have hf := spoilt_fits hlen hy
        repeat' (first
    | apply AO.nil
    | (apply AO.kCall 12; refine AO.sCall (hg := gAwake1) (h := ?_))
    | (apply AO.kCall 27; refine AO.sCall (hg := (gFits _ sd)) (h := ?_))
    | (apply AO.kBuildS; first | refine AO.sBuildT (h := ?_) | refine AO.sBuildS (h := ?_))
    | (apply AO.kApp; first | refine AO.sGrowT (h := ?_) | refine AO.sNewT (h := ?_) | refine AO.sGrowBT (h := ?_) | refine AO.sGrow (h := ?_) | refine AO.sNewr (h := ?_))
    | (apply AO.kIx; first | refine AO.sIxN (h := ?_) | refine AO.sIx (h := ?_) | refine AO.sP (h := ?_) | refine AO.sPi (h := ?_))
    | (apply AO.kSl; first | refine AO.sSl (h := ?_) | refine AO.sSlArr (h := ?_) | refine AO.sP (h := ?_))
    | (apply AO.kBox; refine AO.sBox (h := ?_))
    | (apply AO.kAlloc; refine AO.sAlloc (h := ?_))
    | (apply AO.kStore; first | refine AO.sStore (h := ?_) | refine AO.sStB (h := ?_))
    | (apply AO.kAdd; refine AO.sAdd (h := ?_))
    | (apply AO.kSub; refine AO.sSub (h := ?_))
    | (apply AO.kCv; first | refine AO.sBytes (h := ?_) | refine AO.sStr (h := ?_) | refine AO.sStrR (h := ?_))
    | (apply AO.kP; first | refine AO.sP (h := ?_) | refine AO.sPi (h := ?_) | refine AO.sLoadB (h := ?_) | refine AO.sSameB (h := ?_) | refine AO.sMk0 (h := ?_) | refine AO.sArrB (h := ?_) | refine AO.sLoadA (h := ?_) | refine AO.sEqArr (heg := eqgArr) (h := ?_))
    | (apply AO.kP; refine AO.eqNil (h1 := fun h => ?_) (h2 := ?_))
    | apply AW.seq
    | (apply AW.kR; refine AW.sR (h := ?_))
    | apply AW.skip
    | apply AW.block
    | apply AW.out
    | (apply AW.kE; refine AW.sE (h := ?_))
    | apply AW.label
    | (apply AW.kRd; refine AW.sRd (h := ?_))
    | ((first | (apply AO.kG; first | refine AO.sgt (h1 := fun h => ?_) (h2 := fun h => ?_) | refine AO.sgf (h1 := fun h => ?_) (h2 := fun h => ?_) | refine AO.sgs (h := ?_)) | (apply AW.kC; refine AW.sC (h1 := fun h => ?_) (h2 := fun h => ?_)) | (apply AR.kAny; apply AR.kG; first | refine AR.sgt (h1 := fun h => ?_) (h2 := fun h => ?_) | refine AR.sgf (h1 := fun h => ?_) (h2 := fun h => ?_) | refine AR.sgs (h := ?_))) <;> (try (first | exact Bool.noConfusion h | exact absurd h (by decide) | (simp at h; done) | (rw [h]; try simp only [decide_eq_true_eq, decide_eq_false_iff_not, Int.not_lt, Int.not_le, ge_iff_le, gt_iff_lt, Bool.not_eq_true', Bool.not_eq_false', beq_iff_eq, beq_eq_false_iff_ne, ne_eq] at h; try rw [h]; try (exfalso; omega)) | skip)))
    | (apply AR.kAny; first | (apply AR.kCall 12; refine AR.sCall (hg := gAwake1) (h := ?_)) | (apply AR.kCall 27; refine AR.sCall (hg := (gFits _ sd)) (h := ?_)) | (apply AR.kBuildS; first | refine AR.sBuildT (h := ?_) | refine AR.sBuildS (h := ?_)) | (apply AR.kApp; first | refine AR.sGrowT (h := ?_) | refine AR.sNewT (h := ?_) | refine AR.sGrowBT (h := ?_) | refine AR.sGrow (h := ?_) | refine AR.sNewr (h := ?_)) | (apply AR.kIx; first | refine AR.sIxN (h := ?_) | refine AR.sIx (h := ?_) | refine AR.sP (h := ?_) | refine AR.sPi (h := ?_)) | (apply AR.kSl; first | refine AR.sSl (h := ?_) | refine AR.sSlArr (h := ?_) | refine AR.sP (h := ?_)) | (apply AR.kBox; refine AR.sBox (h := ?_)) | (apply AR.kAlloc; refine AR.sAlloc (h := ?_)) | (apply AR.kStore; refine AR.sStore (h := ?_)) | (apply AR.kAdd; refine AR.sAdd (h := ?_)) | (apply AR.kSub; refine AR.sSub (h := ?_)) | (apply AR.kCv; refine AR.sStrR (h := ?_)) | (apply AR.kP; first | refine AR.sP (h := ?_) | refine AR.sPi (h := ?_) | refine AR.sArrB (h := ?_) | refine AR.sLoadA (h := ?_) | refine AR.sEqArr (heg := eqgArr) (h := ?_)))
    | (apply AR.kNil; refine AR.sNil (h := ?_)))
        all_goals (refine AW.ret (hD rfl ?_); (repeat' (first | apply Lx.s | apply Lx.b | apply Lx.i | apply LxL.cons | exact LxL.nil | apply Lx.tup | apply Lx.agg | apply Lx.refl)) <;> (try with_reducible rfl))
        all_goals simp_all
end Go.Proofs.Ytmgmeidfnapahaa.Mv
