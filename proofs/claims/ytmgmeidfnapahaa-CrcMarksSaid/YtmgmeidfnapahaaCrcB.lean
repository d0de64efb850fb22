/- Sums: bytes with their sum behind them. Under no condition. -/
import Derived.Test.YtmgmeidfnapahaaCrcA
namespace Go.Proofs.Ytmgmeidfnapahaa.Mv
open Go Go.Proofs
set_option linter.unusedSimpArgs false
set_option linter.unusedVariables false
set_option maxRecDepth 10000
set_option maxHeartbeats 4000000
attribute [local irreducible] AW AO AR

theorem eqgArr : Try.prog.eqGuardType Try.prog.depth 65 = false := by kernel_rfl
theorem wi_shr8 (r : W32) : wi r / (2 : Int) ^ Int.toNat 8 = wi (r >>> 8) := by
  simp only [wi, BitVec.toNat_ushiftRight, Nat.shiftRight_eq_div_pow]
  have : (2 : Int) ^ Int.toNat 8 = 256 := rfl
  rw [this]; omega
theorem wi_tdiv8 (r : W32) : IntKind.wrap .u32 ((wi r).tdiv 256) = wi (r >>> 8) := by
  rw [Int.tdiv_eq_ediv_of_nonneg (by simp [wi])]
  have := wi_shr8 r
  rw [show (2 : Int) ^ Int.toNat 8 = 256 from rfl] at this
  rw [this, wrap_wi]
theorem u8_wi (r : W32) : u8 (wi r) = loB r := by
  apply UInt8.toNat_inj.1
  simp only [u8, loB, UInt8.toNat_ofNat', wi]
  omega
theorem wrapB_wi (r : W32) : IntKind.wrap .u8 (wi r) = ((loB r).toNat : Int) := by rw [wrapB, u8_wi]
theorem wrapB_mod (r : W32) : IntKind.wrap .u8 ((wi r).tmod 256) = ((loB r).toNat : Int) := by
  rw [wrapB]
  congr 2
  apply UInt8.toNat_inj.1
  simp only [u8, loB, UInt8.toNat_ofNat']
  rw [Int.tmod_eq_emod_of_nonneg (by simp [wi])]
  simp only [wi]
  omega
def arrN (s : W32) : Nat → L
  | 0 => [0, 0, 0, 0]
  | 1 => [loB s, 0, 0, 0]
  | 2 => [loB s, loB (s >>> 8), 0, 0]
  | 3 => [loB s, loB (s >>> 8), loB (s >>> 16), 0]
  | _ => bytesS s
theorem arrN_len (s : W32) (n : Nat) : (arrN s n).length = 4 := by
  unfold arrN; split <;> rfl
theorem shr_add (s : W32) (a b : Nat) : s >>> a >>> b = s >>> (a + b) := (BitVec.shiftRight_add s a b).symm
theorem arrN_set (s : W32) {n : Nat} (h : n < 4) : (arrN s n).set n (loB (s >>> (8 * n))) = arrN s (n + 1) := by
  rcases (by omega : n = 0 ∨ n = 1 ∨ n = 2 ∨ n = 3) with rfl | rfl | rfl | rfl <;> simp [arrN, bytesS]
theorem gBytes (s : W32) : Good Try.prog 43 [.i .u32 (wi s)] [] (.agg (cellsB (bytesS s))) [] := by
  refine Good.w tabOk mixed Try.func43 (N := 16) (by kernel_rfl) rfl (by (repeat (first | exact LE.nil | apply LE.cons)); done) (by (repeat (first | exact LE.nil | apply LE.cons)); done) fun D hD F => ?_
  repeat' (first
    | apply AO.nil
    | (apply AO.kBuildS; first | refine AO.sBuildT (h := ?_) | refine AO.sBuildS (h := ?_))
    | (apply AO.kApp; first | refine AO.sGrowT (h := ?_) | refine AO.sNewT (h := ?_) | refine AO.sGrowBT (h := ?_) | refine AO.sGrow (h := ?_) | refine AO.sNewr (h := ?_))
    | (apply AO.kIx; first | refine AO.sIxN (h := ?_) | refine AO.sIx (h := ?_) | refine AO.sP (h := ?_) | refine AO.sPi (h := ?_))
    | (apply AO.kSl; first | refine AO.sSl (h := ?_) | refine AO.sSlArr (h := ?_) | refine AO.sP (h := ?_))
    | (apply AO.kBox; refine AO.sBox (h := ?_))
    | (apply AO.kAlloc; refine AO.sAlloc (h := ?_))
    | (apply AO.kStore; first | refine AO.sStore (h := ?_) | refine AO.sStB (h := ?_))
    | (apply AO.kAdd; refine AO.sAdd (h := ?_))
    | (apply AO.kSub; refine AO.sSub (h := ?_))
    | (apply AO.kCv; first | refine AO.sBytes (h := ?_) | refine AO.sStr (h := ?_) | refine AO.sStrR (h := ?_))
    | (apply AO.kP; first | refine AO.sP (h := ?_) | refine AO.sPi (h := ?_) | refine AO.sLoadB (h := ?_) | refine AO.sSameB (h := ?_) | refine AO.sMk0 (h := ?_) | refine AO.sArrB (h := ?_) | refine AO.sLoadA (h := ?_) | refine AO.sEqArr (heg := eqgArr) (h := ?_))
    | (apply AO.kP; refine AO.eqNil (h1 := fun h => ?_) (h2 := ?_))
    | apply AW.seq
    | (apply AW.kR; refine AW.sR (h := ?_))
    | apply AW.skip
    | apply AW.block
    | apply AW.out
    | (apply AW.kE; refine AW.sE (h := ?_))
    | apply AW.label
    | (apply AW.kRd; refine AW.sRd (h := ?_))
    | ((first | (apply AO.kG; first | refine AO.sgt (h1 := fun h => ?_) (h2 := fun h => ?_) | refine AO.sgf (h1 := fun h => ?_) (h2 := fun h => ?_) | refine AO.sgs (h := ?_)) | (apply AW.kC; refine AW.sC (h1 := fun h => ?_) (h2 := fun h => ?_)) | (apply AR.kAny; apply AR.kG; first | refine AR.sgt (h1 := fun h => ?_) (h2 := fun h => ?_) | refine AR.sgf (h1 := fun h => ?_) (h2 := fun h => ?_) | refine AR.sgs (h := ?_))) <;> (try (first | exact Bool.noConfusion h | exact absurd h (by decide) | (simp at h; done) | (rw [h]; try simp only [decide_eq_true_eq, decide_eq_false_iff_not, Int.not_lt, Int.not_le, ge_iff_le, gt_iff_lt, Bool.not_eq_true', Bool.not_eq_false', beq_iff_eq, beq_eq_false_iff_ne, ne_eq] at h; try rw [h]; try (exfalso; omega)) | skip)))
    | (apply AR.kAny; first | (apply AR.kBuildS; first | refine AR.sBuildT (h := ?_) | refine AR.sBuildS (h := ?_)) | (apply AR.kApp; first | refine AR.sGrowT (h := ?_) | refine AR.sNewT (h := ?_) | refine AR.sGrowBT (h := ?_) | refine AR.sGrow (h := ?_) | refine AR.sNewr (h := ?_)) | (apply AR.kIx; first | refine AR.sIxN (h := ?_) | refine AR.sIx (h := ?_) | refine AR.sP (h := ?_) | refine AR.sPi (h := ?_)) | (apply AR.kSl; first | refine AR.sSl (h := ?_) | refine AR.sSlArr (h := ?_) | refine AR.sP (h := ?_)) | (apply AR.kBox; refine AR.sBox (h := ?_)) | (apply AR.kAlloc; refine AR.sAlloc (h := ?_)) | (apply AR.kStore; refine AR.sStore (h := ?_)) | (apply AR.kAdd; refine AR.sAdd (h := ?_)) | (apply AR.kSub; refine AR.sSub (h := ?_)) | (apply AR.kCv; refine AR.sStrR (h := ?_)) | (apply AR.kP; first | refine AR.sP (h := ?_) | refine AR.sPi (h := ?_) | refine AR.sArrB (h := ?_) | refine AR.sLoadA (h := ?_) | refine AR.sEqArr (heg := eqgArr) (h := ?_)))
    | (apply AR.kNil; refine AR.sNil (h := ?_)))
  refine AW.loopI (fun n : Nat => n ≤ 4) (fun n => ⟨[(0, .i .u32 (wi (s >>> (8 * n)))), (2, .ptr 2 0), (3, .ptr 3 0), (5, .i .i64 n)], [(3, .bx (cellsB (arrN s n))), (2, .bx (cellsB [0, 0, 0, 0]))]⟩) (fun n => 4 - n) 0 (by simp) (by (constructor <;> (repeat' (first | exact LeT.nil | exact LeB.nil | apply LeT.cons | apply LeB.cons | exact Ol.refl | apply Lx.s | apply Lx.b | apply Lx.i | exact Lx.refl)) <;> (first | rfl | assumption | omega | skip))) fun m n hn ih => ?_
  repeat' (first
    | apply AO.nil
    | (apply AO.kBuildS; first | refine AO.sBuildT (h := ?_) | refine AO.sBuildS (h := ?_))
    | (apply AO.kApp; first | refine AO.sGrowT (h := ?_) | refine AO.sNewT (h := ?_) | refine AO.sGrowBT (h := ?_) | refine AO.sGrow (h := ?_) | refine AO.sNewr (h := ?_))
    | (apply AO.kIx; first | refine AO.sIxN (hm := by first | decide | omega | (show 0 + n * 1 < _; rw [arrN_len]; omega)) (h := ?_) | refine AO.sIx (hm := by first | decide | omega | (show 0 + n * 1 < _; rw [arrN_len]; omega)) (h := ?_) | refine AO.sP (h := ?_) | refine AO.sPi (hq := by first | decide | omega | (show 0 + n * 1 < _; rw [arrN_len]; omega)) (h := ?_))
    | (apply AO.kSl; first | refine AO.sSl (hq := by first | decide | omega | (show 0 + n * 1 < _; rw [arrN_len]; omega)) (h := ?_) | refine AO.sSlArr (h := ?_) | refine AO.sP (h := ?_))
    | (apply AO.kBox; refine AO.sBox (h := ?_))
    | (apply AO.kAlloc; refine AO.sAlloc (h := ?_))
    | (apply AO.kStore; first | refine AO.sStore (h := ?_) | refine AO.sStB (ho := by first | decide | omega | (show 0 + n * 1 < _; rw [arrN_len]; omega)) (h := ?_))
    | (apply AO.kAdd; refine AO.sAdd (hr := by first | decide | omega | (show 0 + n * 1 < _; rw [arrN_len]; omega)) (h := ?_))
    | (apply AO.kSub; refine AO.sSub (hr := by first | decide | omega | (show 0 + n * 1 < _; rw [arrN_len]; omega)) (h := ?_))
    | (apply AO.kCv; first | refine AO.sBytes (h := ?_) | refine AO.sStr (h := ?_) | refine AO.sStrR (h := ?_))
    | (apply AO.kP; first | refine AO.sP (h := ?_) | refine AO.sPi (hq := by first | decide | omega | (show 0 + n * 1 < _; rw [arrN_len]; omega)) (h := ?_) | refine AO.sLoadB (ho := by first | decide | omega | (show 0 + n * 1 < _; rw [arrN_len]; omega)) (h := ?_) | refine AO.sSameB (h := ?_) | refine AO.sMk0 (h := ?_) | refine AO.sArrB (h := ?_) | refine AO.sLoadA (h := ?_) | refine AO.sEqArr (heg := eqgArr) (h := ?_))
    | (apply AO.kP; refine AO.eqNil (h1 := fun h => ?_) (h2 := ?_))
    | apply AW.seq
    | (apply AW.kR; refine AW.sR (h := ?_))
    | apply AW.skip
    | apply AW.block
    | apply AW.out
    | (apply AW.kE; refine AW.sE (h := ?_))
    | apply AW.label
    | (apply AW.kRd; refine AW.sRd (h := ?_))
    | ((first | (apply AO.kG; first | refine AO.sgt (h1 := fun h => ?_) (h2 := fun h => ?_) | refine AO.sgf (h1 := fun h => ?_) (h2 := fun h => ?_) | refine AO.sgs (h := ?_)) | (apply AW.kC; refine AW.sC (h1 := fun h => ?_) (h2 := fun h => ?_)) | (apply AR.kAny; apply AR.kG; first | refine AR.sgt (h1 := fun h => ?_) (h2 := fun h => ?_) | refine AR.sgf (h1 := fun h => ?_) (h2 := fun h => ?_) | refine AR.sgs (h := ?_))) <;> (try (first | exact Bool.noConfusion h | exact absurd h (by decide) | (simp at h; done) | (rw [h]; try simp only [decide_eq_true_eq, decide_eq_false_iff_not, Int.not_lt, Int.not_le, ge_iff_le, gt_iff_lt, Bool.not_eq_true', Bool.not_eq_false', beq_iff_eq, beq_eq_false_iff_ne, ne_eq] at h; try rw [h]; try (exfalso; omega)) | skip)))
    | (apply AR.kAny; first | (apply AR.kBuildS; first | refine AR.sBuildT (h := ?_) | refine AR.sBuildS (h := ?_)) | (apply AR.kApp; first | refine AR.sGrowT (h := ?_) | refine AR.sNewT (h := ?_) | refine AR.sGrowBT (h := ?_) | refine AR.sGrow (h := ?_) | refine AR.sNewr (h := ?_)) | (apply AR.kIx; first | refine AR.sIxN (hm := by first | decide | omega | (show 0 + n * 1 < _; rw [arrN_len]; omega)) (h := ?_) | refine AR.sIx (hm := by first | decide | omega | (show 0 + n * 1 < _; rw [arrN_len]; omega)) (h := ?_) | refine AR.sP (h := ?_) | refine AR.sPi (hq := by first | decide | omega | (show 0 + n * 1 < _; rw [arrN_len]; omega)) (h := ?_)) | (apply AR.kSl; first | refine AR.sSl (hq := by first | decide | omega | (show 0 + n * 1 < _; rw [arrN_len]; omega)) (h := ?_) | refine AR.sSlArr (h := ?_) | refine AR.sP (h := ?_)) | (apply AR.kBox; refine AR.sBox (h := ?_)) | (apply AR.kAlloc; refine AR.sAlloc (h := ?_)) | (apply AR.kStore; refine AR.sStore (h := ?_)) | (apply AR.kAdd; refine AR.sAdd (hr := by first | decide | omega | (show 0 + n * 1 < _; rw [arrN_len]; omega)) (h := ?_)) | (apply AR.kSub; refine AR.sSub (hr := by first | decide | omega | (show 0 + n * 1 < _; rw [arrN_len]; omega)) (h := ?_)) | (apply AR.kCv; refine AR.sStrR (h := ?_)) | (apply AR.kP; first | refine AR.sP (h := ?_) | refine AR.sPi (hq := by first | decide | omega | (show 0 + n * 1 < _; rw [arrN_len]; omega)) (h := ?_) | refine AR.sArrB (h := ?_) | refine AR.sLoadA (h := ?_) | refine AR.sEqArr (heg := eqgArr) (h := ?_)))
    | (apply AR.kNil; refine AR.sNil (h := ?_)))
  · have hn4 : n < 4 := by omega
    have e1 : wi (s >>> (8 * n)) / (2 : Int) ^ Int.toNat 8 = wi (s >>> (8 * (n + 1))) := by
      rw [wi_shr8, shr_add]; rfl
    have e2 : cellsB (List.set (arrN s n) (0 + (n : Int).toNat * ty5.size) (u8 (wi (s >>> (8 * n))))) = cellsB (arrN s (n + 1)) := by
      show cellsB (List.set (arrN s n) (0 + n * 1) (u8 (wi (s >>> (8 * n))))) = _
      rw [u8_wi, Nat.zero_add, Nat.mul_one, arrN_set s hn4]
    refine ih (n + 1) _ (by omega) (by omega) ⟨by ((repeat' (first | exact LeT.nil | apply LeT.cons | apply Lx.s | apply Lx.b | apply Lx.i | exact Lx.refl)) <;> (first | rfl | omega | skip)), .cons (.eq (congrArg Ob.bx e2)) (.cons .refl .nil)⟩
  · have : n = 4 := by omega
    subst this
    repeat' (first
    | apply AO.nil
    | (apply AO.kBuildS; first | refine AO.sBuildT (h := ?_) | refine AO.sBuildS (h := ?_))
    | (apply AO.kApp; first | refine AO.sGrowT (h := ?_) | refine AO.sNewT (h := ?_) | refine AO.sGrowBT (h := ?_) | refine AO.sGrow (h := ?_) | refine AO.sNewr (h := ?_))
    | (apply AO.kIx; first | refine AO.sIxN (h := ?_) | refine AO.sIx (h := ?_) | refine AO.sP (h := ?_) | refine AO.sPi (h := ?_))
    | (apply AO.kSl; first | refine AO.sSl (h := ?_) | refine AO.sSlArr (h := ?_) | refine AO.sP (h := ?_))
    | (apply AO.kBox; refine AO.sBox (h := ?_))
    | (apply AO.kAlloc; refine AO.sAlloc (h := ?_))
    | (apply AO.kStore; first | refine AO.sStore (h := ?_) | refine AO.sStB (h := ?_))
    | (apply AO.kAdd; refine AO.sAdd (h := ?_))
    | (apply AO.kSub; refine AO.sSub (h := ?_))
    | (apply AO.kCv; first | refine AO.sBytes (h := ?_) | refine AO.sStr (h := ?_) | refine AO.sStrR (h := ?_))
    | (apply AO.kP; first | refine AO.sP (h := ?_) | refine AO.sPi (h := ?_) | refine AO.sLoadB (h := ?_) | refine AO.sSameB (h := ?_) | refine AO.sMk0 (h := ?_) | refine AO.sArrB (h := ?_) | refine AO.sLoadA (h := ?_) | refine AO.sEqArr (heg := eqgArr) (h := ?_))
    | (apply AO.kP; refine AO.eqNil (h1 := fun h => ?_) (h2 := ?_))
    | apply AW.seq
    | (apply AW.kR; refine AW.sR (h := ?_))
    | apply AW.skip
    | apply AW.block
    | apply AW.out
    | (apply AW.kE; refine AW.sE (h := ?_))
    | apply AW.label
    | (apply AW.kRd; refine AW.sRd (h := ?_))
    | ((first | (apply AO.kG; first | refine AO.sgt (h1 := fun h => ?_) (h2 := fun h => ?_) | refine AO.sgf (h1 := fun h => ?_) (h2 := fun h => ?_) | refine AO.sgs (h := ?_)) | (apply AW.kC; refine AW.sC (h1 := fun h => ?_) (h2 := fun h => ?_)) | (apply AR.kAny; apply AR.kG; first | refine AR.sgt (h1 := fun h => ?_) (h2 := fun h => ?_) | refine AR.sgf (h1 := fun h => ?_) (h2 := fun h => ?_) | refine AR.sgs (h := ?_))) <;> (try (first | exact Bool.noConfusion h | exact absurd h (by decide) | (simp at h; done) | (rw [h]; try simp only [decide_eq_true_eq, decide_eq_false_iff_not, Int.not_lt, Int.not_le, ge_iff_le, gt_iff_lt, Bool.not_eq_true', Bool.not_eq_false', beq_iff_eq, beq_eq_false_iff_ne, ne_eq] at h; try rw [h]; try (exfalso; omega)) | skip)))
    | (apply AR.kAny; first | (apply AR.kBuildS; first | refine AR.sBuildT (h := ?_) | refine AR.sBuildS (h := ?_)) | (apply AR.kApp; first | refine AR.sGrowT (h := ?_) | refine AR.sNewT (h := ?_) | refine AR.sGrowBT (h := ?_) | refine AR.sGrow (h := ?_) | refine AR.sNewr (h := ?_)) | (apply AR.kIx; first | refine AR.sIxN (h := ?_) | refine AR.sIx (h := ?_) | refine AR.sP (h := ?_) | refine AR.sPi (h := ?_)) | (apply AR.kSl; first | refine AR.sSl (h := ?_) | refine AR.sSlArr (h := ?_) | refine AR.sP (h := ?_)) | (apply AR.kBox; refine AR.sBox (h := ?_)) | (apply AR.kAlloc; refine AR.sAlloc (h := ?_)) | (apply AR.kStore; refine AR.sStore (h := ?_)) | (apply AR.kAdd; refine AR.sAdd (h := ?_)) | (apply AR.kSub; refine AR.sSub (h := ?_)) | (apply AR.kCv; refine AR.sStrR (h := ?_)) | (apply AR.kP; first | refine AR.sP (h := ?_) | refine AR.sPi (h := ?_) | refine AR.sArrB (h := ?_) | refine AR.sLoadA (h := ?_) | refine AR.sEqArr (heg := eqgArr) (h := ?_)))
    | (apply AR.kNil; refine AR.sNil (h := ?_)))
    (refine AW.ret (hD rfl ?_); (repeat' (first | apply Lx.s | apply Lx.b | apply Lx.i | apply LxL.cons | exact LxL.nil | apply Lx.tup | apply Lx.agg | apply Lx.refl)) <;> (try with_reducible rfl))
theorem gMark (t : Nat) (b : L) (hb : b.length ≤ 100000) : Good Try.prog 17 [.sh 1 (BS b)] [] (.gr t 5 1 (BS (markS b))) [(t, .gw (BS (markS b)).length)] := by
  refine Good.w2 tabOk mixed Try.func17 (N := 17) (by kernel_rfl) rfl (by (repeat (first | exact LE.nil | apply LE.cons)); done) (by (repeat (first | exact LE.nil | apply LE.cons)); done) fun D hD F => ?_
  repeat' (first
    | apply AO.nil
    | (apply AO.kCall 13; refine AO.sCall (hg := (gSum _ sd)) (h := ?_))
    | (apply AO.kCall 43; refine AO.sCall (hg := (gBytes _)) (h := ?_))
    | (apply AO.kBuildS; first | refine AO.sBuildT (h := ?_) | refine AO.sBuildS (h := ?_))
    | (apply AO.kApp; first | refine AO.sGrowT (h := ?_) | refine AO.sNewT (h := ?_) | refine AO.sGrowBT (h := ?_) | refine AO.sGrow (h := ?_) | refine AO.sNewr (h := ?_))
    | (apply AO.kIx; first | refine AO.sIxN (h := ?_) | refine AO.sIx (h := ?_) | refine AO.sP (h := ?_) | refine AO.sPi (h := ?_))
    | (apply AO.kSl; first | refine AO.sSl (h := ?_) | refine AO.sSlArr (h := ?_) | refine AO.sP (h := ?_))
    | (apply AO.kBox; refine AO.sBox (h := ?_))
    | (apply AO.kAlloc; refine AO.sAlloc (h := ?_))
    | (apply AO.kStore; first | refine AO.sStore (h := ?_) | refine AO.sStB (h := ?_))
    | (apply AO.kAdd; refine AO.sAdd (h := ?_))
    | (apply AO.kSub; refine AO.sSub (h := ?_))
    | (apply AO.kCv; first | refine AO.sBytes (h := ?_) | refine AO.sStr (h := ?_) | refine AO.sStrR (h := ?_))
    | (apply AO.kP; first | refine AO.sP (h := ?_) | refine AO.sPi (h := ?_) | refine AO.sLoadB (h := ?_) | refine AO.sSameB (h := ?_) | refine AO.sMk0 (h := ?_) | refine AO.sArrB (h := ?_) | refine AO.sLoadA (h := ?_) | refine AO.sEqArr (heg := eqgArr) (h := ?_))
    | (apply AO.kP; refine AO.eqNil (h1 := fun h => ?_) (h2 := ?_))
    | apply AW.seq
    | (apply AW.kR; refine AW.sR (h := ?_))
    | apply AW.skip
    | apply AW.block
    | apply AW.out
    | (apply AW.kE; refine AW.sE (h := ?_))
    | apply AW.label
    | (apply AW.kRd; refine AW.sRd (h := ?_))
    | ((first | (apply AO.kG; first | refine AO.sgt (h1 := fun h => ?_) (h2 := fun h => ?_) | refine AO.sgf (h1 := fun h => ?_) (h2 := fun h => ?_) | refine AO.sgs (h := ?_)) | (apply AW.kC; refine AW.sC (h1 := fun h => ?_) (h2 := fun h => ?_)) | (apply AR.kAny; apply AR.kG; first | refine AR.sgt (h1 := fun h => ?_) (h2 := fun h => ?_) | refine AR.sgf (h1 := fun h => ?_) (h2 := fun h => ?_) | refine AR.sgs (h := ?_))) <;> (try (first | exact Bool.noConfusion h | exact absurd h (by decide) | (simp at h; done) | (rw [h]; try simp only [decide_eq_true_eq, decide_eq_false_iff_not, Int.not_lt, Int.not_le, ge_iff_le, gt_iff_lt, Bool.not_eq_true', Bool.not_eq_false', beq_iff_eq, beq_eq_false_iff_ne, ne_eq] at h; try rw [h]; try (exfalso; omega)) | skip)))
    | (apply AR.kAny; first | (apply AR.kCall 13; refine AR.sCall (hg := (gSum _ sd)) (h := ?_)) | (apply AR.kCall 43; refine AR.sCall (hg := (gBytes _)) (h := ?_)) | (apply AR.kBuildS; first | refine AR.sBuildT (h := ?_) | refine AR.sBuildS (h := ?_)) | (apply AR.kApp; first | refine AR.sGrowT (h := ?_) | refine AR.sNewT (h := ?_) | refine AR.sGrowBT (h := ?_) | refine AR.sGrow (h := ?_) | refine AR.sNewr (h := ?_)) | (apply AR.kIx; first | refine AR.sIxN (h := ?_) | refine AR.sIx (h := ?_) | refine AR.sP (h := ?_) | refine AR.sPi (h := ?_)) | (apply AR.kSl; first | refine AR.sSl (h := ?_) | refine AR.sSlArr (h := ?_) | refine AR.sP (h := ?_)) | (apply AR.kBox; refine AR.sBox (h := ?_)) | (apply AR.kAlloc; refine AR.sAlloc (h := ?_)) | (apply AR.kStore; refine AR.sStore (h := ?_)) | (apply AR.kAdd; refine AR.sAdd (h := ?_)) | (apply AR.kSub; refine AR.sSub (h := ?_)) | (apply AR.kCv; refine AR.sStrR (h := ?_)) | (apply AR.kP; first | refine AR.sP (h := ?_) | refine AR.sPi (h := ?_) | refine AR.sArrB (h := ?_) | refine AR.sLoadA (h := ?_) | refine AR.sEqArr (heg := eqgArr) (h := ?_)))
    | (apply AR.kNil; refine AR.sNil (h := ?_)))
  (refine AW.ret (hD _ rfl (by first | exact Lx.refl | (show Lx _ (.gr _ _ _ _) (.gr _ _ _ _); exact Lx.refl)) (by first | exact Ol.refl | exact Ol.eq rfl)))
theorem bytesS_len (s : W32) : (bytesS s).length = 4 := rfl
theorem markS_len (b : L) : (markS b).length = b.length + 4 := by simp [markS, bytesS_len]
theorem gMarkS (b : L) (hb : b.length ≤ 100000) : Good Try.prog 17 [.sh 1 (BS b)] [] (.sh 1 (BS (markS b))) [] := (gMark 0 b hb).sh Le.gr
def firstN (s : W32) : Nat → L
  | 0 => []
  | 1 => [loB s]
  | 2 => [loB s, loB (s >>> 8)]
  | 3 => [loB s, loB (s >>> 8), loB (s >>> 16)]
  | _ => bytesS s
theorem firstN_len (s : W32) {n : Nat} (h : n ≤ 4) : (firstN s n).length = n := by
  rcases (by omega : n = 0 ∨ n = 1 ∨ n = 2 ∨ n = 3 ∨ n = 4) with rfl | rfl | rfl | rfl | rfl <;> rfl
theorem firstN_succ (s : W32) {n : Nat} (h : n < 4) : firstN s n ++ [loB (s >>> (8 * n))] = firstN s (n + 1) := by
  rcases (by omega : n = 0 ∨ n = 1 ∨ n = 2 ∨ n = 3) with rfl | rfl | rfl | rfl <;> simp [firstN, bytesS]
theorem u8_tmod (r : W32) : u8 ((wi r).tmod 256) = loB r := by
  have := wrapB_mod r
  rw [wrapB] at this
  exact UInt8.toNat_inj.1 (by omega)
theorem gMark' (b : L) (hb : b.length ≤ 100000) : Good Try.prog 26 [.sh 1 (BS b)] [] (.sh 1 (BS (markS b))) [] := by
  refine Good.w tabOk mixed Try.func26 (N := 25) (by kernel_rfl) rfl (by (repeat (first | exact LE.nil | apply LE.cons)); done) (by (repeat (first | exact LE.nil | apply LE.cons)); done) fun D hD F => ?_
  repeat' (first
    | apply AO.nil
    | (apply AO.kCall 14; refine AO.sCall (hg := (gSum' _ sd)) (h := ?_))
    | (apply AO.kBuildS; first | refine AO.sBuildT (h := ?_) | refine AO.sBuildS (h := ?_))
    | (apply AO.kApp; first | refine AO.sGrowT (h := ?_) | refine AO.sNewT (h := ?_) | refine AO.sGrowBT (h := ?_) | refine AO.sGrow (h := ?_) | refine AO.sNewr (h := ?_))
    | (apply AO.kIx; first | refine AO.sIxN (h := ?_) | refine AO.sIx (h := ?_) | refine AO.sP (h := ?_) | refine AO.sPi (h := ?_))
    | (apply AO.kSl; first | refine AO.sSl (h := ?_) | refine AO.sSlArr (h := ?_) | refine AO.sP (h := ?_))
    | (apply AO.kBox; refine AO.sBox (h := ?_))
    | (apply AO.kAlloc; refine AO.sAlloc (h := ?_))
    | (apply AO.kStore; first | refine AO.sStore (h := ?_) | refine AO.sStB (h := ?_))
    | (apply AO.kAdd; refine AO.sAdd (h := ?_))
    | (apply AO.kSub; refine AO.sSub (h := ?_))
    | (apply AO.kCv; first | refine AO.sBytes (h := ?_) | refine AO.sStr (h := ?_) | refine AO.sStrR (h := ?_))
    | (apply AO.kP; first | refine AO.sP (h := ?_) | refine AO.sPi (h := ?_) | refine AO.sLoadB (h := ?_) | refine AO.sSameB (h := ?_) | refine AO.sMk0 (h := ?_) | refine AO.sArrB (h := ?_) | refine AO.sLoadA (h := ?_) | refine AO.sEqArr (heg := eqgArr) (h := ?_))
    | (apply AO.kP; refine AO.eqNil (h1 := fun h => ?_) (h2 := ?_))
    | apply AW.seq
    | (apply AW.kR; refine AW.sR (h := ?_))
    | apply AW.skip
    | apply AW.block
    | apply AW.out
    | (apply AW.kE; refine AW.sE (h := ?_))
    | apply AW.label
    | (apply AW.kRd; refine AW.sRd (h := ?_))
    | ((first | (apply AO.kG; first | refine AO.sgt (h1 := fun h => ?_) (h2 := fun h => ?_) | refine AO.sgf (h1 := fun h => ?_) (h2 := fun h => ?_) | refine AO.sgs (h := ?_)) | (apply AW.kC; refine AW.sC (h1 := fun h => ?_) (h2 := fun h => ?_)) | (apply AR.kAny; apply AR.kG; first | refine AR.sgt (h1 := fun h => ?_) (h2 := fun h => ?_) | refine AR.sgf (h1 := fun h => ?_) (h2 := fun h => ?_) | refine AR.sgs (h := ?_))) <;> (try (first | exact Bool.noConfusion h | exact absurd h (by decide) | (simp at h; done) | (rw [h]; try simp only [decide_eq_true_eq, decide_eq_false_iff_not, Int.not_lt, Int.not_le, ge_iff_le, gt_iff_lt, Bool.not_eq_true', Bool.not_eq_false', beq_iff_eq, beq_eq_false_iff_ne, ne_eq] at h; try rw [h]; try (exfalso; omega)) | skip)))
    | (apply AR.kAny; first | (apply AR.kCall 14; refine AR.sCall (hg := (gSum' _ sd)) (h := ?_)) | (apply AR.kBuildS; first | refine AR.sBuildT (h := ?_) | refine AR.sBuildS (h := ?_)) | (apply AR.kApp; first | refine AR.sGrowT (h := ?_) | refine AR.sNewT (h := ?_) | refine AR.sGrowBT (h := ?_) | refine AR.sGrow (h := ?_) | refine AR.sNewr (h := ?_)) | (apply AR.kIx; first | refine AR.sIxN (h := ?_) | refine AR.sIx (h := ?_) | refine AR.sP (h := ?_) | refine AR.sPi (h := ?_)) | (apply AR.kSl; first | refine AR.sSl (h := ?_) | refine AR.sSlArr (h := ?_) | refine AR.sP (h := ?_)) | (apply AR.kBox; refine AR.sBox (h := ?_)) | (apply AR.kAlloc; refine AR.sAlloc (h := ?_)) | (apply AR.kStore; refine AR.sStore (h := ?_)) | (apply AR.kAdd; refine AR.sAdd (h := ?_)) | (apply AR.kSub; refine AR.sSub (h := ?_)) | (apply AR.kCv; refine AR.sStrR (h := ?_)) | (apply AR.kP; first | refine AR.sP (h := ?_) | refine AR.sPi (h := ?_) | refine AR.sArrB (h := ?_) | refine AR.sLoadA (h := ?_) | refine AR.sEqArr (heg := eqgArr) (h := ?_)))
    | (apply AR.kNil; refine AR.sNil (h := ?_)))
  refine AW.loopI (fun n : Nat => n ≤ 4) (fun n => ⟨[(3, .gr 6 5 1 (BS (b ++ firstN (sumS b) n))), (4, .i .u32 (wi (sumS b >>> (8 * n)))), (5, .i .i64 n)], [(6, .gw (BS (b ++ firstN (sumS b) n)).length)]⟩) (fun n => 4 - n) 0 (by simp) ⟨?_, ?_⟩ fun m n hn ih => ?_
  · refine .cons (.eq ?_) (.cons .refl (.cons .refl .nil))
    show AV.gr 6 5 1 (BS b) = _
    rw [firstN, List.append_nil]
  · refine .cons (.eq ?_) .nil
    show Ob.gw (BS b).length = _
    rw [firstN, List.append_nil]
  have hl := firstN_len (sumS b) hn
  repeat' (first
    | apply AO.nil
    | (apply AO.kBuildS; first | refine AO.sBuildT (h := ?_) | refine AO.sBuildS (h := ?_))
    | (apply AO.kApp; first | refine AO.sGrowT (h := ?_) | refine AO.sNewT (h := ?_) | refine AO.sGrowBT (h := ?_) | refine AO.sGrow (h := ?_) | refine AO.sNewr (h := ?_))
    | (apply AO.kIx; first | refine AO.sIxN (h := ?_) | refine AO.sIx (h := ?_) | refine AO.sP (h := ?_) | refine AO.sPi (h := ?_))
    | (apply AO.kSl; first | refine AO.sSl (h := ?_) | refine AO.sSlArr (h := ?_) | refine AO.sP (h := ?_))
    | (apply AO.kBox; refine AO.sBox (h := ?_))
    | (apply AO.kAlloc; refine AO.sAlloc (h := ?_))
    | (apply AO.kStore; first | refine AO.sStore (h := ?_) | refine AO.sStB (h := ?_))
    | (apply AO.kAdd; refine AO.sAdd (h := ?_))
    | (apply AO.kSub; refine AO.sSub (h := ?_))
    | (apply AO.kCv; first | refine AO.sBytes (h := ?_) | refine AO.sStr (h := ?_) | refine AO.sStrR (h := ?_))
    | (apply AO.kP; first | refine AO.sP (h := ?_) | refine AO.sPi (h := ?_) | refine AO.sLoadB (h := ?_) | refine AO.sSameB (h := ?_) | refine AO.sMk0 (h := ?_) | refine AO.sArrB (h := ?_) | refine AO.sLoadA (h := ?_) | refine AO.sEqArr (heg := eqgArr) (h := ?_))
    | (apply AO.kP; refine AO.eqNil (h1 := fun h => ?_) (h2 := ?_))
    | apply AW.seq
    | (apply AW.kR; refine AW.sR (h := ?_))
    | apply AW.skip
    | apply AW.block
    | apply AW.out
    | (apply AW.kE; refine AW.sE (h := ?_))
    | apply AW.label
    | (apply AW.kRd; refine AW.sRd (h := ?_))
    | ((first | (apply AO.kG; first | refine AO.sgt (h1 := fun h => ?_) (h2 := fun h => ?_) | refine AO.sgf (h1 := fun h => ?_) (h2 := fun h => ?_) | refine AO.sgs (h := ?_)) | (apply AW.kC; refine AW.sC (h1 := fun h => ?_) (h2 := fun h => ?_)) | (apply AR.kAny; apply AR.kG; first | refine AR.sgt (h1 := fun h => ?_) (h2 := fun h => ?_) | refine AR.sgf (h1 := fun h => ?_) (h2 := fun h => ?_) | refine AR.sgs (h := ?_))) <;> (try (first | exact Bool.noConfusion h | exact absurd h (by decide) | (simp at h; done) | (rw [h]; try simp only [decide_eq_true_eq, decide_eq_false_iff_not, Int.not_lt, Int.not_le, ge_iff_le, gt_iff_lt, Bool.not_eq_true', Bool.not_eq_false', beq_iff_eq, beq_eq_false_iff_ne, ne_eq] at h; try rw [h]; try (exfalso; omega)) | skip)))
    | (apply AR.kAny; first | (apply AR.kBuildS; first | refine AR.sBuildT (h := ?_) | refine AR.sBuildS (h := ?_)) | (apply AR.kApp; first | refine AR.sGrowT (h := ?_) | refine AR.sNewT (h := ?_) | refine AR.sGrowBT (h := ?_) | refine AR.sGrow (h := ?_) | refine AR.sNewr (h := ?_)) | (apply AR.kIx; first | refine AR.sIxN (h := ?_) | refine AR.sIx (h := ?_) | refine AR.sP (h := ?_) | refine AR.sPi (h := ?_)) | (apply AR.kSl; first | refine AR.sSl (h := ?_) | refine AR.sSlArr (h := ?_) | refine AR.sP (h := ?_)) | (apply AR.kBox; refine AR.sBox (h := ?_)) | (apply AR.kAlloc; refine AR.sAlloc (h := ?_)) | (apply AR.kStore; refine AR.sStore (h := ?_)) | (apply AR.kAdd; refine AR.sAdd (h := ?_)) | (apply AR.kSub; refine AR.sSub (h := ?_)) | (apply AR.kCv; refine AR.sStrR (h := ?_)) | (apply AR.kP; first | refine AR.sP (h := ?_) | refine AR.sPi (h := ?_) | refine AR.sArrB (h := ?_) | refine AR.sLoadA (h := ?_) | refine AR.sEqArr (heg := eqgArr) (h := ?_)))
    | (apply AR.kNil; refine AR.sNil (h := ?_)))
  · have hn4 : n < 4 := by omega
    have e1 : IntKind.wrap .u32 ((wi (sumS b >>> (8 * n))).tdiv 256) = wi (sumS b >>> (8 * (n + 1))) := by
      rw [wi_tdiv8, shr_add]; rfl
    have e2 : b ++ firstN (sumS b) n ++ [u8 ((wi (sumS b >>> (8 * n))).tmod 256)] = b ++ firstN (sumS b) (n + 1) := by
      rw [u8_tmod, List.append_assoc, firstN_succ _ hn4]
    refine ih (n + 1) _ (by omega) (by omega) ⟨.cons (.eq ?_) (.cons (.eq (congrArg (AV.i .u32) e1)) (.cons (.eq ?_) .nil)), .cons (.eq ?_) .nil⟩
    · show AV.gr 6 5 1 (BS (b ++ firstN (sumS b) n ++ [u8 ((wi (sumS b >>> (8 * n))).tmod 256)])) = _
      rw [e2]
    · rfl
    · show Ob.gw (BS (b ++ firstN (sumS b) n ++ [u8 ((wi (sumS b >>> (8 * n))).tmod 256)])).length = _
      rw [e2]
  · have : n = 4 := by omega
    subst this
    exact AW.ret (hD rfl .gr)
/-- Does it end with its sum? -/
def fitsS (b : L) : Bool := decide (4 ≤ b.length) && (bytesS (sumS (b.take (b.length - 4))) == b.drop (b.length - 4))
theorem i4 {b : L} (h : 0 ≤ ((BS b).length : Int) - 4) : (((BS b).length : Int) - 4).toNat = b.length - 4 ∧ 4 ≤ b.length := by
  rw [BS_len] at *; omega
theorem gFits (b : L) (hb : b.length ≤ 100000) : Good Try.prog 27 [.sh 1 (BS b)] [] (.b (fitsS b)) [] := by
  refine Good.w tabOk mixed Try.func27 (N := 22) (by kernel_rfl) rfl (by (repeat (first | exact LE.nil | apply LE.cons)); done) (by (repeat (first | exact LE.nil | apply LE.cons)); done) fun D hD F => ?_
  repeat' (first
    | apply AO.nil
    | (apply AO.kCall 13; refine AO.sCall (hg := (gSum _ sd)) (h := ?_))
    | (apply AO.kCall 43; refine AO.sCall (hg := (gBytes _)) (h := ?_))
    | (apply AO.kBuildS; first | refine AO.sBuildT (h := ?_) | refine AO.sBuildS (h := ?_))
    | (apply AO.kApp; first | refine AO.sGrowT (h := ?_) | refine AO.sNewT (h := ?_) | refine AO.sGrowBT (h := ?_) | refine AO.sGrow (h := ?_) | refine AO.sNewr (h := ?_))
    | (apply AO.kIx; first | refine AO.sIxN (h := ?_) | refine AO.sIx (h := ?_) | refine AO.sP (h := ?_) | refine AO.sPi (h := ?_))
    | (apply AO.kSl; first | refine AO.sSl (h := ?_) | refine AO.sSlArr (h := ?_) | refine AO.sP (h := ?_))
    | (apply AO.kBox; refine AO.sBox (h := ?_))
    | (apply AO.kAlloc; refine AO.sAlloc (h := ?_))
    | (apply AO.kStore; first | refine AO.sStore (h := ?_) | refine AO.sStB (h := ?_))
    | (apply AO.kAdd; refine AO.sAdd (h := ?_))
    | (apply AO.kSub; refine AO.sSub (h := ?_))
    | (apply AO.kCv; first | refine AO.sBytes (h := ?_) | refine AO.sStr (h := ?_) | refine AO.sStrR (h := ?_))
    | (apply AO.kP; first | refine AO.sP (h := ?_) | refine AO.sPi (h := ?_) | refine AO.sLoadB (h := ?_) | refine AO.sSameB (h := ?_) | refine AO.sMk0 (h := ?_) | refine AO.sArrB (h := ?_) | refine AO.sLoadA (h := ?_) | refine AO.sEqArr (heg := eqgArr) (h := ?_))
    | (apply AO.kP; refine AO.eqNil (h1 := fun h => ?_) (h2 := ?_))
    | apply AW.seq
    | (apply AW.kR; refine AW.sR (h := ?_))
    | apply AW.skip
    | apply AW.block
    | apply AW.out
    | (apply AW.kE; refine AW.sE (h := ?_))
    | apply AW.label
    | (apply AW.kRd; refine AW.sRd (h := ?_))
    | ((first | (apply AO.kG; first | refine AO.sgt (h1 := fun h => ?_) (h2 := fun h => ?_) | refine AO.sgf (h1 := fun h => ?_) (h2 := fun h => ?_) | refine AO.sgs (h := ?_)) | (apply AW.kC; refine AW.sC (h1 := fun h => ?_) (h2 := fun h => ?_)) | (apply AR.kAny; apply AR.kG; first | refine AR.sgt (h1 := fun h => ?_) (h2 := fun h => ?_) | refine AR.sgf (h1 := fun h => ?_) (h2 := fun h => ?_) | refine AR.sgs (h := ?_))) <;> (try (first | exact Bool.noConfusion h | exact absurd h (by decide) | (simp at h; done) | (rw [h]; try simp only [decide_eq_true_eq, decide_eq_false_iff_not, Int.not_lt, Int.not_le, ge_iff_le, gt_iff_lt, Bool.not_eq_true', Bool.not_eq_false', beq_iff_eq, beq_eq_false_iff_ne, ne_eq] at h; try rw [h]; try (exfalso; omega)) | skip)))
    | (apply AR.kAny; first | (apply AR.kCall 13; refine AR.sCall (hg := (gSum _ sd)) (h := ?_)) | (apply AR.kCall 43; refine AR.sCall (hg := (gBytes _)) (h := ?_)) | (apply AR.kBuildS; first | refine AR.sBuildT (h := ?_) | refine AR.sBuildS (h := ?_)) | (apply AR.kApp; first | refine AR.sGrowT (h := ?_) | refine AR.sNewT (h := ?_) | refine AR.sGrowBT (h := ?_) | refine AR.sGrow (h := ?_) | refine AR.sNewr (h := ?_)) | (apply AR.kIx; first | refine AR.sIxN (h := ?_) | refine AR.sIx (h := ?_) | refine AR.sP (h := ?_) | refine AR.sPi (h := ?_)) | (apply AR.kSl; first | refine AR.sSl (h := ?_) | refine AR.sSlArr (h := ?_) | refine AR.sP (h := ?_)) | (apply AR.kBox; refine AR.sBox (h := ?_)) | (apply AR.kAlloc; refine AR.sAlloc (h := ?_)) | (apply AR.kStore; refine AR.sStore (h := ?_)) | (apply AR.kAdd; refine AR.sAdd (h := ?_)) | (apply AR.kSub; refine AR.sSub (h := ?_)) | (apply AR.kCv; refine AR.sStrR (h := ?_)) | (apply AR.kP; first | refine AR.sP (h := ?_) | refine AR.sPi (h := ?_) | refine AR.sArrB (h := ?_) | refine AR.sLoadA (h := ?_) | refine AR.sEqArr (heg := eqgArr) (h := ?_)))
    | (apply AR.kNil; refine AR.sNil (h := ?_)))
  · have h4 := i4 (b := b) (by assumption)
    (refine AW.ret (hD rfl ?_); (repeat' (first | apply Lx.s | apply Lx.b | apply Lx.i | apply LxL.cons | exact LxL.nil | apply Lx.tup | apply Lx.agg | apply Lx.refl)) <;> (try with_reducible rfl))
    rw [h4.1]
    simp only [fitsS, h4.2, decide_true, Bool.true_and]
    rw [take4_eq (by rw [List.length_drop]; omega), List.take_of_length_le (l := b.drop _) (by rw [List.length_drop]; omega)]
  · (refine AW.ret (hD rfl ?_); (repeat' (first | apply Lx.s | apply Lx.b | apply Lx.i | apply LxL.cons | exact LxL.nil | apply Lx.tup | apply Lx.agg | apply Lx.refl)) <;> (try with_reducible rfl))
    have : ¬ 4 ≤ b.length := by rw [BS_len] at *; omega
    simp [fitsS, this]
theorem fits_mark (b : L) (h : 4 ≤ b.length) : (markS (b.take (b.length - 4)) == b) = (bytesS (sumS (b.take (b.length - 4))) == b.drop (b.length - 4)) := by
  rw [Bool.eq_iff_iff]
  simp only [beq_iff_eq, markS]
  generalize bytesS (sumS (b.take (b.length - 4))) = q
  constructor
  · intro e
    have := congrArg (List.drop (b.length - 4)) e
    rw [List.drop_left' (by simp)] at this
    exact this
  · intro e
    rw [e, List.take_append_drop]
theorem gFits' (b : L) (hb : b.length ≤ 100000) : Good Try.prog 28 [.sh 1 (BS b)] [] (.b (fitsS b)) [] := by
  refine Good.w tabOk mixed Try.func28 (N := 18) (by kernel_rfl) rfl (by (repeat (first | exact LE.nil | apply LE.cons)); done) (by (repeat (first | exact LE.nil | apply LE.cons)); done) fun D hD F => ?_
  repeat' (first
    | apply AO.nil
    | (apply AO.kCall 26; refine AO.sCall (hg := (gMark' _ sd)) (h := ?_))
    | (apply AO.kBuildS; first | refine AO.sBuildT (h := ?_) | refine AO.sBuildS (h := ?_))
    | (apply AO.kApp; first | refine AO.sGrowT (h := ?_) | refine AO.sNewT (h := ?_) | refine AO.sGrowBT (h := ?_) | refine AO.sGrow (h := ?_) | refine AO.sNewr (h := ?_))
    | (apply AO.kIx; first | refine AO.sIxN (h := ?_) | refine AO.sIx (h := ?_) | refine AO.sP (h := ?_) | refine AO.sPi (h := ?_))
    | (apply AO.kSl; first | refine AO.sSl (h := ?_) | refine AO.sSlArr (h := ?_) | refine AO.sP (h := ?_))
    | (apply AO.kBox; refine AO.sBox (h := ?_))
    | (apply AO.kAlloc; refine AO.sAlloc (h := ?_))
    | (apply AO.kStore; first | refine AO.sStore (h := ?_) | refine AO.sStB (h := ?_))
    | (apply AO.kAdd; refine AO.sAdd (h := ?_))
    | (apply AO.kSub; refine AO.sSub (h := ?_))
    | (apply AO.kCv; first | refine AO.sBytes (h := ?_) | refine AO.sStr (h := ?_) | refine AO.sStrR (h := ?_))
    | (apply AO.kP; first | refine AO.sP (h := ?_) | refine AO.sPi (h := ?_) | refine AO.sLoadB (h := ?_) | refine AO.sSameB (h := ?_) | refine AO.sMk0 (h := ?_) | refine AO.sArrB (h := ?_) | refine AO.sLoadA (h := ?_) | refine AO.sEqArr (heg := eqgArr) (h := ?_))
    | (apply AO.kP; refine AO.eqNil (h1 := fun h => ?_) (h2 := ?_))
    | apply AW.seq
    | (apply AW.kR; refine AW.sR (h := ?_))
    | apply AW.skip
    | apply AW.block
    | apply AW.out
    | (apply AW.kE; refine AW.sE (h := ?_))
    | apply AW.label
    | (apply AW.kRd; refine AW.sRd (h := ?_))
    | ((first | (apply AO.kG; first | refine AO.sgt (h1 := fun h => ?_) (h2 := fun h => ?_) | refine AO.sgf (h1 := fun h => ?_) (h2 := fun h => ?_) | refine AO.sgs (h := ?_)) | (apply AW.kC; refine AW.sC (h1 := fun h => ?_) (h2 := fun h => ?_)) | (apply AR.kAny; apply AR.kG; first | refine AR.sgt (h1 := fun h => ?_) (h2 := fun h => ?_) | refine AR.sgf (h1 := fun h => ?_) (h2 := fun h => ?_) | refine AR.sgs (h := ?_))) <;> (try (first | exact Bool.noConfusion h | exact absurd h (by decide) | (simp at h; done) | (rw [h]; try simp only [decide_eq_true_eq, decide_eq_false_iff_not, Int.not_lt, Int.not_le, ge_iff_le, gt_iff_lt, Bool.not_eq_true', Bool.not_eq_false', beq_iff_eq, beq_eq_false_iff_ne, ne_eq] at h; try rw [h]; try (exfalso; omega)) | skip)))
    | (apply AR.kAny; first | (apply AR.kCall 26; refine AR.sCall (hg := (gMark' _ sd)) (h := ?_)) | (apply AR.kBuildS; first | refine AR.sBuildT (h := ?_) | refine AR.sBuildS (h := ?_)) | (apply AR.kApp; first | refine AR.sGrowT (h := ?_) | refine AR.sNewT (h := ?_) | refine AR.sGrowBT (h := ?_) | refine AR.sGrow (h := ?_) | refine AR.sNewr (h := ?_)) | (apply AR.kIx; first | refine AR.sIxN (h := ?_) | refine AR.sIx (h := ?_) | refine AR.sP (h := ?_) | refine AR.sPi (h := ?_)) | (apply AR.kSl; first | refine AR.sSl (h := ?_) | refine AR.sSlArr (h := ?_) | refine AR.sP (h := ?_)) | (apply AR.kBox; refine AR.sBox (h := ?_)) | (apply AR.kAlloc; refine AR.sAlloc (h := ?_)) | (apply AR.kStore; refine AR.sStore (h := ?_)) | (apply AR.kAdd; refine AR.sAdd (h := ?_)) | (apply AR.kSub; refine AR.sSub (h := ?_)) | (apply AR.kCv; refine AR.sStrR (h := ?_)) | (apply AR.kP; first | refine AR.sP (h := ?_) | refine AR.sPi (h := ?_) | refine AR.sArrB (h := ?_) | refine AR.sLoadA (h := ?_) | refine AR.sEqArr (heg := eqgArr) (h := ?_)))
    | (apply AR.kNil; refine AR.sNil (h := ?_)))
  · have h4 := i4 (b := b) (by rw [BS_len] at *; omega)
    (refine AW.ret (hD rfl ?_); (repeat' (first | apply Lx.s | apply Lx.b | apply Lx.i | apply LxL.cons | exact LxL.nil | apply Lx.tup | apply Lx.agg | apply Lx.refl)) <;> (try with_reducible rfl))
    rw [h4.1, fits_mark b h4.2]
    simp [fitsS, h4.2]
  · (refine AW.ret (hD rfl ?_); (repeat' (first | apply Lx.s | apply Lx.b | apply Lx.i | apply LxL.cons | exact LxL.nil | apply Lx.tup | apply Lx.agg | apply Lx.refl)) <;> (try with_reducible rfl))
    have : ¬ 4 ≤ b.length := by rw [BS_len] at *; omega
    simp [fitsS, this]
theorem fits_marks (b : L) : fitsS (markS b) = true := by
  have h1 : (markS b).length - 4 = b.length := by rw [markS_len]; omega
  have h2 : 4 ≤ (markS b).length := by rw [markS_len]; omega
  rw [fitsS, h1]
  simp only [h2, decide_true, Bool.true_and]
  simp [markS]
theorem lEnds (b : L) : Good Try.prog 5 [.sh 1 (BS b)] [] (.b true) [] := by
  have h1 := markS_len b
  refine Good.w tabOk mixed Try.func5 (N := 16) (by kernel_rfl) rfl (by (repeat (first | exact LE.nil | apply LE.cons)); done) (by (repeat (first | exact LE.nil | apply LE.cons)); done) fun D hD F => ?_
  repeat' (first
    | apply AO.nil
    | (apply AO.kCall 12; refine AO.sCall (hg := gAwake1) (h := ?_))
    | (apply AO.kCall 17; refine AO.sCall (hg := (gMarkS _ sd)) (h := ?_))
    | (apply AO.kCall 13; refine AO.sCall (hg := (gSum _ sd)) (h := ?_))
    | (apply AO.kBuildS; first | refine AO.sBuildT (h := ?_) | refine AO.sBuildS (h := ?_))
    | (apply AO.kApp; first | refine AO.sGrowT (h := ?_) | refine AO.sNewT (h := ?_) | refine AO.sGrowBT (h := ?_) | refine AO.sGrow (h := ?_) | refine AO.sNewr (h := ?_))
    | (apply AO.kIx; first | refine AO.sIxN (h := ?_) | refine AO.sIx (h := ?_) | refine AO.sP (h := ?_) | refine AO.sPi (h := ?_))
    | (apply AO.kSl; first | refine AO.sSl (h := ?_) | refine AO.sSlArr (h := ?_) | refine AO.sP (h := ?_))
    | (apply AO.kBox; refine AO.sBox (h := ?_))
    | (apply AO.kAlloc; refine AO.sAlloc (h := ?_))
    | (apply AO.kStore; first | refine AO.sStore (h := ?_) | refine AO.sStB (h := ?_))
    | (apply AO.kAdd; refine AO.sAdd (h := ?_))
    | (apply AO.kSub; refine AO.sSub (h := ?_))
    | (apply AO.kCv; first | refine AO.sBytes (h := ?_) | refine AO.sStr (h := ?_) | refine AO.sStrR (h := ?_))
    | (apply AO.kP; first | refine AO.sP (h := ?_) | refine AO.sPi (h := ?_) | refine AO.sLoadB (h := ?_) | refine AO.sSameB (h := ?_) | refine AO.sMk0 (h := ?_) | refine AO.sArrB (h := ?_) | refine AO.sLoadA (h := ?_) | refine AO.sEqArr (heg := eqgArr) (h := ?_))
    | (apply AO.kP; refine AO.eqNil (h1 := fun h => ?_) (h2 := ?_))
    | apply AW.seq
    | (apply AW.kR; refine AW.sR (h := ?_))
    | apply AW.skip
    | apply AW.block
    | apply AW.out
    | (apply AW.kE; refine AW.sE (h := ?_))
    | apply AW.label
    | (apply AW.kRd; refine AW.sRd (h := ?_))
    | ((first | (apply AO.kG; first | refine AO.sgt (h1 := fun h => ?_) (h2 := fun h => ?_) | refine AO.sgf (h1 := fun h => ?_) (h2 := fun h => ?_) | refine AO.sgs (h := ?_)) | (apply AW.kC; refine AW.sC (h1 := fun h => ?_) (h2 := fun h => ?_)) | (apply AR.kAny; apply AR.kG; first | refine AR.sgt (h1 := fun h => ?_) (h2 := fun h => ?_) | refine AR.sgf (h1 := fun h => ?_) (h2 := fun h => ?_) | refine AR.sgs (h := ?_))) <;> (try (first | exact Bool.noConfusion h | exact absurd h (by decide) | (simp at h; done) | (rw [h]; try simp only [decide_eq_true_eq, decide_eq_false_iff_not, Int.not_lt, Int.not_le, ge_iff_le, gt_iff_lt, Bool.not_eq_true', Bool.not_eq_false', beq_iff_eq, beq_eq_false_iff_ne, ne_eq] at h; try rw [h]; try (exfalso; omega)) | skip)))
    | (apply AR.kAny; first | (apply AR.kCall 12; refine AR.sCall (hg := gAwake1) (h := ?_)) | (apply AR.kCall 17; refine AR.sCall (hg := (gMarkS _ sd)) (h := ?_)) | (apply AR.kCall 13; refine AR.sCall (hg := (gSum _ sd)) (h := ?_)) | (apply AR.kBuildS; first | refine AR.sBuildT (h := ?_) | refine AR.sBuildS (h := ?_)) | (apply AR.kApp; first | refine AR.sGrowT (h := ?_) | refine AR.sNewT (h := ?_) | refine AR.sGrowBT (h := ?_) | refine AR.sGrow (h := ?_) | refine AR.sNewr (h := ?_)) | (apply AR.kIx; first | refine AR.sIxN (h := ?_) | refine AR.sIx (h := ?_) | refine AR.sP (h := ?_) | refine AR.sPi (h := ?_)) | (apply AR.kSl; first | refine AR.sSl (h := ?_) | refine AR.sSlArr (h := ?_) | refine AR.sP (h := ?_)) | (apply AR.kBox; refine AR.sBox (h := ?_)) | (apply AR.kAlloc; refine AR.sAlloc (h := ?_)) | (apply AR.kStore; refine AR.sStore (h := ?_)) | (apply AR.kAdd; refine AR.sAdd (h := ?_)) | (apply AR.kSub; refine AR.sSub (h := ?_)) | (apply AR.kCv; refine AR.sStrR (h := ?_)) | (apply AR.kP; first | refine AR.sP (h := ?_) | refine AR.sPi (h := ?_) | refine AR.sArrB (h := ?_) | refine AR.sLoadA (h := ?_) | refine AR.sEqArr (heg := eqgArr) (h := ?_)))
    | (apply AR.kNil; refine AR.sNil (h := ?_)))
  all_goals (refine AW.ret (hD rfl ?_); (repeat' (first | apply Lx.s | apply Lx.b | apply Lx.i | apply LxL.cons | exact LxL.nil | apply Lx.tup | apply Lx.agg | apply Lx.refl)) <;> (try with_reducible rfl))
  all_goals (exfalso; rename_i h; exact h (congrArg wi (sum_mark b)))
theorem lMarks (b : L) : Good Try.prog 7 [.sh 1 (BS b)] [] (.b true) [] := by
  have h1 := markS_len b
  have h2 := fits_marks b
  refine Good.w tabOk mixed Try.func7 (N := 30) (by kernel_rfl) rfl (by (repeat (first | exact LE.nil | apply LE.cons)); done) (by (repeat (first | exact LE.nil | apply LE.cons)); done) fun D hD F => ?_
  repeat' (first
    | apply AO.nil
    | (apply AO.kCall 12; refine AO.sCall (hg := gAwake1) (h := ?_))
    | (apply AO.kCall 17; refine AO.sCall (hg := (gMarkS _ sd)) (h := ?_))
    | (apply AO.kCall 26; refine AO.sCall (hg := (gMark' _ sd)) (h := ?_))
    | (apply AO.kCall 27; refine AO.sCall (hg := (gFits _ sd)) (h := ?_))
    | (apply AO.kCall 28; refine AO.sCall (hg := (gFits' _ sd)) (h := ?_))
    | (apply AO.kBuildS; first | refine AO.sBuildT (h := ?_) | refine AO.sBuildS (h := ?_))
    | (apply AO.kApp; first | refine AO.sGrowT (h := ?_) | refine AO.sNewT (h := ?_) | refine AO.sGrowBT (h := ?_) | refine AO.sGrow (h := ?_) | refine AO.sNewr (h := ?_))
    | (apply AO.kIx; first | refine AO.sIxN (h := ?_) | refine AO.sIx (h := ?_) | refine AO.sP (h := ?_) | refine AO.sPi (h := ?_))
    | (apply AO.kSl; first | refine AO.sSl (h := ?_) | refine AO.sSlArr (h := ?_) | refine AO.sP (h := ?_))
    | (apply AO.kBox; refine AO.sBox (h := ?_))
    | (apply AO.kAlloc; refine AO.sAlloc (h := ?_))
    | (apply AO.kStore; first | refine AO.sStore (h := ?_) | refine AO.sStB (h := ?_))
    | (apply AO.kAdd; refine AO.sAdd (h := ?_))
    | (apply AO.kSub; refine AO.sSub (h := ?_))
    | (apply AO.kCv; first | refine AO.sBytes (h := ?_) | refine AO.sStr (h := ?_) | refine AO.sStrR (h := ?_))
    | (apply AO.kP; first | refine AO.sP (h := ?_) | refine AO.sPi (h := ?_) | refine AO.sLoadB (h := ?_) | refine AO.sSameB (h := ?_) | refine AO.sMk0 (h := ?_) | refine AO.sArrB (h := ?_) | refine AO.sLoadA (h := ?_) | refine AO.sEqArr (heg := eqgArr) (h := ?_))
    | (apply AO.kP; refine AO.eqNil (h1 := fun h => ?_) (h2 := ?_))
    | apply AW.seq
    | (apply AW.kR; refine AW.sR (h := ?_))
    | apply AW.skip
    | apply AW.block
    | apply AW.out
    | (apply AW.kE; refine AW.sE (h := ?_))
    | apply AW.label
    | (apply AW.kRd; refine AW.sRd (h := ?_))
    | ((first | (apply AO.kG; first | refine AO.sgt (h1 := fun h => ?_) (h2 := fun h => ?_) | refine AO.sgf (h1 := fun h => ?_) (h2 := fun h => ?_) | refine AO.sgs (h := ?_)) | (apply AW.kC; refine AW.sC (h1 := fun h => ?_) (h2 := fun h => ?_)) | (apply AR.kAny; apply AR.kG; first | refine AR.sgt (h1 := fun h => ?_) (h2 := fun h => ?_) | refine AR.sgf (h1 := fun h => ?_) (h2 := fun h => ?_) | refine AR.sgs (h := ?_))) <;> (try (first | exact Bool.noConfusion h | exact absurd h (by decide) | (simp at h; done) | (rw [h]; try simp only [decide_eq_true_eq, decide_eq_false_iff_not, Int.not_lt, Int.not_le, ge_iff_le, gt_iff_lt, Bool.not_eq_true', Bool.not_eq_false', beq_iff_eq, beq_eq_false_iff_ne, ne_eq] at h; try rw [h]; try (exfalso; omega)) | skip)))
    | (apply AR.kAny; first | (apply AR.kCall 12; refine AR.sCall (hg := gAwake1) (h := ?_)) | (apply AR.kCall 17; refine AR.sCall (hg := (gMarkS _ sd)) (h := ?_)) | (apply AR.kCall 26; refine AR.sCall (hg := (gMark' _ sd)) (h := ?_)) | (apply AR.kCall 27; refine AR.sCall (hg := (gFits _ sd)) (h := ?_)) | (apply AR.kCall 28; refine AR.sCall (hg := (gFits' _ sd)) (h := ?_)) | (apply AR.kBuildS; first | refine AR.sBuildT (h := ?_) | refine AR.sBuildS (h := ?_)) | (apply AR.kApp; first | refine AR.sGrowT (h := ?_) | refine AR.sNewT (h := ?_) | refine AR.sGrowBT (h := ?_) | refine AR.sGrow (h := ?_) | refine AR.sNewr (h := ?_)) | (apply AR.kIx; first | refine AR.sIxN (h := ?_) | refine AR.sIx (h := ?_) | refine AR.sP (h := ?_) | refine AR.sPi (h := ?_)) | (apply AR.kSl; first | refine AR.sSl (h := ?_) | refine AR.sSlArr (h := ?_) | refine AR.sP (h := ?_)) | (apply AR.kBox; refine AR.sBox (h := ?_)) | (apply AR.kAlloc; refine AR.sAlloc (h := ?_)) | (apply AR.kStore; refine AR.sStore (h := ?_)) | (apply AR.kAdd; refine AR.sAdd (h := ?_)) | (apply AR.kSub; refine AR.sSub (h := ?_)) | (apply AR.kCv; refine AR.sStrR (h := ?_)) | (apply AR.kP; first | refine AR.sP (h := ?_) | refine AR.sPi (h := ?_) | refine AR.sArrB (h := ?_) | refine AR.sLoadA (h := ?_) | refine AR.sEqArr (heg := eqgArr) (h := ?_)))
    | (apply AR.kNil; refine AR.sNil (h := ?_)))
  all_goals (refine AW.ret (hD rfl ?_); (repeat' (first | apply Lx.s | apply Lx.b | apply Lx.i | apply LxL.cons | exact LxL.nil | apply Lx.tup | apply Lx.agg | apply Lx.refl)) <;> (try with_reducible rfl))
  all_goals (exfalso; simp_all)
end Go.Proofs.Ytmgmeidfnapahaa.Mv
