/- What the statement CodecBegins needs, part 12. Under no condition. -/
import Derived.Test.YtmfonbehcfjjgaaMCodecBegins11
/- Nodes: ranges, the kid of a key. Under no condition. -/
namespace Go.Proofs.Ytmfonbehcfjjgaa.Mv
open Go Go.Proofs
set_option linter.unusedSimpArgs false
set_option linter.unusedVariables false
set_option maxRecDepth 10000
set_option maxHeartbeats 4000000
attribute [local irreducible] AW AO AR

/-- A kid's range. -/
def rgN (n : Nd) (i : Int) : L × L × Bool :=
  if i < 0 ∨ (n.kids.length : Int) ≤ i then ([], [], true)
  else ((if 0 < i ∧ i ≤ n.pivots.length then n.pivots.getD (i - 1).toNat default else []), (if i < n.pivots.length then n.pivots.getD i.toNat default else []), decide (i < n.pivots.length))
theorem gRange (n : Nd) (i : Int) (hs : n.small) (hi : -9223372036854775808 ≤ i ∧ i ≤ 9223372036854775807) : Good Try.prog 26 [.agg n.av, .i .i64 i] [] (.agg [.s (rgN n i).1, .s (rgN n i).2.1, .b (rgN n i).2.2]) [] := by
  have hs2 := hs.pivots; have hs3 := hs.kids
  have l2 : (n.pivots.map sav).length = n.pivots.length := by simp
  have l3 : (n.kids.map Ed.av).length = n.kids.length := by simp
  refine Good.w tabOk mixed Try.func26 (N := 45) (by kernel_rfl) rfl (by (repeat (first | exact LE.nil | apply LE.cons)); done) (by (repeat (first | exact LE.nil | apply LE.cons)); done) fun D hD F => ?_
  repeat' (first
    | apply AO.nil
    | (apply AO.kIx; first | refine AO.sIxN (h := ?_) | refine AO.sIx (h := ?_) | refine AO.sP (h := ?_) | refine AO.sPi (h := ?_))
    | (apply AO.kBox; refine AO.sBox (h := ?_))
    | (apply AO.kAlloc; refine AO.sAlloc (h := ?_))
    | (apply AO.kStore; first | refine AO.sStore (h := ?_) | refine AO.sStB (h := ?_))
    | (apply AO.kSub; refine AO.sSub (h := ?_))
    | (apply AO.kP; first | refine AO.sP (h := ?_) | refine AO.sPi (h := ?_) | refine AO.sLoadB (h := ?_))
    | apply AW.seq
    | (apply AW.kR; refine AW.sR (h := ?_))
    | apply AW.skip
    | apply AW.block
    | apply AW.out
    | (apply AW.kE; refine AW.sE (h := ?_))
    | apply AW.label
    | ((first | (apply AO.kG; first | refine AO.sgt (h1 := fun h => ?_) (h2 := fun h => ?_) | refine AO.sgf (h1 := fun h => ?_) (h2 := fun h => ?_) | refine AO.sgs (h := ?_)) | (apply AW.kC; refine AW.sC (h1 := fun h => ?_) (h2 := fun h => ?_))) <;> (try (first | exact Bool.noConfusion h | exact absurd h (by decide) | (simp at h; done) | (rw [h]; try simp only [nrm] at h; try rw [h]; try (exfalso; omega)) | skip))))
  all_goals (refine AW.ret (hD rfl ?_); (repeat' (first | apply Lx.s | apply Lx.b | apply Lx.i | apply LxL.cons | exact LxL.nil | apply Lx.tup | apply Lx.agg | apply Lx.refl)) <;> (try with_reducible rfl))
  all_goals (simp only [rgN]; repeat' split)
  all_goals (first | rfl | (exfalso; omega) | (symm; apply decide_eq_true; omega) | (symm; apply decide_eq_false; omega))
theorem gRange' (n : Nd) (i : Int) (hs : n.small) (hi : -9223372036854775808 ≤ i ∧ i ≤ 9223372036854775807) : Good Try.prog 27 [.agg n.av, .i .i64 i] [] (.agg [.s (rgN n i).1, .s (rgN n i).2.1, .b (rgN n i).2.2]) [] := by
  have hs2 := hs.pivots; have hs3 := hs.kids
  have l2 : (n.pivots.map sav).length = n.pivots.length := by simp
  have l3 : (n.kids.map Ed.av).length = n.kids.length := by simp
  refine Good.w tabOk mixed Try.func27 (N := 47) (by kernel_rfl) rfl (by (repeat (first | exact LE.nil | apply LE.cons)); done) (by (repeat (first | exact LE.nil | apply LE.cons)); done) fun D hD F => ?_
  repeat' (first
    | apply AO.nil
    | (apply AO.kIx; first | refine AO.sIxN (h := ?_) | refine AO.sIx (h := ?_) | refine AO.sP (h := ?_) | refine AO.sPi (h := ?_))
    | (apply AO.kBox; refine AO.sBox (h := ?_))
    | (apply AO.kAlloc; refine AO.sAlloc (h := ?_))
    | (apply AO.kStore; first | refine AO.sStore (h := ?_) | refine AO.sStB (h := ?_))
    | (apply AO.kSub; refine AO.sSub (h := ?_))
    | (apply AO.kP; first | refine AO.sP (h := ?_) | refine AO.sPi (h := ?_) | refine AO.sLoadB (h := ?_))
    | apply AW.seq
    | (apply AW.kR; refine AW.sR (h := ?_))
    | apply AW.skip
    | apply AW.block
    | apply AW.out
    | (apply AW.kE; refine AW.sE (h := ?_))
    | apply AW.label
    | ((first | (apply AO.kG; first | refine AO.sgt (h1 := fun h => ?_) (h2 := fun h => ?_) | refine AO.sgf (h1 := fun h => ?_) (h2 := fun h => ?_) | refine AO.sgs (h := ?_)) | (apply AW.kC; refine AW.sC (h1 := fun h => ?_) (h2 := fun h => ?_))) <;> (try (first | exact Bool.noConfusion h | exact absurd h (by decide) | (simp at h; done) | (rw [h]; try simp only [nrm] at h; try rw [h]; try (exfalso; omega)) | skip))))
  all_goals (refine AW.ret (hD rfl ?_); (repeat' (first | apply Lx.s | apply Lx.b | apply Lx.i | apply LxL.cons | exact LxL.nil | apply Lx.tup | apply Lx.agg | apply Lx.refl)) <;> (try with_reducible rfl))
  all_goals (simp only [rgN]; repeat' split)
  all_goals (first | rfl | (exfalso; omega) | (symm; apply decide_eq_true; omega) | (symm; apply decide_eq_false; omega))

/-- Halving. -/
def bsr (f : Nat → Bool) : Nat → Nat → Nat → Nat
  | 0, i, _ => i
  | u + 1, i, j => if i < j then (if f ((i + j) / 2) = true then bsr f u i ((i + j) / 2) else bsr f u ((i + j) / 2 + 1) j) else i
theorem bsr_more (f : Nat → Bool) : ∀ (u v i j : Nat), j - i ≤ u → j - i ≤ v → bsr f u i j = bsr f v i j
  | 0, 0, _, _, _, _ => rfl
  | 0, v + 1, i, j, h, _ => by simp only [bsr]; rw [if_neg (by omega)]
  | u + 1, 0, i, j, _, h => by simp only [bsr]; rw [if_neg (by omega)]
  | u + 1, v + 1, i, j, h, h' => by
    simp only [bsr]
    split
    · split
      · exact bsr_more f u v _ _ (by omega) (by omega)
      · exact bsr_more f u v _ _ (by omega) (by omega)
    · rfl
def bs (f : Nat → Bool) (i j : Nat) : Nat := bsr f (j - i) i j
theorem bs_lo {f : Nat → Bool} {i j : Nat} (h : i < j) (hf : f ((i + j) / 2) = true) : bs f i j = bs f i ((i + j) / 2) := by
  obtain ⟨u, hu⟩ : ∃ u, j - i = u + 1 := ⟨j - i - 1, by omega⟩
  unfold bs
  rw [hu, bsr, if_pos h, if_pos hf]
  exact bsr_more f _ _ _ _ (by omega) (by omega)
theorem bs_hi {f : Nat → Bool} {i j : Nat} (h : i < j) (hf : f ((i + j) / 2) = false) : bs f i j = bs f ((i + j) / 2 + 1) j := by
  obtain ⟨u, hu⟩ : ∃ u, j - i = u + 1 := ⟨j - i - 1, by omega⟩
  unfold bs
  rw [hu, bsr, if_pos h, if_neg (by rw [hf]; simp)]
  exact bsr_more f _ _ _ _ (by omega) (by omega)
theorem bs_end {f : Nat → Bool} {i j : Nat} (h : ¬ i < j) : bs f i j = i := by
  have : j - i = 0 := by omega
  simp [bs, this, bsr]
theorem bs_ind {f : Nat → Bool} {P : Nat → Nat → Nat → Prop} (h1 : ∀ i j, ¬ i < j → P i j i) (h2 : ∀ i j r, i < j → f ((i + j) / 2) = true → P i ((i + j) / 2) r → P i j r) (h3 : ∀ i j r, i < j → f ((i + j) / 2) = false → P ((i + j) / 2 + 1) j r → P i j r) : ∀ n i j, j - i ≤ n → P i j (bs f i j) := by
  intro n
  induction n with
  | zero => intro i j h; rw [bs_end (by omega)]; exact h1 _ _ (by omega)
  | succ n ih =>
    intro i j h
    by_cases hij : i < j
    · cases hf : f ((i + j) / 2) with
      | true => rw [bs_lo hij hf]; exact h2 _ _ _ hij hf (ih _ _ (by omega))
      | false => rw [bs_hi hij hf]; exact h3 _ _ _ hij hf (ih _ _ (by omega))
    · rw [bs_end hij]; exact h1 _ _ hij
/-- What is found where it holds from some place on. -/
theorem bs_spec {f : Nat → Bool} (hm : ∀ a b, a ≤ b → f a = true → f b = true) (n : Nat) : bs f 0 n ≤ n ∧ (∀ i, i < bs f 0 n → f i = false) ∧ (bs f 0 n < n → f (bs f 0 n) = true) := by
  have key := bs_ind (f := f) (P := fun i j r => (∀ a, a < i → f a = false) → i ≤ j → r ≤ j ∧ (∀ a, a < r → f a = false) ∧ (r < j → f r = true))
    (fun i j h hlo hij => ⟨by omega, hlo, fun h' => by omega⟩)
    (fun i j r hij hf h hlo _ => by
      obtain ⟨q1, q2, q3⟩ := h hlo (by omega)
      refine ⟨by omega, q2, fun hr => ?_⟩
      by_cases e : r < (i + j) / 2
      · exact q3 e
      · have : r = (i + j) / 2 := by omega
        rw [this]; exact hf)
    (fun i j r hij hf h hlo _ => by
      obtain ⟨q1, q2, q3⟩ := h (fun a ha => by
        cases hfa : f a with
        | false => rfl
        | true => rw [hm a ((i + j) / 2) (by omega) hfa] at hf; cases hf) (by omega)
      exact ⟨q1, q2, q3⟩) n 0 n (by omega)
  exact key (fun a ha => by omega) (by omega)
theorem half_wrap {i j : Nat} (h : i + j ≤ 4000000) : IntKind.wrap .i64 (IntKind.wrap .u64 ((i : Int) + (j : Int)) / (2 : Int) ^ Int.toNat 1) = (((i + j) / 2 : Nat) : Int) := by
  have e1 : IntKind.wrap .u64 ((i : Int) + (j : Int)) = (i : Int) + (j : Int) := by
    simp only [IntKind.wrap, IntKind.bits, IntKind.signed, Bool.false_and, Bool.false_eq_true, if_false]; omega
  rw [e1, show (2 : Int) ^ Int.toNat 1 = 2 from rfl, wrap64 (by omega)]
  omega
def kidF (n : Nd) (k : L) (i : Nat) : Bool := lt k (n.pivots.getD i default)
theorem gKid1 (n : Nd) (k : L) (x : Int) (h : Nat) (e : x = (h : Int)) (hh : h < n.pivots.length) : Good Try.prog 64 [.i .i64 x, .pel n.av, .pel [.s k]] [] (.b (kidF n k h)) [] := by
  subst e
  refine Good.w tabOk mixed Try.func64 (N := 12) (by kernel_rfl) rfl (by (repeat (first | exact LE.nil | apply LE.cons)); done) (by (repeat (first | exact LE.nil | apply LE.cons)); done) fun D hD F => ?_
  repeat' (first
    | apply AO.nil
    | (apply AO.kIx; first | refine AO.sIxN (h := ?_) | refine AO.sIx (h := ?_) | refine AO.sP (h := ?_) | refine AO.sPi (h := ?_))
    | (apply AO.kP; first | refine AO.sP (h := ?_) | refine AO.sPi (h := ?_) | refine AO.sLoadB (h := ?_))
    | apply AW.seq
    | (apply AW.kR; refine AW.sR (h := ?_))
    | apply AW.skip
    | apply AW.block
    | apply AW.out
    | (apply AW.kE; refine AW.sE (h := ?_))
    | apply AW.label
    | (apply AW.kRd; refine AW.sRd (h := ?_))
    | (apply AR.kAny; first | (apply AR.kIx; first | refine AR.sIxN (h := ?_) | refine AR.sIx (h := ?_) | refine AR.sP (h := ?_) | refine AR.sPi (h := ?_)) | (apply AR.kP; first | refine AR.sP (h := ?_) | refine AR.sPi (h := ?_)))
    | (apply AR.kNil; refine AR.sNil (h := ?_)))
  all_goals (refine AW.ret (hD rfl ?_); (repeat' (first | apply Lx.s | apply Lx.b | apply Lx.i | apply LxL.cons | exact LxL.nil | apply Lx.tup | apply Lx.agg | apply Lx.refl)) <;> (try with_reducible rfl))
  all_goals simp [kidF, blt, le_iff]
theorem gSearch (n : Nd) (k : L) (hs : n.small) : Good Try.prog 63 [.i .i64 n.pivots.length, .clo 64 [.pel n.av, .pel [.s k]]] [] (.i .i64 (bs (kidF n k) 0 n.pivots.length)) [] := by
  have hs2 := hs.pivots
  refine Good.w tabOk mixed Try.func63 (N := 26) (by kernel_rfl) rfl (by (repeat (first | exact LE.nil | apply LE.cons)); done) (by (repeat (first | exact LE.nil | apply LE.cons)); done) fun D hD F => ?_
  repeat' (first
    | apply AO.nil
    | (apply AO.kAdd; refine AO.sAdd (h := ?_))
    | (apply AO.kCv; first | refine AO.sBytes (h := ?_) | refine AO.sStr (h := ?_) | refine AO.sStrR (h := ?_))
    | (apply AO.kP; first | refine AO.sP (h := ?_) | refine AO.sPi (h := ?_))
    | apply AW.seq
    | (apply AW.kR; refine AW.sR (h := ?_))
    | apply AW.skip
    | apply AW.block
    | apply AW.out
    | (apply AW.kE; refine AW.sE (h := ?_))
    | apply AW.label
    | ((first | (apply AW.kC; refine AW.sC (h1 := fun h => ?_) (h2 := fun h => ?_))) <;> (try (first | exact Bool.noConfusion h | exact absurd h (by decide) | (simp at h; done) | (rw [h]; try simp only [nrm] at h; try rw [h]; try (exfalso; omega)) | skip))))
  refine AW.loopI (fun x : Nat × Nat => x.1 ≤ x.2 ∧ x.2 ≤ n.pivots.length ∧ bs (kidF n k) x.1 x.2 = bs (kidF n k) 0 n.pivots.length) (fun x => ⟨[(1, .clo 64 [.pel n.av, .pel [.s k]]), (5, .i .i64 x.1), (6, .i .i64 x.2)], []⟩) (fun x => x.2 - x.1) (0, n.pivots.length) ⟨by simp, by simp, rfl⟩ (by (constructor <;> (repeat' (first | exact LeT.nil | exact LeB.nil | apply LeT.cons | apply LeB.cons | exact Ol.refl | apply Lx.s | apply Lx.b | apply Lx.i | exact Lx.refl)) <;> (first | rfl | assumption | omega | (simp only [List.length_map, BS_len]; done) | skip))) fun m ⟨i, j⟩ ⟨hij, hj, hc⟩ ih => ?_
  simp only at hij hj hc
  have e := half_wrap (i := i) (j := j) (by omega)
  repeat' (first
    | apply AO.nil
    | (apply AO.kCallV; refine AO.sCall (hg := (gKid1 _ _ _ _ e sd)) (h := ?_))
    | (apply AO.kAdd; refine AO.sAdd (h := ?_))
    | (apply AO.kCv; first | refine AO.sBytes (h := ?_) | refine AO.sStr (h := ?_) | refine AO.sStrR (h := ?_))
    | (apply AO.kP; first | refine AO.sP (h := ?_) | refine AO.sPi (h := ?_))
    | apply AW.seq
    | (apply AW.kR; refine AW.sR (h := ?_))
    | apply AW.skip
    | apply AW.block
    | apply AW.out
    | (apply AW.kE; refine AW.sE (h := ?_))
    | apply AW.label
    | ((first | (apply AW.kC; refine AW.sC (h1 := fun h => ?_) (h2 := fun h => ?_))) <;> (try (first | exact Bool.noConfusion h | exact absurd h (by decide) | (simp at h; done) | (rw [h]; try simp only [nrm] at h; try rw [h]; try (exfalso; omega)) | skip))))
  · have h' : kidF n k ((i + j) / 2) = false := by assumption
    have hlt : i < j := by omega
    have e' : IntKind.wrap .i64 (IntKind.wrap .u64 ((i : Int) + (j : Int)) / (2 : Int) ^ Int.toNat 1) + 1 = (((i + j) / 2 + 1 : Nat) : Int) := by rw [e]; omega
    exact ih ((i + j) / 2 + 1, j) _ ⟨by simp only; omega, by simp only; omega, by simp only; rw [← hc, bs_hi hlt h']⟩ (by simp only; omega) (by (constructor <;> (repeat' (first | exact LeT.nil | exact LeB.nil | apply LeT.cons | apply LeB.cons | exact Ol.refl | apply Lx.s | apply Lx.b | apply Lx.i | exact Lx.refl)) <;> (first | rfl | assumption | omega | (simp only [List.length_map, BS_len]; done) | skip)))
  · have h' : kidF n k ((i + j) / 2) = true := by assumption
    have hlt : i < j := by omega
    exact ih (i, (i + j) / 2) _ ⟨by simp only; omega, by simp only; omega, by simp only; rw [← hc, bs_lo hlt h']⟩ (by simp only; omega) (by (constructor <;> (repeat' (first | exact LeT.nil | exact LeB.nil | apply LeT.cons | apply LeB.cons | exact Ol.refl | apply Lx.s | apply Lx.b | apply Lx.i | exact Lx.refl)) <;> (first | rfl | assumption | omega | (simp only [List.length_map, BS_len]; done) | skip)))
  · refine AW.ret (hD rfl (Lx.i ?_))
    rw [← hc, bs_end (by omega)]
theorem gSearch' (n : Nd) (k : L) (hs : n.small) : Good Try.prog 63 [.i .i64 ((n.pivots.map sav).length : Nat), .clo 64 [.pel n.av, .pel [.s k]]] [] (.i .i64 (bs (kidF n k) 0 n.pivots.length)) [] := by
  rw [List.length_map]; exact gSearch n k hs
/-- The number of the kid of a key. -/
def kidN (n : Nd) (k : L) : Int := if (n.kids.length : Int) - 1 < ((bs (kidF n k) 0 n.pivots.length : Nat) : Int) then (n.kids.length : Int) - 1 else ((bs (kidF n k) 0 n.pivots.length : Nat) : Int)
theorem gKid (n : Nd) (k : L) (hs : n.small) : Good Try.prog 28 [.agg n.av, .s k] [] (.i .i64 (kidN n k)) [] := by
  have hs2 := hs.pivots; have hs3 := hs.kids
  have l2 : (n.pivots.map sav).length = n.pivots.length := by simp
  have l3 : (n.kids.map Ed.av).length = n.kids.length := by simp
  refine Good.w tabOk mixed Try.func28 (N := 17) (by kernel_rfl) rfl (by (repeat (first | exact LE.nil | apply LE.cons)); done) (by (repeat (first | exact LE.nil | apply LE.cons)); done) fun D hD F => ?_
  (repeat (first | apply AW.seq | apply AW.block)); apply AW.kR; refine AW.sR (h := ?_); repeat' (first
    | apply AO.nil
    | (apply AO.kBox; refine AO.sBox (h := ?_))
    | (apply AO.kSub; refine AO.sSub (h := ?_))
    | (apply AO.kP; first | refine AO.sP (h := ?_) | refine AO.sPi (h := ?_) | refine AO.sLoadB (h := ?_) | refine AO.sMk0 (h := ?_)))
  refine AW.freeze 2 (cs := n.av) (st' := ⟨[(2, .pel n.av), (3, .ptr 3 0)], [(3, .bx [.s k])]⟩) rfl rfl ⟨.cons Lx.fz (.cons .refl .nil), .cons .refl .nil⟩ ?_
  refine AW.freeze 3 (cs := [.s k]) (st' := ⟨[(2, .pel n.av), (3, .pel [.s k])], []⟩) rfl rfl ⟨.cons .refl (.cons Lx.fz .nil), .nil⟩ ?_
  repeat' (first
    | apply AO.nil
    | (apply AO.kCall 63; refine AO.sCall (hg := (gSearch' n k hs)) (h := ?_))
    | (apply AO.kBox; refine AO.sBox (h := ?_))
    | (apply AO.kSub; refine AO.sSub (h := ?_))
    | (apply AO.kP; first | refine AO.sP (h := ?_) | refine AO.sPi (h := ?_) | refine AO.sLoadB (h := ?_) | refine AO.sMk0 (h := ?_))
    | apply AW.seq
    | (apply AW.kR; refine AW.sR (h := ?_))
    | apply AW.skip
    | apply AW.block
    | apply AW.out
    | (apply AW.kE; refine AW.sE (h := ?_))
    | apply AW.label)
  (refine AW.ret (hD rfl ?_); (repeat' (first | apply Lx.s | apply Lx.b | apply Lx.i | apply LxL.cons | exact LxL.nil | apply Lx.tup | apply Lx.agg | apply Lx.refl)) <;> (try with_reducible rfl))
  rw [l3]; rfl
/-- The last kid in whose range a key is. -/
def kidL (n : Nd) (k : L) : Nat → Int
  | 0 => -1
  | q + 1 => if inR (rgN n q).1 (rgN n q).2.1 (rgN n q).2.2 k = true then (q : Int) else kidL n k q
theorem gKid' (n : Nd) (k : L) (hs : n.small) : Good Try.prog 105 [.agg n.av, .s k] [] (.i .i64 (kidL n k n.kids.length)) [] := by
  have hs2 := hs.pivots; have hs3 := hs.kids
  have l3 : (n.kids.map Ed.av).length = n.kids.length := by simp
  refine Good.w tabOk mixed Try.func105 (N := 21) (by kernel_rfl) rfl (by (repeat (first | exact LE.nil | apply LE.cons)); done) (by (repeat (first | exact LE.nil | apply LE.cons)); done) fun D hD F => ?_
  repeat' (first
    | apply AO.nil
    | (apply AO.kBox; refine AO.sBox (h := ?_))
    | (apply AO.kAdd; refine AO.sAdd (h := ?_))
    | (apply AO.kP; first | refine AO.sP (h := ?_) | refine AO.sPi (h := ?_) | refine AO.sLoadB (h := ?_))
    | apply AW.seq
    | (apply AW.kR; refine AW.sR (h := ?_))
    | apply AW.skip
    | apply AW.block
    | apply AW.out
    | (apply AW.kE; refine AW.sE (h := ?_))
    | apply AW.label
    | ((first | (apply AW.kC; refine AW.sC (h1 := fun h => ?_) (h2 := fun h => ?_))) <;> (try (first | exact Bool.noConfusion h | exact absurd h (by decide) | (simp at h; done) | (rw [h]; try simp only [nrm] at h; try rw [h]; try (exfalso; omega)) | skip))))
  refine AW.loopI (fun q : Nat => q ≤ n.kids.length) (fun q => ⟨[(1, .s k), (2, .ptr 2 0), (5, .i .i64 (kidL n k q)), (9, .i .i64 n.kids.length), (10, .i .i64 q)], [(2, .bx n.av)]⟩) (fun q => n.kids.length - q) 0 (by simp) (by (constructor <;> (repeat' (first | exact LeT.nil | exact LeB.nil | apply LeT.cons | apply LeB.cons | exact Ol.refl | apply Lx.s | apply Lx.b | apply Lx.i | exact Lx.refl)) <;> (first | rfl | assumption | omega | (simp only [List.length_map, BS_len]; done) | skip))) fun m q hn ih => ?_
  repeat' (first
    | apply AO.nil
    | (apply AO.kCall 27; refine AO.sCall (hg := (gRange' n _ hs sd)) (h := ?_))
    | (apply AO.kCall 29; refine AO.sCall (hg := (gIn' _ _ _ _)) (h := ?_))
    | (apply AO.kBox; refine AO.sBox (h := ?_))
    | (apply AO.kAdd; refine AO.sAdd (h := ?_))
    | (apply AO.kP; first | refine AO.sP (h := ?_) | refine AO.sPi (h := ?_) | refine AO.sLoadB (h := ?_))
    | apply AW.seq
    | (apply AW.kR; refine AW.sR (h := ?_))
    | apply AW.skip
    | apply AW.block
    | apply AW.out
    | (apply AW.kE; refine AW.sE (h := ?_))
    | apply AW.label
    | ((first | (apply AW.kC; refine AW.sC (h1 := fun h => ?_) (h2 := fun h => ?_))) <;> (try (first | exact Bool.noConfusion h | exact absurd h (by decide) | (simp at h; done) | (rw [h]; try simp only [nrm] at h; try rw [h]; try (exfalso; omega)) | skip))))
  · have h : inR (rgN n q).1 (rgN n q).2.1 (rgN n q).2.2 k = true := by assumption
    have e : (q : Int) = kidL n k (q + 1) := by simp [kidL, h]
    exact ih (q + 1) _ (by omega) (by omega) (by (constructor <;> (repeat' (first | exact LeT.nil | exact LeB.nil | apply LeT.cons | apply LeB.cons | exact Ol.refl | apply Lx.s | apply Lx.b | apply Lx.i | exact Lx.refl)) <;> (first | rfl | assumption | omega | (simp only [List.length_map, BS_len]; done) | skip)))
  · have h : inR (rgN n q).1 (rgN n q).2.1 (rgN n q).2.2 k = false := by assumption
    have e : kidL n k q = kidL n k (q + 1) := by simp [kidL, h]
    exact ih (q + 1) _ (by omega) (by omega) (by (constructor <;> (repeat' (first | exact LeT.nil | exact LeB.nil | apply LeT.cons | apply LeB.cons | exact Ol.refl | apply Lx.s | apply Lx.b | apply Lx.i | exact Lx.refl)) <;> (first | rfl | assumption | omega | (simp only [List.length_map, BS_len]; done) | skip)))
  · (refine AW.ret (hD rfl ?_); (repeat' (first | apply Lx.s | apply Lx.b | apply Lx.i | apply LxL.cons | exact LxL.nil | apply Lx.tup | apply Lx.agg | apply Lx.refl)) <;> (try with_reducible rfl))
    rw [show q = n.kids.length by omega]

/-! ### a leaf's pair -/
def cmpS (a k : L) : Int := if lt a k = true then -1 else if lt k a = true then 1 else 0
theorem gCmp (p : Pr) (k : L) : Good Try.prog 59 [.agg p.av, .s k] [] (.i .i64 (cmpS p.k k)) [] := by
  refine Good.w tabOk mixed Try.func59 (N := 15) (by kernel_rfl) rfl (by (repeat (first | exact LE.nil | apply LE.cons)); done) (by (repeat (first | exact LE.nil | apply LE.cons)); done) fun D hD F => ?_
  repeat' (first
    | apply AO.nil
    | (apply AO.kBox; refine AO.sBox (h := ?_))
    | (apply AO.kP; first | refine AO.sP (h := ?_) | refine AO.sPi (h := ?_) | refine AO.sLoadB (h := ?_))
    | apply AW.seq
    | (apply AW.kR; refine AW.sR (h := ?_))
    | apply AW.skip
    | apply AW.block
    | apply AW.out
    | (apply AW.kE; refine AW.sE (h := ?_))
    | apply AW.label
    | ((first | (apply AW.kC; refine AW.sC (h1 := fun h => ?_) (h2 := fun h => ?_))) <;> (try (first | exact Bool.noConfusion h | exact absurd h (by decide) | (simp at h; done) | (rw [h]; try simp only [nrm] at h; try rw [h]; try (exfalso; omega)) | skip))))
  all_goals (refine AW.ret (hD rfl ?_); (repeat' (first | apply Lx.s | apply Lx.b | apply Lx.i | apply LxL.cons | exact LxL.nil | apply Lx.tup | apply Lx.agg | apply Lx.refl)) <;> (try with_reducible rfl))
  all_goals (rcases lt_total p.k k with h9 | h9 | h9)
  all_goals (first | (have h8 := lt_asymm h9; simp only [lt] at h9 h8; simp_all [cmpS, blt, le_iff, lt]; done) | (subst h9; have h8 := lt_irrefl p.k; simp only [lt] at h8; simp_all [cmpS, blt, le_iff, lt]; done) | (have h8 := lt_asymm h9; have h7 : ¬ p.k = k := fun e => by (rw [e, lt_irrefl] at h9; cases h9); simp only [lt] at h9 h8; simp_all [cmpS, blt, le_iff, lt]; done))
theorem cmp_lt (a k : L) : (cmpS a k < 0) ↔ lt a k = true := by
  unfold cmpS; split
  · rename_i h; simp [h]
  · rename_i h; split <;> simp [h]
theorem cmp_eq (a k : L) : (cmpS a k == 0) = (a == k) := by
  rcases lt_total a k with h | h | h
  · have : ¬ a = k := fun e => by rw [e, lt_irrefl] at h; cases h
    simp [cmpS, h, this]
  · subst h; simp [cmpS, lt_irrefl]
  · have : ¬ a = k := fun e => by rw [e, lt_irrefl] at h; cases h
    simp [cmpS, h, lt_asymm h, this]
def prF (l : List Pr) (k : L) (i : Nat) : Bool := !lt (l.getD i default).k k
theorem gFindP (l : List Pr) (k : L) (hl : l.length ≤ 1000000) : Good Try.prog 58 [.sh 2 (l.map Pr.av), .s k, .clo 59 []] [] (.tup [.i .i64 (bs (prF l k) 0 l.length), .b (decide (bs (prF l k) 0 l.length < l.length) && ((l.getD (bs (prF l k) 0 l.length) default).k == k))]) [] := by
  have ll : (l.map Pr.av).length = l.length := by simp
  refine Good.w tabOk mixed Try.func58 (N := 49) (by kernel_rfl) rfl (by (repeat (first | exact LE.nil | apply LE.cons)); done) (by (repeat (first | exact LE.nil | apply LE.cons)); done) fun D hD F => ?_
  repeat' (first
    | apply AO.nil
    | (apply AO.kIx; first | refine AO.sIxN (h := ?_) | refine AO.sIx (h := ?_) | refine AO.sP (h := ?_) | refine AO.sPi (h := ?_))
    | (apply AO.kAdd; refine AO.sAdd (h := ?_))
    | (apply AO.kCv; first | refine AO.sBytes (h := ?_) | refine AO.sStr (h := ?_) | refine AO.sStrR (h := ?_))
    | (apply AO.kP; first | refine AO.sP (h := ?_) | refine AO.sPi (h := ?_) | refine AO.sLoadB (h := ?_))
    | apply AW.seq
    | (apply AW.kR; refine AW.sR (h := ?_))
    | apply AW.skip
    | apply AW.block
    | apply AW.out
    | (apply AW.kE; refine AW.sE (h := ?_))
    | apply AW.label
    | ((first | (apply AO.kG; first | refine AO.sgt (h1 := fun h => ?_) (h2 := fun h => ?_) | refine AO.sgf (h1 := fun h => ?_) (h2 := fun h => ?_) | refine AO.sgs (h := ?_)) | (apply AW.kC; refine AW.sC (h1 := fun h => ?_) (h2 := fun h => ?_))) <;> (try (first | exact Bool.noConfusion h | exact absurd h (by decide) | (simp at h; done) | (rw [h]; try simp only [nrm] at h; try rw [h]; try (exfalso; omega)) | skip))))
  refine AW.loopI (fun x : Nat × Nat => x.1 ≤ x.2 ∧ x.2 ≤ l.length ∧ bs (prF l k) x.1 x.2 = bs (prF l k) 0 l.length) (fun x => ⟨[(0, .sh 2 (l.map Pr.av)), (1, .s k), (2, .clo 59 []), (8, .i .i64 l.length), (9, .i .i64 x.1), (10, .i .i64 x.2)], []⟩) (fun x => x.2 - x.1) (0, l.length) ⟨by simp, by simp, rfl⟩ (by (constructor <;> (repeat' (first | exact LeT.nil | exact LeB.nil | apply LeT.cons | apply LeB.cons | exact Ol.refl | apply Lx.s | apply Lx.b | apply Lx.i | exact Lx.refl)) <;> (first | rfl | assumption | omega | (simp only [List.length_map, BS_len]; done) | skip))) fun m ⟨i, j⟩ ⟨hij, hj, hc⟩ ih => ?_
  simp only at hij hj hc
  have e := half_wrap (i := i) (j := j) (by omega)
  repeat' (first
    | apply AO.nil
    | (apply AO.kCallV; refine AO.sCall (hg := (gCmp _ _)) (h := ?_))
    | (apply AO.kIx; first | refine AO.sIxN (hm := by first | decide | omega | (rw [e]; omega) | (exact ⟨by rw [e]; omega, by rw [e]; omega⟩)) (h := ?_) | refine AO.sIx (hm := by first | decide | omega | (rw [e]; omega) | (exact ⟨by rw [e]; omega, by rw [e]; omega⟩)) (h := ?_) | refine AO.sP (h := ?_) | refine AO.sPi (hq := by first | decide | omega | (rw [e]; omega) | (exact ⟨by rw [e]; omega, by rw [e]; omega⟩)) (h := ?_))
    | (apply AO.kAdd; refine AO.sAdd (hr := by first | decide | omega | (rw [e]; omega) | (exact ⟨by rw [e]; omega, by rw [e]; omega⟩)) (h := ?_))
    | (apply AO.kCv; first | refine AO.sBytes (h := ?_) | refine AO.sStr (h := ?_) | refine AO.sStrR (h := ?_))
    | (apply AO.kP; first | refine AO.sP (h := ?_) | refine AO.sPi (hq := by first | decide | omega | (rw [e]; omega) | (exact ⟨by rw [e]; omega, by rw [e]; omega⟩)) (h := ?_) | refine AO.sLoadB (ho := by first | decide | omega | (rw [e]; omega) | (exact ⟨by rw [e]; omega, by rw [e]; omega⟩)) (h := ?_))
    | apply AW.seq
    | (apply AW.kR; refine AW.sR (h := ?_))
    | apply AW.skip
    | apply AW.block
    | apply AW.out
    | (apply AW.kE; refine AW.sE (h := ?_))
    | apply AW.label
    | ((first | (apply AO.kG; first | refine AO.sgt (h1 := fun h => ?_) (h2 := fun h => ?_) | refine AO.sgf (h1 := fun h => ?_) (h2 := fun h => ?_) | refine AO.sgs (h := ?_)) | (apply AW.kC; refine AW.sC (h1 := fun h => ?_) (h2 := fun h => ?_))) <;> (try (first | exact Bool.noConfusion h | exact absurd h (by decide) | (simp at h; done) | (rw [h]; try simp only [nrm] at h; try rw [h]; try (exfalso; omega)) | skip))))
  · have h : cmpS (l.getD (IntKind.wrap .i64 (IntKind.wrap .u64 ((i : Int) + (j : Int)) / (2 : Int) ^ Int.toNat 1)).toNat default).k k < 0 := by assumption
    rw [cmp_lt, e] at h
    have h' : prF l k ((i + j) / 2) = false := by simp only [prF, Bool.not_eq_false']; exact h
    have hlt : i < j := by omega
    have e' : IntKind.wrap .i64 (IntKind.wrap .u64 ((i : Int) + (j : Int)) / (2 : Int) ^ Int.toNat 1) + 1 = (((i + j) / 2 + 1 : Nat) : Int) := by rw [e]; omega
    exact ih ((i + j) / 2 + 1, j) _ ⟨by simp only; omega, by simp only; omega, by simp only; rw [← hc, bs_hi hlt h']⟩ (by simp only; omega) (by (constructor <;> (repeat' (first | exact LeT.nil | exact LeB.nil | apply LeT.cons | apply LeB.cons | exact Ol.refl | apply Lx.s | apply Lx.b | apply Lx.i | exact Lx.refl)) <;> (first | rfl | assumption | omega | (simp only [List.length_map, BS_len]; done) | skip)))
  · have h : ¬ cmpS (l.getD (IntKind.wrap .i64 (IntKind.wrap .u64 ((i : Int) + (j : Int)) / (2 : Int) ^ Int.toNat 1)).toNat default).k k < 0 := by omega
    rw [cmp_lt, e] at h
    have h' : prF l k ((i + j) / 2) = true := by
      have h2 := Bool.eq_false_iff.2 h
      simp only [prF]
      exact congrArg (!·) h2
    have hlt : i < j := by omega
    exact ih (i, (i + j) / 2) _ ⟨by simp only; omega, by simp only; omega, by simp only; rw [← hc, bs_lo hlt h']⟩ (by simp only; omega) (by (constructor <;> (repeat' (first | exact LeT.nil | exact LeB.nil | apply LeT.cons | apply LeB.cons | exact Ol.refl | apply Lx.s | apply Lx.b | apply Lx.i | exact Lx.refl)) <;> (first | rfl | assumption | omega | (simp only [List.length_map, BS_len]; done) | skip)))
  · rw [bs_end (by omega)] at hc
    refine AW.ret (hD rfl (Lx.tup (.cons (Lx.i ?_) (.cons (Lx.b ?_) .nil))))
    · rw [← hc]
    · rw [← hc]
      have hi : i < l.length := by omega
      simp only [hi, decide_true, Bool.true_and]
      exact cmp_eq _ _
  · rw [bs_end (by omega)] at hc
    refine AW.ret (hD rfl (Lx.tup (.cons (Lx.i ?_) (.cons (Lx.b ?_) .nil))))
    · rw [← hc]
    · rw [← hc]
      have hi : ¬ i < l.length := by omega
      simp [hi]
/-- A step in a leaf. -/
def wayL (l : List Pr) (k : L) : Option L := if (decide (bs (prF l k) 0 l.length < l.length) && ((l.getD (bs (prF l k) 0 l.length) default).k == k)) = true then some (l.getD (bs (prF l k) 0 l.length) default).v else none
end Go.Proofs.Ytmfonbehcfjjgaa.Mv

/- Nodes: where a key leads from a leaf. Under no condition. -/
namespace Go.Proofs.Ytmfonbehcfjjgaa.Mv
open Go Go.Proofs
set_option linter.unusedSimpArgs false
set_option linter.unusedVariables false
set_option maxRecDepth 10000
set_option maxHeartbeats 4000000
attribute [local irreducible] AW AO AR

theorem by_u16 {n : Int} (h : (Lit.int .u16 n).wf = true) : ∃ b : BitVec 16, n = (b.toNat : Int) := by
  have h' := wf_u16 h
  exact ⟨BitVec.ofNat 16 n.toNat, by rw [BitVec.toNat_ofNat]; omega⟩
/-- A way. -/
structure Wy where
  kind : UInt8
  val : L
  block : B32
  deep : W16
  key : L
  deriving DecidableEq, Inhabited
def Wy.av (w : Wy) : List AV := [.i .u8 (w.kind.toNat : Int), .s w.val, .i .u32 (w.block.toNat : Int), .i .u16 (w.deep.toNat : Int), .s w.key]
def wayZ : Wy := ⟨0, [], 0, 0, []⟩
def wayV (v : L) : Wy := ⟨1, v, 0, 0, []⟩
theorem gFind (l : List Pr) (k : L) (hl : l.length ≤ 1000000) : Good Try.prog 58 [.sh 2 (l.map Pr.av), .s k, .clo 59 []] [] (.tup [.i .i64 (bs (prF l k) 0 l.length), .b (decide (bs (prF l k) 0 l.length < l.length) && ((l.getD (bs (prF l k) 0 l.length) default).k == k))]) [] := gFindP l k hl
def leafWay (l : List Pr) (k : L) : Wy := match wayL l k with | some v => wayV v | none => wayZ
theorem ne0 {n : Nat} (h : ((n : Int) != 0) = true) : n ≠ 0 := fun e => by subst e; cases h
theorem eq0 {n : Nat} (h : ((n : Int) != 0) = false) : n = 0 := by
  simp only [bne_eq_false_iff_eq] at h; exact_mod_cast h
theorem leafWay0 {l : List Pr} {k : L} (h : (decide (bs (prF l k) 0 l.length < l.length) && ((l.getD (bs (prF l k) 0 l.length) default).k == k)) = false) : leafWay l k = wayZ := by rw [leafWay, wayL, if_neg (by rw [h]; decide)]
theorem leafWay1 {l : List Pr} {k : L} (h : (decide (bs (prF l k) 0 l.length < l.length) && ((l.getD (bs (prF l k) 0 l.length) default).k == k)) = true) : leafWay l k = wayV (l.getD (bs (prF l k) 0 l.length) default).v ∧ bs (prF l k) 0 l.length < l.length := by
  refine ⟨by rw [leafWay, wayL, if_pos h], ?_⟩
  cases h8 : decide (bs (prF l k) 0 l.length < l.length) with
  | true => exact of_decide_eq_true h8
  | false => rw [h8] at h; cases h
theorem gStepLeaf (n : Nd) (k : L) (hs : n.small) (hl : n.leaf = true) (w : Wy) (hw : w = if mayN n = 0 then leafWay n.pairs k else wayZ) : Good Try.prog 24 [.agg n.av, .s k] [] (.agg w.av) [] := by
  have hs2 := hs.pairs
  have l2 : (n.pairs.map Pr.av).length = n.pairs.length := by simp
  refine Good.w tabOk mixed Try.func24 (N := 74) (by kernel_rfl) rfl (by (repeat (first | exact LE.nil | apply LE.cons)); done) (by (repeat (first | exact LE.nil | apply LE.cons)); done) fun D hD F => ?_
  repeat' (first
    | apply AO.nil
    | (apply AO.kCall 39; refine AO.sCall (hg := (gMay _ hs)) (h := ?_))
    | (apply AO.kCall 58; refine AO.sCall (hg := (gFind _ _ hs2)) (h := ?_))
    | (apply AO.kIx; first | refine AO.sIxN (h := ?_) | refine AO.sIx (h := ?_) | refine AO.sP (h := ?_) | refine AO.sPi (h := ?_))
    | (apply AO.kBox; refine AO.sBox (h := ?_))
    | (apply AO.kAlloc; refine AO.sAlloc (h := ?_))
    | (apply AO.kStore; first | refine AO.sStore (h := ?_) | refine AO.sStB (h := ?_))
    | (apply AO.kP; first | refine AO.sP (h := ?_) | refine AO.sPi (h := ?_) | refine AO.sLoadB (h := ?_))
    | apply AW.seq
    | (apply AW.kR; refine AW.sR (h := ?_))
    | apply AW.skip
    | apply AW.block
    | apply AW.out
    | (apply AW.kE; refine AW.sE (h := ?_))
    | apply AW.label
    | (apply AW.kRd; refine AW.sRd (h := ?_))
    | ((first | (apply AW.kC; refine AW.sC (h1 := fun h => ?_) (h2 := fun h => ?_))) <;> (try (first | exact Bool.noConfusion h | exact absurd h (by decide) | (simp at h; done) | (rw [h]; try simp only [nrm] at h; try rw [h]; try (exfalso; omega)) | skip)))
    | (apply AR.kAny; first | (apply AR.kCall 39; refine AR.sCall (hg := (gMay _ hs)) (h := ?_)) | (apply AR.kCall 58; refine AR.sCall (hg := (gFind _ _ hs2)) (h := ?_)) | (apply AR.kIx; first | refine AR.sIxN (h := ?_) | refine AR.sIx (h := ?_) | refine AR.sP (h := ?_) | refine AR.sPi (h := ?_)) | (apply AR.kBox; refine AR.sBox (h := ?_)) | (apply AR.kAlloc; refine AR.sAlloc (h := ?_)) | (apply AR.kStore; refine AR.sStore (h := ?_)) | (apply AR.kP; first | refine AR.sP (h := ?_) | refine AR.sPi (h := ?_)))
    | (apply AR.kNil; refine AR.sNil (h := ?_)))
  · obtain rfl : w = wayZ := by rw [hw, if_neg (ne0 h)]
    (refine AW.ret (hD rfl ?_); (repeat' (first | apply Lx.s | apply Lx.b | apply Lx.i | apply LxL.cons | exact LxL.nil | apply Lx.tup | apply Lx.agg | apply Lx.refl)) <;> (try with_reducible rfl))
    all_goals rfl
  · have h8 := eq0 ‹((mayN n : Int) != 0) = false›
    obtain rfl : w = wayZ := by rw [hw, if_pos h8, leafWay0 h]
    (refine AW.ret (hD rfl ?_); (repeat' (first | apply Lx.s | apply Lx.b | apply Lx.i | apply LxL.cons | exact LxL.nil | apply Lx.tup | apply Lx.agg | apply Lx.refl)) <;> (try with_reducible rfl))
    all_goals rfl
  · have h8 := eq0 ‹((mayN n : Int) != 0) = false›
    obtain ⟨h7, h6⟩ := leafWay1 h
    obtain rfl : w = wayV (n.pairs.getD (bs (prF n.pairs k) 0 n.pairs.length) default).v := by rw [hw, if_pos h8, h7]
    repeat' (first
    | apply AO.nil
    | (apply AO.kIx; first | refine AO.sIxN (h := ?_) | refine AO.sIx (h := ?_) | refine AO.sP (h := ?_) | refine AO.sPi (h := ?_))
    | (apply AO.kBox; refine AO.sBox (h := ?_))
    | (apply AO.kAlloc; refine AO.sAlloc (h := ?_))
    | (apply AO.kStore; first | refine AO.sStore (h := ?_) | refine AO.sStB (h := ?_))
    | (apply AO.kP; first | refine AO.sP (h := ?_) | refine AO.sPi (h := ?_) | refine AO.sLoadB (h := ?_))
    | apply AW.seq
    | (apply AW.kR; refine AW.sR (h := ?_))
    | apply AW.skip
    | apply AW.block
    | apply AW.out
    | (apply AW.kE; refine AW.sE (h := ?_))
    | apply AW.label
    | (apply AW.kRd; refine AW.sRd (h := ?_))
    | ((first | (apply AW.kC; refine AW.sC (h1 := fun h => ?_) (h2 := fun h => ?_))) <;> (try (first | exact Bool.noConfusion h | exact absurd h (by decide) | (simp at h; done) | (rw [h]; try simp only [nrm] at h; try rw [h]; try (exfalso; omega)) | skip)))
    | (apply AR.kAny; first | (apply AR.kIx; first | refine AR.sIxN (h := ?_) | refine AR.sIx (h := ?_) | refine AR.sP (h := ?_) | refine AR.sPi (h := ?_)) | (apply AR.kBox; refine AR.sBox (h := ?_)) | (apply AR.kAlloc; refine AR.sAlloc (h := ?_)) | (apply AR.kStore; refine AR.sStore (h := ?_)) | (apply AR.kP; first | refine AR.sP (h := ?_) | refine AR.sPi (h := ?_)))
    | (apply AR.kNil; refine AR.sNil (h := ?_)))
    (refine AW.ret (hD rfl ?_); (repeat' (first | apply Lx.s | apply Lx.b | apply Lx.i | apply LxL.cons | exact LxL.nil | apply Lx.tup | apply Lx.agg | apply Lx.refl)) <;> (try with_reducible rfl))
    all_goals rfl
  · rw [hl] at h; cases h

/-! ### the document's examples -/
def nA : Nd := ⟨true, [⟨[97], [49]⟩], [], [], []⟩
def nB : Nd := ⟨false, [], [[109]], [⟨0, 1, [], []⟩, ⟨0, 1, [], []⟩], []⟩
theorem nAs : nA.small := ⟨by decide, by decide, by decide, by decide⟩
theorem nBs : nB.small := ⟨by decide, by decide, by decide, by decide⟩
theorem wA1 : wayV [49] = if mayN nA = 0 then leafWay nA.pairs [97] else wayZ := by decide
theorem wA2 : wayZ = if mayN nA = 0 then leafWay nA.pairs [98] else wayZ := by decide
theorem kB1 : kidN nB [108, 122] = 0 := by decide
theorem kB2 : kidN nB [109] = 1 := by decide
theorem gAwake : Good Try.prog 23 [] [] (.b true) [] := by
  refine Good.w tabOk mixed Try.func23 (N := 31) (by kernel_rfl) rfl (by (repeat (first | exact LE.nil | apply LE.cons)); done) (by (repeat (first | exact LE.nil | apply LE.cons)); done) fun D hD F => ?_
  (repeat (first | apply AW.seq | apply AW.block)); apply AW.kR; refine AW.sR (h := ?_); repeat' (first
    | apply AO.nil
    | (apply AO.kBuildS; first | refine AO.sBuildT (h := ?_) | refine AO.sBuildS (h := ?_))
    | (apply AO.kAlloc; refine AO.sAlloc (h := ?_))
    | (apply AO.kStore; first | refine AO.sStore (h := ?_) | refine AO.sStB (h := ?_))
    | (apply AO.kP; first | refine AO.sP (h := ?_) | refine AO.sPi (h := ?_) | refine AO.sLoadB (h := ?_)))
  (repeat (first | apply AW.seq | apply AW.block)); apply AW.kR; refine AW.sR (h := ?_); repeat' (first
    | apply AO.nil
    | (apply AO.kBuildS; first | refine AO.sBuildT (h := ?_) | refine AO.sBuildS (h := ?_))
    | (apply AO.kAlloc; refine AO.sAlloc (h := ?_))
    | (apply AO.kStore; first | refine AO.sStore (h := ?_) | refine AO.sStB (h := ?_))
    | (apply AO.kP; first | refine AO.sP (h := ?_) | refine AO.sPi (h := ?_) | refine AO.sLoadB (h := ?_)))
  (repeat (first | apply AW.seq | apply AW.block)); apply AW.kR; refine AW.sR (h := ?_); repeat' (first
    | apply AO.nil
    | (apply AO.kBuildS; first | refine AO.sBuildT (h := ?_) | refine AO.sBuildS (h := ?_))
    | (apply AO.kAlloc; refine AO.sAlloc (h := ?_))
    | (apply AO.kStore; first | refine AO.sStore (h := ?_) | refine AO.sStB (h := ?_))
    | (apply AO.kP; first | refine AO.sP (h := ?_) | refine AO.sPi (h := ?_) | refine AO.sLoadB (h := ?_)))
  refine AW.less (st' := ⟨[(1, .ptr 1 0), (2, .ptr 2 0)], [(1, .bx nA.av), (2, .bx nB.av)]⟩) ⟨.cons .refl (.cons .refl .nil), .cons (.bx (.cons .refl (.cons .gr (.cons .nil (.cons .nil (.cons .nil .nil)))))) (.cons (.bx (.cons .refl (.cons .nil (.cons .gr (.cons .gr (.cons .nil .nil)))))) .nil)⟩ ?_
  repeat' (first
    | apply AO.nil
    | (apply AO.kCall 24; refine AO.sCall (hg := (gStepLeaf nA _ nAs rfl _ rfl)) (h := ?_))
    | (apply AO.kCall 28; refine AO.sCall (hg := (gKid nB _ nBs)) (h := ?_))
    | (apply AO.kBuildS; first | refine AO.sBuildT (h := ?_) | refine AO.sBuildS (h := ?_))
    | (apply AO.kAlloc; refine AO.sAlloc (h := ?_))
    | (apply AO.kStore; first | refine AO.sStore (h := ?_) | refine AO.sStB (h := ?_))
    | (apply AO.kP; first | refine AO.sP (h := ?_) | refine AO.sPi (h := ?_) | refine AO.sLoadB (h := ?_))
    | apply AW.seq
    | (apply AW.kR; refine AW.sR (h := ?_))
    | apply AW.skip
    | apply AW.block
    | apply AW.out
    | (apply AW.kE; refine AW.sE (h := ?_))
    | apply AW.label
    | ((first | (apply AO.kG; first | refine AO.sgt (h1 := fun h => ?_) (h2 := fun h => ?_) | refine AO.sgf (h1 := fun h => ?_) (h2 := fun h => ?_) | refine AO.sgs (h := ?_))) <;> (try (first | exact Bool.noConfusion h | exact absurd h (by decide) | (simp at h; done) | (rw [h]; try simp only [nrm] at h; try rw [h]; try (exfalso; omega)) | skip))))
  refine AW.ret (hD rfl (Lx.b (by decide)))
/-! ### the statement of Same -/
theorem gLawSame (a b : Nd) (ha : a.fits) (hb : b.fits) : Good Try.prog 8 [.agg a.av, .agg b.av] [] (.b true) [] := by
  refine Good.w tabOk mixed Try.func8 (N := 32) (by kernel_rfl) rfl (by (repeat (first | exact LE.nil | apply LE.cons)); done) (by (repeat (first | exact LE.nil | apply LE.cons)); done) fun D hD F => ?_
  repeat' (first
    | apply AO.nil
    | (apply AO.kCall 14; refine AO.sCall (hg := (gGreat _ (by first | assumption | (apply great_small; assumption)))) (h := ?_))
    | (apply AO.kCall 23; refine AO.sCall (hg := gAwake) (h := ?_))
    | (apply AO.kCall 30; refine AO.sCall (hg := (gSame _ _ (by first | assumption | (apply great_small; assumption)) (by first | assumption | (apply great_small; assumption)))) (h := ?_))
    | (apply AO.kCall 18; refine AO.sCall (hg := (gSame' _ _ (by first | assumption | (apply great_small; assumption)) (by first | assumption | (apply great_small; assumption)))) (h := ?_))
    | (apply AO.kBox; refine AO.sBox (h := ?_))
    | (apply AO.kP; first | refine AO.sP (h := ?_) | refine AO.sPi (hq := by first | assumption | (apply great_small; assumption)) (h := ?_) | refine AO.sLoadB (ho := by first | assumption | (apply great_small; assumption)) (h := ?_))
    | apply AW.seq
    | (apply AW.kR; refine AW.sR (h := ?_))
    | apply AW.skip
    | apply AW.block
    | apply AW.out
    | (apply AW.kE; refine AW.sE (h := ?_))
    | apply AW.label
    | (apply AW.kRd; refine AW.sRd (h := ?_))
    | ((first | (apply AO.kG; first | refine AO.sgt (h1 := fun h => ?_) (h2 := fun h => ?_) | refine AO.sgf (h1 := fun h => ?_) (h2 := fun h => ?_) | refine AO.sgs (h := ?_)) | (apply AW.kC; refine AW.sC (h1 := fun h => ?_) (h2 := fun h => ?_)) | (apply AR.kAny; apply AR.kG; first | refine AR.sgt (h1 := fun h => ?_) (h2 := fun h => ?_) | refine AR.sgf (h1 := fun h => ?_) (h2 := fun h => ?_) | refine AR.sgs (h := ?_))) <;> (try (first | exact Bool.noConfusion h | exact absurd h (by decide) | (simp at h; done) | (rw [h]; try simp only [nrm] at h; try rw [h]; try (exfalso; omega)) | skip)))
    | (apply AR.kAny; first | (apply AR.kCall 14; refine AR.sCall (hg := (gGreat _ (by first | assumption | (apply great_small; assumption)))) (h := ?_)) | (apply AR.kCall 23; refine AR.sCall (hg := gAwake) (h := ?_)) | (apply AR.kCall 30; refine AR.sCall (hg := (gSame _ _ (by first | assumption | (apply great_small; assumption)) (by first | assumption | (apply great_small; assumption)))) (h := ?_)) | (apply AR.kCall 18; refine AR.sCall (hg := (gSame' _ _ (by first | assumption | (apply great_small; assumption)) (by first | assumption | (apply great_small; assumption)))) (h := ?_)) | (apply AR.kBox; refine AR.sBox (h := ?_)) | (apply AR.kP; first | refine AR.sP (h := ?_) | refine AR.sPi (hq := by first | assumption | (apply great_small; assumption)) (h := ?_)))
    | (apply AR.kNil; refine AR.sNil (h := ?_)))
  all_goals exact AW.ret (hD rfl (Lx.b rfl))
end Go.Proofs.Ytmfonbehcfjjgaa.Mv

/- Messages: of what they speak; trimmed. Under no condition. -/
namespace Go.Proofs.Ytmfonbehcfjjgaa.Mv
open Go Go.Proofs
set_option linter.unusedSimpArgs false
set_option linter.unusedVariables false
set_option maxRecDepth 10000
set_option maxHeartbeats 4000000
attribute [local irreducible] AW AO AR

/-- Of what a message speaks. -/
def abS (m : Ms) : L × L × Bool :=
  if m.kind = 1 then (m.key, m.key ++ [0], true) else if m.kind = 2 then (m.key, m.key ++ [0], true)
  else if m.kind = 3 then (m.key, succS m.key, succOk m.key) else ([], [], true)
theorem gAbout (m : Ms) (h : m.key.length ≤ 1000000) : Good Try.prog 44 [.agg m.av] [] (.agg [.s (abS m).1, .s (abS m).2.1, .b (abS m).2.2]) [] := by
  refine Good.w tabOk mixed Try.func44 (N := 20) (by kernel_rfl) rfl (by (repeat (first | exact LE.nil | apply LE.cons)); done) (by (repeat (first | exact LE.nil | apply LE.cons)); done) fun D hD F => ?_
  repeat' (first
    | apply AO.nil
    | (apply AO.kCall 95; refine AO.sCall (hg := (gNext _ sd)) (h := ?_))
    | (apply AO.kCall 96; refine AO.sCall (hg := (gOf _ sd)) (h := ?_))
    | (apply AO.kBox; refine AO.sBox (h := ?_))
    | (apply AO.kAlloc; refine AO.sAlloc (h := ?_))
    | (apply AO.kStore; first | refine AO.sStore (h := ?_) | refine AO.sStB (h := ?_))
    | (apply AO.kP; first | refine AO.sP (h := ?_) | refine AO.sPi (h := ?_) | refine AO.sLoadB (h := ?_))
    | apply AW.seq
    | (apply AW.kR; refine AW.sR (h := ?_))
    | apply AW.skip
    | apply AW.block
    | apply AW.out
    | (apply AW.kE; refine AW.sE (h := ?_))
    | apply AW.label
    | (apply AW.kRd; refine AW.sRd (h := ?_))
    | ((first | (apply AW.kC; refine AW.sC (h1 := fun h => ?_) (h2 := fun h => ?_))) <;> (try (first | exact Bool.noConfusion h | exact absurd h (by decide) | (simp at h; done) | (rw [h]; try simp only [nrm] at h; try rw [h]; try (exfalso; omega)) | skip)))
    | (apply AR.kAny; first | (apply AR.kCall 95; refine AR.sCall (hg := (gNext _ sd)) (h := ?_)) | (apply AR.kCall 96; refine AR.sCall (hg := (gOf _ sd)) (h := ?_)) | (apply AR.kBox; refine AR.sBox (h := ?_)) | (apply AR.kAlloc; refine AR.sAlloc (h := ?_)) | (apply AR.kStore; refine AR.sStore (h := ?_)) | (apply AR.kP; first | refine AR.sP (h := ?_) | refine AR.sPi (h := ?_)))
    | (apply AR.kNil; refine AR.sNil (h := ?_)))
  all_goals (refine AW.ret (hD rfl ?_); (repeat' (first | apply Lx.s | apply Lx.b | apply Lx.i | apply LxL.cons | exact LxL.nil | apply Lx.tup | apply Lx.agg | apply Lx.refl)) <;> (try with_reducible rfl))
  all_goals (simp only [k1, k2, k3] at *; simp_all [abS])
theorem gAbout' (m : Ms) (h : m.key.length ≤ 1000000) : Good Try.prog 51 [.agg m.av] [] (.agg [.s (abS m).1, .s (abS m).2.1, .b (abS m).2.2]) [] := by
  refine Good.w tabOk mixed Try.func51 (N := 24) (by kernel_rfl) rfl (by (repeat (first | exact LE.nil | apply LE.cons)); done) (by (repeat (first | exact LE.nil | apply LE.cons)); done) fun D hD F => ?_
  repeat' (first
    | apply AO.nil
    | (apply AO.kCall 99; refine AO.sCall (hg := (gOf' _ sd)) (h := ?_))
    | (apply AO.kBox; refine AO.sBox (h := ?_))
    | (apply AO.kAlloc; refine AO.sAlloc (h := ?_))
    | (apply AO.kStore; first | refine AO.sStore (h := ?_) | refine AO.sStB (h := ?_))
    | (apply AO.kAdd; refine AO.sAdd (h := ?_))
    | (apply AO.kP; first | refine AO.sP (h := ?_) | refine AO.sPi (h := ?_) | refine AO.sLoadB (h := ?_))
    | apply AW.seq
    | (apply AW.kR; refine AW.sR (h := ?_))
    | apply AW.skip
    | apply AW.block
    | apply AW.out
    | (apply AW.kE; refine AW.sE (h := ?_))
    | apply AW.label
    | ((first | (apply AO.kG; first | refine AO.sgt (h1 := fun h => ?_) (h2 := fun h => ?_) | refine AO.sgf (h1 := fun h => ?_) (h2 := fun h => ?_) | refine AO.sgs (h := ?_)) | (apply AW.kC; refine AW.sC (h1 := fun h => ?_) (h2 := fun h => ?_))) <;> (try (first | exact Bool.noConfusion h | exact absurd h (by decide) | (simp at h; done) | (rw [h]; try simp only [nrm] at h; try rw [h]; try (exfalso; omega)) | skip))))
  all_goals (refine AW.ret (hD rfl ?_); (repeat' (first | apply Lx.s | apply Lx.b | apply Lx.i | apply LxL.cons | exact LxL.nil | apply Lx.tup | apply Lx.agg | apply Lx.refl)) <;> (try with_reducible rfl))
  all_goals (simp only [k1, k2, k3] at *; simp_all [abS])
/-- A message with a beginning taken away. -/
def mvR (m : Ms) (a : L) : Ms × Bool :=
  if hp m.key a then (⟨m.kind, cutS m.key a, m.val, m.block, m.deep, m.add⟩, true)
  else if m.kind = 3 ∧ hp a m.key = true ∧ m.add.length + (cutS a m.key).length ≤ 16 then (⟨m.kind, [], m.val, m.block, m.deep, m.add ++ cutS a m.key⟩, true)
  else (m, false)
theorem mv1 {m : Ms} {a : L} (h : hp m.key a = true) : mvR m a = (⟨m.kind, cutS m.key a, m.val, m.block, m.deep, m.add⟩, true) := by rw [mvR, if_pos h]
theorem k3b {u : UInt8} (h : ((u.toNat : Int) != 3) = false) : u = 3 := by
  rw [bne_eq_false_iff_eq, k3] at h; exact h
theorem k3c {u : UInt8} (h : ((u.toNat : Int) != 3) = true) : u ≠ 3 := by
  rw [bne_iff_ne] at h; exact fun e => h (by rw [e]; rfl)
theorem mv2 {m : Ms} {a : L} (h : hp m.key a = false) (h3 : m.kind = 3) (h4 : hp a m.key = true) (h5 : (m.add.length : Int) + ((cutS a m.key).length : Int) ≤ 16) : mvR m a = (⟨m.kind, [], m.val, m.block, m.deep, m.add ++ cutS a m.key⟩, true) := by
  rw [mvR, if_neg (by rw [h]; decide), if_pos ⟨h3, h4, by omega⟩]
theorem mv3 {m : Ms} {a : L} (h : hp m.key a = false) (h3 : ¬ (m.kind = 3 ∧ hp a m.key = true ∧ m.add.length + (cutS a m.key).length ≤ 16)) : mvR m a = (m, false) := by
  rw [mvR, if_neg (by rw [h]; decide), if_neg h3]
/-! ### messages trimmed -/
theorem filt_yes {α : Type} [Inhabited α] {l : List α} {p : α → Bool} {n : Nat} (h : n < l.length) (hp : p (l.getD n default) = true) : (l.take (n + 1)).filter p = (l.take n).filter p ++ [l.getD n default] := by
  rw [takeD h, List.filter_append]; rw [List.filter_cons_of_pos hp, List.filter_nil]
theorem filt_no {α : Type} [Inhabited α] {l : List α} {p : α → Bool} {n : Nat} (h : n < l.length) (hp : p (l.getD n default) = false) : (l.take (n + 1)).filter p = (l.take n).filter p := by
  rw [takeD h, List.filter_append, List.filter_cons_of_neg (by rw [hp]; decide), List.filter_nil, List.append_nil]
/-- Nothing of a range is in another one. -/
def emC (x r : L × L × Bool) : Bool := emR (cS x.1 x.2.1 x.2.2 r.1 r.2.1 r.2.2).1 (cS x.1 x.2.1 x.2.2 r.1 r.2.1 r.2.2).2.1 (cS x.1 x.2.1 x.2.2 r.1 r.2.1 r.2.2).2.2
def msKeep (r : L × L × Bool) (m : Ms) : Bool := !emC (abS m) r
def trMsR (l : List Ms) (r : L × L × Bool) (a : L) : List Ms := (l.filter (msKeep r)).map fun m => (mvR m a).1
def trMsOk (l : List Ms) (r : L × L × Bool) (a : L) : Bool := (l.filter (msKeep r)).all fun m => (mvR m a).2
theorem trMsR_len (l : List Ms) (r : L × L × Bool) (a : L) : (trMsR l r a).length ≤ l.length := by
  rw [trMsR, List.length_map]; exact List.length_filter_le _ _
def msSm (m : Ms) : Bool := decide (m.key.length ≤ 1000000) && decide (m.add.length ≤ 1000000)
theorem sm_at {l : List Ms} (h : l.all msSm = true) {q : Nat} (hq : q < l.length) : (l.getD q default).key.length ≤ 1000000 ∧ (l.getD q default).add.length ≤ 1000000 := by
  have := List.all_eq_true.1 h (l.getD q default) (by rw [List.getD_eq_getElem?_getD, List.getElem?_eq_getElem hq]; exact List.getElem_mem hq)
  simp only [msSm, Bool.and_eq_true, decide_eq_true_eq] at this; exact this
end Go.Proofs.Ytmfonbehcfjjgaa.Mv

/- Messages trimmed, by the document. Under no condition. -/
namespace Go.Proofs.Ytmfonbehcfjjgaa.Mv
open Go Go.Proofs
set_option linter.unusedSimpArgs false
set_option linter.unusedVariables false
set_option maxRecDepth 10000
set_option maxHeartbeats 4000000
attribute [local irreducible] AW AO AR

theorem cutS_hp {k p : L} (h : hp k p = true) : cutS k p = k.drop p.length := by rw [cutS, if_pos h]
theorem trMs_bad {l : List Ms} {r : L × L × Bool} {a : L} {q : Nat} (hq : q < l.length) (g : msKeep r (l.getD q default) = true) (h : (mvR (l.getD q default) a).2 = false) : trMsOk l r a = false := by
  refine List.all_eq_false.2 ⟨l.getD q default, ?_, by rw [h]; decide⟩
  rw [List.mem_filter]; refine ⟨?_, g⟩
  rw [List.getD_eq_getElem?_getD, List.getElem?_eq_getElem hq]; exact List.getElem_mem hq
end Go.Proofs.Ytmfonbehcfjjgaa.Mv

/- A node trimmed: walks of the code. Under no condition. -/
namespace Go.Proofs.Ytmfonbehcfjjgaa.Mv
open Go Go.Proofs
set_option linter.unusedSimpArgs false
set_option linter.unusedVariables false
set_option maxRecDepth 10000
set_option maxHeartbeats 4000000
attribute [local irreducible] AW AO AR

/-! ### a leaf -/
def prKeep (r : L × L × Bool) (p : Pr) : Bool := inR r.1 r.2.1 r.2.2 p.k
def prCut (a : L) (p : Pr) : Pr := ⟨cutS p.k a, p.v⟩
def trPr (l : List Pr) (r : L × L × Bool) (a : L) : List Pr := (l.filter (prKeep r)).map (prCut a)
theorem trPr_len (l : List Pr) (r : L × L × Bool) (a : L) : (trPr l r a).length ≤ l.length := by
  rw [trPr, List.length_map]; exact List.length_filter_le _ _
/-! ### kids -/
def kidOk (n : Nd) (a : L) (i : Nat) : Bool :=
  joinOk [] a (n.kids.getD i default).strip (n.kids.getD i default).add && (decide ((joinS [] a (n.kids.getD i default).strip (n.kids.getD i default).add).length ≤ 16) && decide ((joinA [] a (n.kids.getD i default).strip (n.kids.getD i default).add).length ≤ 16))
def trKid (n : Nd) (a : L) (i : Nat) : Ed := ⟨(n.kids.getD i default).block, (n.kids.getD i default).deep, joinS [] a (n.kids.getD i default).strip (n.kids.getD i default).add, joinA [] a (n.kids.getD i default).strip (n.kids.getD i default).add⟩
def kRun (n : Nd) (r : L × L × Bool) (a : L) : Nat → Nat → List L → List Ed → (List L × List Ed) × Bool
  | 0, _, ps, ks => ((ps, ks), true)
  | u + 1, q, ps, ks =>
    if emC (rgN n q) r = true then kRun n r a u (q + 1) ps ks
    else if kidOk n a q = false then ((ps, ks), false)
    else kRun n r a u (q + 1) (if 0 < ks.length then ps ++ [cutS (rgN n q).1 a] else ps) (ks ++ [trKid n a q])
theorem kRun_skip {n : Nd} {r : L × L × Bool} {a : L} {q : Nat} {ps : List L} {ks : List Ed} (hq : q < n.kids.length) (h : emC (rgN n q) r = true) : kRun n r a (n.kids.length - q) q ps ks = kRun n r a (n.kids.length - (q + 1)) (q + 1) ps ks := by
  rw [show n.kids.length - q = (n.kids.length - (q + 1)) + 1 by omega, kRun, if_pos h]
theorem kRun_bad {n : Nd} {r : L × L × Bool} {a : L} {q : Nat} {ps : List L} {ks : List Ed} (hq : q < n.kids.length) (h : emC (rgN n q) r = false) (h2 : kidOk n a q = false) : kRun n r a (n.kids.length - q) q ps ks = ((ps, ks), false) := by
  rw [show n.kids.length - q = (n.kids.length - (q + 1)) + 1 by omega, kRun, if_neg (by rw [h]; decide), if_pos h2]
theorem kRun_more {n : Nd} {r : L × L × Bool} {a : L} {q : Nat} {ps : List L} {ks : List Ed} (hq : q < n.kids.length) (h : emC (rgN n q) r = false) (h2 : kidOk n a q = true) : kRun n r a (n.kids.length - q) q ps ks = kRun n r a (n.kids.length - (q + 1)) (q + 1) (if 0 < ks.length then ps ++ [cutS (rgN n q).1 a] else ps) (ks ++ [trKid n a q]) := by
  rw [show n.kids.length - q = (n.kids.length - (q + 1)) + 1 by omega, kRun, if_neg (by rw [h]; decide), if_neg (by rw [h2]; decide)]
/-! ### the whole -/
def ndZ : Nd := ⟨false, [], [], [], []⟩
def trE (n : Nd) (r : L × L × Bool) (a : L) : Nat :=
  if mayN n ≠ 0 then 3 else if (emR r.1 r.2.1 r.2.2 || !hp (undS r.1 r.2.1 r.2.2) a) = true then 1 else if n.leaf = true then 0
  else if (kRun n r a n.kids.length 0 [] []).2 = false then 1 else if trMsOk n.buf r a = false then 1 else 0
def trN (n : Nd) (r : L × L × Bool) (a : L) : Nd :=
  if trE n r a ≠ 0 then ndZ else if n.leaf = true then ⟨true, trPr n.pairs r a, [], [], []⟩
  else ⟨false, [], (kRun n r a n.kids.length 0 [] []).1.1, (kRun n r a n.kids.length 0 [] []).1.2, trMsR n.buf r a⟩
/-- Texts that a machine can hold. -/
structure Nd.strs (n : Nd) : Prop where
  kids : ∀ i, i < n.kids.length → (n.kids.getD i default).strip.length ≤ 1000000 ∧ (n.kids.getD i default).add.length ≤ 1000000
  buf : n.buf.all msSm = true
theorem tr3 {n r a} (h : mayN n ≠ 0) : trE n r a = 3 ∧ trN n r a = ndZ := by
  have e : trE n r a = 3 := by rw [trE, if_pos h]
  exact ⟨e, by rw [trN, e, if_pos (by decide)]⟩
theorem tr1 {n : Nd} {r a} (h : mayN n = 0) (h2 : (emR r.1 r.2.1 r.2.2 || !hp (undS r.1 r.2.1 r.2.2) a) = true) : trE n r a = 1 ∧ trN n r a = ndZ := by
  have e : trE n r a = 1 := by rw [trE, if_neg (by omega), if_pos h2]
  exact ⟨e, by rw [trN, e, if_pos (by decide)]⟩
theorem trL {n : Nd} {r a} (h : mayN n = 0) (h2 : (emR r.1 r.2.1 r.2.2 || !hp (undS r.1 r.2.1 r.2.2) a) = false) (h3 : n.leaf = true) : trE n r a = 0 ∧ trN n r a = ⟨true, trPr n.pairs r a, [], [], []⟩ := by
  have e : trE n r a = 0 := by rw [trE, if_neg (by omega), if_neg (by rw [h2]; decide), if_pos h3]
  exact ⟨e, by rw [trN, e, if_neg (by decide), if_pos h3]⟩
theorem trK1 {n : Nd} {r a} (h : mayN n = 0) (h2 : (emR r.1 r.2.1 r.2.2 || !hp (undS r.1 r.2.1 r.2.2) a) = false) (h3 : n.leaf = false) (h4 : (kRun n r a n.kids.length 0 [] []).2 = false) : trE n r a = 1 ∧ trN n r a = ndZ := by
  have e : trE n r a = 1 := by rw [trE, if_neg (by omega), if_neg (by rw [h2]; decide), if_neg (by rw [h3]; decide), if_pos h4]
  exact ⟨e, by rw [trN, e, if_pos (by decide)]⟩
theorem trK2 {n : Nd} {r a} (h : mayN n = 0) (h2 : (emR r.1 r.2.1 r.2.2 || !hp (undS r.1 r.2.1 r.2.2) a) = false) (h3 : n.leaf = false) (h4 : (kRun n r a n.kids.length 0 [] []).2 = true) (h5 : trMsOk n.buf r a = false) : trE n r a = 1 ∧ trN n r a = ndZ := by
  have e : trE n r a = 1 := by rw [trE, if_neg (by omega), if_neg (by rw [h2]; decide), if_neg (by rw [h3]; decide), if_neg (by rw [h4]; decide), if_pos h5]
  exact ⟨e, by rw [trN, e, if_pos (by decide)]⟩
theorem trK3 {n : Nd} {r a} (h : mayN n = 0) (h2 : (emR r.1 r.2.1 r.2.2 || !hp (undS r.1 r.2.1 r.2.2) a) = false) (h3 : n.leaf = false) (h4 : (kRun n r a n.kids.length 0 [] []).2 = true) (h5 : trMsOk n.buf r a = true) : trE n r a = 0 ∧ trN n r a = ⟨false, [], (kRun n r a n.kids.length 0 [] []).1.1, (kRun n r a n.kids.length 0 [] []).1.2, trMsR n.buf r a⟩ := by
  have e : trE n r a = 0 := by rw [trE, if_neg (by omega), if_neg (by rw [h2]; decide), if_neg (by rw [h3]; decide), if_neg (by rw [h4]; decide), if_neg (by rw [h5]; decide)]
  exact ⟨e, by rw [trN, e, if_neg (by decide), if_neg (by rw [h3]; decide)]⟩
end Go.Proofs.Ytmfonbehcfjjgaa.Mv

/- Nodes: the kid in whose range a key is. Under no condition. -/
namespace Go.Proofs.Ytmfonbehcfjjgaa.Mv
open Go Go.Proofs
set_option linter.unusedSimpArgs false
set_option linter.unusedVariables false
set_option maxRecDepth 10000
set_option maxHeartbeats 4000000
attribute [local irreducible] AW AO AR

theorem rise_dropA {ks : List L} (h : rise ks = true) : ∀ q, rise (ks.drop q) = true
  | 0 => by simpa using h
  | q + 1 => by
    by_cases hq : q + 1 < ks.length
    · have := rise_dropA h q
      rw [rise_next hq, Bool.and_eq_true] at this
      exact this.2
    · by_cases hq' : q + 1 = ks.length
      · rw [List.drop_of_length_le (by omega)]; rfl
      · rw [List.drop_of_length_le (by omega)]; rfl
theorem rise_one {ks : List L} (h : rise ks = true) {q : Nat} (hq : q + 1 < ks.length) : lt (ks.getD q default) (ks.getD (q + 1) default) = true := by
  have := rise_dropA h q
  rw [rise_next hq, Bool.and_eq_true] at this
  exact this.1
theorem rise_lt {ks : List L} (h : rise ks = true) {i : Nat} : ∀ j, i < j → j < ks.length → lt (ks.getD i default) (ks.getD j default) = true
  | 0, hij, _ => by omega
  | j + 1, hij, hj => by
    by_cases e : i = j
    · subst e; exact rise_one h hj
    · exact lt_trans (rise_lt h j (by omega) (by omega)) (rise_one h hj)
/-- What is found where it holds from some place on. -/
theorem bs_spec' {f : Nat → Bool} (n : Nat) (hm : ∀ a b, a ≤ b → b < n → f a = true → f b = true) : bs f 0 n ≤ n ∧ (∀ i, i < bs f 0 n → f i = false) ∧ (bs f 0 n < n → f (bs f 0 n) = true) := by
  have key := bs_ind (f := f) (P := fun i j r => (∀ a, a < i → f a = false) → i ≤ j → j ≤ n → r ≤ j ∧ (∀ a, a < r → f a = false) ∧ (r < j → f r = true))
    (fun i j h hlo hij _ => ⟨by omega, hlo, fun h' => by omega⟩)
    (fun i j r hij hf h hlo _ hn => by
      obtain ⟨q1, q2, q3⟩ := h hlo (by omega) (by omega)
      refine ⟨by omega, q2, fun hr => ?_⟩
      by_cases e : r < (i + j) / 2
      · exact q3 e
      · have : r = (i + j) / 2 := by omega
        rw [this]; exact hf)
    (fun i j r hij hf h hlo _ hn => by
      obtain ⟨q1, q2, q3⟩ := h (fun a ha => by
        cases hfa : f a with
        | false => rfl
        | true => rw [hm a ((i + j) / 2) (by omega) (by omega) hfa] at hf; cases hf) (by omega) hn
      exact ⟨q1, q2, q3⟩) n 0 n (by omega)
  exact key (fun a ha => by omega) (by omega) (by omega)
theorem kid_mono {n : Nd} {k : L} (hr : rise n.pivots = true) : ∀ a b, a ≤ b → b < n.pivots.length → kidF n k a = true → kidF n k b = true := fun a b h1 h2 h3 => by
  unfold kidF at *
  by_cases e : a = b
  · subst e; exact h3
  · exact lt_trans h3 (rise_lt hr b (by omega) h2)
/-- Where a node that may be with kids leads. -/
theorem may_inner {n : Nd} (h : mayN n = 0) (hl : n.leaf = false) : innerOk n = true ∧ n.kids.length ≤ 8 ∧ n.buf.length ≤ 16 := by
  unfold mayN at h
  split at h
  · cases h
  · rw [hl] at h
    simp only [Bool.false_eq_true, if_false] at h
    split at h
    · rename_i h1 h2; exact ⟨h2, by omega, by omega⟩
    · cases h
theorem may_leaf {n : Nd} (h : mayN n = 0) (hl : n.leaf = true) : leafOk n = true := by
  unfold mayN at h
  split at h
  · cases h
  · split at h
    · assumption
    · cases h
theorem inner_len {n : Nd} (h : innerOk n = true) : n.pivots.length + 1 = n.kids.length ∧ rise n.pivots = true ∧ n.pairs = [] := by
  simp only [innerOk, Bool.and_eq_true, decide_eq_true_eq, List.isEmpty_iff] at h
  exact ⟨h.1.1.1.2, rise_tail h.1.2.1, h.1.1.1.1.1⟩
theorem leaf_len {n : Nd} (h : leafOk n = true) : n.pivots = [] ∧ n.kids = [] ∧ n.buf = [] := by
  simp only [leafOk, Bool.and_eq_true, List.isEmpty_iff] at h
  exact ⟨h.1.1.1.1, h.1.1.1.2, h.1.1.2⟩
theorem kid_none {n : Nd} {k : L} (h : n.kids = []) : kidN n k = -1 := by
  have : n.kids.length = 0 := by rw [h]; rfl
  unfold kidN
  split <;> omega
theorem kid_at {n : Nd} {k : L} (hl : n.pivots.length + 1 = n.kids.length) (hr : rise n.pivots = true) : kidN n k = ((bs (kidF n k) 0 n.pivots.length : Nat) : Int) ∧ bs (kidF n k) 0 n.pivots.length ≤ n.pivots.length := by
  have h := (bs_spec' _ (kid_mono (n := n) (k := k) hr)).1
  unfold kidN
  split
  · exact ⟨by omega, h⟩
  · exact ⟨rfl, h⟩
theorem kid_in {n : Nd} {k : L} (hl : n.pivots.length + 1 = n.kids.length) (hr : rise n.pivots = true) {j : Nat} (hj : j < n.kids.length) : inR (rgN n j).1 (rgN n j).2.1 (rgN n j).2.2 k = ((j : Int) == kidN n k) := by
  obtain ⟨e, hb⟩ := kid_at (k := k) hl hr
  obtain ⟨h1, h2, h3⟩ := bs_spec' _ (kid_mono (n := n) (k := k) hr)
  rw [e]
  generalize bs (kidF n k) 0 n.pivots.length = b at *
  have e1 : rgN n j = ((if 0 < (j : Int) ∧ (j : Int) ≤ n.pivots.length then n.pivots.getD ((j : Int) - 1).toNat default else []), (if (j : Int) < n.pivots.length then n.pivots.getD (j : Int).toNat default else []), decide ((j : Int) < n.pivots.length)) := by
    unfold rgN; rw [if_neg (by omega)]
  rw [e1]
  simp only [inR]
  by_cases c : j = b
  · subst c
    have g1 : lt k (if 0 < (j : Int) ∧ (j : Int) ≤ n.pivots.length then n.pivots.getD ((j : Int) - 1).toNat default else []) = false := by
      split
      · have := h2 (j - 1) (by omega)
        unfold kidF at this
        rw [show ((j : Int) - 1).toNat = j - 1 by omega]; exact this
      · exact lt_nil _
    rw [g1]
    by_cases d : (j : Int) < n.pivots.length
    · have g2 := h3 (by omega)
      unfold kidF at g2
      rw [if_pos d, show (j : Int).toNat = j by omega, g2, decide_eq_true d]; simp
    · rw [decide_eq_false d]; simp
  · have e2 : ((j : Int) == (b : Int)) = false := by rw [beq_eq_false_iff_ne]; omega
    rw [e2]
    by_cases d : j < b
    · have g := h2 j d
      unfold kidF at g
      rw [if_pos (show (j : Int) < n.pivots.length by omega), show (j : Int).toNat = j by omega, g, decide_eq_true (show (j : Int) < n.pivots.length by omega)]; simp
    · have g := kid_mono (k := k) hr b (j - 1) (by omega) (by omega) (h3 (by omega))
      unfold kidF at g
      rw [if_pos (by omega), show ((j : Int) - 1).toNat = j - 1 by omega, g]; rfl

/-! ### the statement of ranges -/
theorem gLawRanges (n : Nd) (i : Int) (k : L) (hf : n.fits) (hi : -9223372036854775808 ≤ i ∧ i ≤ 9223372036854775807) : Good Try.prog 7 [.agg n.av, .i .i64 i, .s k] [] (.b true) [] := by
  by_cases hg : great n = true
  · refine Good.w tabOk mixed Try.func7 (N := 69) (by kernel_rfl) rfl (by (repeat (first | exact LE.nil | apply LE.cons)); done) (by (repeat (first | exact LE.nil | apply LE.cons)); done) fun D hD F => ?_
    repeat' (first
    | apply AO.nil
    | (apply AO.kCall 14; refine AO.sCall (hg := (gGreat _ sd)) (h := ?_))
    | (apply AO.kCall 23; refine AO.sCall (hg := gAwake) (h := ?_))
    | (apply AO.kBox; refine AO.sBox (h := ?_))
    | (apply AO.kAdd; refine AO.sAdd (h := ?_))
    | (apply AO.kP; first | refine AO.sP (h := ?_) | refine AO.sPi (h := ?_) | refine AO.sLoadB (h := ?_))
    | apply AW.seq
    | (apply AW.kR; refine AW.sR (h := ?_))
    | apply AW.skip
    | apply AW.block
    | apply AW.out
    | (apply AW.kE; refine AW.sE (h := ?_))
    | apply AW.label
    | (apply AW.kRd; refine AW.sRd (h := ?_))
    | ((first | (apply AO.kG; first | refine AO.sgt (h1 := fun h => ?_) (h2 := fun h => ?_) | refine AO.sgf (h1 := fun h => ?_) (h2 := fun h => ?_) | refine AO.sgs (h := ?_)) | (apply AW.kC; refine AW.sC (h1 := fun h => ?_) (h2 := fun h => ?_)) | (apply AR.kAny; apply AR.kG; first | refine AR.sgt (h1 := fun h => ?_) (h2 := fun h => ?_) | refine AR.sgf (h1 := fun h => ?_) (h2 := fun h => ?_) | refine AR.sgs (h := ?_))) <;> (try (first | exact Bool.noConfusion h | exact absurd h (by decide) | (simp at h; done) | (rw [h]; try simp only [nrm] at h; try rw [h]; try (exfalso; omega)) | skip)))
    | (apply AR.kAny; first | (apply AR.kCall 14; refine AR.sCall (hg := (gGreat _ sd)) (h := ?_)) | (apply AR.kCall 23; refine AR.sCall (hg := gAwake) (h := ?_)) | (apply AR.kBox; refine AR.sBox (h := ?_)) | (apply AR.kAdd; refine AR.sAdd (h := ?_)) | (apply AR.kP; first | refine AR.sP (h := ?_) | refine AR.sPi (h := ?_)))
    | (apply AR.kNil; refine AR.sNil (h := ?_)))
    all_goals first | exact AW.ret (hD rfl (Lx.b rfl)) | (exfalso; simp_all; done)
  · have hg' : great n = false := by cases h : great n <;> simp_all
    have hs := great_small hg'
    have hs2 := hs.pivots; have hs3 := hs.kids
    have l2 : (n.pivots.map sav).length = n.pivots.length := by simp
    have l3 : (n.kids.map Ed.av).length = n.kids.length := by simp
    refine Good.w tabOk mixed Try.func7 (N := 69) (by kernel_rfl) rfl (by (repeat (first | exact LE.nil | apply LE.cons)); done) (by (repeat (first | exact LE.nil | apply LE.cons)); done) fun D hD F => ?_
    repeat' (first
    | apply AO.nil
    | (apply AO.kCall 14; refine AO.sCall (hg := (gGreat _ sd)) (h := ?_))
    | (apply AO.kCall 23; refine AO.sCall (hg := gAwake) (h := ?_))
    | (apply AO.kCall 26; refine AO.sCall (hg := (gRange _ _ sd sd)) (h := ?_))
    | (apply AO.kCall 27; refine AO.sCall (hg := (gRange' _ _ sd sd)) (h := ?_))
    | (apply AO.kCall 21; refine AO.sCall (hg := (gMay' _ sd)) (h := ?_))
    | (apply AO.kCall 28; refine AO.sCall (hg := (gKid _ _ sd)) (h := ?_))
    | (apply AO.kBox; refine AO.sBox (h := ?_))
    | (apply AO.kAdd; refine AO.sAdd (h := ?_))
    | (apply AO.kP; first | refine AO.sP (h := ?_) | refine AO.sPi (h := ?_) | refine AO.sLoadB (h := ?_))
    | apply AW.seq
    | (apply AW.kR; refine AW.sR (h := ?_))
    | apply AW.skip
    | apply AW.block
    | apply AW.out
    | (apply AW.kE; refine AW.sE (h := ?_))
    | apply AW.label
    | (apply AW.kRd; refine AW.sRd (h := ?_))
    | ((first | (apply AO.kG; first | refine AO.sgt (h1 := fun h => ?_) (h2 := fun h => ?_) | refine AO.sgf (h1 := fun h => ?_) (h2 := fun h => ?_) | refine AO.sgs (h := ?_)) | (apply AW.kC; refine AW.sC (h1 := fun h => ?_) (h2 := fun h => ?_)) | (apply AR.kAny; apply AR.kG; first | refine AR.sgt (h1 := fun h => ?_) (h2 := fun h => ?_) | refine AR.sgf (h1 := fun h => ?_) (h2 := fun h => ?_) | refine AR.sgs (h := ?_))) <;> (try (first | exact Bool.noConfusion h | exact absurd h (by decide) | (simp at h; done) | (rw [h]; try simp only [nrm] at h; try rw [h]; try (exfalso; omega)) | skip)))
    | (apply AR.kAny; first | (apply AR.kCall 14; refine AR.sCall (hg := (gGreat _ sd)) (h := ?_)) | (apply AR.kCall 23; refine AR.sCall (hg := gAwake) (h := ?_)) | (apply AR.kCall 26; refine AR.sCall (hg := (gRange _ _ sd sd)) (h := ?_)) | (apply AR.kCall 27; refine AR.sCall (hg := (gRange' _ _ sd sd)) (h := ?_)) | (apply AR.kCall 21; refine AR.sCall (hg := (gMay' _ sd)) (h := ?_)) | (apply AR.kCall 28; refine AR.sCall (hg := (gKid _ _ sd)) (h := ?_)) | (apply AR.kBox; refine AR.sBox (h := ?_)) | (apply AR.kAdd; refine AR.sAdd (h := ?_)) | (apply AR.kP; first | refine AR.sP (h := ?_) | refine AR.sPi (h := ?_)))
    | (apply AR.kNil; refine AR.sNil (h := ?_)))
    · exact AW.ret (hD rfl (Lx.b rfl))
    · exact AW.ret (hD rfl (Lx.b rfl))
    · have h9 : n.kids = [] := List.eq_nil_of_length_eq_zero (by omega)
      exact absurd (kid_none h9) ‹_›
    · exact AW.ret (hD rfl (Lx.b rfl))
    · have h8 := eq0 ‹((mayN n : Int) != 0) = false›
      rcases (by cases n.leaf <;> simp : n.leaf = true ∨ n.leaf = false) with hl | hl
      · have h7 := (leaf_len (may_leaf h8 hl)).2.1
        have e0 : kidN n k = -1 := kid_none h7
        have e1 : n.kids.length = 0 := by rw [h7]; rfl
        refine AW.loopI (fun j : Nat => j = 0) (fun j => ⟨[(2, .s k), (3, .ptr 3 0), (7, .i .i64 (-1)), (8, .i .i64 0)], [(3, .bx n.av)]⟩) (fun j => 0) 0 rfl (by rw [e0]; (constructor <;> (repeat' (first | exact LeT.nil | exact LeB.nil | apply LeT.cons | apply LeB.cons | exact Ol.refl | apply Lx.s | apply Lx.b | apply Lx.i | exact Lx.refl)) <;> (first | rfl | assumption | omega | (simp only [List.length_map, BS_len]; done) | skip))) fun m j hj ih => ?_
        repeat' (first
    | apply AO.nil
    | (apply AO.kCall 23; refine AO.sCall (hg := gAwake) (h := ?_))
    | (apply AO.kBox; refine AO.sBox (h := ?_))
    | (apply AO.kAdd; refine AO.sAdd (h := ?_))
    | (apply AO.kP; first | refine AO.sP (h := ?_) | refine AO.sPi (h := ?_) | refine AO.sLoadB (h := ?_))
    | apply AW.seq
    | (apply AW.kR; refine AW.sR (h := ?_))
    | apply AW.skip
    | apply AW.block
    | apply AW.out
    | (apply AW.kE; refine AW.sE (h := ?_))
    | apply AW.label
    | (apply AW.kRd; refine AW.sRd (h := ?_))
    | ((first | (apply AO.kG; first | refine AO.sgt (h1 := fun h => ?_) (h2 := fun h => ?_) | refine AO.sgf (h1 := fun h => ?_) (h2 := fun h => ?_) | refine AO.sgs (h := ?_)) | (apply AW.kC; refine AW.sC (h1 := fun h => ?_) (h2 := fun h => ?_)) | (apply AR.kAny; apply AR.kG; first | refine AR.sgt (h1 := fun h => ?_) (h2 := fun h => ?_) | refine AR.sgf (h1 := fun h => ?_) (h2 := fun h => ?_) | refine AR.sgs (h := ?_))) <;> (try (first | exact Bool.noConfusion h | exact absurd h (by decide) | (simp at h; done) | (rw [h]; try simp only [nrm] at h; try rw [h]; try (exfalso; omega)) | skip)))
    | (apply AR.kAny; first | (apply AR.kCall 23; refine AR.sCall (hg := gAwake) (h := ?_)) | (apply AR.kBox; refine AR.sBox (h := ?_)) | (apply AR.kAdd; refine AR.sAdd (h := ?_)) | (apply AR.kP; first | refine AR.sP (h := ?_) | refine AR.sPi (h := ?_)))
    | (apply AR.kNil; refine AR.sNil (h := ?_)))
        · exfalso; omega
        · exact AW.ret (hD rfl (Lx.b rfl))
        · exact AW.ret (hD rfl (Lx.b rfl))
      · obtain ⟨l4, hr, _⟩ := inner_len (may_inner h8 hl).1
        refine AW.loopI (fun j : Nat => j ≤ n.kids.length) (fun j => ⟨[(2, .s k), (3, .ptr 3 0), (7, .i .i64 (kidN n k)), (8, .i .i64 j)], [(3, .bx n.av)]⟩) (fun j => n.kids.length - j) 0 (by simp) (by (constructor <;> (repeat' (first | exact LeT.nil | exact LeB.nil | apply LeT.cons | apply LeB.cons | exact Ol.refl | apply Lx.s | apply Lx.b | apply Lx.i | exact Lx.refl)) <;> (first | rfl | assumption | omega | (simp only [List.length_map, BS_len]; done) | skip))) fun m j hj ih => ?_
        repeat' (first
    | apply AO.nil
    | (apply AO.kCall 23; refine AO.sCall (hg := gAwake) (h := ?_))
    | (apply AO.kCall 26; refine AO.sCall (hg := (gRange _ _ sd sd)) (h := ?_))
    | (apply AO.kCall 29; refine AO.sCall (hg := (gIn' _ _ _ _)) (h := ?_))
    | (apply AO.kBox; refine AO.sBox (h := ?_))
    | (apply AO.kAdd; refine AO.sAdd (h := ?_))
    | (apply AO.kP; first | refine AO.sP (h := ?_) | refine AO.sPi (h := ?_) | refine AO.sLoadB (h := ?_))
    | apply AW.seq
    | (apply AW.kR; refine AW.sR (h := ?_))
    | apply AW.skip
    | apply AW.block
    | apply AW.out
    | (apply AW.kE; refine AW.sE (h := ?_))
    | apply AW.label
    | (apply AW.kRd; refine AW.sRd (h := ?_))
    | ((first | (apply AO.kG; first | refine AO.sgt (h1 := fun h => ?_) (h2 := fun h => ?_) | refine AO.sgf (h1 := fun h => ?_) (h2 := fun h => ?_) | refine AO.sgs (h := ?_)) | (apply AW.kC; refine AW.sC (h1 := fun h => ?_) (h2 := fun h => ?_)) | (apply AR.kAny; apply AR.kG; first | refine AR.sgt (h1 := fun h => ?_) (h2 := fun h => ?_) | refine AR.sgf (h1 := fun h => ?_) (h2 := fun h => ?_) | refine AR.sgs (h := ?_))) <;> (try (first | exact Bool.noConfusion h | exact absurd h (by decide) | (simp at h; done) | (rw [h]; try simp only [nrm] at h; try rw [h]; try (exfalso; omega)) | skip)))
    | (apply AR.kAny; first | (apply AR.kCall 23; refine AR.sCall (hg := gAwake) (h := ?_)) | (apply AR.kCall 26; refine AR.sCall (hg := (gRange _ _ sd sd)) (h := ?_)) | (apply AR.kCall 29; refine AR.sCall (hg := (gIn' _ _ _ _)) (h := ?_)) | (apply AR.kBox; refine AR.sBox (h := ?_)) | (apply AR.kAdd; refine AR.sAdd (h := ?_)) | (apply AR.kP; first | refine AR.sP (h := ?_) | refine AR.sPi (h := ?_)))
    | (apply AR.kNil; refine AR.sNil (h := ?_)))
        · exact absurd (kid_in (k := k) l4 hr (j := j) (by omega)) ‹_›
        · exact ih (j + 1) _ (by omega) (by omega) (by (constructor <;> (repeat' (first | exact LeT.nil | exact LeB.nil | apply LeT.cons | apply LeB.cons | exact Ol.refl | apply Lx.s | apply Lx.b | apply Lx.i | exact Lx.refl)) <;> (first | rfl | assumption | omega | (simp only [List.length_map, BS_len]; done) | skip)))
        all_goals first | (rw [hl] at *; contradiction) | exact AW.ret (hD rfl (Lx.b rfl))
    · exact AW.ret (hD rfl (Lx.b rfl))
end Go.Proofs.Ytmfonbehcfjjgaa.Mv

/- A node trimmed by the document. Under no condition. -/
namespace Go.Proofs.Ytmfonbehcfjjgaa.Mv
open Go Go.Proofs
set_option linter.unusedSimpArgs false
set_option linter.unusedVariables false
set_option maxRecDepth 10000
set_option maxHeartbeats 4000000
attribute [local irreducible] AW AO AR

theorem lt_of_le_lt {a b c : L} (h1 : lt b a = false) (h2 : lt b c = true) : lt a c = true := by
  rcases lt_total a b with h | h | h
  · exact lt_trans h h2
  · subst h; exact h2
  · rw [h] at h1; cases h1
/-- A range stands in that of a beginning just if all its keys begin so. -/
theorem ins_und {lo hi : L} {e : Bool} {a : L} (h : emR lo hi e = false) : insS lo hi e a (succS a) (succOk a) = hp (undS lo hi e) a := by
  rw [Bool.eq_iff_iff]
  constructor
  · intro q
    simp only [insS, h, Bool.false_or, Bool.and_eq_true, Bool.or_eq_true, Bool.not_eq_true'] at q
    obtain ⟨q1, q2⟩ := q
    have q3 : hp lo a = true := by
      cases q4 : hp lo a with
      | true => rfl
      | false =>
        obtain ⟨q5, q6⟩ := (succ_facts a lo).2.1 q1 q4
        rcases q2 with q2 | q2
        · rw [q5] at q2; cases q2
        · have q7 := le_trans' q2.2 q6
          simp only [emR, q2.1, Bool.true_and, Bool.not_eq_false'] at h
          rw [h] at q7; cases q7
    have w : wiS lo hi e a = true := by
      simp only [wiS, q3, Bool.true_and, Bool.or_eq_true, Bool.not_eq_true', Bool.and_eq_true]
      exact q2
    have l := hp_len q3
    have t := hp_iff.1 q3
    have u : undS lo hi e = lo.take (undN lo hi e lo.length) := by simp [undS, h]
    obtain ⟨w1, w2⟩ := undN_spec lo hi e lo.length
    have le : a.length ≤ undN lo hi e lo.length := by
      cases Nat.lt_or_ge (undN lo hi e lo.length) a.length with
      | inl g =>
        have := w2 _ g l
        rw [t, w] at this; cases this
      | inr g => exact g
    rw [u, hp_iff, List.take_take, Nat.min_eq_left le, t]
  · intro q
    have all : ∀ k, inR lo hi e k = true → hp k a = true := fun k hk => hp_trans ((und_facts lo hi e k).2.2.1 hk) q
    have q3 := all lo (in_lo h)
    obtain ⟨s1, s2⟩ := (succ_facts a lo).1 q3
    simp only [insS, h, Bool.false_or, Bool.and_eq_true, Bool.or_eq_true, Bool.not_eq_true']
    refine ⟨s1, ?_⟩
    cases ok : succOk a with
    | false => exact .inl rfl
    | true =>
      right
      have bad : inR lo hi e (succS a) = false := by
        cases g : inR lo hi e (succS a) with
        | false => rfl
        | true =>
          have g2 := ((succ_facts a (succS a)).1 (all _ g)).2 ok
          rw [lt_irrefl] at g2; cases g2
      have s3 := lt_asymm (s2 ok)
      simp only [inR, s3, Bool.not_false, Bool.true_and, Bool.or_eq_false_iff, Bool.not_eq_false'] at bad
      exact ⟨bad.1, bad.2⟩
theorem emC_in {x r : L × L × Bool} (h : emC x r = false) : ∃ k, inR x.1 x.2.1 x.2.2 k = true ∧ inR r.1 r.2.1 r.2.2 k = true := by
  obtain ⟨l1, h1, e1⟩ := x
  obtain ⟨l2, h2, e2⟩ := r
  simp only [emC] at h
  have hc : cutEm l1 h1 e1 l2 h2 e2 = false := by
    cases g : cutEm l1 h1 e1 l2 h2 e2 with
    | false => rfl
    | true => simp [cS, g, emR, lt_irrefl] at h
  refine ⟨mxS l1 l2, ?_⟩
  have := in_lo (lo := mxS l1 l2) (hi := cutHi l1 h1 e1 l2 h2 e2) (e := e1 || e2) hc
  rw [cut_in, Bool.and_eq_true] at this
  exact this
theorem le_rise {ks : List L} (h : rise ks = true) {i j : Nat} (hij : i ≤ j) (hj : j < ks.length) : lt (ks.getD j default) (ks.getD i default) = false := by
  by_cases e : i = j
  · subst e; exact lt_irrefl _
  · exact lt_asymm (rise_lt h j (by omega) hj)
/-- The beginning of a kid's range that is not the first in a range stands in it. -/
theorem piv_in {n : Nd} {r : L × L × Bool} (hl : n.pivots.length + 1 = n.kids.length) (hr : rise n.pivots = true) {j q : Nat} (hjq : j < q) (hq : q < n.kids.length) (h1 : emC (rgN n j) r = false) (h2 : emC (rgN n q) r = false) : inR r.1 r.2.1 r.2.2 (rgN n q).1 = true := by
  obtain ⟨k1, a1, b1⟩ := emC_in h1
  obtain ⟨k2, a2, b2⟩ := emC_in h2
  have e1 : (rgN n j).2.1 = n.pivots.getD j default ∧ (rgN n j).2.2 = true := by
    unfold rgN; rw [if_neg (by omega)]
    simp only
    rw [if_pos (by omega), show ((j : Nat) : Int).toNat = j by omega]
    exact ⟨rfl, decide_eq_true (by omega)⟩
  have e2 : (rgN n q).1 = n.pivots.getD (q - 1) default := by
    unfold rgN; rw [if_neg (by omega)]
    simp only
    rw [if_pos (by omega), show (((q : Nat) : Int) - 1).toNat = q - 1 by omega]
  have f1 : lt k1 (n.pivots.getD j default) = true := by
    simp only [inR, e1.1, e1.2, Bool.and_eq_true, Bool.not_true, Bool.false_or] at a1; exact a1.2
  have f2 := lt_of_lt_le f1 (le_rise hr (show j ≤ q - 1 by omega) (by omega))
  rw [← e2] at f2
  simp only [inR, Bool.and_eq_true, Bool.not_eq_true', Bool.or_eq_true] at a2 b1 b2 ⊢
  refine ⟨lt_asymm (lt_of_le_lt b1.1 f2), ?_⟩
  rcases b2.2 with b | b
  · exact .inl b
  · exact .inr (lt_of_le_lt a2.1 b)
end Go.Proofs.Ytmfonbehcfjjgaa.Mv

/- The document's example of trimming; the statement of Shifts. Under no condition. -/
namespace Go.Proofs.Ytmfonbehcfjjgaa.Mv
open Go Go.Proofs
set_option linter.unusedSimpArgs false
set_option linter.unusedVariables false
set_option maxRecDepth 10000
set_option maxHeartbeats 4000000
attribute [local irreducible] AW AO AR

theorem Good.le {P : Program} {f : FuncId} {args args' : List AV} {res : AV} {outs : List (Nat × Ob)} (h : Good P f args [] res outs) (hl : LeL args' args) : Good P f args' [] res outs :=
  ⟨h.fn, fun w Γ m vals gok hv hobs hinj => h.calls w Γ m vals gok (hl.rep hv) hobs hinj⟩
def nT : Nd := ⟨true, [⟨[97, 98], []⟩, ⟨[97, 99], []⟩, ⟨[98], []⟩], [], [], []⟩
def nT2 : Nd := ⟨true, [⟨[98], []⟩, ⟨[99], []⟩], [], [], []⟩
theorem nTs : nT.small := ⟨by decide, by decide, by decide, by decide⟩
theorem nT2s : nT2.small := ⟨by decide, by decide, by decide, by decide⟩
theorem nTx : nT.strs := ⟨fun i hi => by simp [nT] at hi, rfl⟩
theorem nTn : trN nT ([97], succS [97], succOk [97]) [97] = nT2 := by decide +kernel
theorem nTe : trE nT ([97], succS [97], succOk [97]) [97] = 0 := by decide +kernel
theorem gSameA : Good Try.prog 18 [.agg nT2.av, .agg [.b true, .gr 21 87 2 [[.s [98], .s []], [.s [99], .s []]], .nil, .nil, .nil]] [] (.b true) [] := by
  have h := gSame' nT2 nT2 nT2s nT2s
  rw [decide_eq_true rfl] at h
  exact h.le (.cons (.refl _) (.cons (.aggL (.cons (.refl _) (.cons .gr (.cons .nil (.cons .nil (.cons .nil .nil)))))) .nil))
/-! ### the statement of Shifts */ -/
theorem shift_law (s2 a2 a k : L) (h : joinOk [] a s2 a2 = true) : upS (joinS [] a s2 a2) (joinA [] a s2 a2) k = upS s2 a2 (a ++ k) ∧ hp k (joinS [] a s2 a2) = hp (a ++ k) s2 := by
  have q := (join_law [] a s2 a2 k).2 h
  have u : upS [] a k = a ++ k := by simp [upS, hp_nil]
  rw [u, hp_nil, Bool.true_and, if_pos rfl] at q
  exact ⟨q.2, q.1⟩
end Go.Proofs.Ytmfonbehcfjjgaa.Mv

/- What is trimmed may be. Plain. -/
namespace Go.Proofs.Ytmfonbehcfjjgaa.Mv
open Go Go.Proofs
set_option linter.unusedSimpArgs false
set_option linter.unusedVariables false
set_option maxRecDepth 10000
set_option maxHeartbeats 4000000

theorem rise_pw : ∀ {ks : List L}, rise ks = true ↔ ks.Pairwise (fun x y => lt x y = true)
  | [] => by simp [rise]
  | [a] => by simp [rise]
  | a :: b :: r => by
    rw [rise_cons, Bool.and_eq_true, rise_pw (ks := b :: r)]
    constructor
    · rintro ⟨h1, h2⟩
      refine List.pairwise_cons.2 ⟨fun x hx => ?_, h2⟩
      rcases List.mem_cons.1 hx with rfl | hx
      · exact h1
      · exact lt_trans h1 ((List.pairwise_cons.1 h2).1 x hx)
    · intro h
      obtain ⟨h1, h2⟩ := List.pairwise_cons.1 h
      exact ⟨h1 b (by simp), h2⟩
theorem lt_cut {x y a : L} (hx : hp x a = true) (hy : hp y a = true) : lt (cutS x a) (cutS y a) = lt x y := by
  obtain ⟨s, rfl⟩ := hp_pre.1 hx
  obtain ⟨t, rfl⟩ := hp_pre.1 hy
  rw [cutS_hp hx, cutS_hp hy, List.drop_left', List.drop_left', lt_app] <;> rfl
theorem in_em {lo hi : L} {e : Bool} {k : L} (h : inR lo hi e k = true) : emR lo hi e = false := by
  simp only [inR, Bool.and_eq_true, Bool.not_eq_true', Bool.or_eq_true] at h
  rcases h.2 with g | g
  · rw [emR, g]; rfl
  · rw [emR, lt_of_le_lt h.1 g]; simp
theorem emC_some {x r : L × L × Bool} {k : L} (h1 : inR x.1 x.2.1 x.2.2 k = true) (h2 : inR r.1 r.2.1 r.2.2 k = true) : emC x r = false := by
  refine in_em (k := k) ?_
  rw [cS_in, h1, h2]; rfl
/-! ### a leaf -/
theorem leaf_parts {n : Nd} (h : leafOk n = true) : rise (n.pairs.map Pr.k) = true ∧ n.pairs.all prLen = true := by
  simp only [leafOk, Bool.and_eq_true] at h
  exact ⟨h.1.2, h.2⟩
theorem trPr_rise {l : List Pr} {r : L × L × Bool} {a : L} (hr : rise (l.map Pr.k) = true) (hu : hp (undS r.1 r.2.1 r.2.2) a = true) : rise ((trPr l r a).map Pr.k) = true := by
  rw [rise_pw, List.pairwise_map] at hr
  rw [rise_pw, trPr, List.pairwise_map, List.pairwise_map]
  have h := hr.filter (prKeep r)
  refine List.Pairwise.imp_of_mem ?_ h
  intro x y hx hy hxy
  have kx := (List.mem_filter.1 hx).2
  have ky := (List.mem_filter.1 hy).2
  have px := hp_trans ((und_facts _ _ _ _).2.2.1 kx) hu
  have py := hp_trans ((und_facts _ _ _ _).2.2.1 ky) hu
  show lt (cutS x.k a) (cutS y.k a) = true
  rw [lt_cut px py]; exact hxy
theorem trPr_all {l : List Pr} {r : L × L × Bool} {a : L} (h : l.all prLen = true) : (trPr l r a).all prLen = true := by
  rw [List.all_eq_true] at h ⊢
  intro x hx
  obtain ⟨y, hy, rfl⟩ := List.mem_map.1 hx
  have q := h y (List.mem_filter.1 hy).1
  have := cutS_len y.k a
  simp only [prLen, Bool.and_eq_true, decide_eq_true_eq] at q
  show (decide ((cutS y.k a).length ≤ 16) && decide (y.v.length ≤ 32)) = true
  rw [Bool.and_eq_true, decide_eq_true_eq, decide_eq_true_eq]; exact ⟨by omega, q.2⟩
/-! ### messages -/
theorem mv_may {m : Ms} {a : L} (h : msMay m = true) (h2 : (mvR m a).2 = true) : msMay (mvR m a).1 = true := by
  unfold mvR at h2 ⊢
  by_cases c : hp m.key a = true
  · rw [if_pos c]
    have l := cutS_len m.key a
    simp only [msMay, Bool.and_eq_true, decide_eq_true_eq] at h ⊢
    exact ⟨by omega, h.2⟩
  · rw [if_neg c] at h2 ⊢
    by_cases d : m.kind = 3 ∧ hp a m.key = true ∧ m.add.length + (cutS a m.key).length ≤ 16
    · rw [if_pos d]
      simp only [msMay, Bool.and_eq_true, decide_eq_true_eq] at h ⊢
      refine ⟨by simp, ?_⟩
      have h3 := h.2
      rw [d.1] at h3 ⊢
      simp only [show ¬ ((3 : UInt8) = 1) by decide, show ¬ ((3 : UInt8) = 2) by decide, if_false, if_true, Bool.and_eq_true, decide_eq_true_eq] at h3 ⊢
      exact ⟨⟨by rw [List.length_append]; exact d.2.2, h3.1.2⟩, h3.2⟩
    · rw [if_neg d] at h2; cases h2
theorem trMs_may {l : List Ms} {r : L × L × Bool} {a : L} (h : l.all msMay = true) (h2 : trMsOk l r a = true) : (trMsR l r a).all msMay = true := by
  rw [trMsOk, List.all_eq_true] at h2
  rw [List.all_eq_true] at h ⊢
  intro x hx
  obtain ⟨y, hy, rfl⟩ := List.mem_map.1 hx
  exact mv_may (h y (List.mem_filter.1 hy).1) (h2 y hy)
/-! ### kids -/
theorem rg_lo {n : Nd} {q : Nat} (h0 : 0 < q) (hl : n.pivots.length + 1 = n.kids.length) (hq : q < n.kids.length) : (rgN n q).1 = n.pivots.getD (q - 1) default := by
  unfold rgN; rw [if_neg (by omega)]
  simp only
  rw [if_pos (by omega), show (((q : Nat) : Int) - 1).toNat = q - 1 by omega]
theorem rg_hi {n : Nd} {j : Nat} (hl : n.pivots.length + 1 = n.kids.length) (hj : j < n.pivots.length) : (rgN n j).2.1 = n.pivots.getD j default ∧ (rgN n j).2.2 = true := by
  unfold rgN; rw [if_neg (by omega)]
  simp only
  rw [if_pos (by omega), show ((j : Nat) : Int).toNat = j by omega]
  exact ⟨rfl, decide_eq_true (by omega)⟩
/-- What holds of a node's kids while they are trimmed. -/
structure KI (n : Nd) (r : L × L × Bool) (a : L) (q : Nat) (ps : List L) (ks : List Ed) : Prop where
  len : (ks = [] ∧ ps = []) ∨ ps.length + 1 = ks.length
  most : ks.length ≤ q
  ok : ks.all edOk = true
  piv : ∀ p ∈ ps, p ≠ [] ∧ p.length ≤ 16 ∧ ∃ i, 0 < i ∧ i < q ∧ p = cutS (rgN n i).1 a ∧ hp (rgN n i).1 a = true
  up : ps.Pairwise (fun x y => lt x y = true)
  some : ks ≠ [] → ∃ j, j < q ∧ emC (rgN n j) r = false
  none : ks = [] → ∀ j, j < q → emC (rgN n j) r = true
theorem KI.start (n : Nd) (r : L × L × Bool) (a : L) : KI n r a 0 [] [] :=
  ⟨.inl ⟨rfl, rfl⟩, by simp, rfl, fun p hp => by simp at hp, List.Pairwise.nil, fun h => absurd rfl h, fun _ j hj => by omega⟩
theorem KI.skip {n : Nd} {r : L × L × Bool} {a : L} {q : Nat} {ps : List L} {ks : List Ed} (h : KI n r a q ps ks) (hq : emC (rgN n q) r = true) : KI n r a (q + 1) ps ks :=
  ⟨h.len, by have := h.most; omega, h.ok, fun p hp => by obtain ⟨a1, a2, i, b1, b2, b3⟩ := h.piv p hp; exact ⟨a1, a2, i, b1, by omega, b3⟩, h.up, fun g => by obtain ⟨j, j1, j2⟩ := h.some g; exact ⟨j, by omega, j2⟩, fun g j hj => by
    by_cases e : j = q
    · subst e; exact hq
    · exact h.none g j (by omega)⟩
theorem kid_edOk {n : Nd} {a : L} {q : Nat} (hq : q < n.kids.length) (hk : n.kids.all edOk = true) (h : kidOk n a q = true) : edOk (trKid n a q) = true := by
  have g := List.all_eq_true.1 hk (n.kids.getD q default) (by rw [List.getD_eq_getElem?_getD, List.getElem?_eq_getElem hq]; exact List.getElem_mem hq)
  simp only [kidOk, Bool.and_eq_true] at h
  simp only [edOk, Bool.and_eq_true] at g ⊢
  exact ⟨⟨g.1.1, h.2.1⟩, h.2.2⟩
theorem KI.more {n : Nd} {r : L × L × Bool} {a : L} {q : Nat} {ps : List L} {ks : List Ed} (hi : innerOk n = true) (hu : hp (undS r.1 r.2.1 r.2.2) a = true) (h : KI n r a q ps ks) (hq : q < n.kids.length) (he : emC (rgN n q) r = false) (hk : kidOk n a q = true) :
    KI n r a (q + 1) (if 0 < ks.length then ps ++ [cutS (rgN n q).1 a] else ps) (ks ++ [trKid n a q]) := by
  obtain ⟨pl, pr, _⟩ := inner_len hi
  have hi2 := hi
  simp only [innerOk, Bool.and_eq_true] at hi2
  have kok := hi2.1.1.2
  have p16 := hi2.1.2.2
  have ok2 : (ks ++ [trKid n a q]).all edOk = true := by
    rw [List.all_append, h.ok, List.all_cons, kid_edOk hq kok hk]; rfl
  have most2 : (ks ++ [trKid n a q]).length ≤ q + 1 := by
    have := h.most; simp; omega
  by_cases c : 0 < ks.length
  · rw [if_pos c]
    have hne : ks ≠ [] := fun e => by rw [e] at c; simp at c
    obtain ⟨j, j1, j2⟩ := h.some hne
    have hin := piv_in pl pr j1 hq j2 he
    have hpre : hp (rgN n q).1 a = true := hp_trans ((und_facts _ _ _ _).2.2.1 hin) hu
    have lo := rg_lo (n := n) (q := q) (by omega) pl hq
    refine ⟨.inr ?_, most2, ok2, ?_, ?_, fun _ => ⟨q, by omega, he⟩, fun e => by simp at e⟩
    · rcases h.len with ⟨e, _⟩ | e
      · exact absurd e hne
      · simp; omega
    · intro p hp'
      rcases List.mem_append.1 hp' with g | g
      · obtain ⟨a1, a2, i, b1, b2, b3⟩ := h.piv p g; exact ⟨a1, a2, i, b1, by omega, b3⟩
      · obtain rfl : p = cutS (rgN n q).1 a := by simpa using g
        refine ⟨?_, ?_, q, by omega, by omega, rfl, hpre⟩
        · intro e
          obtain ⟨k, k1, k2⟩ := emC_in j2
          have kp : hp k a = true := hp_trans ((und_facts _ _ _ _).2.2.1 k2) hu
          have hj := rg_hi (n := n) pl (show j < n.pivots.length by omega)
          have f1 : lt k (n.pivots.getD j default) = true := by
            simp only [inR, hj.1, hj.2, Bool.and_eq_true, Bool.not_true, Bool.false_or] at k1; exact k1.2
          have f2 := lt_of_lt_le f1 (le_rise pr (show j ≤ q - 1 by omega) (by omega))
          rw [← lo, ← lt_cut kp hpre, e, lt_nil] at f2
          cases f2
        · have := cutS_len (rgN n q).1 a
          have g16 := List.all_eq_true.1 p16 (n.pivots.getD (q - 1) default) (by rw [List.getD_eq_getElem?_getD, List.getElem?_eq_getElem (show q - 1 < n.pivots.length by omega)]; exact List.getElem_mem _)
          rw [← lo, decide_eq_true_eq] at g16
          omega
    · rw [List.pairwise_append]
      refine ⟨h.up, by simp, fun x hx y hy => ?_⟩
      obtain rfl : y = cutS (rgN n q).1 a := by simpa using hy
      obtain ⟨_, _, i, i0, iq, rfl, ip⟩ := h.piv x hx
      rw [lt_cut ip hpre, lo, rg_lo i0 pl (by omega)]
      exact rise_lt pr _ (by omega) (by omega)
  · rw [if_neg c]
    have e : ks = [] := List.eq_nil_of_length_eq_zero (by omega)
    have e2 : ps = [] := by
      rcases h.len with ⟨_, g⟩ | g
      · exact g
      · rw [e] at g; simp at g
    subst e; subst e2
    exact ⟨.inr rfl, most2, ok2, fun p hp' => by simp at hp', List.Pairwise.nil, fun _ => ⟨q, by omega, he⟩, fun e => by simp at e⟩
theorem KI.run {n : Nd} {r : L × L × Bool} {a : L} (hi : innerOk n = true) (hu : hp (undS r.1 r.2.1 r.2.2) a = true) : ∀ (u q : Nat) (ps : List L) (ks : List Ed), q + u = n.kids.length → KI n r a q ps ks → (kRun n r a u q ps ks).2 = true → KI n r a n.kids.length (kRun n r a u q ps ks).1.1 (kRun n r a u q ps ks).1.2
  | 0, q, ps, ks, hq, h, _ => by
    obtain rfl : q = n.kids.length := by omega
    exact h
  | u + 1, q, ps, ks, hq, h, hok => by
    rw [kRun] at hok ⊢
    by_cases c : emC (rgN n q) r = true
    · rw [if_pos c] at hok ⊢
      exact KI.run hi hu u (q + 1) _ _ (by omega) (h.skip c) hok
    · rw [if_neg c] at hok ⊢
      by_cases d : kidOk n a q = false
      · rw [if_pos d] at hok; cases hok
      · rw [if_neg d] at hok ⊢
        exact KI.run hi hu u (q + 1) _ _ (by omega) (h.more hi hu (by omega) (by simpa using c) (by simpa using d)) hok
/-- What is trimmed may be. -/
theorem tr_may {n : Nd} {r : L × L × Bool} {a : L} (h : trE n r a = 0) : mayN (trN n r a) = 0 := by
  by_cases h0 : mayN n = 0
  · cases g : (emR r.1 r.2.1 r.2.2 || !hp (undS r.1 r.2.1 r.2.2) a) with
    | true => rw [(tr1 h0 g).1] at h; cases h
    | false =>
      have g' := g
      simp only [Bool.or_eq_false_iff, Bool.not_eq_false'] at g'
      obtain ⟨g1, hu⟩ := g'
      cases hl : n.leaf with
      | true =>
        rw [(trL h0 g hl).2]
        obtain ⟨p1, p2⟩ := leaf_parts (may_leaf h0 hl)
        have m16 : n.pairs.length ≤ 16 := by
          unfold mayN at h0; split at h0
          · cases h0
          · omega
        have l16 := trPr_len n.pairs r a
        unfold mayN
        rw [if_neg (by simp only [List.length_nil]; omega)]
        simp only [if_true]
        rw [if_pos]
        simp only [leafOk, List.isEmpty_nil, Bool.true_and, Bool.and_eq_true]
        exact ⟨trPr_rise p1 hu, trPr_all p2⟩
      | false =>
        obtain ⟨hi, k8, b16⟩ := may_inner h0 hl
        cases h4 : (kRun n r a n.kids.length 0 [] []).2 with
        | false => rw [(trK1 h0 g hl h4).1] at h; cases h
        | true =>
          cases h5 : trMsOk n.buf r a with
          | false => rw [(trK2 h0 g hl h4 h5).1] at h; cases h
          | true =>
            rw [(trK3 h0 g hl h4 h5).2]
            have K := KI.run hi hu _ 0 [] [] (by omega) (KI.start n r a) h4
            generalize (kRun n r a n.kids.length 0 [] []).1.1 = ps at *
            generalize (kRun n r a n.kids.length 0 [] []).1.2 = ks at *
            obtain ⟨pl, pr, _⟩ := inner_len hi
            have hne : ks ≠ [] := fun e => by
              obtain ⟨e1, e2⟩ := kid_at (n := n) (k := r.1) pl pr
              have hb : bs (kidF n r.1) 0 n.pivots.length < n.kids.length := by omega
              have i1 := kid_in (n := n) (k := r.1) pl pr hb
              rw [e1, beq_self_eq_true] at i1
              have := K.none e _ hb
              rw [emC_some i1 (in_lo g1)] at this
              cases this
            have hlen : ps.length + 1 = ks.length := by
              rcases K.len with ⟨e, _⟩ | e
              · exact absurd e hne
              · exact e
            have hml := trMsR_len n.buf r a
            have hkm := K.most
            unfold mayN
            rw [if_neg (by simp only [List.length_nil]; omega)]
            simp only [Bool.false_eq_true, if_false]
            rw [if_pos]
            have i2 := hi
            simp only [innerOk, Bool.and_eq_true] at i2
            simp only [innerOk, List.isEmpty_nil, Bool.true_and, Bool.and_eq_true, decide_eq_true_eq, Bool.not_eq_true', List.isEmpty_eq_false_iff]
            refine ⟨⟨⟨⟨hne, hlen⟩, K.ok⟩, ?_, ?_⟩, trMs_may i2.2 h5⟩
            · rw [rise_pw, List.pairwise_cons]
              refine ⟨fun p hp' => ?_, K.up⟩
              have := (K.piv p hp').1
              rw [lt_nil_iff]; simpa using this
            · rw [List.all_eq_true]; intro p hp'
              exact decide_eq_true (K.piv p hp').2.1
  · rw [(tr3 h0).1] at h; cases h
end Go.Proofs.Ytmfonbehcfjjgaa.Mv

/- The statement of trimmed parts. Under no condition. -/
namespace Go.Proofs.Ytmfonbehcfjjgaa.Mv
open Go Go.Proofs
set_option linter.unusedSimpArgs false
set_option linter.unusedVariables false
set_option maxRecDepth 10000
set_option maxHeartbeats 4000000
attribute [local irreducible] AW AO AR

theorem may_small {n : Nd} (h : mayN n = 0) : n.small := by
  have h' := h
  unfold mayN at h'
  split at h'
  · cases h'
  · rename_i c
    rcases (by cases n.leaf <;> simp : n.leaf = true ∨ n.leaf = false) with hl | hl
    · obtain ⟨e1, e2, e3⟩ := leaf_len (may_leaf h hl)
      exact ⟨by omega, by rw [e1]; simp, by omega, by omega⟩
    · obtain ⟨e1, _, _⟩ := inner_len (may_inner h hl).1
      exact ⟨by omega, by omega, by omega, by omega⟩
theorem zero_small : ndZ.small := ⟨by decide, by decide, by decide, by decide⟩
theorem trN_bad {n : Nd} {r : L × L × Bool} {a : L} (h : trE n r a ≠ 0) : trN n r a = ndZ := by rw [trN, if_pos h]
theorem trN_small (n : Nd) (r : L × L × Bool) (a : L) : (trN n r a).small := by
  by_cases h : trE n r a = 0
  · exact may_small (tr_may h)
  · rw [trN_bad h]; exact zero_small
theorem great_strs {n : Nd} (h : great n = false) : n.strs := by
  simp only [great, greatM, Bool.or_eq_false_iff, Bool.not_eq_false'] at h
  obtain ⟨⟨⟨⟨⟨_, _⟩, _⟩, _, h4⟩, _⟩, h6⟩ := h
  refine ⟨fun i hi => ?_, ?_⟩
  · have := List.all_eq_true.1 h6 (n.kids.getD i default) (by rw [List.getD_eq_getElem?_getD, List.getElem?_eq_getElem hi]; exact List.getElem_mem hi)
    simp only [edG, Bool.and_eq_true, Bool.not_eq_true', decide_eq_false_iff_not] at this
    omega
  · rw [List.all_eq_true] at h4 ⊢
    intro x hx
    have := h4 x hx
    simp only [msG, Bool.and_eq_true, Bool.not_eq_true', decide_eq_false_iff_not] at this
    simp only [msSm, Bool.and_eq_true, decide_eq_true_eq]
    omega
end Go.Proofs.Ytmfonbehcfjjgaa.Mv

/- Nodes: where a key leads, by the document. Under no condition. -/
namespace Go.Proofs.Ytmfonbehcfjjgaa.Mv
open Go Go.Proofs
set_option linter.unusedSimpArgs false
set_option linter.unusedVariables false
set_option maxRecDepth 10000
set_option maxHeartbeats 4000000
attribute [local irreducible] AW AO AR

def getP : List Pr → L → Option L
  | [], _ => none
  | p :: l, k => if p.k = k then some p.v else getP l k
theorem gGet (l : List Pr) (k : L) (hl : l.length ≤ 1000000) : Good Try.prog 103 [.sh 2 (l.map Pr.av), .s k] [] (.tup [.s ((getP l k).getD []), .b (getP l k).isSome]) [] := by
  have ll : (l.map Pr.av).length = l.length := by simp
  refine Good.w tabOk mixed Try.func103 (N := 25) (by kernel_rfl) rfl (by (repeat (first | exact LE.nil | apply LE.cons)); done) (by (repeat (first | exact LE.nil | apply LE.cons)); done) fun D hD F => ?_
  repeat' (first
    | apply AO.nil
    | (apply AO.kIx; first | refine AO.sIxN (h := ?_) | refine AO.sIx (h := ?_) | refine AO.sP (h := ?_) | refine AO.sPi (h := ?_))
    | (apply AO.kAdd; refine AO.sAdd (h := ?_))
    | (apply AO.kP; first | refine AO.sP (h := ?_) | refine AO.sPi (h := ?_) | refine AO.sLoadB (h := ?_))
    | apply AW.seq
    | (apply AW.kR; refine AW.sR (h := ?_))
    | apply AW.skip
    | apply AW.block
    | apply AW.out
    | (apply AW.kE; refine AW.sE (h := ?_))
    | apply AW.label
    | ((first | (apply AW.kC; refine AW.sC (h1 := fun h => ?_) (h2 := fun h => ?_))) <;> (try (first | exact Bool.noConfusion h | exact absurd h (by decide) | (simp at h; done) | (rw [h]; try simp only [nrm] at h; try rw [h]; try (exfalso; omega)) | skip))))
  refine AW.loopI (fun q : Nat => q ≤ l.length ∧ getP (l.drop q) k = getP l k) (fun q => ⟨[(0, .sh 2 (l.map Pr.av)), (1, .s k), (8, .i .i64 l.length), (9, .i .i64 q)], []⟩) (fun q => l.length - q) 0 ⟨by simp, by simp⟩ (by (constructor <;> (repeat' (first | exact LeT.nil | exact LeB.nil | apply LeT.cons | apply LeB.cons | exact Ol.refl | apply Lx.s | apply Lx.b | apply Lx.i | exact Lx.refl)) <;> (first | rfl | assumption | omega | (simp only [List.length_map, BS_len]; done) | skip))) fun m q ⟨hn, hc⟩ ih => ?_
  repeat' (first
    | apply AO.nil
    | (apply AO.kIx; first | refine AO.sIxN (h := ?_) | refine AO.sIx (h := ?_) | refine AO.sP (h := ?_) | refine AO.sPi (h := ?_))
    | (apply AO.kAdd; refine AO.sAdd (h := ?_))
    | (apply AO.kP; first | refine AO.sP (h := ?_) | refine AO.sPi (h := ?_) | refine AO.sLoadB (h := ?_))
    | apply AW.seq
    | (apply AW.kR; refine AW.sR (h := ?_))
    | apply AW.skip
    | apply AW.block
    | apply AW.out
    | (apply AW.kE; refine AW.sE (h := ?_))
    | apply AW.label
    | ((first | (apply AW.kC; refine AW.sC (h1 := fun h => ?_) (h2 := fun h => ?_))) <;> (try (first | exact Bool.noConfusion h | exact absurd h (by decide) | (simp at h; done) | (rw [h]; try simp only [nrm] at h; try rw [h]; try (exfalso; omega)) | skip))))
  · have hq : q < l.length := by omega
    rw [dropD hq, getP, if_pos h] at hc
    rw [← hc] at hD
    exact AW.ret (hD rfl .refl)
  · have hq : q < l.length := by omega
    rw [dropD hq, getP, if_neg h] at hc
    exact ih (q + 1) _ ⟨by omega, hc⟩ (by omega) (by (constructor <;> (repeat' (first | exact LeT.nil | exact LeB.nil | apply LeT.cons | apply LeB.cons | exact Ol.refl | apply Lx.s | apply Lx.b | apply Lx.i | exact Lx.refl)) <;> (first | rfl | assumption | omega | (simp only [List.length_map, BS_len]; done) | skip)))
  · rw [List.drop_of_length_le (by omega), getP] at hc
    rw [← hc] at hD
    exact AW.ret (hD rfl .refl)
/-- Does a message speak of a key? -/
def spk (m : Ms) (k : L) : Bool := if m.kind = 3 then hp k m.key else (m.kind == 1 || m.kind == 2) && k == m.key
theorem gSpeaks' (m : Ms) (k : L) : Good Try.prog 126 [.agg m.av, .s k] [] (.b (spk m k)) [] := by
  refine Good.w tabOk mixed Try.func126 (N := 26) (by kernel_rfl) rfl (by (repeat (first | exact LE.nil | apply LE.cons)); done) (by (repeat (first | exact LE.nil | apply LE.cons)); done) fun D hD F => ?_
  repeat' (first
    | apply AO.nil
    | (apply AO.kCall 132; refine AO.sCall (hg := (gHas' _ _)) (h := ?_))
    | (apply AO.kBox; refine AO.sBox (h := ?_))
    | (apply AO.kP; first | refine AO.sP (h := ?_) | refine AO.sPi (h := ?_) | refine AO.sLoadB (h := ?_))
    | apply AW.seq
    | (apply AW.kR; refine AW.sR (h := ?_))
    | apply AW.skip
    | apply AW.block
    | apply AW.out
    | (apply AW.kE; refine AW.sE (h := ?_))
    | apply AW.label
    | ((first | (apply AO.kG; first | refine AO.sgt (h1 := fun h => ?_) (h2 := fun h => ?_) | refine AO.sgf (h1 := fun h => ?_) (h2 := fun h => ?_) | refine AO.sgs (h := ?_)) | (apply AW.kC; refine AW.sC (h1 := fun h => ?_) (h2 := fun h => ?_))) <;> (try (first | exact Bool.noConfusion h | exact absurd h (by decide) | (simp at h; done) | (rw [h]; try simp only [nrm] at h; try rw [h]; try (exfalso; omega)) | skip))))
  all_goals (refine AW.ret (hD rfl ?_); (repeat' (first | apply Lx.s | apply Lx.b | apply Lx.i | apply LxL.cons | exact LxL.nil | apply Lx.tup | apply Lx.agg | apply Lx.refl)) <;> (try with_reducible rfl))
  all_goals (simp only [k1, k2, k3] at *; simp_all [spk])
/-- The last message that speaks of a key. -/
def lastI (l : List Ms) (k : L) : Nat → Int
  | 0 => -1
  | q + 1 => if spk (l.getD q default) k = true then (q : Int) else lastI l k q
theorem lastI_lt (l : List Ms) (k : L) : ∀ q, -1 ≤ lastI l k q ∧ lastI l k q < q
  | 0 => by simp [lastI]
  | q + 1 => by
    have := lastI_lt l k q
    rw [lastI]; split <;> omega
theorem gLast' (l : List Ms) (k : L) (hl : l.length ≤ 1000000) : Good Try.prog 104 [.sh 6 (l.map Ms.av), .s k] [] (.i .i64 (lastI l k l.length)) [] := by
  have ll : (l.map Ms.av).length = l.length := by simp
  refine Good.w tabOk mixed Try.func104 (N := 21) (by kernel_rfl) rfl (by (repeat (first | exact LE.nil | apply LE.cons)); done) (by (repeat (first | exact LE.nil | apply LE.cons)); done) fun D hD F => ?_
  repeat' (first
    | apply AO.nil
    | (apply AO.kIx; first | refine AO.sIxN (h := ?_) | refine AO.sIx (h := ?_) | refine AO.sP (h := ?_) | refine AO.sPi (h := ?_))
    | (apply AO.kAdd; refine AO.sAdd (h := ?_))
    | (apply AO.kP; first | refine AO.sP (h := ?_) | refine AO.sPi (h := ?_) | refine AO.sLoadB (h := ?_))
    | apply AW.seq
    | (apply AW.kR; refine AW.sR (h := ?_))
    | apply AW.skip
    | apply AW.block
    | apply AW.out
    | (apply AW.kE; refine AW.sE (h := ?_))
    | apply AW.label
    | ((first | (apply AW.kC; refine AW.sC (h1 := fun h => ?_) (h2 := fun h => ?_))) <;> (try (first | exact Bool.noConfusion h | exact absurd h (by decide) | (simp at h; done) | (rw [h]; try simp only [nrm] at h; try rw [h]; try (exfalso; omega)) | skip))))
  refine AW.loopI (fun q : Nat => q ≤ l.length) (fun q => ⟨[(0, .sh 6 (l.map Ms.av)), (1, .s k), (5, .i .i64 (lastI l k q)), (8, .i .i64 l.length), (9, .i .i64 q)], []⟩) (fun q => l.length - q) 0 (by simp) (by (constructor <;> (repeat' (first | exact LeT.nil | exact LeB.nil | apply LeT.cons | apply LeB.cons | exact Ol.refl | apply Lx.s | apply Lx.b | apply Lx.i | exact Lx.refl)) <;> (first | rfl | assumption | omega | (simp only [List.length_map, BS_len]; done) | skip))) fun m q hn ih => ?_
  repeat' (first
    | apply AO.nil
    | (apply AO.kCall 126; refine AO.sCall (hg := (gSpeaks' _ _)) (h := ?_))
    | (apply AO.kIx; first | refine AO.sIxN (h := ?_) | refine AO.sIx (h := ?_) | refine AO.sP (h := ?_) | refine AO.sPi (h := ?_))
    | (apply AO.kAdd; refine AO.sAdd (h := ?_))
    | (apply AO.kP; first | refine AO.sP (h := ?_) | refine AO.sPi (h := ?_) | refine AO.sLoadB (h := ?_))
    | apply AW.seq
    | (apply AW.kR; refine AW.sR (h := ?_))
    | apply AW.skip
    | apply AW.block
    | apply AW.out
    | (apply AW.kE; refine AW.sE (h := ?_))
    | apply AW.label
    | ((first | (apply AW.kC; refine AW.sC (h1 := fun h => ?_) (h2 := fun h => ?_))) <;> (try (first | exact Bool.noConfusion h | exact absurd h (by decide) | (simp at h; done) | (rw [h]; try simp only [nrm] at h; try rw [h]; try (exfalso; omega)) | skip))))
  · have e : lastI l k (q + 1) = (q : Int) := by rw [lastI, if_pos h]
    exact ih (q + 1) _ (by omega) (by omega) (by rw [e]; (constructor <;> (repeat' (first | exact LeT.nil | exact LeB.nil | apply LeT.cons | apply LeB.cons | exact Ol.refl | apply Lx.s | apply Lx.b | apply Lx.i | exact Lx.refl)) <;> (first | rfl | assumption | omega | (simp only [List.length_map, BS_len]; done) | skip)))
  · have e : lastI l k (q + 1) = lastI l k q := by rw [lastI, if_neg (by rw [h]; decide)]
    exact ih (q + 1) _ (by omega) (by omega) (by rw [e]; (constructor <;> (repeat' (first | exact LeT.nil | exact LeB.nil | apply LeT.cons | apply LeB.cons | exact Ol.refl | apply Lx.s | apply Lx.b | apply Lx.i | exact Lx.refl)) <;> (first | rfl | assumption | omega | (simp only [List.length_map, BS_len]; done) | skip)))
  all_goals (obtain rfl : q = l.length := by omega)
  all_goals exact AW.ret (hD rfl .refl)
def onW (b : B32) (d : W16) (s a k : L) : Wy := if hp k s = true then ⟨2, [], b, d, upS s a k⟩ else wayZ
theorem gOn' (b : B32) (d : W16) (s a k : L) (h1 : a.length + k.length ≤ 137438953472) : Good Try.prog 106 [.i .u32 b.toNat, .i .u16 d.toNat, .agg [.s s, .s a], .s k] [] (.agg (onW b d s a k).av) [] := by
  refine Good.w tabOk mixed Try.func106 (N := 24) (by kernel_rfl) rfl (by (repeat (first | exact LE.nil | apply LE.cons)); done) (by (repeat (first | exact LE.nil | apply LE.cons)); done) fun D hD F => ?_
  repeat' (first
    | apply AO.nil
    | (apply AO.kCall 127; refine AO.sCall (hg := (gUp' _ _ _ h1)) (h := ?_))
    | (apply AO.kBox; refine AO.sBox (h := ?_))
    | (apply AO.kAlloc; refine AO.sAlloc (h := ?_))
    | (apply AO.kStore; first | refine AO.sStore (h := ?_) | refine AO.sStB (h := ?_))
    | (apply AO.kP; first | refine AO.sP (h := ?_) | refine AO.sPi (h := ?_) | refine AO.sLoadB (h := ?_))
    | apply AW.seq
    | (apply AW.kR; refine AW.sR (h := ?_))
    | apply AW.skip
    | apply AW.block
    | apply AW.out
    | (apply AW.kE; refine AW.sE (h := ?_))
    | apply AW.label
    | ((first | (apply AW.kC; refine AW.sC (h1 := fun h => ?_) (h2 := fun h => ?_))) <;> (try (first | exact Bool.noConfusion h | exact absurd h (by decide) | (simp at h; done) | (rw [h]; try simp only [nrm] at h; try rw [h]; try (exfalso; omega)) | skip))))
  · rw [onW, if_neg (by rw [h]; decide)] at hD
    exact AW.ret (hD rfl .refl)
  · rw [onW, if_pos h] at hD
    exact AW.ret (hD rfl .refl)
/-- Where a key leads. -/
def leadN (n : Nd) (k : L) : Wy :=
  if n.leaf = true then (match getP n.pairs k with | some v => wayV v | none => wayZ)
  else if lastI n.buf k n.buf.length < 0 then
    onW (n.kids.getD (kidL n k n.kids.length).toNat default).block (n.kids.getD (kidL n k n.kids.length).toNat default).deep (n.kids.getD (kidL n k n.kids.length).toNat default).strip (n.kids.getD (kidL n k n.kids.length).toNat default).add k
  else if (n.buf.getD (lastI n.buf k n.buf.length).toNat default).kind = 1 then wayV (n.buf.getD (lastI n.buf k n.buf.length).toNat default).val
  else if (n.buf.getD (lastI n.buf k n.buf.length).toNat default).kind = 3 then
    onW (n.buf.getD (lastI n.buf k n.buf.length).toNat default).block (n.buf.getD (lastI n.buf k n.buf.length).toNat default).deep (n.buf.getD (lastI n.buf k n.buf.length).toNat default).key (n.buf.getD (lastI n.buf k n.buf.length).toNat default).add k
  else wayZ
theorem gLeadT (pairs : List Pr) (pivots : List L) (kids : List Ed) (buf : List Ms) (k : L) (hs : (⟨true, pairs, pivots, kids, buf⟩ : Nd).small) : Good Try.prog 62 [.agg (Nd.av ⟨true, pairs, pivots, kids, buf⟩), .s k] [] (.agg (leadN ⟨true, pairs, pivots, kids, buf⟩ k).av) [] := by
  have hs1 : pairs.length ≤ 1000000 := hs.pairs
  refine Good.w tabOk mixed Try.func62 (N := 70) (by kernel_rfl) rfl (by (repeat (first | exact LE.nil | apply LE.cons)); done) (by (repeat (first | exact LE.nil | apply LE.cons)); done) fun D hD F => ?_
  repeat' (first
    | apply AO.nil
    | (apply AO.kCall 103; refine AO.sCall (hg := (gGet _ _ hs1)) (h := ?_))
    | (apply AO.kIx; first | refine AO.sIxN (h := ?_) | refine AO.sIx (h := ?_) | refine AO.sP (h := ?_) | refine AO.sPi (h := ?_))
    | (apply AO.kBox; refine AO.sBox (h := ?_))
    | (apply AO.kAlloc; refine AO.sAlloc (h := ?_))
    | (apply AO.kStore; first | refine AO.sStore (h := ?_) | refine AO.sStB (h := ?_))
    | (apply AO.kP; first | refine AO.sP (h := ?_) | refine AO.sPi (h := ?_) | refine AO.sLoadB (h := ?_))
    | apply AW.seq
    | (apply AW.kR; refine AW.sR (h := ?_))
    | apply AW.skip
    | apply AW.block
    | apply AW.out
    | (apply AW.kE; refine AW.sE (h := ?_))
    | apply AW.label
    | (apply AW.kRd; refine AW.sRd (h := ?_))
    | ((first | (apply AW.kC; refine AW.sC (h1 := fun h => ?_) (h2 := fun h => ?_))) <;> (try (first | exact Bool.noConfusion h | exact absurd h (by decide) | (simp at h; done) | (rw [h]; try simp only [nrm] at h; try rw [h]; try (exfalso; omega)) | skip)))
    | (apply AR.kAny; first | (apply AR.kCall 103; refine AR.sCall (hg := (gGet _ _ hs1)) (h := ?_)) | (apply AR.kIx; first | refine AR.sIxN (h := ?_) | refine AR.sIx (h := ?_) | refine AR.sP (h := ?_) | refine AR.sPi (h := ?_)) | (apply AR.kBox; refine AR.sBox (h := ?_)) | (apply AR.kAlloc; refine AR.sAlloc (h := ?_)) | (apply AR.kStore; refine AR.sStore (h := ?_)) | (apply AR.kP; first | refine AR.sP (h := ?_) | refine AR.sPi (h := ?_)))
    | (apply AR.kNil; refine AR.sNil (h := ?_)))
  · have e : leadN ⟨true, pairs, pivots, kids, buf⟩ k = wayV ((getP pairs k).getD []) := by
      cases g : getP pairs k with
      | none => rw [g] at h; cases h
      | some v => simp [leadN, g]
    rw [e] at hD
    exact AW.ret (hD rfl .refl)
  · have e : leadN ⟨true, pairs, pivots, kids, buf⟩ k = wayZ := by
      cases g : getP pairs k with
      | some v => rw [g] at h; cases h
      | none => simp [leadN, g]
    rw [e] at hD
    exact AW.ret (hD rfl .refl)
theorem leadF1 {pairs : List Pr} {pivots : List L} {kids : List Ed} {buf : List Ms} {k : L} (h : lastI buf k buf.length < 0) : leadN ⟨false, pairs, pivots, kids, buf⟩ k = onW (kids.getD (kidL ⟨false, pairs, pivots, kids, buf⟩ k kids.length).toNat default).block (kids.getD (kidL ⟨false, pairs, pivots, kids, buf⟩ k kids.length).toNat default).deep (kids.getD (kidL ⟨false, pairs, pivots, kids, buf⟩ k kids.length).toNat default).strip (kids.getD (kidL ⟨false, pairs, pivots, kids, buf⟩ k kids.length).toNat default).add k := by
  unfold leadN; rw [if_neg Bool.false_ne_true, if_pos h]
theorem leadF2 {pairs : List Pr} {pivots : List L} {kids : List Ed} {buf : List Ms} {k : L} (h : 0 ≤ lastI buf k buf.length) (h1 : (buf.getD (lastI buf k buf.length).toNat default).kind = 1) : leadN ⟨false, pairs, pivots, kids, buf⟩ k = wayV (buf.getD (lastI buf k buf.length).toNat default).val := by
  unfold leadN; rw [if_neg Bool.false_ne_true, if_neg (by show ¬ lastI buf k buf.length < 0; omega), if_pos h1]
theorem leadF3 {pairs : List Pr} {pivots : List L} {kids : List Ed} {buf : List Ms} {k : L} (h : 0 ≤ lastI buf k buf.length) (h1 : ¬ (buf.getD (lastI buf k buf.length).toNat default).kind = 1) (h3 : (buf.getD (lastI buf k buf.length).toNat default).kind = 3) : leadN ⟨false, pairs, pivots, kids, buf⟩ k = onW (buf.getD (lastI buf k buf.length).toNat default).block (buf.getD (lastI buf k buf.length).toNat default).deep (buf.getD (lastI buf k buf.length).toNat default).key (buf.getD (lastI buf k buf.length).toNat default).add k := by
  unfold leadN; rw [if_neg Bool.false_ne_true, if_neg (by show ¬ lastI buf k buf.length < 0; omega), if_neg h1, if_pos h3]
theorem leadF4 {pairs : List Pr} {pivots : List L} {kids : List Ed} {buf : List Ms} {k : L} (h : 0 ≤ lastI buf k buf.length) (h1 : ¬ (buf.getD (lastI buf k buf.length).toNat default).kind = 1) (h3 : ¬ (buf.getD (lastI buf k buf.length).toNat default).kind = 3) : leadN ⟨false, pairs, pivots, kids, buf⟩ k = wayZ := by
  unfold leadN; rw [if_neg Bool.false_ne_true, if_neg (by show ¬ lastI buf k buf.length < 0; omega), if_neg h1, if_neg h3]
theorem sm_any {l : List Ms} (h : l.all msSm = true) (i : Nat) : (l.getD i default).key.length ≤ 1000000 ∧ (l.getD i default).add.length ≤ 1000000 := by
  by_cases hi : i < l.length
  · exact sm_at h hi
  · rw [List.getD_eq_getElem?_getD, List.getElem?_eq_none (by omega)]; decide
theorem gLeadF (pairs : List Pr) (pivots : List L) (kids : List Ed) (buf : List Ms) (k : L) (hs : (⟨false, pairs, pivots, kids, buf⟩ : Nd).small) (hx : (⟨false, pairs, pivots, kids, buf⟩ : Nd).strs) (hk : k.length ≤ 1000000)
    (hr : 0 ≤ kidL ⟨false, pairs, pivots, kids, buf⟩ k kids.length ∧ kidL ⟨false, pairs, pivots, kids, buf⟩ k kids.length < kids.length) : Good Try.prog 62 [.agg (Nd.av ⟨false, pairs, pivots, kids, buf⟩), .s k] [] (.agg (leadN ⟨false, pairs, pivots, kids, buf⟩ k).av) [] := by
  have hs3 : kids.length ≤ 1000000 := hs.kids
  have hs4 : buf.length ≤ 1000000 := hs.buf
  have l3 : (kids.map Ed.av).length = kids.length := by simp
  have l4 : (buf.map Ms.av).length = buf.length := by simp
  obtain ⟨i1, i2⟩ := lastI_lt buf k buf.length
  have sk := hx.kids (kidL ⟨false, pairs, pivots, kids, buf⟩ k kids.length).toNat (by show _ < kids.length; omega)
  have u1 : (kids.getD (kidL ⟨false, pairs, pivots, kids, buf⟩ k kids.length).toNat default).add.length + k.length ≤ 137438953472 := by have := sk.2; dsimp only at this; omega
  have u2 : (buf.getD (lastI buf k buf.length).toNat default).add.length + k.length ≤ 137438953472 := by have := (sm_any hx.buf (lastI buf k buf.length).toNat).2; dsimp only at this; omega
  refine Good.w tabOk mixed Try.func62 (N := 70) (by kernel_rfl) rfl (by (repeat (first | exact LE.nil | apply LE.cons)); done) (by (repeat (first | exact LE.nil | apply LE.cons)); done) fun D hD F => ?_
  repeat' (first
    | apply AO.nil
    | (apply AO.kCall 104; refine AO.sCall (hg := (gLast' _ _ hs4)) (h := ?_))
    | (apply AO.kCall 105; refine AO.sCall (hg := (gKid' ⟨false, pairs, pivots, kids, buf⟩ k hs)) (h := ?_))
    | (apply AO.kIx; first | refine AO.sIxN (hm := by first | decide | omega | assumption | (simp only [List.length_map]; omega) | (refine ⟨?_, ?_⟩ <;> (simp only [List.length_map]; omega))) (h := ?_) | refine AO.sIx (hm := by first | decide | omega | assumption | (simp only [List.length_map]; omega) | (refine ⟨?_, ?_⟩ <;> (simp only [List.length_map]; omega))) (h := ?_) | refine AO.sP (h := ?_) | refine AO.sPi (hq := by first | decide | omega | assumption | (simp only [List.length_map]; omega) | (refine ⟨?_, ?_⟩ <;> (simp only [List.length_map]; omega))) (h := ?_))
    | (apply AO.kBox; refine AO.sBox (h := ?_))
    | (apply AO.kAlloc; refine AO.sAlloc (h := ?_))
    | (apply AO.kStore; first | refine AO.sStore (h := ?_) | refine AO.sStB (ho := by first | decide | omega | assumption | (simp only [List.length_map]; omega) | (refine ⟨?_, ?_⟩ <;> (simp only [List.length_map]; omega))) (h := ?_))
    | (apply AO.kP; first | refine AO.sP (h := ?_) | refine AO.sPi (hq := by first | decide | omega | assumption | (simp only [List.length_map]; omega) | (refine ⟨?_, ?_⟩ <;> (simp only [List.length_map]; omega))) (h := ?_) | refine AO.sLoadB (ho := by first | decide | omega | assumption | (simp only [List.length_map]; omega) | (refine ⟨?_, ?_⟩ <;> (simp only [List.length_map]; omega))) (h := ?_))
    | apply AW.seq
    | (apply AW.kR; refine AW.sR (h := ?_))
    | apply AW.skip
    | apply AW.block
    | apply AW.out
    | (apply AW.kE; refine AW.sE (h := ?_))
    | apply AW.label
    | (apply AW.kRd; refine AW.sRd (h := ?_))
    | ((first | (apply AW.kC; refine AW.sC (h1 := fun h => ?_) (h2 := fun h => ?_))) <;> (try (first | exact Bool.noConfusion h | exact absurd h (by decide) | (simp at h; done) | (rw [h]; try simp only [nrm] at h; try rw [h]; try (exfalso; omega)) | skip)))
    | (apply AR.kAny; first | (apply AR.kCall 104; refine AR.sCall (hg := (gLast' _ _ hs4)) (h := ?_)) | (apply AR.kCall 105; refine AR.sCall (hg := (gKid' ⟨false, pairs, pivots, kids, buf⟩ k hs)) (h := ?_)) | (apply AR.kIx; first | refine AR.sIxN (hm := by first | decide | omega | assumption | (simp only [List.length_map]; omega) | (refine ⟨?_, ?_⟩ <;> (simp only [List.length_map]; omega))) (h := ?_) | refine AR.sIx (hm := by first | decide | omega | assumption | (simp only [List.length_map]; omega) | (refine ⟨?_, ?_⟩ <;> (simp only [List.length_map]; omega))) (h := ?_) | refine AR.sP (h := ?_) | refine AR.sPi (hq := by first | decide | omega | assumption | (simp only [List.length_map]; omega) | (refine ⟨?_, ?_⟩ <;> (simp only [List.length_map]; omega))) (h := ?_)) | (apply AR.kBox; refine AR.sBox (h := ?_)) | (apply AR.kAlloc; refine AR.sAlloc (h := ?_)) | (apply AR.kStore; refine AR.sStore (h := ?_)) | (apply AR.kP; first | refine AR.sP (h := ?_) | refine AR.sPi (hq := by first | decide | omega | assumption | (simp only [List.length_map]; omega) | (refine ⟨?_, ?_⟩ <;> (simp only [List.length_map]; omega))) (h := ?_)))
    | (apply AR.kNil; refine AR.sNil (h := ?_)))
  · repeat' (first
    | apply AO.nil
    | (apply AO.kCall 106; refine AO.sCall (hg := (gOn' (kids.getD (kidL ⟨false, pairs, pivots, kids, buf⟩ k kids.length).toNat default).block (kids.getD (kidL ⟨false, pairs, pivots, kids, buf⟩ k kids.length).toNat default).deep (kids.getD (kidL ⟨false, pairs, pivots, kids, buf⟩ k kids.length).toNat default).strip (kids.getD (kidL ⟨false, pairs, pivots, kids, buf⟩ k kids.length).toNat default).add k u1)) (h := ?_))
    | (apply AO.kIx; first | refine AO.sIxN (h := ?_) | refine AO.sIx (h := ?_) | refine AO.sP (h := ?_) | refine AO.sPi (h := ?_))
    | (apply AO.kBox; refine AO.sBox (h := ?_))
    | (apply AO.kAlloc; refine AO.sAlloc (h := ?_))
    | (apply AO.kStore; first | refine AO.sStore (h := ?_) | refine AO.sStB (h := ?_))
    | (apply AO.kP; first | refine AO.sP (h := ?_) | refine AO.sPi (h := ?_) | refine AO.sLoadB (h := ?_))
    | apply AW.seq
    | (apply AW.kR; refine AW.sR (h := ?_))
    | apply AW.skip
    | apply AW.block
    | apply AW.out
    | (apply AW.kE; refine AW.sE (h := ?_))
    | apply AW.label
    | (apply AW.kRd; refine AW.sRd (h := ?_))
    | ((first | (apply AW.kC; refine AW.sC (h1 := fun h => ?_) (h2 := fun h => ?_))) <;> (try (first | exact Bool.noConfusion h | exact absurd h (by decide) | (simp at h; done) | (rw [h]; try simp only [nrm] at h; try rw [h]; try (exfalso; omega)) | skip)))
    | (apply AR.kAny; first | (apply AR.kCall 106; refine AR.sCall (hg := (gOn' (kids.getD (kidL ⟨false, pairs, pivots, kids, buf⟩ k kids.length).toNat default).block (kids.getD (kidL ⟨false, pairs, pivots, kids, buf⟩ k kids.length).toNat default).deep (kids.getD (kidL ⟨false, pairs, pivots, kids, buf⟩ k kids.length).toNat default).strip (kids.getD (kidL ⟨false, pairs, pivots, kids, buf⟩ k kids.length).toNat default).add k u1)) (h := ?_)) | (apply AR.kIx; first | refine AR.sIxN (h := ?_) | refine AR.sIx (h := ?_) | refine AR.sP (h := ?_) | refine AR.sPi (h := ?_)) | (apply AR.kBox; refine AR.sBox (h := ?_)) | (apply AR.kAlloc; refine AR.sAlloc (h := ?_)) | (apply AR.kStore; refine AR.sStore (h := ?_)) | (apply AR.kP; first | refine AR.sP (h := ?_) | refine AR.sPi (h := ?_)))
    | (apply AR.kNil; refine AR.sNil (h := ?_)))
    rw [leadF1 h] at hD
    exact AW.ret (hD rfl .refl)
  · rw [leadF2 (by assumption) (by rw [← k1]; assumption)] at hD
    exact AW.ret (hD rfl .refl)
  · repeat' (first
    | apply AO.nil
    | (apply AO.kCall 106; refine AO.sCall (hg := (gOn' (buf.getD (lastI buf k buf.length).toNat default).block (buf.getD (lastI buf k buf.length).toNat default).deep (buf.getD (lastI buf k buf.length).toNat default).key (buf.getD (lastI buf k buf.length).toNat default).add k u2)) (h := ?_))
    | (apply AO.kIx; first | refine AO.sIxN (h := ?_) | refine AO.sIx (h := ?_) | refine AO.sP (h := ?_) | refine AO.sPi (h := ?_))
    | (apply AO.kBox; refine AO.sBox (h := ?_))
    | (apply AO.kAlloc; refine AO.sAlloc (h := ?_))
    | (apply AO.kStore; first | refine AO.sStore (h := ?_) | refine AO.sStB (h := ?_))
    | (apply AO.kP; first | refine AO.sP (h := ?_) | refine AO.sPi (h := ?_) | refine AO.sLoadB (h := ?_))
    | apply AW.seq
    | (apply AW.kR; refine AW.sR (h := ?_))
    | apply AW.skip
    | apply AW.block
    | apply AW.out
    | (apply AW.kE; refine AW.sE (h := ?_))
    | apply AW.label
    | (apply AW.kRd; refine AW.sRd (h := ?_))
    | ((first | (apply AW.kC; refine AW.sC (h1 := fun h => ?_) (h2 := fun h => ?_))) <;> (try (first | exact Bool.noConfusion h | exact absurd h (by decide) | (simp at h; done) | (rw [h]; try simp only [nrm] at h; try rw [h]; try (exfalso; omega)) | skip)))
    | (apply AR.kAny; first | (apply AR.kCall 106; refine AR.sCall (hg := (gOn' (buf.getD (lastI buf k buf.length).toNat default).block (buf.getD (lastI buf k buf.length).toNat default).deep (buf.getD (lastI buf k buf.length).toNat default).key (buf.getD (lastI buf k buf.length).toNat default).add k u2)) (h := ?_)) | (apply AR.kIx; first | refine AR.sIxN (h := ?_) | refine AR.sIx (h := ?_) | refine AR.sP (h := ?_) | refine AR.sPi (h := ?_)) | (apply AR.kBox; refine AR.sBox (h := ?_)) | (apply AR.kAlloc; refine AR.sAlloc (h := ?_)) | (apply AR.kStore; refine AR.sStore (h := ?_)) | (apply AR.kP; first | refine AR.sP (h := ?_) | refine AR.sPi (h := ?_)))
    | (apply AR.kNil; refine AR.sNil (h := ?_)))
    rw [leadF3 (by assumption) (by rw [← k1]; assumption) (by rw [← k3]; assumption)] at hD
    exact AW.ret (hD rfl .refl)
  · rw [leadF4 (by assumption) (by rw [← k1]; assumption) (by rw [← k3]; assumption)] at hD
    exact AW.ret (hD rfl .refl)
/-- The last kid in whose range a key is, where there is just one. -/
theorem kidL_at {n : Nd} {k : L} {b : Nat} (h : ∀ j, j < n.kids.length → inR (rgN n j).1 (rgN n j).2.1 (rgN n j).2.2 k = ((j : Int) == (b : Int))) : ∀ q, q ≤ n.kids.length → kidL n k q = if b < q then (b : Int) else -1
  | 0, _ => by simp [kidL]
  | q + 1, hq => by
    rw [kidL, h q (by omega), kidL_at h q (by omega)]
    by_cases e : q = b
    · subst e; simp
    · rw [if_neg (by rw [beq_iff_eq]; omega)]
      by_cases g : b < q
      · rw [if_pos g, if_pos (by omega)]
      · rw [if_neg g, if_neg (by omega)]
theorem kidL_may {n : Nd} {k : L} (h : innerOk n = true) : kidL n k n.kids.length = kidN n k ∧ 0 ≤ kidN n k ∧ kidN n k < n.kids.length := by
  obtain ⟨pl, pr, _⟩ := inner_len h
  obtain ⟨e1, e2⟩ := kid_at (n := n) (k := k) pl pr
  have := kidL_at (n := n) (k := k) (b := bs (kidF n k) 0 n.pivots.length) (fun j hj => by rw [kid_in pl pr hj, e1]) n.kids.length (Nat.le_refl _)
  rw [if_pos (by omega)] at this
  rw [this, e1]; omega
/-- A step by the document. -/
def stepN (n : Nd) (k : L) : Wy := if mayN n = 0 then leadN n k else wayZ
theorem gStep' (n : Nd) (k : L) (hs : n.small) (hx : n.strs) (hk : k.length ≤ 1000000) : Good Try.prog 25 [.agg n.av, .s k] [] (.agg (stepN n k).av) [] := by
  by_cases h0 : mayN n = 0
  · rw [stepN, if_pos h0]
    have hl : Good Try.prog 62 [.agg n.av, .s k] [] (.agg (leadN n k).av) [] := by
      have hn : n.leaf = false → 0 ≤ kidL n k n.kids.length ∧ kidL n k n.kids.length < n.kids.length := fun e => by
        obtain ⟨e1, e2, e3⟩ := kidL_may (k := k) (may_inner h0 e).1
        rw [e1]; exact ⟨e2, e3⟩
      obtain ⟨leaf, pairs, pivots, kids, buf⟩ := n
      cases leaf
      · exact gLeadF _ _ _ _ _ hs hx hk (hn rfl)
      · exact gLeadT _ _ _ _ _ hs
    refine Good.w tabOk mixed Try.func25 (N := 12) (by kernel_rfl) rfl (by (repeat (first | exact LE.nil | apply LE.cons)); done) (by (repeat (first | exact LE.nil | apply LE.cons)); done) fun D hD F => ?_
    repeat' (first
    | apply AO.nil
    | (apply AO.kCall 21; refine AO.sCall (hg := (gMay' n hs)) (h := ?_))
    | (apply AO.kCall 62; refine AO.sCall (hg := hl) (h := ?_))
    | (apply AO.kBox; refine AO.sBox (h := ?_))
    | (apply AO.kAlloc; refine AO.sAlloc (h := ?_))
    | (apply AO.kStore; first | refine AO.sStore (h := ?_) | refine AO.sStB (h := ?_))
    | (apply AO.kP; first | refine AO.sP (h := ?_) | refine AO.sPi (h := ?_) | refine AO.sLoadB (h := ?_))
    | apply AW.seq
    | (apply AW.kR; refine AW.sR (h := ?_))
    | apply AW.skip
    | apply AW.block
    | apply AW.out
    | (apply AW.kE; refine AW.sE (h := ?_))
    | apply AW.label
    | ((first | (apply AW.kC; refine AW.sC (h1 := fun h => ?_) (h2 := fun h => ?_))) <;> (try (first | exact Bool.noConfusion h | exact absurd h (by decide) | (simp at h; done) | (rw [h]; try simp only [nrm] at h; try rw [h]; try (exfalso; omega)) | skip))))
    · exact absurd h0 (ne0 h)
    · exact AW.ret (hD rfl .refl)
  · rw [stepN, if_neg h0]
    refine Good.w tabOk mixed Try.func25 (N := 12) (by kernel_rfl) rfl (by (repeat (first | exact LE.nil | apply LE.cons)); done) (by (repeat (first | exact LE.nil | apply LE.cons)); done) fun D hD F => ?_
    repeat' (first
    | apply AO.nil
    | (apply AO.kCall 21; refine AO.sCall (hg := (gMay' n hs)) (h := ?_))
    | (apply AO.kBox; refine AO.sBox (h := ?_))
    | (apply AO.kAlloc; refine AO.sAlloc (h := ?_))
    | (apply AO.kStore; first | refine AO.sStore (h := ?_) | refine AO.sStB (h := ?_))
    | (apply AO.kP; first | refine AO.sP (h := ?_) | refine AO.sPi (h := ?_) | refine AO.sLoadB (h := ?_))
    | apply AW.seq
    | (apply AW.kR; refine AW.sR (h := ?_))
    | apply AW.skip
    | apply AW.block
    | apply AW.out
    | (apply AW.kE; refine AW.sE (h := ?_))
    | apply AW.label
    | ((first | (apply AW.kC; refine AW.sC (h1 := fun h => ?_) (h2 := fun h => ?_))) <;> (try (first | exact Bool.noConfusion h | exact absurd h (by decide) | (simp at h; done) | (rw [h]; try simp only [nrm] at h; try rw [h]; try (exfalso; omega)) | skip))))
    · exact AW.ret (hD rfl .refl)
    · exact absurd (eq0 h) h0
end Go.Proofs.Ytmfonbehcfjjgaa.Mv

/- Where a key leads in a trimmed node. Plain. -/
namespace Go.Proofs.Ytmfonbehcfjjgaa.Mv
open Go Go.Proofs
set_option linter.unusedSimpArgs false
set_option linter.unusedVariables false
set_option maxRecDepth 10000
set_option maxHeartbeats 4000000

theorem cut_iff {x a k : L} (h : hp x a = true) : cutS x a = k ↔ x = a ++ k := by
  obtain ⟨t, rfl⟩ := hp_pre.1 h
  rw [cutS_hp h, List.drop_left' rfl, List.append_cancel_left_eq]
/-! ### pairs -/
theorem getP_tr {r : L × L × Bool} {a k : L} (hu : hp (undS r.1 r.2.1 r.2.2) a = true) (hk : inR r.1 r.2.1 r.2.2 (a ++ k) = true) : ∀ l : List Pr, getP (trPr l r a) k = getP l (a ++ k)
  | [] => rfl
  | p :: l => by
    have ih := getP_tr hu hk l
    cases g : prKeep r p with
    | true =>
      have e : trPr (p :: l) r a = prCut a p :: trPr l r a := by rw [trPr, List.filter_cons_of_pos g]; rfl
      have hp' : hp p.k a = true := hp_trans ((und_facts _ _ _ _).2.2.1 g) hu
      rw [e, getP, getP, ih]
      have := cut_iff (k := k) hp'
      show (if cutS p.k a = k then some p.v else _) = _
      by_cases c : p.k = a ++ k
      · rw [if_pos c, if_pos (this.2 c)]
      · rw [if_neg c, if_neg (fun q => c (this.1 q))]
    | false =>
      have e : trPr (p :: l) r a = trPr l r a := by rw [trPr, List.filter_cons_of_neg (by rw [g]; decide)]; rfl
      rw [e, getP, ih, if_neg]
      intro c
      rw [prKeep, c, hk] at g; cases g
/-! ### messages -/
theorem next_in (p k : L) : inR p (p ++ [0]) true k = (k == p) := by
  rw [Bool.eq_iff_iff]
  simp only [inR, Bool.and_eq_true, Bool.not_eq_true', Bool.not_true, Bool.false_or, beq_iff_eq]
  constructor
  · rintro ⟨h1, h2⟩
    cases g : hp k p with
    | false => rw [lt_off [0] g] at h2; rw [h2] at h1; cases h1
    | true =>
      obtain ⟨t, rfl⟩ := hp_pre.1 g
      rw [lt_app] at h2
      cases t with
      | nil => simp
      | cons c t => rw [lt_one] at h2; simp at h2
  · rintro rfl
    exact ⟨lt_irrefl _, lt_pre _ 0 []⟩
theorem ab_in (m : Ms) (k : L) : inR (abS m).1 (abS m).2.1 (abS m).2.2 k = spk m k := by
  unfold abS spk
  by_cases h1 : m.kind = 1
  · rw [if_pos h1, if_neg (by rw [h1]; decide), h1]
    simp only [next_in]; simp
  · rw [if_neg h1]
    by_cases h2 : m.kind = 2
    · rw [if_pos h2, if_neg (by rw [h2]; decide), h2]
      simp only [next_in]; simp
    · rw [if_neg h2]
      by_cases h3 : m.kind = 3
      · rw [if_pos h3, if_pos h3]; exact of_in _ _
      · rw [if_neg h3, if_neg h3]
        have e1 : (m.kind == 1) = false := by simpa using h1
        have e2 : (m.kind == 2) = false := by simpa using h2
        rw [e1, e2]; simp [inR, lt_nil]
theorem spk_keep {r : L × L × Bool} {k : L} (hk : inR r.1 r.2.1 r.2.2 k = true) {m : Ms} (h : spk m k = true) : msKeep r m = true := by
  rw [← ab_in] at h
  rw [msKeep, emC_some h hk]; rfl
theorem eq_app {a t k : L} : (a ++ k == a ++ t) = (k == t) := by
  rw [Bool.eq_iff_iff]; simp
theorem spk_mv {m : Ms} {a k : L} (h : (mvR m a).2 = true) : spk (mvR m a).1 k = spk m (a ++ k) := by
  unfold mvR at h ⊢
  by_cases c : hp m.key a = true
  · rw [if_pos c]
    obtain ⟨t, e⟩ := hp_pre.1 c
    have e2 : cutS (a ++ t) a = t := by rw [cut_iff (hp_app a t)]
    simp only [spk, e2, e, hp_app2, eq_app]
  · rw [if_neg c] at h ⊢
    by_cases d : m.kind = 3 ∧ hp a m.key = true ∧ m.add.length + (cutS a m.key).length ≤ 16
    · rw [if_pos d]
      obtain ⟨t, e⟩ := hp_pre.1 d.2.1
      simp only [spk, d.1, if_true, hp_nil]
      rw [e, List.append_assoc, hp_app]
    · rw [if_neg d] at h; cases h
def msW (m : Ms) (k : L) : Wy := if m.kind = 1 then wayV m.val else if m.kind = 3 then onW m.block m.deep m.key m.add k else wayZ
theorem msW_mv {m : Ms} {a k : L} (h : (mvR m a).2 = true) : msW (mvR m a).1 k = msW m (a ++ k) := by
  unfold mvR at h ⊢
  by_cases c : hp m.key a = true
  · rw [if_pos c]
    obtain ⟨t, e⟩ := hp_pre.1 c
    have e2 : cutS (a ++ t) a = t := by rw [cut_iff (hp_app a t)]
    simp only [msW, e2, e, onW, hp_app2]
    have e3 : ∀ g : hp k t = true, upS t m.add k = upS (a ++ t) m.add (a ++ k) := fun g => by
      obtain ⟨x, rfl⟩ := hp_pre.1 g
      rw [upS_app, ← List.append_assoc, upS_app]
    by_cases g : hp k t = true
    · simp only [if_pos g, e3 g]
    · simp only [if_neg g]
  · rw [if_neg c] at h ⊢
    by_cases d : m.kind = 3 ∧ hp a m.key = true ∧ m.add.length + (cutS a m.key).length ≤ 16
    · rw [if_pos d]
      obtain ⟨t, e⟩ := hp_pre.1 d.2.1
      have e2 : cutS a m.key = t := by rw [cut_iff d.2.1]; exact e
      have n1 : ¬ ((3 : UInt8) = 1) := by decide
      simp only [msW, d.1, if_neg n1, if_true, onW, hp_nil, e2]
      rw [e, List.append_assoc, hp_app, if_pos rfl, upS_app]
      have : upS [] (m.add ++ t) k = m.add ++ (t ++ k) := by
        rw [show k = [] ++ k from rfl, upS_app]; simp
      rw [this]
    · rw [if_neg d] at h; cases h
/-- The last message that speaks. -/
def lastM (l : List Ms) (k : L) : Option Ms := (l.filter (fun m => spk m k)).getLast?
theorem lastI_spec {l : List Ms} {k : L} : ∀ q, q ≤ l.length → (lastI l k q < 0 ∧ ((l.take q).filter (fun m => spk m k)).getLast? = none) ∨ (0 ≤ lastI l k q ∧ ((l.take q).filter (fun m => spk m k)).getLast? = some (l.getD (lastI l k q).toNat default))
  | 0, _ => .inl ⟨by simp [lastI], by simp⟩
  | q + 1, hq => by
    rw [lastI]
    cases g : spk (l.getD q default) k with
    | true =>
      rw [if_pos rfl, filt_yes (p := fun m => spk m k) (by omega) g]
      exact .inr ⟨by omega, by rw [List.getLast?_append]; simp⟩
    | false =>
      rw [if_neg (by decide), filt_no (p := fun m => spk m k) (by omega) g]
      exact lastI_spec q (by omega)
theorem lastM_tr {l : List Ms} {r : L × L × Bool} {a k : L} (hok : trMsOk l r a = true) (hk : inR r.1 r.2.1 r.2.2 (a ++ k) = true) : lastM (trMsR l r a) k = (lastM l (a ++ k)).map (fun m => (mvR m a).1) := by
  have e : (trMsR l r a).filter (fun m => spk m k) = (l.filter (fun m => spk m (a ++ k))).map (fun m => (mvR m a).1) := by
    rw [trMsR, List.filter_map, List.filter_filter]
    congr 1
    rw [trMsOk, List.all_eq_true] at hok
    refine List.filter_congr fun m hm => ?_
    cases g : msKeep r m with
    | true =>
      rw [Bool.and_true]
      exact spk_mv (hok m (List.mem_filter.2 ⟨hm, g⟩))
    | false =>
      rw [Bool.and_false]
      cases q : spk m (a ++ k) with
      | false => rfl
      | true => rw [spk_keep hk q] at g; cases g
  rw [lastM, e, List.getLast?_map, lastM]
def kidW (n : Nd) (k : L) : Wy := onW (n.kids.getD (kidL n k n.kids.length).toNat default).block (n.kids.getD (kidL n k n.kids.length).toNat default).deep (n.kids.getD (kidL n k n.kids.length).toNat default).strip (n.kids.getD (kidL n k n.kids.length).toNat default).add k
theorem lead_in {n : Nd} {k : L} (hl : n.leaf = false) : leadN n k = match lastM n.buf k with | none => kidW n k | some m => msW m k := by
  unfold leadN
  rw [if_neg (by rw [hl]; decide)]
  rcases lastI_spec (l := n.buf) (k := k) n.buf.length (Nat.le_refl _) with ⟨h1, h2⟩ | ⟨h1, h2⟩
  · rw [List.take_length] at h2
    rw [if_pos h1, lastM, h2]; rfl
  · rw [List.take_length] at h2
    rw [if_neg (by omega), lastM, h2]; rfl
/-! ### kids */ -/
def kept (n : Nd) (r : L × L × Bool) (q : Nat) : List Nat := (List.range q).filter (fun i => !emC (rgN n i) r)
theorem kept_yes {n : Nd} {r : L × L × Bool} {q : Nat} (h : emC (rgN n q) r = false) : kept n r (q + 1) = kept n r q ++ [q] := by
  rw [kept, List.range_succ, List.filter_append, List.filter_cons_of_pos (by rw [h]; rfl)]; rfl
theorem kept_no {n : Nd} {r : L × L × Bool} {q : Nat} (h : emC (rgN n q) r = true) : kept n r (q + 1) = kept n r q := by
  rw [kept, List.range_succ, List.filter_append, List.filter_cons_of_neg (by rw [h]; decide), List.filter_nil, List.append_nil]; rfl
theorem kept_run {n : Nd} {r : L × L × Bool} {a : L} : ∀ (u q : Nat) (ps : List L) (ks : List Ed), q + u = n.kids.length → ks = (kept n r q).map (trKid n a) → ps = ((kept n r q).drop 1).map (fun i : Nat => cutS (rgN n i).1 a) → (kRun n r a u q ps ks).2 = true →
    (kRun n r a u q ps ks).1.2 = (kept n r n.kids.length).map (trKid n a) ∧ (kRun n r a u q ps ks).1.1 = ((kept n r n.kids.length).drop 1).map (fun i : Nat => cutS (rgN n i).1 a)
  | 0, q, ps, ks, hq, h1, h2, _ => by
    obtain rfl : q = n.kids.length := by omega
    exact ⟨h1, h2⟩
  | u + 1, q, ps, ks, hq, h1, h2, hok => by
    rw [kRun] at hok ⊢
    by_cases c : emC (rgN n q) r = true
    · rw [if_pos c] at hok ⊢
      exact kept_run u (q + 1) _ _ (by omega) (by rw [kept_no c]; exact h1) (by rw [kept_no c]; exact h2) hok
    · rw [if_neg c] at hok ⊢
      have c' : emC (rgN n q) r = false := by simpa using c
      by_cases d : kidOk n a q = false
      · rw [if_pos d] at hok; cases hok
      · rw [if_neg d] at hok ⊢
        refine kept_run u (q + 1) _ _ (by omega) (by rw [kept_yes c', List.map_append, ← h1]; rfl) ?_ hok
        rw [kept_yes c']
        have hl : ks.length = (kept n r q).length := by rw [h1, List.length_map]
        by_cases e : 0 < ks.length
        · rw [if_pos e, List.drop_append_of_le_length (by omega), List.map_append, ← h2]; rfl
        · rw [if_neg e]
          have e0 : kept n r q = [] := List.eq_nil_of_length_eq_zero (by omega)
          rw [h2, e0]; rfl
theorem ok_run {n : Nd} {r : L × L × Bool} {a : L} : ∀ (u q : Nat) (ps : List L) (ks : List Ed), (kRun n r a u q ps ks).2 = true → ∀ i, q ≤ i → i < q + u → emC (rgN n i) r = false → kidOk n a i = true
  | 0, q, ps, ks, _, i, h1, h2, _ => by omega
  | u + 1, q, ps, ks, hok, i, h1, h2, he => by
    rw [kRun] at hok
    by_cases c : emC (rgN n q) r = true
    · rw [if_pos c] at hok
      by_cases e : i = q
      · subst e; rw [c] at he; cases he
      · exact ok_run u (q + 1) _ _ hok i (by omega) (by omega) he
    · rw [if_neg c] at hok
      by_cases d : kidOk n a q = false
      · rw [if_pos d] at hok; cases hok
      · rw [if_neg d] at hok
        by_cases e : i = q
        · subst e; simpa using d
        · exact ok_run u (q + 1) _ _ hok i (by omega) (by omega) he
theorem kept_pw (n : Nd) (r : L × L × Bool) (q : Nat) : (kept n r q).Pairwise (· < ·) := List.Pairwise.filter _ List.pairwise_lt_range
theorem kept_mem {n : Nd} {r : L × L × Bool} {q i : Nat} : i ∈ kept n r q ↔ i < q ∧ emC (rgN n i) r = false := by
  rw [kept, List.mem_filter, List.mem_range]; simp
theorem getD_at {α : Type} [Inhabited α] {l : List α} {i : Nat} (h : i < l.length) : l.getD i default = l[i] := by
  rw [List.getD_eq_getElem?_getD, List.getElem?_eq_getElem h]; rfl
/-- The kid of a key in a trimmed node. -/
theorem kid_tr {n : Nd} {r : L × L × Bool} {a k : L} {ps : List L} {ks : List Ed} {ms : List Ms} (hi : innerOk n = true) (hu : hp (undS r.1 r.2.1 r.2.2) a = true) (hk : inR r.1 r.2.1 r.2.2 (a ++ k) = true)
    (h1 : ks = (kept n r n.kids.length).map (trKid n a)) (h2 : ps = ((kept n r n.kids.length).drop 1).map (fun i : Nat => cutS (rgN n i).1 a)) (hi2 : innerOk ⟨false, [], ps, ks, ms⟩ = true) :
    (ks.getD (kidL ⟨false, [], ps, ks, ms⟩ k ks.length).toNat default) = trKid n a (kidL n (a ++ k) n.kids.length).toNat ∧ (kidL n (a ++ k) n.kids.length).toNat < n.kids.length ∧ emC (rgN n (kidL n (a ++ k) n.kids.length).toNat) r = false := by
  obtain ⟨pl, pr, _⟩ := inner_len hi
  obtain ⟨e1, e2, e3⟩ := kidL_may (k := a ++ k) hi
  obtain ⟨b, hb⟩ : ∃ b : Nat, kidN n (a ++ k) = b := ⟨(kidN n (a ++ k)).toNat, by omega⟩
  rw [e1, hb]
  have hbl : b < n.kids.length := by omega
  have ib := kid_in (k := a ++ k) pl pr hbl
  rw [hb, beq_self_eq_true] at ib
  have eb := emC_some ib hk
  have mb : b ∈ kept n r n.kids.length := kept_mem.2 ⟨hbl, eb⟩
  obtain ⟨j, hj, hjb⟩ := List.getElem_of_mem mb
  generalize hK : kept n r n.kids.length = K at *
  have pw : K.Pairwise (· < ·) := hK ▸ kept_pw n r _
  have mem : ∀ i, i ∈ K ↔ i < n.kids.length ∧ emC (rgN n i) r = false := fun i => hK ▸ kept_mem
  obtain ⟨pl2, pr2, _⟩ := inner_len hi2
  dsimp only at pl2 pr2
  have lk : ks.length = K.length := by rw [h1, List.length_map]
  have hp1 : ∀ i (h : i < K.length), 0 < i → hp (rgN n K[i]).1 a = true := fun i h h0 => by
    have m1 := (mem K[i]).1 (List.getElem_mem h)
    have m0 := (mem K[0]).1 (List.getElem_mem (by omega))
    have lt0 : K[0] < K[i] := List.pairwise_iff_getElem.1 pw 0 i (by omega) h h0
    exact hp_trans ((und_facts _ _ _ _).2.2.1 (piv_in pl pr lt0 m1.1 m0.2 m1.2)) hu
  have pat : ∀ i (h : i + 1 < K.length), ps.getD i default = cutS (rgN n K[i + 1]).1 a := fun i h => by
    rw [getD_at (by rw [h2, List.length_map, List.length_drop]; omega)]
    simp only [h2, List.getElem_map, List.getElem_drop]
    simp only [Nat.add_comm 1 i]
  have in2 : inR (rgN ⟨false, [], ps, ks, ms⟩ j).1 (rgN ⟨false, [], ps, ks, ms⟩ j).2.1 (rgN ⟨false, [], ps, ks, ms⟩ j).2.2 k = true := by
    simp only [inR, Bool.and_eq_true, Bool.not_eq_true', Bool.or_eq_true] at ib ⊢
    constructor
    · by_cases h0 : 0 < j
      · rw [rg_lo h0 pl2 (by show j < ks.length; omega)]
        dsimp only
        have := pat (j - 1) (by omega)
        rw [this]
        have ej : K[j - 1 + 1]'(by omega) = b := by
          rw [← hjb]; congr 1; omega
        rw [ej]
        have hb2 : hp (rgN n b).1 a = true := by have := hp1 j hj h0; rw [hjb] at this; exact this
        obtain ⟨t, ht⟩ := hp_pre.1 hb2
        rw [(cut_iff hb2).2 ht]
        have q := ib.1
        rw [ht, lt_app] at q; exact q
      · obtain rfl : j = 0 := by omega
        have : (rgN ⟨false, [], ps, ks, ms⟩ (0 : Nat)).1 = [] := by
          unfold rgN; rw [if_neg (by dsimp only; omega)]; simp
        rw [this]; exact lt_nil _
    · by_cases hl : j < ps.length
      · obtain ⟨g1, g2⟩ := rg_hi (n := ⟨false, [], ps, ks, ms⟩) pl2 hl
        right
        rw [g1]
        dsimp only
        rw [pat j (by omega)]
        have hj1 : j + 1 < K.length := by omega
        have m1 := (mem K[j + 1]).1 (List.getElem_mem hj1)
        have lt1 : b < K[j + 1] := by rw [← hjb]; exact List.pairwise_iff_getElem.1 pw j (j + 1) hj hj1 (by omega)
        have hpre := hp1 (j + 1) hj1 (by omega)
        obtain ⟨t, ht⟩ := hp_pre.1 hpre
        rw [(cut_iff hpre).2 ht]
        have hh := rg_hi (n := n) pl (show b < n.pivots.length by omega)
        have f1 : lt (a ++ k) (n.pivots.getD b default) = true := by
          rcases ib.2 with q | q
          · rw [hh.2] at q; cases q
          · rw [hh.1] at q; exact q
        have f2 := lt_of_lt_le f1 (le_rise pr (show b ≤ K[j + 1] - 1 by omega) (by omega))
        rw [← rg_lo (n := n) (q := K[j + 1]) (by omega) pl m1.1, ht, lt_app] at f2
        exact f2
      · left
        unfold rgN; rw [if_neg (by dsimp only; omega)]
        exact decide_eq_false (by dsimp only; omega)
  have kk := kid_in (n := ⟨false, [], ps, ks, ms⟩) (k := k) pl2 pr2 (j := j) (by show j < ks.length; omega)
  rw [in2] at kk
  have kj : kidN ⟨false, [], ps, ks, ms⟩ k = (j : Int) := by have := beq_iff_eq.1 kk.symm; omega
  have kl := (kidL_may (k := k) hi2).1
  dsimp only at kl
  rw [kl, kj]
  refine ⟨?_, by omega, by rw [Int.toNat_natCast]; exact eb⟩
  rw [Int.toNat_natCast, Int.toNat_natCast, getD_at (by omega)]
  simp only [h1, List.getElem_map, hjb]
/-- Where a key leads in a trimmed node is where it led with the beginning ahead of it. -/
theorem lead_tr {n : Nd} {r : L × L × Bool} {a k : L} (h : trE n r a = 0) (hk : inR r.1 r.2.1 r.2.2 (a ++ k) = true) : stepN (trN n r a) k = stepN n (a ++ k) := by
  have hm := tr_may h
  have h0 : mayN n = 0 := by
    by_cases h0 : mayN n = 0
    · exact h0
    · rw [(tr3 h0).1] at h; cases h
  rw [stepN, stepN, if_pos hm, if_pos h0]
  cases g : (emR r.1 r.2.1 r.2.2 || !hp (undS r.1 r.2.1 r.2.2) a) with
  | true => rw [(tr1 h0 g).1] at h; cases h
  | false =>
    have g' := g
    simp only [Bool.or_eq_false_iff, Bool.not_eq_false'] at g'
    obtain ⟨g1, hu⟩ := g'
    cases hl : n.leaf with
    | true =>
      rw [(trL h0 g hl).2]
      unfold leadN
      rw [if_pos rfl, if_pos hl, getP_tr hu hk]
    | false =>
      cases h4 : (kRun n r a n.kids.length 0 [] []).2 with
      | false => rw [(trK1 h0 g hl h4).1] at h; cases h
      | true =>
        cases h5 : trMsOk n.buf r a with
        | false => rw [(trK2 h0 g hl h4 h5).1] at h; cases h
        | true =>
          have hi := (may_inner h0 hl).1
          rw [(trK3 h0 g hl h4 h5).2] at hm ⊢
          obtain ⟨q1, q2⟩ := kept_run n.kids.length 0 [] [] (by omega) rfl rfl h4
          have hi2 := (may_inner hm rfl).1
          have okr : ∀ b, b < n.kids.length → emC (rgN n b) r = false → kidOk n a b = true := fun b b1 b2 => ok_run _ _ _ _ h4 b (by omega) (by omega) b2
          generalize (kRun n r a n.kids.length 0 [] []).1.1 = ps at *
          generalize (kRun n r a n.kids.length 0 [] []).1.2 = ks at *
          rw [lead_in rfl, lead_in hl]
          dsimp only
          rw [lastM_tr h5 hk]
          cases o : lastM n.buf (a ++ k) with
          | none =>
            show kidW _ _ = kidW _ _
            obtain ⟨t1, t2, t3⟩ := kid_tr (ms := trMsR n.buf r a) hi hu hk q1 q2 hi2
            unfold kidW
            dsimp only
            rw [t1]
            generalize (kidL n (a ++ k) n.kids.length).toNat = b at *
            have ok : kidOk n a b = true := okr b t2 t3
            simp only [kidOk, Bool.and_eq_true] at ok
            obtain ⟨s1, s2⟩ := shift_law (n.kids.getD b default).strip (n.kids.getD b default).add a k ok.1
            simp only [trKid, onW, s1, s2]
          | some m =>
            show msW _ _ = msW _ _
            have mm := List.mem_of_getLast? o
            obtain ⟨m1, m2⟩ := List.mem_filter.1 mm
            rw [trMsOk, List.all_eq_true] at h5
            exact msW_mv (h5 m (List.mem_filter.2 ⟨m1, spk_keep hk m2⟩))
end Go.Proofs.Ytmfonbehcfjjgaa.Mv

/- The statement of where trimmed nodes lead. Under no condition. -/
namespace Go.Proofs.Ytmfonbehcfjjgaa.Mv
open Go Go.Proofs
set_option linter.unusedSimpArgs false
set_option linter.unusedVariables false
set_option maxRecDepth 10000
set_option maxHeartbeats 4000000
attribute [local irreducible] AW AO AR

theorem mv_sm {m : Ms} {a : L} (h : msSm m = true) (h2 : (mvR m a).2 = true) : msSm (mvR m a).1 = true := by
  unfold mvR at h2 ⊢
  have l := cutS_len m.key a
  simp only [msSm, Bool.and_eq_true, decide_eq_true_eq] at h
  by_cases c : hp m.key a = true
  · rw [if_pos c]
    simp only [msSm, Bool.and_eq_true, decide_eq_true_eq]; omega
  · rw [if_neg c] at h2 ⊢
    by_cases d : m.kind = 3 ∧ hp a m.key = true ∧ m.add.length + (cutS a m.key).length ≤ 16
    · rw [if_pos d]
      simp only [msSm, Bool.and_eq_true, decide_eq_true_eq, List.length_append, List.length_nil]; omega
    · rw [if_neg d] at h2; cases h2
theorem may_strs {n : Nd} (h : mayN n = 0) : n.strs := by
  rcases (by cases n.leaf <;> simp : n.leaf = true ∨ n.leaf = false) with hl | hl
  · obtain ⟨e1, e2, e3⟩ := leaf_len (may_leaf h hl)
    exact ⟨fun i hi => by rw [e2] at hi; simp at hi, by rw [e3]; rfl⟩
  · have hi := (may_inner h hl).1
    simp only [innerOk, Bool.and_eq_true] at hi
    refine ⟨fun i hik => ?_, ?_⟩
    · have := List.all_eq_true.1 hi.1.1.2 (n.kids.getD i default) (by rw [List.getD_eq_getElem?_getD, List.getElem?_eq_getElem hik]; exact List.getElem_mem hik)
      simp only [edOk, Bool.and_eq_true, decide_eq_true_eq] at this
      omega
    · rw [List.all_eq_true]
      intro m hm
      have := List.all_eq_true.1 hi.2 m hm
      simp only [msMay, Bool.and_eq_true, decide_eq_true_eq] at this
      simp only [msSm, Bool.and_eq_true, decide_eq_true_eq]
      refine ⟨by omega, ?_⟩
      have t := this.2
      split at t
      · simp only [Bool.and_eq_true, beq_iff_eq] at t; rw [t.2]; simp
      · split at t
        · simp only [Bool.and_eq_true, beq_iff_eq] at t; rw [t.2]; simp
        · split at t
          · simp only [Bool.and_eq_true, decide_eq_true_eq] at t; omega
          · cases t
theorem zero_strs : ndZ.strs := ⟨fun i hi => by simp [ndZ] at hi, rfl⟩
theorem trN_strs (n : Nd) (r : L × L × Bool) (a : L) : (trN n r a).strs := by
  by_cases h : trE n r a = 0
  · exact may_strs (tr_may h)
  · rw [trN_bad h]; exact zero_strs
end Go.Proofs.Ytmfonbehcfjjgaa.Mv

/- The codec: what is put. Under no condition. -/
namespace Go.Proofs.Ytmfonbehcfjjgaa.Mv
open Go Go.Proofs
set_option linter.unusedSimpArgs false
set_option linter.unusedVariables false
set_option maxRecDepth 10000
set_option maxHeartbeats 4000000
attribute [local irreducible] AW AO AR

/-- A text's writing. -/
def tx (s : L) : L := be (cut255 s).length 1 ++ cut255 s
theorem tx_le (s : L) : (tx s).length ≤ 256 := by
  unfold tx cut255
  rw [List.length_append, be_len, List.length_take]; omega
def wEd (e : Ed) : L := be e.block.toNat 4 ++ be e.deep.toNat 2 ++ tx e.strip ++ tx e.add
def wMs (m : Ms) : L := be m.kind.toNat 1 ++ tx m.key ++ (if m.kind = 1 then tx m.val else if m.kind = 3 then be m.block.toNat 4 ++ be m.deep.toNat 2 ++ tx m.add else [])
theorem gPT (l x : L) (hl : l.length ≤ 900000) (hx : x.length ≤ 1000000) : Good Try.prog 70 [.sh 1 (BS l), .s x] [] (.sh 1 (BS (l ++ tx x))) [] := by
  have := (gPutText l x 0 hl hx).sh Le.gr
  rwa [List.append_assoc] at this
theorem gP8 (l : L) (n : UInt8) (hl : l.length ≤ 900000) : Good Try.prog 72 [.sh 1 (BS l), .i .u8 n.toNat] [] (.sh 1 (BS (l ++ be n.toNat 1))) [] := (gPut8 l n.toNat 0 hl n.toNat_lt).sh Le.gr
theorem gP16 (l : L) (n : W16) (hl : l.length ≤ 900000) : Good Try.prog 107 [.sh 1 (BS l), .i .u16 n.toNat] [] (.sh 1 (BS (l ++ be n.toNat 2))) [] := (gPut16 l n.toNat 0 hl n.isLt).sh Le.gr
theorem gP32 (l : L) (n : B32) (hl : l.length ≤ 900000) : Good Try.prog 108 [.sh 1 (BS l), .i .u32 n.toNat] [] (.sh 1 (BS (l ++ be n.toNat 4))) [] := (gPut32 l n.toNat 0 hl n.isLt).sh Le.gr
theorem gPutEdge (l : L) (e : Ed) (hl : l.length ≤ 800000) (h1 : e.strip.length ≤ 1000000) (h2 : e.add.length ≤ 1000000) : Good Try.prog 71 [.sh 1 (BS l), .agg e.av] [] (.sh 1 (BS (l ++ wEd e))) [] := by
  have t1 := tx_le e.strip
  have g1 := gP32 l e.block (by omega)
  have g2 := gP16 (l ++ be e.block.toNat 4) e.deep (by simp only [List.length_append, be_len]; omega)
  have g3 := gPT (l ++ be e.block.toNat 4 ++ be e.deep.toNat 2) e.strip (by simp only [List.length_append, be_len]; omega) h1
  have g4 := gPT (l ++ be e.block.toNat 4 ++ be e.deep.toNat 2 ++ tx e.strip) e.add (by simp only [List.length_append, be_len]; omega) h2
  have ee : l ++ be e.block.toNat 4 ++ be e.deep.toNat 2 ++ tx e.strip ++ tx e.add = l ++ wEd e := by simp only [wEd, List.append_assoc]
  rw [ee] at g4
  refine Good.w tabOk mixed Try.func71 (N := 21) (by kernel_rfl) rfl (by (repeat (first | exact LE.nil | apply LE.cons)); done) (by (repeat (first | exact LE.nil | apply LE.cons)); done) fun D hD F => ?_
  repeat' (first
    | apply AO.nil
    | (apply AO.kCall 108; refine AO.sCall (hg := g1) (h := ?_))
    | (apply AO.kCall 107; refine AO.sCall (hg := g2) (h := ?_))
    | (apply AO.kBox; refine AO.sBox (h := ?_))
    | (apply AO.kP; first | refine AO.sP (h := ?_) | refine AO.sPi (h := ?_) | refine AO.sLoadB (h := ?_))
    | (apply AO.kP; refine AO.eqNil (h1 := fun h => ?_) (h2 := ?_))
    | apply AW.seq
    | (apply AW.kR; refine AW.sR (h := ?_))
    | apply AW.skip
    | apply AW.block
    | apply AW.out
    | (apply AW.kE; refine AW.sE (h := ?_))
    | apply AW.label
    | (apply AW.kRd; refine AW.sRd (h := ?_))
    | (apply AR.kAny; first | (apply AR.kCall 108; refine AR.sCall (hg := g1) (h := ?_)) | (apply AR.kCall 107; refine AR.sCall (hg := g2) (h := ?_)) | (apply AR.kBox; refine AR.sBox (h := ?_)) | (apply AR.kP; first | refine AR.sP (h := ?_) | refine AR.sPi (h := ?_)))
    | (apply AR.kNil; refine AR.sNil (h := ?_)))
  apply AR.kAny; apply AR.kCall 70; refine AR.sCall (hg := g3) (h := ?_)
  repeat' (first
    | apply AO.nil
    | (apply AO.kBox; refine AO.sBox (h := ?_))
    | (apply AO.kP; first | refine AO.sP (h := ?_) | refine AO.sPi (h := ?_) | refine AO.sLoadB (h := ?_))
    | (apply AO.kP; refine AO.eqNil (h1 := fun h => ?_) (h2 := ?_))
    | apply AW.seq
    | (apply AW.kR; refine AW.sR (h := ?_))
    | apply AW.skip
    | apply AW.block
    | apply AW.out
    | (apply AW.kE; refine AW.sE (h := ?_))
    | apply AW.label
    | (apply AW.kRd; refine AW.sRd (h := ?_))
    | (apply AR.kAny; first | (apply AR.kBox; refine AR.sBox (h := ?_)) | (apply AR.kP; first | refine AR.sP (h := ?_) | refine AR.sPi (h := ?_)))
    | (apply AR.kNil; refine AR.sNil (h := ?_)))
  apply AR.kAny; apply AR.kCall 70; refine AR.sCall (hg := g4) (h := ?_)
  repeat' (first
    | apply AO.nil
    | (apply AO.kBox; refine AO.sBox (h := ?_))
    | (apply AO.kP; first | refine AO.sP (h := ?_) | refine AO.sPi (h := ?_) | refine AO.sLoadB (h := ?_))
    | (apply AO.kP; refine AO.eqNil (h1 := fun h => ?_) (h2 := ?_))
    | apply AW.seq
    | (apply AW.kR; refine AW.sR (h := ?_))
    | apply AW.skip
    | apply AW.block
    | apply AW.out
    | (apply AW.kE; refine AW.sE (h := ?_))
    | apply AW.label
    | (apply AW.kRd; refine AW.sRd (h := ?_))
    | (apply AR.kAny; first | (apply AR.kBox; refine AR.sBox (h := ?_)) | (apply AR.kP; first | refine AR.sP (h := ?_) | refine AR.sPi (h := ?_)))
    | (apply AR.kNil; refine AR.sNil (h := ?_)))
  exact AW.ret (hD rfl .refl)
theorem gPutMsg (l : L) (m : Ms) (hl : l.length ≤ 800000) (h1 : m.key.length ≤ 1000000) (h2 : m.val.length ≤ 1000000) (h3 : m.add.length ≤ 1000000) : Good Try.prog 73 [.sh 1 (BS l), .agg m.av] [] (.sh 1 (BS (l ++ wMs m))) [] := by
  have t1 := tx_le m.key
  have g1 := gP8 l m.kind (by omega)
  have g2 := gPT (l ++ be m.kind.toNat 1) m.key (by simp only [List.length_append, be_len]; omega) h1
  have g3 := gPT (l ++ be m.kind.toNat 1 ++ tx m.key) m.val (by simp only [List.length_append, be_len]; omega) h2
  have g4 := gP32 (l ++ be m.kind.toNat 1 ++ tx m.key) m.block (by simp only [List.length_append, be_len]; omega)
  have g5 := gP16 (l ++ be m.kind.toNat 1 ++ tx m.key ++ be m.block.toNat 4) m.deep (by simp only [List.length_append, be_len]; omega)
  have g6 := gPT (l ++ be m.kind.toNat 1 ++ tx m.key ++ be m.block.toNat 4 ++ be m.deep.toNat 2) m.add (by simp only [List.length_append, be_len]; omega) h3
  have e1 : m.kind = 1 → l ++ be m.kind.toNat 1 ++ tx m.key ++ tx m.val = l ++ wMs m := fun h => by simp only [wMs, if_pos h, List.append_assoc]
  have e3 : ¬ m.kind = 1 → m.kind = 3 → l ++ be m.kind.toNat 1 ++ tx m.key ++ be m.block.toNat 4 ++ be m.deep.toNat 2 ++ tx m.add = l ++ wMs m := fun h h' => by simp only [wMs, if_neg h, if_pos h', List.append_assoc]
  have e0 : ¬ m.kind = 1 → ¬ m.kind = 3 → l ++ be m.kind.toNat 1 ++ tx m.key = l ++ wMs m := fun h h' => by simp only [wMs, if_neg h, if_neg h', List.append_assoc, List.append_nil]
  refine Good.w tabOk mixed Try.func73 (N := 33) (by kernel_rfl) rfl (by (repeat (first | exact LE.nil | apply LE.cons)); done) (by (repeat (first | exact LE.nil | apply LE.cons)); done) fun D hD F => ?_
  repeat' (first
    | apply AO.nil
    | (apply AO.kCall 72; refine AO.sCall (hg := g1) (h := ?_))
    | (apply AO.kBox; refine AO.sBox (h := ?_))
    | (apply AO.kP; first | refine AO.sP (h := ?_) | refine AO.sPi (h := ?_) | refine AO.sLoadB (h := ?_))
    | (apply AO.kP; refine AO.eqNil (h1 := fun h => ?_) (h2 := ?_))
    | apply AW.seq
    | (apply AW.kR; refine AW.sR (h := ?_))
    | apply AW.skip
    | apply AW.block
    | apply AW.out
    | (apply AW.kE; refine AW.sE (h := ?_))
    | apply AW.label
    | (apply AW.kRd; refine AW.sRd (h := ?_))
    | ((first | (apply AW.kC; refine AW.sC (h1 := fun h => ?_) (h2 := fun h => ?_))) <;> (try (first | exact Bool.noConfusion h | exact absurd h (by decide) | (simp at h; done) | (rw [h]; try simp only [nrm] at h; try rw [h]; try (exfalso; omega)) | skip)))
    | (apply AR.kAny; first | (apply AR.kCall 72; refine AR.sCall (hg := g1) (h := ?_)) | (apply AR.kBox; refine AR.sBox (h := ?_)) | (apply AR.kP; first | refine AR.sP (h := ?_) | refine AR.sPi (h := ?_)))
    | (apply AR.kNil; refine AR.sNil (h := ?_)))
  apply AR.kAny; apply AR.kCall 70; refine AR.sCall (hg := g2) (h := ?_)
  repeat' (first
    | apply AO.nil
    | (apply AO.kCall 108; refine AO.sCall (hg := g4) (h := ?_))
    | (apply AO.kCall 107; refine AO.sCall (hg := g5) (h := ?_))
    | (apply AO.kBox; refine AO.sBox (h := ?_))
    | (apply AO.kP; first | refine AO.sP (h := ?_) | refine AO.sPi (h := ?_) | refine AO.sLoadB (h := ?_))
    | (apply AO.kP; refine AO.eqNil (h1 := fun h => ?_) (h2 := ?_))
    | apply AW.seq
    | (apply AW.kR; refine AW.sR (h := ?_))
    | apply AW.skip
    | apply AW.block
    | apply AW.out
    | (apply AW.kE; refine AW.sE (h := ?_))
    | apply AW.label
    | (apply AW.kRd; refine AW.sRd (h := ?_))
    | ((first | (apply AW.kC; refine AW.sC (h1 := fun h => ?_) (h2 := fun h => ?_))) <;> (try (first | exact Bool.noConfusion h | exact absurd h (by decide) | (simp at h; done) | (rw [h]; try simp only [nrm] at h; try rw [h]; try (exfalso; omega)) | skip)))
    | (apply AR.kAny; first | (apply AR.kCall 108; refine AR.sCall (hg := g4) (h := ?_)) | (apply AR.kCall 107; refine AR.sCall (hg := g5) (h := ?_)) | (apply AR.kBox; refine AR.sBox (h := ?_)) | (apply AR.kP; first | refine AR.sP (h := ?_) | refine AR.sPi (h := ?_)))
    | (apply AR.kNil; refine AR.sNil (h := ?_)))
  · rw [k1] at h
    rw [e1 h] at g3
    repeat' (first
    | apply AO.nil
    | (apply AO.kCall 70; refine AO.sCall (hg := g3) (h := ?_))
    | (apply AO.kBox; refine AO.sBox (h := ?_))
    | (apply AO.kP; first | refine AO.sP (h := ?_) | refine AO.sPi (h := ?_) | refine AO.sLoadB (h := ?_))
    | (apply AO.kP; refine AO.eqNil (h1 := fun h => ?_) (h2 := ?_))
    | apply AW.seq
    | (apply AW.kR; refine AW.sR (h := ?_))
    | apply AW.skip
    | apply AW.block
    | apply AW.out
    | (apply AW.kE; refine AW.sE (h := ?_))
    | apply AW.label
    | (apply AW.kRd; refine AW.sRd (h := ?_))
    | ((first | (apply AW.kC; refine AW.sC (h1 := fun h => ?_) (h2 := fun h => ?_))) <;> (try (first | exact Bool.noConfusion h | exact absurd h (by decide) | (simp at h; done) | (rw [h]; try simp only [nrm] at h; try rw [h]; try (exfalso; omega)) | skip)))
    | (apply AR.kAny; first | (apply AR.kCall 70; refine AR.sCall (hg := g3) (h := ?_)) | (apply AR.kBox; refine AR.sBox (h := ?_)) | (apply AR.kP; first | refine AR.sP (h := ?_) | refine AR.sPi (h := ?_)))
    | (apply AR.kNil; refine AR.sNil (h := ?_)))
    exact AW.ret (hD rfl .refl)
  · rename_i h'
    rw [k1] at h'; rw [k3] at h
    rw [e3 h' h] at g6
    apply AR.kAny; apply AR.kCall 70; refine AR.sCall (hg := g6) (h := ?_)
    repeat' (first
    | apply AO.nil
    | (apply AO.kBox; refine AO.sBox (h := ?_))
    | (apply AO.kP; first | refine AO.sP (h := ?_) | refine AO.sPi (h := ?_) | refine AO.sLoadB (h := ?_))
    | (apply AO.kP; refine AO.eqNil (h1 := fun h => ?_) (h2 := ?_))
    | apply AW.seq
    | (apply AW.kR; refine AW.sR (h := ?_))
    | apply AW.skip
    | apply AW.block
    | apply AW.out
    | (apply AW.kE; refine AW.sE (h := ?_))
    | apply AW.label
    | (apply AW.kRd; refine AW.sRd (h := ?_))
    | ((first | (apply AW.kC; refine AW.sC (h1 := fun h => ?_) (h2 := fun h => ?_))) <;> (try (first | exact Bool.noConfusion h | exact absurd h (by decide) | (simp at h; done) | (rw [h]; try simp only [nrm] at h; try rw [h]; try (exfalso; omega)) | skip)))
    | (apply AR.kAny; first | (apply AR.kBox; refine AR.sBox (h := ?_)) | (apply AR.kP; first | refine AR.sP (h := ?_) | refine AR.sPi (h := ?_)))
    | (apply AR.kNil; refine AR.sNil (h := ?_)))
    exact AW.ret (hD rfl .refl)
  · rename_i h'
    rw [k1] at h'; rw [k3] at h
    exact AW.ret (hD rfl (Lx.eq (by rw [← e0 h' h]; rfl)))
end Go.Proofs.Ytmfonbehcfjjgaa.Mv

/- The codec: a node put. Under no condition. -/
namespace Go.Proofs.Ytmfonbehcfjjgaa.Mv
open Go Go.Proofs
set_option linter.unusedSimpArgs false
set_option linter.unusedVariables false
set_option maxRecDepth 10000
set_option maxHeartbeats 4000000
attribute [local irreducible] AW AO AR

def wPr (p : Pr) : L := tx p.k ++ tx p.v
/-- A node's writing. -/
def wN (n : Nd) : L :=
  if n.leaf = true then be 1 1 ++ be n.pairs.length 1 ++ (n.pairs.map wPr).flatten
  else be 2 1 ++ be n.kids.length 1 ++ (n.kids.map wEd).flatten ++ (n.pivots.map tx).flatten ++ be n.buf.length 1 ++ (n.buf.map wMs).flatten
theorem fl_more {α : Type} [Inhabited α] {l : List α} {f : α → L} {q : Nat} (h : q < l.length) : ((l.take (q + 1)).map f).flatten = ((l.take q).map f).flatten ++ f (l.getD q default) := by
  rw [List.take_add_one, List.map_append, List.flatten_append, List.getD_eq_getElem?_getD, List.getElem?_eq_getElem h]; simp
theorem fl_le {α : Type} {l : List α} {f : α → L} {c : Nat} (h : ∀ x, (f x).length ≤ c) : ∀ q, ((l.take q).map f).flatten.length ≤ q * c
  | 0 => by simp
  | q + 1 => by
    by_cases hq : q < l.length
    · have := fl_le h q (l := l)
      rw [List.take_add_one, List.map_append, List.flatten_append, List.length_append, List.getElem?_eq_getElem hq]
      have e := h l[q]
      simp only [Option.toList_some, List.map_cons, List.map_nil, List.flatten_cons, List.flatten_nil, List.append_nil]
      rw [Nat.add_mul]; omega
    · have := fl_le h q (l := l)
      rw [List.take_of_length_le (by omega)] at this ⊢
      rw [Nat.add_mul]; omega
theorem grB {H : Gam → Nm → Prop} {t e : Nat} {a b : L} (h : a = b) : Lx H (.gr t e 1 (BS a)) (.sh 1 (BS b)) := h ▸ Lx.gr
theorem gPutLeaf (pairs : List Pr) (pivots : List L) (kids : List Ed) (buf : List Ms) (hs : (⟨true, pairs, pivots, kids, buf⟩ : Nd).small) (hx : (⟨true, pairs, pivots, kids, buf⟩ : Nd).strs) (h0 : mayN ⟨true, pairs, pivots, kids, buf⟩ = 0) (hp : pairs.length ≤ 16) :
    Good Try.prog 34 [.agg (Nd.av ⟨true, pairs, pivots, kids, buf⟩)] [] (.tup [.sh 1 (BS (wN ⟨true, pairs, pivots, kids, buf⟩)), .i .i64 0]) [] := by
  have gM := gMay ⟨true, pairs, pivots, kids, buf⟩ hs
  rw [h0] at gM
  have lp : (pairs.map Pr.av).length = pairs.length := by simp
  have hall : ∀ q, q < pairs.length → (pairs.getD q default).k.length ≤ 1000000 ∧ (pairs.getD q default).v.length ≤ 1000000 := fun q hq => by
    have ho := may_leaf h0 rfl
    simp only [leafOk, Bool.and_eq_true] at ho
    have hm : pairs.getD q default ∈ pairs := by
      rw [List.getD_eq_getElem?_getD, List.getElem?_eq_getElem hq]; exact List.getElem_mem _
    have := List.all_eq_true.1 ho.2 _ hm
    simp only [prLen, Bool.and_eq_true, decide_eq_true_eq] at this
    omega
  refine Good.w tabOk mixed Try.func34 (N := 88) (by kernel_rfl) rfl (by (repeat (first | exact LE.nil | apply LE.cons)); done) (by (repeat (first | exact LE.nil | apply LE.cons)); done) fun D hD F => ?_
  repeat' (first
    | apply AO.nil
    | (apply AO.kCall 39; refine AO.sCall (hg := gM) (h := ?_))
    | (apply AO.kBuildS; first | refine AO.sBuildT (h := ?_) | refine AO.sBuildS (h := ?_))
    | (apply AO.kIx; first | refine AO.sIxN (h := ?_) | refine AO.sIx (h := ?_) | refine AO.sP (h := ?_) | refine AO.sPi (h := ?_))
    | (apply AO.kBox; refine AO.sBox (h := ?_))
    | (apply AO.kAlloc; refine AO.sAlloc (h := ?_))
    | (apply AO.kStore; first | refine AO.sStore (h := ?_) | refine AO.sStB (h := ?_))
    | (apply AO.kAdd; refine AO.sAdd (h := ?_))
    | (apply AO.kCv; first | refine AO.sBytes (h := ?_) | refine AO.sStr (h := ?_) | refine AO.sStrR (h := ?_))
    | (apply AO.kP; first | refine AO.sP (h := ?_) | refine AO.sPi (h := ?_) | refine AO.sLoadB (h := ?_))
    | (apply AO.kP; refine AO.eqNil (h1 := fun h => ?_) (h2 := ?_))
    | apply AW.seq
    | (apply AW.kR; refine AW.sR (h := ?_))
    | apply AW.skip
    | apply AW.block
    | apply AW.out
    | (apply AW.kE; refine AW.sE (h := ?_))
    | apply AW.label
    | (apply AW.kRd; refine AW.sRd (h := ?_))
    | ((first | (apply AW.kC; refine AW.sC (h1 := fun h => ?_) (h2 := fun h => ?_))) <;> (try (first | exact Bool.noConfusion h | exact absurd h (by decide) | (simp at h; done) | (rw [h]; try simp only [nrm] at h; try rw [h]; try (exfalso; omega)) | skip)))
    | (apply AR.kAny; first | (apply AR.kCall 39; refine AR.sCall (hg := gM) (h := ?_)) | (apply AR.kBuildS; first | refine AR.sBuildT (h := ?_) | refine AR.sBuildS (h := ?_)) | (apply AR.kIx; first | refine AR.sIxN (h := ?_) | refine AR.sIx (h := ?_) | refine AR.sP (h := ?_) | refine AR.sPi (h := ?_)) | (apply AR.kBox; refine AR.sBox (h := ?_)) | (apply AR.kAlloc; refine AR.sAlloc (h := ?_)) | (apply AR.kStore; refine AR.sStore (h := ?_)) | (apply AR.kAdd; refine AR.sAdd (h := ?_)) | (apply AR.kCv; refine AR.sStrR (h := ?_)) | (apply AR.kP; first | refine AR.sP (h := ?_) | refine AR.sPi (h := ?_)))
    | (apply AR.kNil; refine AR.sNil (h := ?_)))
  have e0 : [u8 1, u8 ((pairs.map Pr.av).length : Int)] = be 1 1 ++ be pairs.length 1 := by
    rw [lp]
    simp only [be, u8_nat, Nat.pow_zero, Nat.div_one, List.cons_append, List.nil_append]
    rfl
  refine AW.loopI (fun q : Nat => q ≤ pairs.length) (fun q => ⟨[(1, .ptr 1 0), (5, .sh 1 (BS (be 1 1 ++ be pairs.length 1 ++ ((pairs.take q).map wPr).flatten))), (28, .sh 2 (pairs.map Pr.av)), (29, .i .i64 pairs.length), (30, .i .i64 q)], [(1, .bx (Nd.av ⟨true, pairs, pivots, kids, buf⟩))]⟩) (fun q => pairs.length - q) 0 (by simp) (by (constructor <;> (repeat' (first | exact LeT.nil | exact LeB.nil | apply LeT.cons | apply LeB.cons | exact Ol.refl | apply Lx.s | apply Lx.b | apply Lx.i | exact Lx.refl)) <;> (first | rfl | assumption | omega | (simp only [List.length_map, BS_len]; done) | skip)); exact grB (e0.trans (by simp))) fun m q hq ih => ?_
  by_cases hq2 : q < pairs.length
  · have hb := fl_le (l := pairs) (f := wPr) (c := 512) (fun p => by have a := tx_le p.k; have b := tx_le p.v; unfold wPr; rw [List.length_append]; omega) q
    have sk := hall q hq2
    have g1 := gPT (be 1 1 ++ be pairs.length 1 ++ ((pairs.take q).map wPr).flatten) (pairs.getD q default).k (by simp only [List.length_append, be_len]; omega) sk.1
    have g2 := gPT (be 1 1 ++ be pairs.length 1 ++ ((pairs.take q).map wPr).flatten ++ tx (pairs.getD q default).k) (pairs.getD q default).v (by have := tx_le (pairs.getD q default).k; simp only [List.length_append, be_len]; omega) sk.2
    have e1 : be 1 1 ++ be pairs.length 1 ++ ((pairs.take q).map wPr).flatten ++ tx (pairs.getD q default).k ++ tx (pairs.getD q default).v = be 1 1 ++ be pairs.length 1 ++ ((pairs.take (q + 1)).map wPr).flatten := by
      rw [fl_more hq2, wPr]; simp only [List.append_assoc]
    rw [e1] at g2
    repeat' (first
    | apply AO.nil
    | (apply AO.kBuildS; first | refine AO.sBuildT (h := ?_) | refine AO.sBuildS (h := ?_))
    | (apply AO.kIx; first | refine AO.sIxN (h := ?_) | refine AO.sIx (h := ?_) | refine AO.sP (h := ?_) | refine AO.sPi (h := ?_))
    | (apply AO.kBox; refine AO.sBox (h := ?_))
    | (apply AO.kAlloc; refine AO.sAlloc (h := ?_))
    | (apply AO.kStore; first | refine AO.sStore (h := ?_) | refine AO.sStB (h := ?_))
    | (apply AO.kAdd; refine AO.sAdd (h := ?_))
    | (apply AO.kCv; first | refine AO.sBytes (h := ?_) | refine AO.sStr (h := ?_) | refine AO.sStrR (h := ?_))
    | (apply AO.kP; first | refine AO.sP (h := ?_) | refine AO.sPi (h := ?_) | refine AO.sLoadB (h := ?_))
    | (apply AO.kP; refine AO.eqNil (h1 := fun h => ?_) (h2 := ?_))
    | apply AW.seq
    | (apply AW.kR; refine AW.sR (h := ?_))
    | apply AW.skip
    | apply AW.block
    | apply AW.out
    | (apply AW.kE; refine AW.sE (h := ?_))
    | apply AW.label
    | (apply AW.kRd; refine AW.sRd (h := ?_))
    | ((first | (apply AW.kC; refine AW.sC (h1 := fun h => ?_) (h2 := fun h => ?_))) <;> (try (first | exact Bool.noConfusion h | exact absurd h (by decide) | (simp at h; done) | (rw [h]; try simp only [nrm] at h; try rw [h]; try (exfalso; omega)) | skip)))
    | (apply AR.kAny; first | (apply AR.kBuildS; first | refine AR.sBuildT (h := ?_) | refine AR.sBuildS (h := ?_)) | (apply AR.kIx; first | refine AR.sIxN (h := ?_) | refine AR.sIx (h := ?_) | refine AR.sP (h := ?_) | refine AR.sPi (h := ?_)) | (apply AR.kBox; refine AR.sBox (h := ?_)) | (apply AR.kAlloc; refine AR.sAlloc (h := ?_)) | (apply AR.kStore; refine AR.sStore (h := ?_)) | (apply AR.kAdd; refine AR.sAdd (h := ?_)) | (apply AR.kCv; refine AR.sStrR (h := ?_)) | (apply AR.kP; first | refine AR.sP (h := ?_) | refine AR.sPi (h := ?_)))
    | (apply AR.kNil; refine AR.sNil (h := ?_)))
    · apply AR.kAny; apply AR.kCall 70; refine AR.sCall (hg := g1) (h := ?_)
      repeat' (first
    | apply AO.nil
    | (apply AO.kBuildS; first | refine AO.sBuildT (h := ?_) | refine AO.sBuildS (h := ?_))
    | (apply AO.kIx; first | refine AO.sIxN (h := ?_) | refine AO.sIx (h := ?_) | refine AO.sP (h := ?_) | refine AO.sPi (h := ?_))
    | (apply AO.kBox; refine AO.sBox (h := ?_))
    | (apply AO.kAlloc; refine AO.sAlloc (h := ?_))
    | (apply AO.kStore; first | refine AO.sStore (h := ?_) | refine AO.sStB (h := ?_))
    | (apply AO.kAdd; refine AO.sAdd (h := ?_))
    | (apply AO.kCv; first | refine AO.sBytes (h := ?_) | refine AO.sStr (h := ?_) | refine AO.sStrR (h := ?_))
    | (apply AO.kP; first | refine AO.sP (h := ?_) | refine AO.sPi (h := ?_) | refine AO.sLoadB (h := ?_))
    | (apply AO.kP; refine AO.eqNil (h1 := fun h => ?_) (h2 := ?_))
    | apply AW.seq
    | (apply AW.kR; refine AW.sR (h := ?_))
    | apply AW.skip
    | apply AW.block
    | apply AW.out
    | (apply AW.kE; refine AW.sE (h := ?_))
    | apply AW.label
    | (apply AW.kRd; refine AW.sRd (h := ?_))
    | ((first | (apply AW.kC; refine AW.sC (h1 := fun h => ?_) (h2 := fun h => ?_))) <;> (try (first | exact Bool.noConfusion h | exact absurd h (by decide) | (simp at h; done) | (rw [h]; try simp only [nrm] at h; try rw [h]; try (exfalso; omega)) | skip)))
    | (apply AR.kAny; first | (apply AR.kBuildS; first | refine AR.sBuildT (h := ?_) | refine AR.sBuildS (h := ?_)) | (apply AR.kIx; first | refine AR.sIxN (h := ?_) | refine AR.sIx (h := ?_) | refine AR.sP (h := ?_) | refine AR.sPi (h := ?_)) | (apply AR.kBox; refine AR.sBox (h := ?_)) | (apply AR.kAlloc; refine AR.sAlloc (h := ?_)) | (apply AR.kStore; refine AR.sStore (h := ?_)) | (apply AR.kAdd; refine AR.sAdd (h := ?_)) | (apply AR.kCv; refine AR.sStrR (h := ?_)) | (apply AR.kP; first | refine AR.sP (h := ?_) | refine AR.sPi (h := ?_)))
    | (apply AR.kNil; refine AR.sNil (h := ?_)))
      apply AR.kAny; apply AR.kCall 70; refine AR.sCall (hg := g2) (h := ?_)
      repeat' (first
    | apply AO.nil
    | (apply AO.kBuildS; first | refine AO.sBuildT (h := ?_) | refine AO.sBuildS (h := ?_))
    | (apply AO.kIx; first | refine AO.sIxN (h := ?_) | refine AO.sIx (h := ?_) | refine AO.sP (h := ?_) | refine AO.sPi (h := ?_))
    | (apply AO.kBox; refine AO.sBox (h := ?_))
    | (apply AO.kAlloc; refine AO.sAlloc (h := ?_))
    | (apply AO.kStore; first | refine AO.sStore (h := ?_) | refine AO.sStB (h := ?_))
    | (apply AO.kAdd; refine AO.sAdd (h := ?_))
    | (apply AO.kCv; first | refine AO.sBytes (h := ?_) | refine AO.sStr (h := ?_) | refine AO.sStrR (h := ?_))
    | (apply AO.kP; first | refine AO.sP (h := ?_) | refine AO.sPi (h := ?_) | refine AO.sLoadB (h := ?_))
    | (apply AO.kP; refine AO.eqNil (h1 := fun h => ?_) (h2 := ?_))
    | apply AW.seq
    | (apply AW.kR; refine AW.sR (h := ?_))
    | apply AW.skip
    | apply AW.block
    | apply AW.out
    | (apply AW.kE; refine AW.sE (h := ?_))
    | apply AW.label
    | (apply AW.kRd; refine AW.sRd (h := ?_))
    | ((first | (apply AW.kC; refine AW.sC (h1 := fun h => ?_) (h2 := fun h => ?_))) <;> (try (first | exact Bool.noConfusion h | exact absurd h (by decide) | (simp at h; done) | (rw [h]; try simp only [nrm] at h; try rw [h]; try (exfalso; omega)) | skip)))
    | (apply AR.kAny; first | (apply AR.kBuildS; first | refine AR.sBuildT (h := ?_) | refine AR.sBuildS (h := ?_)) | (apply AR.kIx; first | refine AR.sIxN (h := ?_) | refine AR.sIx (h := ?_) | refine AR.sP (h := ?_) | refine AR.sPi (h := ?_)) | (apply AR.kBox; refine AR.sBox (h := ?_)) | (apply AR.kAlloc; refine AR.sAlloc (h := ?_)) | (apply AR.kStore; refine AR.sStore (h := ?_)) | (apply AR.kAdd; refine AR.sAdd (h := ?_)) | (apply AR.kCv; refine AR.sStrR (h := ?_)) | (apply AR.kP; first | refine AR.sP (h := ?_) | refine AR.sPi (h := ?_)))
    | (apply AR.kNil; refine AR.sNil (h := ?_)))
      exact ih (q + 1) _ (by omega) (by omega) (by (constructor <;> (repeat' (first | exact LeT.nil | exact LeB.nil | apply LeT.cons | apply LeB.cons | exact Ol.refl | apply Lx.s | apply Lx.b | apply Lx.i | exact Lx.refl)) <;> (first | rfl | assumption | omega | (simp only [List.length_map, BS_len]; done) | skip)))
    · exfalso; omega
  · obtain rfl : q = pairs.length := by omega
    repeat' (first
    | apply AO.nil
    | (apply AO.kBuildS; first | refine AO.sBuildT (h := ?_) | refine AO.sBuildS (h := ?_))
    | (apply AO.kIx; first | refine AO.sIxN (h := ?_) | refine AO.sIx (h := ?_) | refine AO.sP (h := ?_) | refine AO.sPi (h := ?_))
    | (apply AO.kBox; refine AO.sBox (h := ?_))
    | (apply AO.kAlloc; refine AO.sAlloc (h := ?_))
    | (apply AO.kStore; first | refine AO.sStore (h := ?_) | refine AO.sStB (h := ?_))
    | (apply AO.kAdd; refine AO.sAdd (h := ?_))
    | (apply AO.kCv; first | refine AO.sBytes (h := ?_) | refine AO.sStr (h := ?_) | refine AO.sStrR (h := ?_))
    | (apply AO.kP; first | refine AO.sP (h := ?_) | refine AO.sPi (h := ?_) | refine AO.sLoadB (h := ?_))
    | (apply AO.kP; refine AO.eqNil (h1 := fun h => ?_) (h2 := ?_))
    | apply AW.seq
    | (apply AW.kR; refine AW.sR (h := ?_))
    | apply AW.skip
    | apply AW.block
    | apply AW.out
    | (apply AW.kE; refine AW.sE (h := ?_))
    | apply AW.label
    | (apply AW.kRd; refine AW.sRd (h := ?_))
    | ((first | (apply AW.kC; refine AW.sC (h1 := fun h => ?_) (h2 := fun h => ?_))) <;> (try (first | exact Bool.noConfusion h | exact absurd h (by decide) | (simp at h; done) | (rw [h]; try simp only [nrm] at h; try rw [h]; try (exfalso; omega)) | skip)))
    | (apply AR.kAny; first | (apply AR.kBuildS; first | refine AR.sBuildT (h := ?_) | refine AR.sBuildS (h := ?_)) | (apply AR.kIx; first | refine AR.sIxN (h := ?_) | refine AR.sIx (h := ?_) | refine AR.sP (h := ?_) | refine AR.sPi (h := ?_)) | (apply AR.kBox; refine AR.sBox (h := ?_)) | (apply AR.kAlloc; refine AR.sAlloc (h := ?_)) | (apply AR.kStore; refine AR.sStore (h := ?_)) | (apply AR.kAdd; refine AR.sAdd (h := ?_)) | (apply AR.kCv; refine AR.sStrR (h := ?_)) | (apply AR.kP; first | refine AR.sP (h := ?_) | refine AR.sPi (h := ?_)))
    | (apply AR.kNil; refine AR.sNil (h := ?_)))
    all_goals first
      | (exfalso; omega)
      | exact AW.ret (hD rfl (.tup (.cons (Lx.eq (by rw [wN, if_pos rfl, List.take_length]; rfl)) (.cons .refl .nil))))
end Go.Proofs.Ytmfonbehcfjjgaa.Mv

/- The codec: an inner node put. Under no condition. -/
namespace Go.Proofs.Ytmfonbehcfjjgaa.Mv
open Go Go.Proofs
set_option linter.unusedSimpArgs false
set_option linter.unusedVariables false
set_option maxRecDepth 10000
set_option maxHeartbeats 4000000
attribute [local irreducible] AW AO AR

theorem wEd_le (e : Ed) : (wEd e).length ≤ 520 := by
  have a := tx_le e.strip; have b := tx_le e.add
  unfold wEd; simp only [List.length_append, be_len]; omega
theorem wMs_le (m : Ms) : (wMs m).length ≤ 520 := by
  have a := tx_le m.key; have b := tx_le m.val; have c := tx_le m.add
  unfold wMs; simp only [List.length_append, be_len]
  split
  · omega
  · split
    · simp only [List.length_append, be_len]; omega
    · simp only [List.length_nil]; omega
theorem gPutInner (pairs : List Pr) (pivots : List L) (kids : List Ed) (buf : List Ms) (hs : (⟨false, pairs, pivots, kids, buf⟩ : Nd).small) (hx : (⟨false, pairs, pivots, kids, buf⟩ : Nd).strs) (h0 : mayN ⟨false, pairs, pivots, kids, buf⟩ = 0)
    (hv : ∀ i, i < buf.length → (buf.getD i default).val.length ≤ 1000000) :
    Good Try.prog 34 [.agg (Nd.av ⟨false, pairs, pivots, kids, buf⟩)] [] (.tup [.sh 1 (BS (wN ⟨false, pairs, pivots, kids, buf⟩)), .i .i64 0]) [] := by
  have gM := gMay ⟨false, pairs, pivots, kids, buf⟩ hs
  rw [h0] at gM
  obtain ⟨ho, l3, l4⟩ := may_inner h0 rfl
  simp only [innerOk, Bool.and_eq_true, decide_eq_true_eq] at ho
  obtain ⟨⟨⟨⟨⟨_, _⟩, o1⟩, o2⟩, o3⟩, o4⟩ := ho
  dsimp only at l3 l4 o1 o2 o3 o4
  have m2 : (pivots.map sav).length = pivots.length := by simp
  have m3 : (kids.map Ed.av).length = kids.length := by simp
  have m4 : (buf.map Ms.av).length = buf.length := by simp
  have pv : ∀ q, q < pivots.length → (pivots.getD q default).length ≤ 1000000 := fun q hq => by
    have hm : pivots.getD q default ∈ pivots := by
      rw [List.getD_eq_getElem?_getD, List.getElem?_eq_getElem hq]; exact List.getElem_mem _
    have := List.all_eq_true.1 o3.2 _ hm
    simp only [decide_eq_true_eq] at this
    omega
  have e0 : [u8 2, u8 ((kids.map Ed.av).length : Int)] = be 2 1 ++ be kids.length 1 := by
    rw [m3]
    simp only [be, u8_nat, Nat.pow_zero, Nat.div_one, List.cons_append, List.nil_append]
    rfl
  refine Good.w tabOk mixed Try.func34 (N := 88) (by kernel_rfl) rfl (by (repeat (first | exact LE.nil | apply LE.cons)); done) (by (repeat (first | exact LE.nil | apply LE.cons)); done) fun D hD F => ?_
  repeat' (first
    | apply AO.nil
    | (apply AO.kCall 39; refine AO.sCall (hg := gM) (h := ?_))
    | (apply AO.kBuildS; first | refine AO.sBuildT (h := ?_) | refine AO.sBuildS (h := ?_))
    | (apply AO.kIx; first | refine AO.sIxN (h := ?_) | refine AO.sIx (h := ?_) | refine AO.sP (h := ?_) | refine AO.sPi (h := ?_))
    | (apply AO.kBox; refine AO.sBox (h := ?_))
    | (apply AO.kAlloc; refine AO.sAlloc (h := ?_))
    | (apply AO.kStore; first | refine AO.sStore (h := ?_) | refine AO.sStB (h := ?_))
    | (apply AO.kAdd; refine AO.sAdd (h := ?_))
    | (apply AO.kCv; first | refine AO.sBytes (h := ?_) | refine AO.sStr (h := ?_) | refine AO.sStrR (h := ?_))
    | (apply AO.kP; first | refine AO.sP (h := ?_) | refine AO.sPi (h := ?_) | refine AO.sLoadB (h := ?_))
    | (apply AO.kP; refine AO.eqNil (h1 := fun h => ?_) (h2 := ?_))
    | apply AW.seq
    | (apply AW.kR; refine AW.sR (h := ?_))
    | apply AW.skip
    | apply AW.block
    | apply AW.out
    | (apply AW.kE; refine AW.sE (h := ?_))
    | apply AW.label
    | (apply AW.kRd; refine AW.sRd (h := ?_))
    | ((first | (apply AW.kC; refine AW.sC (h1 := fun h => ?_) (h2 := fun h => ?_))) <;> (try (first | exact Bool.noConfusion h | exact absurd h (by decide) | (simp at h; done) | (rw [h]; try simp only [nrm] at h; try rw [h]; try (exfalso; omega)) | skip)))
    | (apply AR.kAny; first | (apply AR.kCall 39; refine AR.sCall (hg := gM) (h := ?_)) | (apply AR.kBuildS; first | refine AR.sBuildT (h := ?_) | refine AR.sBuildS (h := ?_)) | (apply AR.kIx; first | refine AR.sIxN (h := ?_) | refine AR.sIx (h := ?_) | refine AR.sP (h := ?_) | refine AR.sPi (h := ?_)) | (apply AR.kBox; refine AR.sBox (h := ?_)) | (apply AR.kAlloc; refine AR.sAlloc (h := ?_)) | (apply AR.kStore; refine AR.sStore (h := ?_)) | (apply AR.kAdd; refine AR.sAdd (h := ?_)) | (apply AR.kCv; refine AR.sStrR (h := ?_)) | (apply AR.kP; first | refine AR.sP (h := ?_) | refine AR.sPi (h := ?_)))
    | (apply AR.kNil; refine AR.sNil (h := ?_)))
  refine AW.loopI (fun q : Nat => q ≤ kids.length) (fun q => ⟨[(1, .ptr 1 0), (8, .sh 1 (BS (be 2 1 ++ be kids.length 1 ++ ((kids.take q).map wEd).flatten))), (49, .sh 4 (kids.map Ed.av)), (50, .i .i64 kids.length), (51, .i .i64 q)], [(1, .bx (Nd.av ⟨false, pairs, pivots, kids, buf⟩))]⟩) (fun q => kids.length - q) 0 (by simp) (by (constructor <;> (repeat' (first | exact LeT.nil | exact LeB.nil | apply LeT.cons | apply LeB.cons | exact Ol.refl | apply Lx.s | apply Lx.b | apply Lx.i | exact Lx.refl)) <;> (first | rfl | assumption | omega | (simp only [List.length_map, BS_len]; done) | skip)); exact grB (e0.trans (by simp))) fun m q hq ih => ?_
  by_cases hq2 : q < kids.length
  · have hb := fl_le (l := kids) (f := wEd) (c := 520) wEd_le q
    have sk := hx.kids q (by show _ < kids.length; omega)
    have g1 := gPutEdge (be 2 1 ++ be kids.length 1 ++ ((kids.take q).map wEd).flatten) (kids.getD q default) (by simp only [List.length_append, be_len]; omega) sk.1 sk.2
    have e1 : be 2 1 ++ be kids.length 1 ++ ((kids.take q).map wEd).flatten ++ wEd (kids.getD q default) = be 2 1 ++ be kids.length 1 ++ ((kids.take (q + 1)).map wEd).flatten := by
      rw [fl_more hq2, List.append_assoc _ _ (wEd _)]
    rw [e1] at g1
    repeat' (first
    | apply AO.nil
    | (apply AO.kCall 71; refine AO.sCall (hg := g1) (h := ?_))
    | (apply AO.kBuildS; first | refine AO.sBuildT (h := ?_) | refine AO.sBuildS (h := ?_))
    | (apply AO.kIx; first | refine AO.sIxN (h := ?_) | refine AO.sIx (h := ?_) | refine AO.sP (h := ?_) | refine AO.sPi (h := ?_))
    | (apply AO.kBox; refine AO.sBox (h := ?_))
    | (apply AO.kAlloc; refine AO.sAlloc (h := ?_))
    | (apply AO.kStore; first | refine AO.sStore (h := ?_) | refine AO.sStB (h := ?_))
    | (apply AO.kAdd; refine AO.sAdd (h := ?_))
    | (apply AO.kCv; first | refine AO.sBytes (h := ?_) | refine AO.sStr (h := ?_) | refine AO.sStrR (h := ?_))
    | (apply AO.kP; first | refine AO.sP (h := ?_) | refine AO.sPi (h := ?_) | refine AO.sLoadB (h := ?_))
    | (apply AO.kP; refine AO.eqNil (h1 := fun h => ?_) (h2 := ?_))
    | apply AW.seq
    | (apply AW.kR; refine AW.sR (h := ?_))
    | apply AW.skip
    | apply AW.block
    | apply AW.out
    | (apply AW.kE; refine AW.sE (h := ?_))
    | apply AW.label
    | (apply AW.kRd; refine AW.sRd (h := ?_))
    | ((first | (apply AW.kC; refine AW.sC (h1 := fun h => ?_) (h2 := fun h => ?_))) <;> (try (first | exact Bool.noConfusion h | exact absurd h (by decide) | (simp at h; done) | (rw [h]; try simp only [nrm] at h; try rw [h]; try (exfalso; omega)) | skip)))
    | (apply AR.kAny; first | (apply AR.kCall 71; refine AR.sCall (hg := g1) (h := ?_)) | (apply AR.kBuildS; first | refine AR.sBuildT (h := ?_) | refine AR.sBuildS (h := ?_)) | (apply AR.kIx; first | refine AR.sIxN (h := ?_) | refine AR.sIx (h := ?_) | refine AR.sP (h := ?_) | refine AR.sPi (h := ?_)) | (apply AR.kBox; refine AR.sBox (h := ?_)) | (apply AR.kAlloc; refine AR.sAlloc (h := ?_)) | (apply AR.kStore; refine AR.sStore (h := ?_)) | (apply AR.kAdd; refine AR.sAdd (h := ?_)) | (apply AR.kCv; refine AR.sStrR (h := ?_)) | (apply AR.kP; first | refine AR.sP (h := ?_) | refine AR.sPi (h := ?_)))
    | (apply AR.kNil; refine AR.sNil (h := ?_)))
    all_goals first
      | (exfalso; omega)
      | exact ih (q + 1) _ (by omega) (by omega) (by (constructor <;> (repeat' (first | exact LeT.nil | exact LeB.nil | apply LeT.cons | apply LeB.cons | exact Ol.refl | apply Lx.s | apply Lx.b | apply Lx.i | exact Lx.refl)) <;> (first | rfl | assumption | omega | (simp only [List.length_map, BS_len]; done) | skip)))
  · obtain rfl : q = kids.length := by omega
    have hb3 := fl_le (l := kids) (f := wEd) (c := 520) wEd_le kids.length
    rw [List.take_length] at hb3 ⊢
    obtain ⟨H, hH⟩ : ∃ H, H = be 2 1 ++ be kids.length 1 ++ (kids.map wEd).flatten := ⟨_, rfl⟩
    have lH : H.length ≤ 5000 := by rw [hH]; simp only [List.length_append, be_len]; omega
    rw [← hH]
    repeat' (first
    | apply AO.nil
    | (apply AO.kBuildS; first | refine AO.sBuildT (h := ?_) | refine AO.sBuildS (h := ?_))
    | (apply AO.kIx; first | refine AO.sIxN (h := ?_) | refine AO.sIx (h := ?_) | refine AO.sP (h := ?_) | refine AO.sPi (h := ?_))
    | (apply AO.kBox; refine AO.sBox (h := ?_))
    | (apply AO.kAlloc; refine AO.sAlloc (h := ?_))
    | (apply AO.kStore; first | refine AO.sStore (h := ?_) | refine AO.sStB (h := ?_))
    | (apply AO.kAdd; refine AO.sAdd (h := ?_))
    | (apply AO.kCv; first | refine AO.sBytes (h := ?_) | refine AO.sStr (h := ?_) | refine AO.sStrR (h := ?_))
    | (apply AO.kP; first | refine AO.sP (h := ?_) | refine AO.sPi (h := ?_) | refine AO.sLoadB (h := ?_))
    | (apply AO.kP; refine AO.eqNil (h1 := fun h => ?_) (h2 := ?_))
    | apply AW.seq
    | (apply AW.kR; refine AW.sR (h := ?_))
    | apply AW.skip
    | apply AW.block
    | apply AW.out
    | (apply AW.kE; refine AW.sE (h := ?_))
    | apply AW.label
    | (apply AW.kRd; refine AW.sRd (h := ?_))
    | ((first | (apply AW.kC; refine AW.sC (h1 := fun h => ?_) (h2 := fun h => ?_))) <;> (try (first | exact Bool.noConfusion h | exact absurd h (by decide) | (simp at h; done) | (rw [h]; try simp only [nrm] at h; try rw [h]; try (exfalso; omega)) | skip)))
    | (apply AR.kAny; first | (apply AR.kBuildS; first | refine AR.sBuildT (h := ?_) | refine AR.sBuildS (h := ?_)) | (apply AR.kIx; first | refine AR.sIxN (h := ?_) | refine AR.sIx (h := ?_) | refine AR.sP (h := ?_) | refine AR.sPi (h := ?_)) | (apply AR.kBox; refine AR.sBox (h := ?_)) | (apply AR.kAlloc; refine AR.sAlloc (h := ?_)) | (apply AR.kStore; refine AR.sStore (h := ?_)) | (apply AR.kAdd; refine AR.sAdd (h := ?_)) | (apply AR.kCv; refine AR.sStrR (h := ?_)) | (apply AR.kP; first | refine AR.sP (h := ?_) | refine AR.sPi (h := ?_)))
    | (apply AR.kNil; refine AR.sNil (h := ?_)))
    all_goals try (exfalso; omega)
    refine AW.loopI (fun p : Nat => p ≤ pivots.length) (fun p => ⟨[(1, .ptr 1 0), (8, .sh 1 (BS (H ++ ((pivots.take p).map tx).flatten))), (60, .sh 1 (pivots.map sav)), (61, .i .i64 pivots.length), (62, .i .i64 p)], [(1, .bx (Nd.av ⟨false, pairs, pivots, kids, buf⟩))]⟩) (fun p => pivots.length - p) 0 (by simp) (by (constructor <;> (repeat' (first | exact LeT.nil | exact LeB.nil | apply LeT.cons | apply LeB.cons | exact Ol.refl | apply Lx.s | apply Lx.b | apply Lx.i | exact Lx.refl)) <;> (first | rfl | assumption | omega | (simp only [List.length_map, BS_len]; done) | skip)); all_goals exact Lx.eq (by simp; rfl)) fun m p hp ih2 => ?_
    by_cases hp2 : p < pivots.length
    · have hb := fl_le (l := pivots) (f := tx) (c := 256) tx_le p
      have g1 := gPT (H ++ ((pivots.take p).map tx).flatten) (pivots.getD p default) (by simp only [List.length_append]; omega) (pv p hp2)
      have e1 : H ++ ((pivots.take p).map tx).flatten ++ tx (pivots.getD p default) = H ++ ((pivots.take (p + 1)).map tx).flatten := by
        rw [fl_more hp2, List.append_assoc]
      rw [e1] at g1
      repeat' (first
    | apply AO.nil
    | (apply AO.kCall 70; refine AO.sCall (hg := g1) (h := ?_))
    | (apply AO.kBuildS; first | refine AO.sBuildT (h := ?_) | refine AO.sBuildS (h := ?_))
    | (apply AO.kIx; first | refine AO.sIxN (h := ?_) | refine AO.sIx (h := ?_) | refine AO.sP (h := ?_) | refine AO.sPi (h := ?_))
    | (apply AO.kBox; refine AO.sBox (h := ?_))
    | (apply AO.kAlloc; refine AO.sAlloc (h := ?_))
    | (apply AO.kStore; first | refine AO.sStore (h := ?_) | refine AO.sStB (h := ?_))
    | (apply AO.kAdd; refine AO.sAdd (h := ?_))
    | (apply AO.kCv; first | refine AO.sBytes (h := ?_) | refine AO.sStr (h := ?_) | refine AO.sStrR (h := ?_))
    | (apply AO.kP; first | refine AO.sP (h := ?_) | refine AO.sPi (h := ?_) | refine AO.sLoadB (h := ?_))
    | (apply AO.kP; refine AO.eqNil (h1 := fun h => ?_) (h2 := ?_))
    | apply AW.seq
    | (apply AW.kR; refine AW.sR (h := ?_))
    | apply AW.skip
    | apply AW.block
    | apply AW.out
    | (apply AW.kE; refine AW.sE (h := ?_))
    | apply AW.label
    | (apply AW.kRd; refine AW.sRd (h := ?_))
    | ((first | (apply AW.kC; refine AW.sC (h1 := fun h => ?_) (h2 := fun h => ?_))) <;> (try (first | exact Bool.noConfusion h | exact absurd h (by decide) | (simp at h; done) | (rw [h]; try simp only [nrm] at h; try rw [h]; try (exfalso; omega)) | skip)))
    | (apply AR.kAny; first | (apply AR.kCall 70; refine AR.sCall (hg := g1) (h := ?_)) | (apply AR.kBuildS; first | refine AR.sBuildT (h := ?_) | refine AR.sBuildS (h := ?_)) | (apply AR.kIx; first | refine AR.sIxN (h := ?_) | refine AR.sIx (h := ?_) | refine AR.sP (h := ?_) | refine AR.sPi (h := ?_)) | (apply AR.kBox; refine AR.sBox (h := ?_)) | (apply AR.kAlloc; refine AR.sAlloc (h := ?_)) | (apply AR.kStore; refine AR.sStore (h := ?_)) | (apply AR.kAdd; refine AR.sAdd (h := ?_)) | (apply AR.kCv; refine AR.sStrR (h := ?_)) | (apply AR.kP; first | refine AR.sP (h := ?_) | refine AR.sPi (h := ?_)))
    | (apply AR.kNil; refine AR.sNil (h := ?_)))
      all_goals first
        | (exfalso; omega)
        | exact ih2 (p + 1) _ (by omega) (by omega) (by (constructor <;> (repeat' (first | exact LeT.nil | exact LeB.nil | apply LeT.cons | apply LeB.cons | exact Ol.refl | apply Lx.s | apply Lx.b | apply Lx.i | exact Lx.refl)) <;> (first | rfl | assumption | omega | (simp only [List.length_map, BS_len]; done) | skip)))
    · obtain rfl : p = pivots.length := by omega
      have hb2 := fl_le (l := pivots) (f := tx) (c := 256) tx_le pivots.length
      rw [List.take_length] at hb2 ⊢
      obtain ⟨K, hK⟩ : ∃ K, K = H ++ (pivots.map tx).flatten ++ be buf.length 1 := ⟨_, rfl⟩
      have lK : K.length ≤ 10000 := by rw [hK]; simp only [List.length_append, be_len]; omega
      have w8 : IntKind.wrap .u8 (buf.length : Int) = buf.length := wrapN (.inl ⟨rfl, by omega⟩)
      have g1 : Good Try.prog 72 [.sh 1 (BS (H ++ (pivots.map tx).flatten)), .i .u8 (IntKind.wrap .u8 ((buf.map Ms.av).length : Int))] [] (.sh 1 (BS K)) [] := by
        rw [m4, w8, hK]
        exact (gPut8 _ buf.length 0 (by simp only [List.length_append]; omega) (by omega)).sh Le.gr
      repeat' (first
    | apply AO.nil
    | (apply AO.kCall 72; refine AO.sCall (hg := g1) (h := ?_))
    | (apply AO.kBuildS; first | refine AO.sBuildT (h := ?_) | refine AO.sBuildS (h := ?_))
    | (apply AO.kIx; first | refine AO.sIxN (h := ?_) | refine AO.sIx (h := ?_) | refine AO.sP (h := ?_) | refine AO.sPi (h := ?_))
    | (apply AO.kBox; refine AO.sBox (h := ?_))
    | (apply AO.kAlloc; refine AO.sAlloc (h := ?_))
    | (apply AO.kStore; first | refine AO.sStore (h := ?_) | refine AO.sStB (h := ?_))
    | (apply AO.kAdd; refine AO.sAdd (h := ?_))
    | (apply AO.kCv; first | refine AO.sBytes (h := ?_) | refine AO.sStr (h := ?_) | refine AO.sStrR (h := ?_))
    | (apply AO.kP; first | refine AO.sP (h := ?_) | refine AO.sPi (h := ?_) | refine AO.sLoadB (h := ?_))
    | (apply AO.kP; refine AO.eqNil (h1 := fun h => ?_) (h2 := ?_))
    | apply AW.seq
    | (apply AW.kR; refine AW.sR (h := ?_))
    | apply AW.skip
    | apply AW.block
    | apply AW.out
    | (apply AW.kE; refine AW.sE (h := ?_))
    | apply AW.label
    | (apply AW.kRd; refine AW.sRd (h := ?_))
    | ((first | (apply AW.kC; refine AW.sC (h1 := fun h => ?_) (h2 := fun h => ?_))) <;> (try (first | exact Bool.noConfusion h | exact absurd h (by decide) | (simp at h; done) | (rw [h]; try simp only [nrm] at h; try rw [h]; try (exfalso; omega)) | skip)))
    | (apply AR.kAny; first | (apply AR.kCall 72; refine AR.sCall (hg := g1) (h := ?_)) | (apply AR.kBuildS; first | refine AR.sBuildT (h := ?_) | refine AR.sBuildS (h := ?_)) | (apply AR.kIx; first | refine AR.sIxN (h := ?_) | refine AR.sIx (h := ?_) | refine AR.sP (h := ?_) | refine AR.sPi (h := ?_)) | (apply AR.kBox; refine AR.sBox (h := ?_)) | (apply AR.kAlloc; refine AR.sAlloc (h := ?_)) | (apply AR.kStore; refine AR.sStore (h := ?_)) | (apply AR.kAdd; refine AR.sAdd (h := ?_)) | (apply AR.kCv; refine AR.sStrR (h := ?_)) | (apply AR.kP; first | refine AR.sP (h := ?_) | refine AR.sPi (h := ?_)))
    | (apply AR.kNil; refine AR.sNil (h := ?_)))
      all_goals try (exfalso; omega)
      refine AW.loopI (fun r : Nat => r ≤ buf.length) (fun r => ⟨[(1, .ptr 1 0), (8, .sh 1 (BS (K ++ ((buf.take r).map wMs).flatten))), (77, .sh 6 (buf.map Ms.av)), (78, .i .i64 buf.length), (79, .i .i64 r)], [(1, .bx (Nd.av ⟨false, pairs, pivots, kids, buf⟩))]⟩) (fun r => buf.length - r) 0 (by simp) (by (constructor <;> (repeat' (first | exact LeT.nil | exact LeB.nil | apply LeT.cons | apply LeB.cons | exact Ol.refl | apply Lx.s | apply Lx.b | apply Lx.i | exact Lx.refl)) <;> (first | rfl | assumption | omega | (simp only [List.length_map, BS_len]; done) | skip)); all_goals exact Lx.eq (by simp; rfl)) fun m r hr ih3 => ?_
      by_cases hr2 : r < buf.length
      · have hb := fl_le (l := buf) (f := wMs) (c := 520) wMs_le r
        have sm := sm_at hx.buf (q := r) hr2
        have g2 := gPutMsg (K ++ ((buf.take r).map wMs).flatten) (buf.getD r default) (by simp only [List.length_append]; omega) sm.1 (hv r hr2) sm.2
        have e1 : K ++ ((buf.take r).map wMs).flatten ++ wMs (buf.getD r default) = K ++ ((buf.take (r + 1)).map wMs).flatten := by
          rw [fl_more hr2, List.append_assoc]
        rw [e1] at g2
        repeat' (first
    | apply AO.nil
    | (apply AO.kCall 73; refine AO.sCall (hg := g2) (h := ?_))
    | (apply AO.kBuildS; first | refine AO.sBuildT (h := ?_) | refine AO.sBuildS (h := ?_))
    | (apply AO.kIx; first | refine AO.sIxN (h := ?_) | refine AO.sIx (h := ?_) | refine AO.sP (h := ?_) | refine AO.sPi (h := ?_))
    | (apply AO.kBox; refine AO.sBox (h := ?_))
    | (apply AO.kAlloc; refine AO.sAlloc (h := ?_))
    | (apply AO.kStore; first | refine AO.sStore (h := ?_) | refine AO.sStB (h := ?_))
    | (apply AO.kAdd; refine AO.sAdd (h := ?_))
    | (apply AO.kCv; first | refine AO.sBytes (h := ?_) | refine AO.sStr (h := ?_) | refine AO.sStrR (h := ?_))
    | (apply AO.kP; first | refine AO.sP (h := ?_) | refine AO.sPi (h := ?_) | refine AO.sLoadB (h := ?_))
    | (apply AO.kP; refine AO.eqNil (h1 := fun h => ?_) (h2 := ?_))
    | apply AW.seq
    | (apply AW.kR; refine AW.sR (h := ?_))
    | apply AW.skip
    | apply AW.block
    | apply AW.out
    | (apply AW.kE; refine AW.sE (h := ?_))
    | apply AW.label
    | (apply AW.kRd; refine AW.sRd (h := ?_))
    | ((first | (apply AW.kC; refine AW.sC (h1 := fun h => ?_) (h2 := fun h => ?_))) <;> (try (first | exact Bool.noConfusion h | exact absurd h (by decide) | (simp at h; done) | (rw [h]; try simp only [nrm] at h; try rw [h]; try (exfalso; omega)) | skip)))
    | (apply AR.kAny; first | (apply AR.kCall 73; refine AR.sCall (hg := g2) (h := ?_)) | (apply AR.kBuildS; first | refine AR.sBuildT (h := ?_) | refine AR.sBuildS (h := ?_)) | (apply AR.kIx; first | refine AR.sIxN (h := ?_) | refine AR.sIx (h := ?_) | refine AR.sP (h := ?_) | refine AR.sPi (h := ?_)) | (apply AR.kBox; refine AR.sBox (h := ?_)) | (apply AR.kAlloc; refine AR.sAlloc (h := ?_)) | (apply AR.kStore; refine AR.sStore (h := ?_)) | (apply AR.kAdd; refine AR.sAdd (h := ?_)) | (apply AR.kCv; refine AR.sStrR (h := ?_)) | (apply AR.kP; first | refine AR.sP (h := ?_) | refine AR.sPi (h := ?_)))
    | (apply AR.kNil; refine AR.sNil (h := ?_)))
        all_goals first
          | (exfalso; omega)
          | exact ih3 (r + 1) _ (by omega) (by omega) (by (constructor <;> (repeat' (first | exact LeT.nil | exact LeB.nil | apply LeT.cons | apply LeB.cons | exact Ol.refl | apply Lx.s | apply Lx.b | apply Lx.i | exact Lx.refl)) <;> (first | rfl | assumption | omega | (simp only [List.length_map, BS_len]; done) | skip)))
      · obtain rfl : r = buf.length := by omega
        rw [List.take_length]
        repeat' (first
    | apply AO.nil
    | (apply AO.kBuildS; first | refine AO.sBuildT (h := ?_) | refine AO.sBuildS (h := ?_))
    | (apply AO.kIx; first | refine AO.sIxN (h := ?_) | refine AO.sIx (h := ?_) | refine AO.sP (h := ?_) | refine AO.sPi (h := ?_))
    | (apply AO.kBox; refine AO.sBox (h := ?_))
    | (apply AO.kAlloc; refine AO.sAlloc (h := ?_))
    | (apply AO.kStore; first | refine AO.sStore (h := ?_) | refine AO.sStB (h := ?_))
    | (apply AO.kAdd; refine AO.sAdd (h := ?_))
    | (apply AO.kCv; first | refine AO.sBytes (h := ?_) | refine AO.sStr (h := ?_) | refine AO.sStrR (h := ?_))
    | (apply AO.kP; first | refine AO.sP (h := ?_) | refine AO.sPi (h := ?_) | refine AO.sLoadB (h := ?_))
    | (apply AO.kP; refine AO.eqNil (h1 := fun h => ?_) (h2 := ?_))
    | apply AW.seq
    | (apply AW.kR; refine AW.sR (h := ?_))
    | apply AW.skip
    | apply AW.block
    | apply AW.out
    | (apply AW.kE; refine AW.sE (h := ?_))
    | apply AW.label
    | (apply AW.kRd; refine AW.sRd (h := ?_))
    | ((first | (apply AW.kC; refine AW.sC (h1 := fun h => ?_) (h2 := fun h => ?_))) <;> (try (first | exact Bool.noConfusion h | exact absurd h (by decide) | (simp at h; done) | (rw [h]; try simp only [nrm] at h; try rw [h]; try (exfalso; omega)) | skip)))
    | (apply AR.kAny; first | (apply AR.kBuildS; first | refine AR.sBuildT (h := ?_) | refine AR.sBuildS (h := ?_)) | (apply AR.kIx; first | refine AR.sIxN (h := ?_) | refine AR.sIx (h := ?_) | refine AR.sP (h := ?_) | refine AR.sPi (h := ?_)) | (apply AR.kBox; refine AR.sBox (h := ?_)) | (apply AR.kAlloc; refine AR.sAlloc (h := ?_)) | (apply AR.kStore; refine AR.sStore (h := ?_)) | (apply AR.kAdd; refine AR.sAdd (h := ?_)) | (apply AR.kCv; refine AR.sStrR (h := ?_)) | (apply AR.kP; first | refine AR.sP (h := ?_) | refine AR.sPi (h := ?_)))
    | (apply AR.kNil; refine AR.sNil (h := ?_)))
        all_goals first
          | (exfalso; omega)
          | exact AW.ret (hD rfl (.tup (.cons (Lx.eq (by rw [wN, if_neg Bool.false_ne_true, hK, hH]; rfl)) (.cons .refl .nil))))
end Go.Proofs.Ytmfonbehcfjjgaa.Mv

/- The codec: Put, whole; the document's Put. Under no condition. -/
namespace Go.Proofs.Ytmfonbehcfjjgaa.Mv
open Go Go.Proofs
set_option linter.unusedSimpArgs false
set_option linter.unusedVariables false
set_option maxRecDepth 10000
set_option maxHeartbeats 4000000
attribute [local irreducible] AW AO AR

/-- A writing, where a node may be. -/
def wM (n : Nd) : L := if mayN n = 0 then wN n else []
theorem may_val {n : Nd} (h0 : mayN n = 0) (hl : n.leaf = false) : ∀ i, i < n.buf.length → (n.buf.getD i default).val.length ≤ 1000000 := fun i hi => by
  have ho := (may_inner h0 hl).1
  simp only [innerOk, Bool.and_eq_true] at ho
  have hm : n.buf.getD i default ∈ n.buf := by
    rw [List.getD_eq_getElem?_getD, List.getElem?_eq_getElem hi]; exact List.getElem_mem _
  have := List.all_eq_true.1 ho.2 _ hm
  unfold msMay at this
  simp only [Bool.and_eq_true] at this
  have := this.2
  split at this
  · simp only [Bool.and_eq_true, decide_eq_true_eq] at this; omega
  · split at this
    · simp only [Bool.and_eq_true, beq_iff_eq] at this; rw [this.1.1.1]; simp
    · split at this
      · simp only [Bool.and_eq_true, beq_iff_eq] at this; rw [this.2]; simp
      · cases this
theorem gCPut (n : Nd) (hs : n.small) (hx : n.strs) : Good Try.prog 34 [.agg n.av] [] (.tup [.sh 1 (BS (wM n)), .i .i64 (mayN n)]) [] := by
  by_cases h0 : mayN n = 0
  · rw [wM, if_pos h0, h0]
    cases hl : n.leaf with
    | true =>
      have hp : n.pairs.length ≤ 16 := by
        have := h0
        unfold mayN at this
        split at this
        · cases this
        · omega
      obtain ⟨leaf, pairs, pivots, kids, buf⟩ := n
      dsimp only at hl hp
      subst hl
      exact gPutLeaf _ _ _ _ hs hx h0 hp
    | false =>
      have hv := may_val h0 hl
      obtain ⟨leaf, pairs, pivots, kids, buf⟩ := n
      dsimp only at hl hv
      subst hl
      exact gPutInner _ _ _ _ hs hx h0 hv
  · rw [wM, if_neg h0]
    have gM := gMay n hs
    refine Good.w tabOk mixed Try.func34 (N := 88) (by kernel_rfl) rfl (by (repeat (first | exact LE.nil | apply LE.cons)); done) (by (repeat (first | exact LE.nil | apply LE.cons)); done) fun D hD F => ?_
    repeat' (first
    | apply AO.nil
    | (apply AO.kCall 39; refine AO.sCall (hg := gM) (h := ?_))
    | (apply AO.kBuildS; first | refine AO.sBuildT (h := ?_) | refine AO.sBuildS (h := ?_))
    | (apply AO.kIx; first | refine AO.sIxN (h := ?_) | refine AO.sIx (h := ?_) | refine AO.sP (h := ?_) | refine AO.sPi (h := ?_))
    | (apply AO.kBox; refine AO.sBox (h := ?_))
    | (apply AO.kAlloc; refine AO.sAlloc (h := ?_))
    | (apply AO.kStore; first | refine AO.sStore (h := ?_) | refine AO.sStB (h := ?_))
    | (apply AO.kAdd; refine AO.sAdd (h := ?_))
    | (apply AO.kCv; first | refine AO.sBytes (h := ?_) | refine AO.sStr (h := ?_) | refine AO.sStrR (h := ?_))
    | (apply AO.kP; first | refine AO.sP (h := ?_) | refine AO.sPi (h := ?_) | refine AO.sLoadB (h := ?_))
    | (apply AO.kP; refine AO.eqNil (h1 := fun h => ?_) (h2 := ?_))
    | apply AW.seq
    | (apply AW.kR; refine AW.sR (h := ?_))
    | apply AW.skip
    | apply AW.block
    | apply AW.out
    | (apply AW.kE; refine AW.sE (h := ?_))
    | apply AW.label
    | (apply AW.kRd; refine AW.sRd (h := ?_))
    | ((first | (apply AW.kC; refine AW.sC (h1 := fun h => ?_) (h2 := fun h => ?_))) <;> (try (first | exact Bool.noConfusion h | exact absurd h (by decide) | (simp at h; done) | (rw [h]; try simp only [nrm] at h; try rw [h]; try (exfalso; omega)) | skip)))
    | (apply AR.kAny; first | (apply AR.kCall 39; refine AR.sCall (hg := gM) (h := ?_)) | (apply AR.kBuildS; first | refine AR.sBuildT (h := ?_) | refine AR.sBuildS (h := ?_)) | (apply AR.kIx; first | refine AR.sIxN (h := ?_) | refine AR.sIx (h := ?_) | refine AR.sP (h := ?_) | refine AR.sPi (h := ?_)) | (apply AR.kBox; refine AR.sBox (h := ?_)) | (apply AR.kAlloc; refine AR.sAlloc (h := ?_)) | (apply AR.kStore; refine AR.sStore (h := ?_)) | (apply AR.kAdd; refine AR.sAdd (h := ?_)) | (apply AR.kCv; refine AR.sStrR (h := ?_)) | (apply AR.kP; first | refine AR.sP (h := ?_) | refine AR.sPi (h := ?_)))
    | (apply AR.kNil; refine AR.sNil (h := ?_)))
    all_goals first
      | exact AW.ret (hD rfl (.tup (.cons Lx.nil (.cons .refl .nil))))
      | exact absurd (eq0 (by assumption)) h0
end Go.Proofs.Ytmfonbehcfjjgaa.Mv

/- Another name for a tag. Under no condition. -/
namespace Go.Proofs.Ytmfonbehcfjjgaa.Mv
open Go Go.Proofs
set_option linter.unusedSimpArgs false
set_option linter.unusedVariables false
/-- Two tags change places. -/
def sw (s d t : Nat) : Nat := if t = s then d else if t = d then s else t
theorem sw_sw (s d t : Nat) : sw s d (sw s d t) = t := by
  unfold sw; repeat' split
  all_goals omega
theorem sw_inj {s d a b : Nat} (h : sw s d a = sw s d b) : a = b := by rw [← sw_sw s d a, h, sw_sw]
theorem sw_big {s d t : Nat} (hs : s < 1000000) (hd : d < 1000000) (ht : 1000000 ≤ t) : sw s d t = t := by
  unfold sw; rw [if_neg (by omega), if_neg (by omega)]
def St.ren (ρ : Nat → Nat) (st : St) : St := ⟨st.T.map fun p => (p.1, p.2.ren ρ), st.B.map fun p => (ρ p.1, p.2.ren ρ)⟩
theorem look_renT (ρ : Nat → Nat) (t : Nat) : ∀ l : List (Nat × AV), look (l.map fun p => (p.1, p.2.ren ρ)) t = (look l t).map (AV.ren ρ)
  | [] => rfl
  | (j, c) :: l => by
    simp only [List.map_cons, look]
    split
    · rfl
    · exact look_renT ρ t l
theorem look_renB {s d : Nat} (t : Nat) : ∀ l : List (Nat × Ob), look (l.map fun p => (sw s d p.1, p.2.ren (sw s d))) (sw s d t) = (look l t).map (Ob.ren (sw s d))
  | [] => rfl
  | (j, c) :: l => by
    simp only [List.map_cons, look]
    by_cases e : j = t
    · rw [if_pos e, if_pos (by rw [e])]; rfl
    · rw [if_neg e, if_neg (fun h => e (sw_inj h))]
      exact look_renB t l
theorem St.ren_get (ρ : Nat → Nat) (st : St) (t : Nat) : (st.ren ρ).get t = (st.get t).ren ρ := by
  simp only [St.get, St.ren, look_renT]
  cases look st.T t <;> rfl
theorem St.ren_ob {s d : Nat} (st : St) (t : Nat) : (st.ren (sw s d)).ob (sw s d t) = (st.ob t).ren (sw s d) := by
  simp only [St.ob, St.ren, look_renB]
  cases look st.B t <;> rfl
theorem RRW.swap {c Γ m st a w} {s d : Nat} (hs : s < 1000000) (hd : d < 1000000) (h : RRW c Γ m (St.ren (sw s d) st) a w) : RRW c Γ (m.pull (sw s d)) st a w :=
  have blk : ∀ t g, (st.ob t).blk (m.pull (sw s d)) t = some g → ((St.ren (sw s d) st).ob (sw s d t)).blk m (sw s d t) = some g := fun t g hg => by
    rw [St.ren_ob, blk_ren]; exact hg
  ⟨h.defers, h.size, h.gok, fun t ht => ren_rep (h.tmps t ht) (St.ren_get _ _ _),
    fun t => by have := h.obs (sw s d t); rw [St.ren_ob] at this; exact ob_ren.1 this,
    fun t g hg => h.own _ g (blk t g hg),
    fun t t' g hg hg' => sw_inj (h.inj _ _ g (blk t g hg) (blk t' g hg')), h.frame, h.sub, h.fresh, fun p hp => by
      have := h.ext p hp
      have e := sw_big hs hd (c.big p hp)
      exact ⟨fun g hg => by show m.th (sw s d p) = _; rw [e]; exact this.1 g hg, fun k x hk => by show m.ka (sw s d p) k = _; rw [e]; exact this.2 k x hk⟩⟩
section
variable {P : Program} {tab : Tab} {N : Nat} {D : St → Prop} {F : Fx P tab N D} {k : List It} {st : St}
/-- A tag by another name, in a weaker state. -/
theorem AW.swap {st' : St} (s d : Nat) (hs : s < 1000000) (hd : d < 1000000) (hl : StLe Tr st (St.ren (sw s d) st')) (h : AW F k st') : AW F k st := fun a w ⟨Γ, m, hw⟩ =>
  h a w ⟨Γ, m.pull (sw s d), (hw.less trivial hl).swap hs hd⟩
end
end Go.Proofs.Ytmfonbehcfjjgaa.Mv

/- The document's Put: a leaf, an error. Under no condition. -/
namespace Go.Proofs.Ytmfonbehcfjjgaa.Mv
open Go Go.Proofs
set_option linter.unusedSimpArgs false
set_option linter.unusedVariables false
set_option maxRecDepth 10000
set_option maxHeartbeats 4000000
attribute [local irreducible] AW AO AR

theorem gRPT (l x : L) (t : Nat) (hl : l.length ≤ 900000) (hx : x.length ≤ 1000000) : Good Try.prog 74 [.sh 1 (BS l), .s x] [] (.gr t 5 1 (BS (l ++ tx x))) [(t, .gw (BS (l ++ tx x)).length)] := by
  have := gRPutText l x t hl hx
  rwa [List.append_assoc] at this
theorem gRPutLeaf (pairs : List Pr) (pivots : List L) (kids : List Ed) (buf : List Ms) (hs : (⟨true, pairs, pivots, kids, buf⟩ : Nd).small) (hx : (⟨true, pairs, pivots, kids, buf⟩ : Nd).strs) (h0 : mayN ⟨true, pairs, pivots, kids, buf⟩ = 0) (hp : pairs.length ≤ 16) :
    Good Try.prog 35 [.agg (Nd.av ⟨true, pairs, pivots, kids, buf⟩)] [] (.tup [.sh 1 (BS (wN ⟨true, pairs, pivots, kids, buf⟩)), .i .i64 0]) [] := by
  have gM := gMay' ⟨true, pairs, pivots, kids, buf⟩ hs
  rw [h0] at gM
  have lp : (pairs.map Pr.av).length = pairs.length := by simp
  have hall : ∀ q, q < pairs.length → (pairs.getD q default).k.length ≤ 1000000 ∧ (pairs.getD q default).v.length ≤ 1000000 := fun q hq => by
    have ho := may_leaf h0 rfl
    simp only [leafOk, Bool.and_eq_true] at ho
    have hm : pairs.getD q default ∈ pairs := by
      rw [List.getD_eq_getElem?_getD, List.getElem?_eq_getElem hq]; exact List.getElem_mem _
    have := List.all_eq_true.1 ho.2 _ hm
    simp only [prLen, Bool.and_eq_true, decide_eq_true_eq] at this
    omega
  refine Good.w tabOk mixed Try.func35 (N := 168) (by kernel_rfl) rfl (by (repeat (first | exact LE.nil | apply LE.cons)); done) (by (repeat (first | exact LE.nil | apply LE.cons)); done) fun D hD F => ?_
  repeat' (first
    | apply AO.nil
    | (apply AO.kCall 21; refine AO.sCall (hg := gM) (h := ?_))
    | (apply AO.kBuildS; first | refine AO.sBuildT (h := ?_) | refine AO.sBuildS (h := ?_))
    | (apply AO.kApp; first | refine AO.sGrowT (h := ?_) | refine AO.sNewT (h := ?_) | refine AO.sGrowBT (h := ?_) | refine AO.sGrow (h := ?_) | refine AO.sNewr (h := ?_))
    | (apply AO.kIx; first | refine AO.sIxN (h := ?_) | refine AO.sIx (h := ?_) | refine AO.sP (h := ?_) | refine AO.sPi (h := ?_))
    | (apply AO.kBox; refine AO.sBox (h := ?_))
    | (apply AO.kAlloc; refine AO.sAlloc (h := ?_))
    | (apply AO.kStore; first | refine AO.sStore (h := ?_) | refine AO.sStB (h := ?_))
    | (apply AO.kAdd; refine AO.sAdd (h := ?_))
    | (apply AO.kCv; first | refine AO.sBytes (h := ?_) | refine AO.sStr (h := ?_) | refine AO.sStrR (h := ?_))
    | (apply AO.kP; first | refine AO.sP (h := ?_) | refine AO.sPi (h := ?_) | refine AO.sLoadB (h := ?_) | refine AO.sSameB (h := ?_))
    | (apply AO.kP; refine AO.eqNil (h1 := fun h => ?_) (h2 := ?_))
    | apply AW.seq
    | (apply AW.kR; refine AW.sR (h := ?_))
    | apply AW.skip
    | apply AW.block
    | apply AW.out
    | (apply AW.kE; refine AW.sE (h := ?_))
    | apply AW.label
    | ((first | (apply AW.kC; refine AW.sC (h1 := fun h => ?_) (h2 := fun h => ?_))) <;> (try (first | exact Bool.noConfusion h | exact absurd h (by decide) | (simp at h; done) | (rw [h]; try simp only [nrm] at h; try rw [h]; try (exfalso; omega)) | skip))))
  have e0 : [u8 1, u8 ((pairs.map Pr.av).length : Int)] = be 1 1 ++ be pairs.length 1 := by
    rw [lp]
    simp only [be, u8_nat, Nat.pow_zero, Nat.div_one, List.cons_append, List.nil_append]
    rfl
  refine AW.loopI (fun q : Nat => q ≤ pairs.length) (fun q => ⟨[(1, .ptr 1 0), (5, .sh 1 (BS (be 1 1 ++ be pairs.length 1 ++ ((pairs.take q).map wPr).flatten))), (29, .i .i64 pairs.length), (30, .i .i64 q)], [(1, .bx (Nd.av ⟨true, pairs, pivots, kids, buf⟩))]⟩) (fun q => pairs.length - q) 0 (by simp) (by (constructor <;> (repeat' (first | exact LeT.nil | exact LeB.nil | apply LeT.cons | apply LeB.cons | exact Ol.refl | apply Lx.s | apply Lx.b | apply Lx.i | exact Lx.refl)) <;> (first | rfl | assumption | omega | (simp only [List.length_map, BS_len]; done) | skip)); exact grB ((by simp : [] ++ [u8 1, u8 ((pairs.map Pr.av).length : Int)] = _).trans (e0.trans (by simp)))) fun m q hq ih => ?_
  by_cases hq2 : q < pairs.length
  · have hb := fl_le (l := pairs) (f := wPr) (c := 512) (fun p => by have a := tx_le p.k; have b := tx_le p.v; unfold wPr; rw [List.length_append]; omega) q
    have sk := hall q hq2
    have g1 := (gRPT (be 1 1 ++ be pairs.length 1 ++ ((pairs.take q).map wPr).flatten) (pairs.getD q default).k 0 (by simp only [List.length_append, be_len]; omega) sk.1).sh Le.gr
    have g2 := (gRPT (be 1 1 ++ be pairs.length 1 ++ ((pairs.take q).map wPr).flatten ++ tx (pairs.getD q default).k) (pairs.getD q default).v 0 (by have := tx_le (pairs.getD q default).k; simp only [List.length_append, be_len]; omega) sk.2).sh Le.gr
    have e1 : be 1 1 ++ be pairs.length 1 ++ ((pairs.take q).map wPr).flatten ++ tx (pairs.getD q default).k ++ tx (pairs.getD q default).v = be 1 1 ++ be pairs.length 1 ++ ((pairs.take (q + 1)).map wPr).flatten := by
      rw [fl_more hq2, wPr]; simp only [List.append_assoc]
    rw [e1] at g2
    repeat' (first
    | apply AO.nil
    | (apply AO.kBuildS; first | refine AO.sBuildT (h := ?_) | refine AO.sBuildS (h := ?_))
    | (apply AO.kApp; first | refine AO.sGrowT (h := ?_) | refine AO.sNewT (h := ?_) | refine AO.sGrowBT (h := ?_) | refine AO.sGrow (h := ?_) | refine AO.sNewr (h := ?_))
    | (apply AO.kIx; first | refine AO.sIxN (h := ?_) | refine AO.sIx (h := ?_) | refine AO.sP (h := ?_) | refine AO.sPi (h := ?_))
    | (apply AO.kBox; refine AO.sBox (h := ?_))
    | (apply AO.kAlloc; refine AO.sAlloc (h := ?_))
    | (apply AO.kStore; first | refine AO.sStore (h := ?_) | refine AO.sStB (h := ?_))
    | (apply AO.kAdd; refine AO.sAdd (h := ?_))
    | (apply AO.kCv; first | refine AO.sBytes (h := ?_) | refine AO.sStr (h := ?_) | refine AO.sStrR (h := ?_))
    | (apply AO.kP; first | refine AO.sP (h := ?_) | refine AO.sPi (h := ?_) | refine AO.sLoadB (h := ?_) | refine AO.sSameB (h := ?_))
    | (apply AO.kP; refine AO.eqNil (h1 := fun h => ?_) (h2 := ?_))
    | apply AW.seq
    | (apply AW.kR; refine AW.sR (h := ?_))
    | apply AW.skip
    | apply AW.block
    | apply AW.out
    | (apply AW.kE; refine AW.sE (h := ?_))
    | apply AW.label
    | ((first | (apply AW.kC; refine AW.sC (h1 := fun h => ?_) (h2 := fun h => ?_))) <;> (try (first | exact Bool.noConfusion h | exact absurd h (by decide) | (simp at h; done) | (rw [h]; try simp only [nrm] at h; try rw [h]; try (exfalso; omega)) | skip))))
    all_goals try (exfalso; omega)
    apply AO.kCall 74; refine AO.sCall (hg := g1) (h := ?_)
    repeat' (first
    | apply AO.nil
    | (apply AO.kBuildS; first | refine AO.sBuildT (h := ?_) | refine AO.sBuildS (h := ?_))
    | (apply AO.kApp; first | refine AO.sGrowT (h := ?_) | refine AO.sNewT (h := ?_) | refine AO.sGrowBT (h := ?_) | refine AO.sGrow (h := ?_) | refine AO.sNewr (h := ?_))
    | (apply AO.kIx; first | refine AO.sIxN (h := ?_) | refine AO.sIx (h := ?_) | refine AO.sP (h := ?_) | refine AO.sPi (h := ?_))
    | (apply AO.kBox; refine AO.sBox (h := ?_))
    | (apply AO.kAlloc; refine AO.sAlloc (h := ?_))
    | (apply AO.kStore; first | refine AO.sStore (h := ?_) | refine AO.sStB (h := ?_))
    | (apply AO.kAdd; refine AO.sAdd (h := ?_))
    | (apply AO.kCv; first | refine AO.sBytes (h := ?_) | refine AO.sStr (h := ?_) | refine AO.sStrR (h := ?_))
    | (apply AO.kP; first | refine AO.sP (h := ?_) | refine AO.sPi (h := ?_) | refine AO.sLoadB (h := ?_) | refine AO.sSameB (h := ?_))
    | (apply AO.kP; refine AO.eqNil (h1 := fun h => ?_) (h2 := ?_))
    | apply AW.seq
    | (apply AW.kR; refine AW.sR (h := ?_))
    | apply AW.skip
    | apply AW.block
    | apply AW.out
    | (apply AW.kE; refine AW.sE (h := ?_))
    | apply AW.label
    | ((first | (apply AW.kC; refine AW.sC (h1 := fun h => ?_) (h2 := fun h => ?_))) <;> (try (first | exact Bool.noConfusion h | exact absurd h (by decide) | (simp at h; done) | (rw [h]; try simp only [nrm] at h; try rw [h]; try (exfalso; omega)) | skip))))
    apply AO.kCall 74; refine AO.sCall (hg := g2) (h := ?_)
    repeat' (first
    | apply AO.nil
    | (apply AO.kBuildS; first | refine AO.sBuildT (h := ?_) | refine AO.sBuildS (h := ?_))
    | (apply AO.kApp; first | refine AO.sGrowT (h := ?_) | refine AO.sNewT (h := ?_) | refine AO.sGrowBT (h := ?_) | refine AO.sGrow (h := ?_) | refine AO.sNewr (h := ?_))
    | (apply AO.kIx; first | refine AO.sIxN (h := ?_) | refine AO.sIx (h := ?_) | refine AO.sP (h := ?_) | refine AO.sPi (h := ?_))
    | (apply AO.kBox; refine AO.sBox (h := ?_))
    | (apply AO.kAlloc; refine AO.sAlloc (h := ?_))
    | (apply AO.kStore; first | refine AO.sStore (h := ?_) | refine AO.sStB (h := ?_))
    | (apply AO.kAdd; refine AO.sAdd (h := ?_))
    | (apply AO.kCv; first | refine AO.sBytes (h := ?_) | refine AO.sStr (h := ?_) | refine AO.sStrR (h := ?_))
    | (apply AO.kP; first | refine AO.sP (h := ?_) | refine AO.sPi (h := ?_) | refine AO.sLoadB (h := ?_) | refine AO.sSameB (h := ?_))
    | (apply AO.kP; refine AO.eqNil (h1 := fun h => ?_) (h2 := ?_))
    | apply AW.seq
    | (apply AW.kR; refine AW.sR (h := ?_))
    | apply AW.skip
    | apply AW.block
    | apply AW.out
    | (apply AW.kE; refine AW.sE (h := ?_))
    | apply AW.label
    | ((first | (apply AW.kC; refine AW.sC (h1 := fun h => ?_) (h2 := fun h => ?_))) <;> (try (first | exact Bool.noConfusion h | exact absurd h (by decide) | (simp at h; done) | (rw [h]; try simp only [nrm] at h; try rw [h]; try (exfalso; omega)) | skip))))
    exact ih (q + 1) _ (by omega) (by omega) (by (constructor <;> (repeat' (first | exact LeT.nil | exact LeB.nil | apply LeT.cons | apply LeB.cons | exact Ol.refl | apply Lx.s | apply Lx.b | apply Lx.i | exact Lx.refl)) <;> (first | rfl | assumption | omega | (simp only [List.length_map, BS_len]; done) | skip)))
  · obtain rfl : q = pairs.length := by omega
    repeat' (first
    | apply AO.nil
    | (apply AO.kBuildS; first | refine AO.sBuildT (h := ?_) | refine AO.sBuildS (h := ?_))
    | (apply AO.kApp; first | refine AO.sGrowT (h := ?_) | refine AO.sNewT (h := ?_) | refine AO.sGrowBT (h := ?_) | refine AO.sGrow (h := ?_) | refine AO.sNewr (h := ?_))
    | (apply AO.kIx; first | refine AO.sIxN (h := ?_) | refine AO.sIx (h := ?_) | refine AO.sP (h := ?_) | refine AO.sPi (h := ?_))
    | (apply AO.kBox; refine AO.sBox (h := ?_))
    | (apply AO.kAlloc; refine AO.sAlloc (h := ?_))
    | (apply AO.kStore; first | refine AO.sStore (h := ?_) | refine AO.sStB (h := ?_))
    | (apply AO.kAdd; refine AO.sAdd (h := ?_))
    | (apply AO.kCv; first | refine AO.sBytes (h := ?_) | refine AO.sStr (h := ?_) | refine AO.sStrR (h := ?_))
    | (apply AO.kP; first | refine AO.sP (h := ?_) | refine AO.sPi (h := ?_) | refine AO.sLoadB (h := ?_) | refine AO.sSameB (h := ?_))
    | (apply AO.kP; refine AO.eqNil (h1 := fun h => ?_) (h2 := ?_))
    | apply AW.seq
    | (apply AW.kR; refine AW.sR (h := ?_))
    | apply AW.skip
    | apply AW.block
    | apply AW.out
    | (apply AW.kE; refine AW.sE (h := ?_))
    | apply AW.label
    | ((first | (apply AW.kC; refine AW.sC (h1 := fun h => ?_) (h2 := fun h => ?_))) <;> (try (first | exact Bool.noConfusion h | exact absurd h (by decide) | (simp at h; done) | (rw [h]; try simp only [nrm] at h; try rw [h]; try (exfalso; omega)) | skip))))
    all_goals first
      | (exfalso; omega)
      | exact AW.ret (hD rfl (.tup (.cons (Lx.eq (by rw [wN, if_pos rfl, List.take_length]; rfl)) (.cons .refl .nil))))
theorem gRPutNo (n : Nd) (hs : n.small) (h0 : mayN n ≠ 0) : Good Try.prog 35 [.agg n.av] [] (.tup [.sh 1 (BS []), .i .i64 (mayN n)]) [] := by
  have gM := gMay' n hs
  refine Good.w tabOk mixed Try.func35 (N := 168) (by kernel_rfl) rfl (by (repeat (first | exact LE.nil | apply LE.cons)); done) (by (repeat (first | exact LE.nil | apply LE.cons)); done) fun D hD F => ?_
  repeat' (first
    | apply AO.nil
    | (apply AO.kCall 21; refine AO.sCall (hg := gM) (h := ?_))
    | (apply AO.kBuildS; first | refine AO.sBuildT (h := ?_) | refine AO.sBuildS (h := ?_))
    | (apply AO.kApp; first | refine AO.sGrowT (h := ?_) | refine AO.sNewT (h := ?_) | refine AO.sGrowBT (h := ?_) | refine AO.sGrow (h := ?_) | refine AO.sNewr (h := ?_))
    | (apply AO.kIx; first | refine AO.sIxN (h := ?_) | refine AO.sIx (h := ?_) | refine AO.sP (h := ?_) | refine AO.sPi (h := ?_))
    | (apply AO.kBox; refine AO.sBox (h := ?_))
    | (apply AO.kAlloc; refine AO.sAlloc (h := ?_))
    | (apply AO.kStore; first | refine AO.sStore (h := ?_) | refine AO.sStB (h := ?_))
    | (apply AO.kAdd; refine AO.sAdd (h := ?_))
    | (apply AO.kCv; first | refine AO.sBytes (h := ?_) | refine AO.sStr (h := ?_) | refine AO.sStrR (h := ?_))
    | (apply AO.kP; first | refine AO.sP (h := ?_) | refine AO.sPi (h := ?_) | refine AO.sLoadB (h := ?_) | refine AO.sSameB (h := ?_))
    | (apply AO.kP; refine AO.eqNil (h1 := fun h => ?_) (h2 := ?_))
    | apply AW.seq
    | (apply AW.kR; refine AW.sR (h := ?_))
    | apply AW.skip
    | apply AW.block
    | apply AW.out
    | (apply AW.kE; refine AW.sE (h := ?_))
    | apply AW.label
    | ((first | (apply AW.kC; refine AW.sC (h1 := fun h => ?_) (h2 := fun h => ?_))) <;> (try (first | exact Bool.noConfusion h | exact absurd h (by decide) | (simp at h; done) | (rw [h]; try simp only [nrm] at h; try rw [h]; try (exfalso; omega)) | skip))))
  all_goals first
    | exact AW.ret (hD rfl (.tup (.cons Lx.gr (.cons .refl .nil))))
    | exact absurd (eq0 (by assumption)) h0
end Go.Proofs.Ytmfonbehcfjjgaa.Mv

/- The document's Put: an inner node. Under no condition. -/
namespace Go.Proofs.Ytmfonbehcfjjgaa.Mv
open Go Go.Proofs
set_option linter.unusedSimpArgs false
set_option linter.unusedVariables false
set_option maxRecDepth 10000
set_option maxHeartbeats 4000000
attribute [local irreducible] AW AO AR

theorem gRP4 (l : L) (b : B32) (t : Nat) (hl : l.length ≤ 900000) : Good Try.prog 75 [.sh 1 (BS l), .i .u64 (IntKind.wrap .u64 b.toNat), .i .i64 4] [] (.gr t 5 1 (BS (l ++ be b.toNat 4))) [(t, .gw (BS (l ++ be b.toNat 4)).length)] := by
  have h := b.isLt
  rw [wrap64n (by omega)]
  exact gRPut l b.toNat 4 t hl (by omega) (by omega)
theorem gRP2 (l : L) (b : W16) (t : Nat) (hl : l.length ≤ 900000) : Good Try.prog 75 [.sh 1 (BS l), .i .u64 (IntKind.wrap .u64 b.toNat), .i .i64 2] [] (.gr t 5 1 (BS (l ++ be b.toNat 2))) [(t, .gw (BS (l ++ be b.toNat 2)).length)] := by
  have h := b.isLt
  rw [wrap64n (by omega)]
  exact gRPut l b.toNat 2 t hl (by omega) (by omega)
abbrev sRP (nd : List AV) (j k n q : Nat) (b : L) : St := ⟨[(1, .ptr 1 0), (5, .gr 900 5 1 (BS b)), (j, .i .i64 n), (k, .i .i64 q)], [(1, .bx nd), (900, .gw (BS b).length)]⟩
theorem gRPutInner (pairs : List Pr) (pivots : List L) (kids : List Ed) (buf : List Ms) (hs : (⟨false, pairs, pivots, kids, buf⟩ : Nd).small) (hx : (⟨false, pairs, pivots, kids, buf⟩ : Nd).strs) (h0 : mayN ⟨false, pairs, pivots, kids, buf⟩ = 0)
    (hv : ∀ i, i < buf.length → (buf.getD i default).val.length ≤ 1000000) :
    Good Try.prog 35 [.agg (Nd.av ⟨false, pairs, pivots, kids, buf⟩)] [] (.tup [.sh 1 (BS (wN ⟨false, pairs, pivots, kids, buf⟩)), .i .i64 0]) [] := by
  have gM := gMay' ⟨false, pairs, pivots, kids, buf⟩ hs
  rw [h0] at gM
  obtain ⟨ho, l3, l4⟩ := may_inner h0 rfl
  simp only [innerOk, Bool.and_eq_true, decide_eq_true_eq] at ho
  obtain ⟨⟨⟨⟨⟨_, _⟩, o1⟩, o2⟩, o3⟩, o4⟩ := ho
  dsimp only at l3 l4 o1 o2 o3 o4
  have m2 : (pivots.map sav).length = pivots.length := by simp
  have m3 : (kids.map Ed.av).length = kids.length := by simp
  have m4 : (buf.map Ms.av).length = buf.length := by simp
  have pv : ∀ q, q < pivots.length → (pivots.getD q default).length ≤ 1000000 := fun q hq => by
    have hm : pivots.getD q default ∈ pivots := by
      rw [List.getD_eq_getElem?_getD, List.getElem?_eq_getElem hq]; exact List.getElem_mem _
    have := List.all_eq_true.1 o3.2 _ hm
    simp only [decide_eq_true_eq] at this
    omega
  have e0 : [] ++ [u8 2, u8 ((kids.map Ed.av).length : Int)] = be 2 1 ++ be kids.length 1 := by
    rw [m3]
    simp only [be, u8_nat, Nat.pow_zero, Nat.div_one, List.cons_append, List.nil_append]
    rfl
  refine Good.w tabOk mixed Try.func35 (N := 168) (by kernel_rfl) rfl (by (repeat (first | exact LE.nil | apply LE.cons)); done) (by (repeat (first | exact LE.nil | apply LE.cons)); done) fun D hD F => ?_
  repeat' (first
    | apply AO.nil
    | (apply AO.kCall 21; refine AO.sCall (hg := gM) (h := ?_))
    | (apply AO.kBuildS; first | refine AO.sBuildT (h := ?_) | refine AO.sBuildS (h := ?_))
    | (apply AO.kApp; first | refine AO.sGrowT (h := ?_) | refine AO.sNewT (h := ?_) | refine AO.sGrowBT (h := ?_) | refine AO.sGrow (h := ?_) | refine AO.sNewr (h := ?_))
    | (apply AO.kIx; first | refine AO.sIxN (h := ?_) | refine AO.sIx (h := ?_) | refine AO.sP (h := ?_) | refine AO.sPi (h := ?_))
    | (apply AO.kBox; refine AO.sBox (h := ?_))
    | (apply AO.kAlloc; refine AO.sAlloc (h := ?_))
    | (apply AO.kStore; first | refine AO.sStore (h := ?_) | refine AO.sStB (h := ?_))
    | (apply AO.kAdd; refine AO.sAdd (h := ?_))
    | (apply AO.kCv; first | refine AO.sBytes (h := ?_) | refine AO.sStr (h := ?_) | refine AO.sStrR (h := ?_))
    | (apply AO.kP; first | refine AO.sP (h := ?_) | refine AO.sPi (h := ?_) | refine AO.sLoadB (h := ?_) | refine AO.sSameB (h := ?_))
    | (apply AO.kP; refine AO.eqNil (h1 := fun h => ?_) (h2 := ?_))
    | apply AW.seq
    | (apply AW.kR; refine AW.sR (h := ?_))
    | apply AW.skip
    | apply AW.block
    | apply AW.out
    | (apply AW.kE; refine AW.sE (h := ?_))
    | apply AW.label
    | ((first | (apply AW.kC; refine AW.sC (h1 := fun h => ?_) (h2 := fun h => ?_))) <;> (try (first | exact Bool.noConfusion h | exact absurd h (by decide) | (simp at h; done) | (rw [h]; try simp only [nrm] at h; try rw [h]; try (exfalso; omega)) | skip))))
  simp only [e0]
  refine AW.swap (st' := ⟨[(1, .ptr 1 0), (5, .gr 900 5 1 (BS (be 2 1 ++ be kids.length 1))), (60, .i .i64 kids.length), (61, .i .i64 0)], [(1, .bx (Nd.av ⟨false, pairs, pivots, kids, buf⟩)), (900, .gw (BS (be 2 1 ++ be kids.length 1)).length)]⟩) 17 900 (by decide) (by decide) (by (constructor <;> (repeat' (first | exact LeT.nil | exact LeB.nil | apply LeT.cons | apply LeB.cons | exact Ol.refl | apply Lx.s | apply Lx.b | apply Lx.i | exact Lx.refl)) <;> (first | rfl | assumption | omega | (simp only [List.length_map, BS_len]; done) | skip))) ?_
  refine AW.loopI (fun q : Nat => q ≤ kids.length) (fun q => ⟨[(1, .ptr 1 0), (5, .gr 900 5 1 (BS (be 2 1 ++ be kids.length 1 ++ ((kids.take q).map wEd).flatten))), (60, .i .i64 kids.length), (61, .i .i64 q)], [(1, .bx (Nd.av ⟨false, pairs, pivots, kids, buf⟩)), (900, .gw (BS (be 2 1 ++ be kids.length 1 ++ ((kids.take q).map wEd).flatten)).length)]⟩) (fun q => kids.length - q) 0 (by simp) (by simp only [List.take_zero, List.map_nil, List.flatten_nil, List.append_nil]; (constructor <;> (repeat' (first | exact LeT.nil | exact LeB.nil | apply LeT.cons | apply LeB.cons | exact Ol.refl | apply Lx.s | apply Lx.b | apply Lx.i | exact Lx.refl)) <;> (first | rfl | assumption | omega | (simp only [List.length_map, BS_len]; done) | skip))) fun m q hq ih => ?_
  by_cases hq2 : q < kids.length
  · have hb := fl_le (l := kids) (f := wEd) (c := 520) wEd_le q
    have sk := hx.kids q (by show _ < kids.length; omega)
    obtain ⟨H, hH⟩ : ∃ H, H = be 2 1 ++ be kids.length 1 ++ ((kids.take q).map wEd).flatten := ⟨_, rfl⟩
    have lH : H.length ≤ 5000 := by rw [hH]; simp only [List.length_append, be_len]; omega
    have e1 : H ++ be (kids.getD q default).block.toNat 4 ++ be (kids.getD q default).deep.toNat 2 ++ tx (kids.getD q default).strip ++ tx (kids.getD q default).add = be 2 1 ++ be kids.length 1 ++ ((kids.take (q + 1)).map wEd).flatten := by
      rw [fl_more hq2, hH, wEd]; simp only [List.append_assoc]
    have t1 := tx_le (kids.getD q default).strip
    have k1 : H.length ≤ 900000 := by omega
    have k2 : (H ++ be (kids.getD q default).block.toNat 4).length ≤ 900000 := by simp only [List.length_append, be_len]; omega
    have k3 : (H ++ be (kids.getD q default).block.toNat 4 ++ be (kids.getD q default).deep.toNat 2).length ≤ 900000 := by simp only [List.length_append, be_len]; omega
    have k4 : (H ++ be (kids.getD q default).block.toNat 4 ++ be (kids.getD q default).deep.toNat 2 ++ tx (kids.getD q default).strip).length ≤ 900000 := by simp only [List.length_append, be_len]; omega
    rw [← hH]
    repeat' (first
    | apply AO.nil
    | (apply AO.kBuildS; first | refine AO.sBuildT (h := ?_) | refine AO.sBuildS (h := ?_))
    | (apply AO.kApp; first | refine AO.sGrowT (h := ?_) | refine AO.sNewT (h := ?_) | refine AO.sGrowBT (h := ?_) | refine AO.sGrow (h := ?_) | refine AO.sNewr (h := ?_))
    | (apply AO.kIx; first | refine AO.sIxN (h := ?_) | refine AO.sIx (h := ?_) | refine AO.sP (h := ?_) | refine AO.sPi (h := ?_))
    | (apply AO.kBox; refine AO.sBox (h := ?_))
    | (apply AO.kAlloc; refine AO.sAlloc (h := ?_))
    | (apply AO.kStore; first | refine AO.sStore (h := ?_) | refine AO.sStB (h := ?_))
    | (apply AO.kAdd; refine AO.sAdd (h := ?_))
    | (apply AO.kCv; first | refine AO.sBytes (h := ?_) | refine AO.sStr (h := ?_) | refine AO.sStrR (h := ?_))
    | (apply AO.kP; first | refine AO.sP (h := ?_) | refine AO.sPi (h := ?_) | refine AO.sLoadB (h := ?_) | refine AO.sSameB (h := ?_))
    | (apply AO.kP; refine AO.eqNil (h1 := fun h => ?_) (h2 := ?_))
    | apply AW.seq
    | (apply AW.kR; refine AW.sR (h := ?_))
    | apply AW.skip
    | apply AW.block
    | apply AW.out
    | (apply AW.kE; refine AW.sE (h := ?_))
    | apply AW.label
    | ((first | (apply AW.kC; refine AW.sC (h1 := fun h => ?_) (h2 := fun h => ?_))) <;> (try (first | exact Bool.noConfusion h | exact absurd h (by decide) | (simp at h; done) | (rw [h]; try simp only [nrm] at h; try rw [h]; try (exfalso; omega)) | skip))))
    all_goals try (exfalso; omega)
    apply AO.kCall 75; refine AO.sCall1 (hg := gRP4 H (kids.getD q default).block _ k1) (h := ?_)
    repeat' (first
    | apply AO.nil
    | (apply AO.kBuildS; first | refine AO.sBuildT (h := ?_) | refine AO.sBuildS (h := ?_))
    | (apply AO.kApp; first | refine AO.sGrowT (h := ?_) | refine AO.sNewT (h := ?_) | refine AO.sGrowBT (h := ?_) | refine AO.sGrow (h := ?_) | refine AO.sNewr (h := ?_))
    | (apply AO.kIx; first | refine AO.sIxN (h := ?_) | refine AO.sIx (h := ?_) | refine AO.sP (h := ?_) | refine AO.sPi (h := ?_))
    | (apply AO.kBox; refine AO.sBox (h := ?_))
    | (apply AO.kAlloc; refine AO.sAlloc (h := ?_))
    | (apply AO.kStore; first | refine AO.sStore (h := ?_) | refine AO.sStB (h := ?_))
    | (apply AO.kAdd; refine AO.sAdd (h := ?_))
    | (apply AO.kCv; first | refine AO.sBytes (h := ?_) | refine AO.sStr (h := ?_) | refine AO.sStrR (h := ?_))
    | (apply AO.kP; first | refine AO.sP (h := ?_) | refine AO.sPi (h := ?_) | refine AO.sLoadB (h := ?_) | refine AO.sSameB (h := ?_))
    | (apply AO.kP; refine AO.eqNil (h1 := fun h => ?_) (h2 := ?_))
    | apply AW.seq
    | (apply AW.kR; refine AW.sR (h := ?_))
    | apply AW.skip
    | apply AW.block
    | apply AW.out
    | (apply AW.kE; refine AW.sE (h := ?_))
    | apply AW.label
    | ((first | (apply AW.kC; refine AW.sC (h1 := fun h => ?_) (h2 := fun h => ?_))) <;> (try (first | exact Bool.noConfusion h | exact absurd h (by decide) | (simp at h; done) | (rw [h]; try simp only [nrm] at h; try rw [h]; try (exfalso; omega)) | skip))))
    apply AO.kCall 75; refine AO.sCall1 (hg := gRP2 (H ++ be (kids.getD q default).block.toNat 4) (kids.getD q default).deep _ k2) (h := ?_)
    repeat' (first
    | apply AO.nil
    | (apply AO.kBuildS; first | refine AO.sBuildT (h := ?_) | refine AO.sBuildS (h := ?_))
    | (apply AO.kApp; first | refine AO.sGrowT (h := ?_) | refine AO.sNewT (h := ?_) | refine AO.sGrowBT (h := ?_) | refine AO.sGrow (h := ?_) | refine AO.sNewr (h := ?_))
    | (apply AO.kIx; first | refine AO.sIxN (h := ?_) | refine AO.sIx (h := ?_) | refine AO.sP (h := ?_) | refine AO.sPi (h := ?_))
    | (apply AO.kBox; refine AO.sBox (h := ?_))
    | (apply AO.kAlloc; refine AO.sAlloc (h := ?_))
    | (apply AO.kStore; first | refine AO.sStore (h := ?_) | refine AO.sStB (h := ?_))
    | (apply AO.kAdd; refine AO.sAdd (h := ?_))
    | (apply AO.kCv; first | refine AO.sBytes (h := ?_) | refine AO.sStr (h := ?_) | refine AO.sStrR (h := ?_))
    | (apply AO.kP; first | refine AO.sP (h := ?_) | refine AO.sPi (h := ?_) | refine AO.sLoadB (h := ?_) | refine AO.sSameB (h := ?_))
    | (apply AO.kP; refine AO.eqNil (h1 := fun h => ?_) (h2 := ?_))
    | apply AW.seq
    | (apply AW.kR; refine AW.sR (h := ?_))
    | apply AW.skip
    | apply AW.block
    | apply AW.out
    | (apply AW.kE; refine AW.sE (h := ?_))
    | apply AW.label
    | ((first | (apply AW.kC; refine AW.sC (h1 := fun h => ?_) (h2 := fun h => ?_))) <;> (try (first | exact Bool.noConfusion h | exact absurd h (by decide) | (simp at h; done) | (rw [h]; try simp only [nrm] at h; try rw [h]; try (exfalso; omega)) | skip))))
    apply AO.kCall 74; refine AO.sCall1 (hg := gRPT (H ++ be (kids.getD q default).block.toNat 4 ++ be (kids.getD q default).deep.toNat 2) (kids.getD q default).strip _ k3 sk.1) (h := ?_)
    repeat' (first
    | apply AO.nil
    | (apply AO.kBuildS; first | refine AO.sBuildT (h := ?_) | refine AO.sBuildS (h := ?_))
    | (apply AO.kApp; first | refine AO.sGrowT (h := ?_) | refine AO.sNewT (h := ?_) | refine AO.sGrowBT (h := ?_) | refine AO.sGrow (h := ?_) | refine AO.sNewr (h := ?_))
    | (apply AO.kIx; first | refine AO.sIxN (h := ?_) | refine AO.sIx (h := ?_) | refine AO.sP (h := ?_) | refine AO.sPi (h := ?_))
    | (apply AO.kBox; refine AO.sBox (h := ?_))
    | (apply AO.kAlloc; refine AO.sAlloc (h := ?_))
    | (apply AO.kStore; first | refine AO.sStore (h := ?_) | refine AO.sStB (h := ?_))
    | (apply AO.kAdd; refine AO.sAdd (h := ?_))
    | (apply AO.kCv; first | refine AO.sBytes (h := ?_) | refine AO.sStr (h := ?_) | refine AO.sStrR (h := ?_))
    | (apply AO.kP; first | refine AO.sP (h := ?_) | refine AO.sPi (h := ?_) | refine AO.sLoadB (h := ?_) | refine AO.sSameB (h := ?_))
    | (apply AO.kP; refine AO.eqNil (h1 := fun h => ?_) (h2 := ?_))
    | apply AW.seq
    | (apply AW.kR; refine AW.sR (h := ?_))
    | apply AW.skip
    | apply AW.block
    | apply AW.out
    | (apply AW.kE; refine AW.sE (h := ?_))
    | apply AW.label
    | ((first | (apply AW.kC; refine AW.sC (h1 := fun h => ?_) (h2 := fun h => ?_))) <;> (try (first | exact Bool.noConfusion h | exact absurd h (by decide) | (simp at h; done) | (rw [h]; try simp only [nrm] at h; try rw [h]; try (exfalso; omega)) | skip))))
    apply AO.kCall 74; refine AO.sCall1 (hg := gRPT (H ++ be (kids.getD q default).block.toNat 4 ++ be (kids.getD q default).deep.toNat 2 ++ tx (kids.getD q default).strip) (kids.getD q default).add _ k4 sk.2) (h := ?_)
    repeat' (first
    | apply AO.nil
    | (apply AO.kBuildS; first | refine AO.sBuildT (h := ?_) | refine AO.sBuildS (h := ?_))
    | (apply AO.kApp; first | refine AO.sGrowT (h := ?_) | refine AO.sNewT (h := ?_) | refine AO.sGrowBT (h := ?_) | refine AO.sGrow (h := ?_) | refine AO.sNewr (h := ?_))
    | (apply AO.kIx; first | refine AO.sIxN (h := ?_) | refine AO.sIx (h := ?_) | refine AO.sP (h := ?_) | refine AO.sPi (h := ?_))
    | (apply AO.kBox; refine AO.sBox (h := ?_))
    | (apply AO.kAlloc; refine AO.sAlloc (h := ?_))
    | (apply AO.kStore; first | refine AO.sStore (h := ?_) | refine AO.sStB (h := ?_))
    | (apply AO.kAdd; refine AO.sAdd (h := ?_))
    | (apply AO.kCv; first | refine AO.sBytes (h := ?_) | refine AO.sStr (h := ?_) | refine AO.sStrR (h := ?_))
    | (apply AO.kP; first | refine AO.sP (h := ?_) | refine AO.sPi (h := ?_) | refine AO.sLoadB (h := ?_) | refine AO.sSameB (h := ?_))
    | (apply AO.kP; refine AO.eqNil (h1 := fun h => ?_) (h2 := ?_))
    | apply AW.seq
    | (apply AW.kR; refine AW.sR (h := ?_))
    | apply AW.skip
    | apply AW.block
    | apply AW.out
    | (apply AW.kE; refine AW.sE (h := ?_))
    | apply AW.label
    | ((first | (apply AW.kC; refine AW.sC (h1 := fun h => ?_) (h2 := fun h => ?_))) <;> (try (first | exact Bool.noConfusion h | exact absurd h (by decide) | (simp at h; done) | (rw [h]; try simp only [nrm] at h; try rw [h]; try (exfalso; omega)) | skip))))
    simp only [e1]
    exact AW.swap (st' := sRP (Nd.av ⟨false, pairs, pivots, kids, buf⟩) 60 61 kids.length (q + 1) (be 2 1 ++ be kids.length 1 ++ ((kids.take (q + 1)).map wEd).flatten)) 99 900 (by decide) (by decide) (by (constructor <;> (repeat' (first | exact LeT.nil | exact LeB.nil | apply LeT.cons | apply LeB.cons | exact Ol.refl | apply Lx.s | apply Lx.b | apply Lx.i | exact Lx.refl)) <;> (first | rfl | assumption | omega | (simp only [List.length_map, BS_len]; done) | skip))) (ih (q + 1) _ (by omega) (by omega) (by (constructor <;> (repeat' (first | exact LeT.nil | exact LeB.nil | apply LeT.cons | apply LeB.cons | exact Ol.refl | apply Lx.s | apply Lx.b | apply Lx.i | exact Lx.refl)) <;> (first | rfl | assumption | omega | (simp only [List.length_map, BS_len]; done) | skip))))
  · obtain rfl : q = kids.length := by omega
    have hb3 := fl_le (l := kids) (f := wEd) (c := 520) wEd_le kids.length
    rw [List.take_length] at hb3 ⊢
    obtain ⟨H, hH⟩ : ∃ H, H = be 2 1 ++ be kids.length 1 ++ (kids.map wEd).flatten := ⟨_, rfl⟩
    have lH : H.length ≤ 5000 := by rw [hH]; simp only [List.length_append, be_len]; omega
    rw [← hH]
    repeat' (first
    | apply AO.nil
    | (apply AO.kBuildS; first | refine AO.sBuildT (h := ?_) | refine AO.sBuildS (h := ?_))
    | (apply AO.kApp; first | refine AO.sGrowT (h := ?_) | refine AO.sNewT (h := ?_) | refine AO.sGrowBT (h := ?_) | refine AO.sGrow (h := ?_) | refine AO.sNewr (h := ?_))
    | (apply AO.kIx; first | refine AO.sIxN (h := ?_) | refine AO.sIx (h := ?_) | refine AO.sP (h := ?_) | refine AO.sPi (h := ?_))
    | (apply AO.kBox; refine AO.sBox (h := ?_))
    | (apply AO.kAlloc; refine AO.sAlloc (h := ?_))
    | (apply AO.kStore; first | refine AO.sStore (h := ?_) | refine AO.sStB (h := ?_))
    | (apply AO.kAdd; refine AO.sAdd (h := ?_))
    | (apply AO.kCv; first | refine AO.sBytes (h := ?_) | refine AO.sStr (h := ?_) | refine AO.sStrR (h := ?_))
    | (apply AO.kP; first | refine AO.sP (h := ?_) | refine AO.sPi (h := ?_) | refine AO.sLoadB (h := ?_) | refine AO.sSameB (h := ?_))
    | (apply AO.kP; refine AO.eqNil (h1 := fun h => ?_) (h2 := ?_))
    | apply AW.seq
    | (apply AW.kR; refine AW.sR (h := ?_))
    | apply AW.skip
    | apply AW.block
    | apply AW.out
    | (apply AW.kE; refine AW.sE (h := ?_))
    | apply AW.label
    | ((first | (apply AW.kC; refine AW.sC (h1 := fun h => ?_) (h2 := fun h => ?_))) <;> (try (first | exact Bool.noConfusion h | exact absurd h (by decide) | (simp at h; done) | (rw [h]; try simp only [nrm] at h; try rw [h]; try (exfalso; omega)) | skip))))
    all_goals try (exfalso; omega)
    refine AW.loopI (fun p : Nat => p ≤ pivots.length) (fun p => ⟨[(1, .ptr 1 0), (5, .gr 900 5 1 (BS (H ++ ((pivots.take p).map tx).flatten))), (103, .i .i64 pivots.length), (104, .i .i64 p)], [(1, .bx (Nd.av ⟨false, pairs, pivots, kids, buf⟩)), (900, .gw (BS (H ++ ((pivots.take p).map tx).flatten)).length)]⟩) (fun p => pivots.length - p) 0 (by simp) (by simp only [List.take_zero, List.map_nil, List.flatten_nil, List.append_nil]; (constructor <;> (repeat' (first | exact LeT.nil | exact LeB.nil | apply LeT.cons | apply LeB.cons | exact Ol.refl | apply Lx.s | apply Lx.b | apply Lx.i | exact Lx.refl)) <;> (first | rfl | assumption | omega | (simp only [List.length_map, BS_len]; done) | skip))) fun m p hp ih2 => ?_
    by_cases hp2 : p < pivots.length
    · have hb := fl_le (l := pivots) (f := tx) (c := 256) tx_le p
      have k1 : (H ++ ((pivots.take p).map tx).flatten).length ≤ 900000 := by simp only [List.length_append]; omega
      have e1 : H ++ ((pivots.take p).map tx).flatten ++ tx (pivots.getD p default) = H ++ ((pivots.take (p + 1)).map tx).flatten := by
        rw [fl_more hp2, List.append_assoc]
      repeat' (first
    | apply AO.nil
    | (apply AO.kBuildS; first | refine AO.sBuildT (h := ?_) | refine AO.sBuildS (h := ?_))
    | (apply AO.kApp; first | refine AO.sGrowT (h := ?_) | refine AO.sNewT (h := ?_) | refine AO.sGrowBT (h := ?_) | refine AO.sGrow (h := ?_) | refine AO.sNewr (h := ?_))
    | (apply AO.kIx; first | refine AO.sIxN (h := ?_) | refine AO.sIx (h := ?_) | refine AO.sP (h := ?_) | refine AO.sPi (h := ?_))
    | (apply AO.kBox; refine AO.sBox (h := ?_))
    | (apply AO.kAlloc; refine AO.sAlloc (h := ?_))
    | (apply AO.kStore; first | refine AO.sStore (h := ?_) | refine AO.sStB (h := ?_))
    | (apply AO.kAdd; refine AO.sAdd (h := ?_))
    | (apply AO.kCv; first | refine AO.sBytes (h := ?_) | refine AO.sStr (h := ?_) | refine AO.sStrR (h := ?_))
    | (apply AO.kP; first | refine AO.sP (h := ?_) | refine AO.sPi (h := ?_) | refine AO.sLoadB (h := ?_) | refine AO.sSameB (h := ?_))
    | (apply AO.kP; refine AO.eqNil (h1 := fun h => ?_) (h2 := ?_))
    | apply AW.seq
    | (apply AW.kR; refine AW.sR (h := ?_))
    | apply AW.skip
    | apply AW.block
    | apply AW.out
    | (apply AW.kE; refine AW.sE (h := ?_))
    | apply AW.label
    | ((first | (apply AW.kC; refine AW.sC (h1 := fun h => ?_) (h2 := fun h => ?_))) <;> (try (first | exact Bool.noConfusion h | exact absurd h (by decide) | (simp at h; done) | (rw [h]; try simp only [nrm] at h; try rw [h]; try (exfalso; omega)) | skip))))
      all_goals try (exfalso; omega)
      apply AO.kCall 74; refine AO.sCall1 (hg := gRPT (H ++ ((pivots.take p).map tx).flatten) (pivots.getD p default) _ k1 (pv p hp2)) (h := ?_)
      repeat' (first
    | apply AO.nil
    | (apply AO.kBuildS; first | refine AO.sBuildT (h := ?_) | refine AO.sBuildS (h := ?_))
    | (apply AO.kApp; first | refine AO.sGrowT (h := ?_) | refine AO.sNewT (h := ?_) | refine AO.sGrowBT (h := ?_) | refine AO.sGrow (h := ?_) | refine AO.sNewr (h := ?_))
    | (apply AO.kIx; first | refine AO.sIxN (h := ?_) | refine AO.sIx (h := ?_) | refine AO.sP (h := ?_) | refine AO.sPi (h := ?_))
    | (apply AO.kBox; refine AO.sBox (h := ?_))
    | (apply AO.kAlloc; refine AO.sAlloc (h := ?_))
    | (apply AO.kStore; first | refine AO.sStore (h := ?_) | refine AO.sStB (h := ?_))
    | (apply AO.kAdd; refine AO.sAdd (h := ?_))
    | (apply AO.kCv; first | refine AO.sBytes (h := ?_) | refine AO.sStr (h := ?_) | refine AO.sStrR (h := ?_))
    | (apply AO.kP; first | refine AO.sP (h := ?_) | refine AO.sPi (h := ?_) | refine AO.sLoadB (h := ?_) | refine AO.sSameB (h := ?_))
    | (apply AO.kP; refine AO.eqNil (h1 := fun h => ?_) (h2 := ?_))
    | apply AW.seq
    | (apply AW.kR; refine AW.sR (h := ?_))
    | apply AW.skip
    | apply AW.block
    | apply AW.out
    | (apply AW.kE; refine AW.sE (h := ?_))
    | apply AW.label
    | ((first | (apply AW.kC; refine AW.sC (h1 := fun h => ?_) (h2 := fun h => ?_))) <;> (try (first | exact Bool.noConfusion h | exact absurd h (by decide) | (simp at h; done) | (rw [h]; try simp only [nrm] at h; try rw [h]; try (exfalso; omega)) | skip))))
      simp only [e1]
      exact AW.swap (st' := sRP (Nd.av ⟨false, pairs, pivots, kids, buf⟩) 103 104 pivots.length (p + 1) (H ++ ((pivots.take (p + 1)).map tx).flatten)) 113 900 (by decide) (by decide) (by (constructor <;> (repeat' (first | exact LeT.nil | exact LeB.nil | apply LeT.cons | apply LeB.cons | exact Ol.refl | apply Lx.s | apply Lx.b | apply Lx.i | exact Lx.refl)) <;> (first | rfl | assumption | omega | (simp only [List.length_map, BS_len]; done) | skip))) (ih2 (p + 1) _ (by omega) (by omega) (by (constructor <;> (repeat' (first | exact LeT.nil | exact LeB.nil | apply LeT.cons | apply LeB.cons | exact Ol.refl | apply Lx.s | apply Lx.b | apply Lx.i | exact Lx.refl)) <;> (first | rfl | assumption | omega | (simp only [List.length_map, BS_len]; done) | skip))))
    · obtain rfl : p = pivots.length := by omega
      have hb2 := fl_le (l := pivots) (f := tx) (c := 256) tx_le pivots.length
      rw [List.take_length] at hb2 ⊢
      have k0 : (H ++ (pivots.map tx).flatten).length ≤ 900000 := by simp only [List.length_append]; omega
      have e2 : H ++ (pivots.map tx).flatten ++ [u8 ((buf.map Ms.av).length : Int)] = H ++ (pivots.map tx).flatten ++ be buf.length 1 := by
        rw [m4]
        simp only [be, u8_nat, Nat.pow_zero, Nat.div_one, List.cons_append, List.nil_append]
      repeat' (first
    | apply AO.nil
    | (apply AO.kBuildS; first | refine AO.sBuildT (h := ?_) | refine AO.sBuildS (h := ?_))
    | (apply AO.kApp; first | refine AO.sGrowT (h := ?_) | refine AO.sNewT (h := ?_) | refine AO.sGrowBT (h := ?_) | refine AO.sGrow (h := ?_) | refine AO.sNewr (h := ?_))
    | (apply AO.kIx; first | refine AO.sIxN (h := ?_) | refine AO.sIx (h := ?_) | refine AO.sP (h := ?_) | refine AO.sPi (h := ?_))
    | (apply AO.kBox; refine AO.sBox (h := ?_))
    | (apply AO.kAlloc; refine AO.sAlloc (h := ?_))
    | (apply AO.kStore; first | refine AO.sStore (h := ?_) | refine AO.sStB (h := ?_))
    | (apply AO.kAdd; refine AO.sAdd (h := ?_))
    | (apply AO.kCv; first | refine AO.sBytes (h := ?_) | refine AO.sStr (h := ?_) | refine AO.sStrR (h := ?_))
    | (apply AO.kP; first | refine AO.sP (h := ?_) | refine AO.sPi (h := ?_) | refine AO.sLoadB (h := ?_) | refine AO.sSameB (h := ?_))
    | (apply AO.kP; refine AO.eqNil (h1 := fun h => ?_) (h2 := ?_))
    | apply AW.seq
    | (apply AW.kR; refine AW.sR (h := ?_))
    | apply AW.skip
    | apply AW.block
    | apply AW.out
    | (apply AW.kE; refine AW.sE (h := ?_))
    | apply AW.label
    | ((first | (apply AW.kC; refine AW.sC (h1 := fun h => ?_) (h2 := fun h => ?_))) <;> (try (first | exact Bool.noConfusion h | exact absurd h (by decide) | (simp at h; done) | (rw [h]; try simp only [nrm] at h; try rw [h]; try (exfalso; omega)) | skip))))
      all_goals try (exfalso; omega)
      simp only [e2]
      obtain ⟨K, hK⟩ : ∃ K, K = H ++ (pivots.map tx).flatten ++ be buf.length 1 := ⟨_, rfl⟩
      have lK : K.length ≤ 10000 := by rw [hK]; simp only [List.length_append, be_len]; omega
      rw [← hK]
      refine AW.loopI (fun r : Nat => r ≤ buf.length) (fun r => ⟨[(1, .ptr 1 0), (5, .gr 900 5 1 (BS (K ++ ((buf.take r).map wMs).flatten))), (124, .i .i64 buf.length), (125, .i .i64 r)], [(1, .bx (Nd.av ⟨false, pairs, pivots, kids, buf⟩)), (900, .gw (BS (K ++ ((buf.take r).map wMs).flatten)).length)]⟩) (fun r => buf.length - r) 0 (by simp) (by simp only [List.take_zero, List.map_nil, List.flatten_nil, List.append_nil]; (constructor <;> (repeat' (first | exact LeT.nil | exact LeB.nil | apply LeT.cons | apply LeB.cons | exact Ol.refl | apply Lx.s | apply Lx.b | apply Lx.i | exact Lx.refl)) <;> (first | rfl | assumption | omega | (simp only [List.length_map, BS_len]; done) | skip))) fun m r hr ih3 => ?_
      by_cases hr2 : r < buf.length
      · have hb := fl_le (l := buf) (f := wMs) (c := 520) wMs_le r
        have sm := sm_at hx.buf (q := r) hr2
        have sv := hv r hr2
        obtain ⟨J, hJ⟩ : ∃ J, J = K ++ ((buf.take r).map wMs).flatten := ⟨_, rfl⟩
        have lJ : J.length ≤ 20000 := by rw [hJ]; simp only [List.length_append]; omega
        have e1 : J ++ wMs (buf.getD r default) = K ++ ((buf.take (r + 1)).map wMs).flatten := by
          rw [fl_more hr2, hJ, List.append_assoc]
        rw [← hJ]
        repeat' (first
    | apply AO.nil
    | (apply AO.kBuildS; first | refine AO.sBuildT (h := ?_) | refine AO.sBuildS (h := ?_))
    | (apply AO.kApp; first | refine AO.sGrowT (h := ?_) | refine AO.sNewT (h := ?_) | refine AO.sGrowBT (h := ?_) | refine AO.sGrow (h := ?_) | refine AO.sNewr (h := ?_))
    | (apply AO.kIx; first | refine AO.sIxN (h := ?_) | refine AO.sIx (h := ?_) | refine AO.sP (h := ?_) | refine AO.sPi (h := ?_))
    | (apply AO.kBox; refine AO.sBox (h := ?_))
    | (apply AO.kAlloc; refine AO.sAlloc (h := ?_))
    | (apply AO.kStore; first | refine AO.sStore (h := ?_) | refine AO.sStB (h := ?_))
    | (apply AO.kAdd; refine AO.sAdd (h := ?_))
    | (apply AO.kCv; first | refine AO.sBytes (h := ?_) | refine AO.sStr (h := ?_) | refine AO.sStrR (h := ?_))
    | (apply AO.kP; first | refine AO.sP (h := ?_) | refine AO.sPi (h := ?_) | refine AO.sLoadB (h := ?_) | refine AO.sSameB (h := ?_))
    | (apply AO.kP; refine AO.eqNil (h1 := fun h => ?_) (h2 := ?_))
    | apply AW.seq
    | (apply AW.kR; refine AW.sR (h := ?_))
    | apply AW.skip
    | apply AW.block
    | apply AW.out
    | (apply AW.kE; refine AW.sE (h := ?_))
    | apply AW.label
    | ((first | (apply AW.kC; refine AW.sC (h1 := fun h => ?_) (h2 := fun h => ?_))) <;> (try (first | exact Bool.noConfusion h | exact absurd h (by decide) | (simp at h; done) | (rw [h]; try simp only [nrm] at h; try rw [h]; try (exfalso; omega)) | skip))))
        all_goals try (exfalso; omega)
        have a0 : (J ++ [(buf.getD r default).kind]).length ≤ 900000 := by simp only [List.length_append, List.length_cons, List.length_nil]; omega
        have t0 := tx_le (buf.getD r default).key
        have b0 : (J ++ [(buf.getD r default).kind] ++ tx (buf.getD r default).key).length ≤ 30000 := by simp only [List.length_append, List.length_cons, List.length_nil]; omega
        apply AO.kCall 74; refine AO.sCall1 (hg := gRPT (J ++ [(buf.getD r default).kind]) (buf.getD r default).key _ a0 sm.1) (h := ?_)
        have ek : be (buf.getD r default).kind.toNat 1 = [(buf.getD r default).kind] := by simp [be]
        obtain ⟨G, hG⟩ : ∃ G, G = J ++ [(buf.getD r default).kind] ++ tx (buf.getD r default).key := ⟨_, rfl⟩
        rw [← hG] at b0
        rw [← hG]
        have w1 : (buf.getD r default).kind = 1 → G ++ tx (buf.getD r default).val = K ++ ((buf.take (r + 1)).map wMs).flatten := fun h => by
          rw [← e1, hG]; simp only [wMs, if_pos h, ek, List.append_assoc]
        have w3 : ¬ (buf.getD r default).kind = 1 → (buf.getD r default).kind = 3 → G ++ be (buf.getD r default).block.toNat 4 ++ be (buf.getD r default).deep.toNat 2 ++ tx (buf.getD r default).add = K ++ ((buf.take (r + 1)).map wMs).flatten := fun h h' => by
          rw [← e1, hG]; simp only [wMs, if_neg h, if_pos h', ek, List.append_assoc]
        have w0 : ¬ (buf.getD r default).kind = 1 → ¬ (buf.getD r default).kind = 3 → G = K ++ ((buf.take (r + 1)).map wMs).flatten := fun h h' => by
          rw [← e1, hG]; simp only [wMs, if_neg h, if_neg h', ek, List.append_assoc, List.append_nil]
        have b1 : G.length ≤ 900000 := by omega
        have b2 : (G ++ be (buf.getD r default).block.toNat 4).length ≤ 900000 := by simp only [List.length_append, be_len]; omega
        have b3 : (G ++ be (buf.getD r default).block.toNat 4 ++ be (buf.getD r default).deep.toNat 2).length ≤ 900000 := by simp only [List.length_append, be_len]; omega
        repeat' (first
    | apply AO.nil
    | (apply AO.kBuildS; first | refine AO.sBuildT (h := ?_) | refine AO.sBuildS (h := ?_))
    | (apply AO.kApp; first | refine AO.sGrowT (h := ?_) | refine AO.sNewT (h := ?_) | refine AO.sGrowBT (h := ?_) | refine AO.sGrow (h := ?_) | refine AO.sNewr (h := ?_))
    | (apply AO.kIx; first | refine AO.sIxN (h := ?_) | refine AO.sIx (h := ?_) | refine AO.sP (h := ?_) | refine AO.sPi (h := ?_))
    | (apply AO.kBox; refine AO.sBox (h := ?_))
    | (apply AO.kAlloc; refine AO.sAlloc (h := ?_))
    | (apply AO.kStore; first | refine AO.sStore (h := ?_) | refine AO.sStB (h := ?_))
    | (apply AO.kAdd; refine AO.sAdd (h := ?_))
    | (apply AO.kCv; first | refine AO.sBytes (h := ?_) | refine AO.sStr (h := ?_) | refine AO.sStrR (h := ?_))
    | (apply AO.kP; first | refine AO.sP (h := ?_) | refine AO.sPi (h := ?_) | refine AO.sLoadB (h := ?_) | refine AO.sSameB (h := ?_))
    | (apply AO.kP; refine AO.eqNil (h1 := fun h => ?_) (h2 := ?_))
    | apply AW.seq
    | (apply AW.kR; refine AW.sR (h := ?_))
    | apply AW.skip
    | apply AW.block
    | apply AW.out
    | (apply AW.kE; refine AW.sE (h := ?_))
    | apply AW.label
    | ((first | (apply AW.kC; refine AW.sC (h1 := fun h => ?_) (h2 := fun h => ?_))) <;> (try (first | exact Bool.noConfusion h | exact absurd h (by decide) | (simp at h; done) | (rw [h]; try simp only [nrm] at h; try rw [h]; try (exfalso; omega)) | skip))))
        · rw [k1] at h
          apply AO.kCall 74; refine AO.sCall1 (hg := gRPT G (buf.getD r default).val _ b1 sv) (h := ?_)
          simp only [w1 h]
          repeat' (first
    | apply AO.nil
    | (apply AO.kBuildS; first | refine AO.sBuildT (h := ?_) | refine AO.sBuildS (h := ?_))
    | (apply AO.kApp; first | refine AO.sGrowT (h := ?_) | refine AO.sNewT (h := ?_) | refine AO.sGrowBT (h := ?_) | refine AO.sGrow (h := ?_) | refine AO.sNewr (h := ?_))
    | (apply AO.kIx; first | refine AO.sIxN (h := ?_) | refine AO.sIx (h := ?_) | refine AO.sP (h := ?_) | refine AO.sPi (h := ?_))
    | (apply AO.kBox; refine AO.sBox (h := ?_))
    | (apply AO.kAlloc; refine AO.sAlloc (h := ?_))
    | (apply AO.kStore; first | refine AO.sStore (h := ?_) | refine AO.sStB (h := ?_))
    | (apply AO.kAdd; refine AO.sAdd (h := ?_))
    | (apply AO.kCv; first | refine AO.sBytes (h := ?_) | refine AO.sStr (h := ?_) | refine AO.sStrR (h := ?_))
    | (apply AO.kP; first | refine AO.sP (h := ?_) | refine AO.sPi (h := ?_) | refine AO.sLoadB (h := ?_) | refine AO.sSameB (h := ?_))
    | (apply AO.kP; refine AO.eqNil (h1 := fun h => ?_) (h2 := ?_))
    | apply AW.seq
    | (apply AW.kR; refine AW.sR (h := ?_))
    | apply AW.skip
    | apply AW.block
    | apply AW.out
    | (apply AW.kE; refine AW.sE (h := ?_))
    | apply AW.label
    | ((first | (apply AW.kC; refine AW.sC (h1 := fun h => ?_) (h2 := fun h => ?_))) <;> (try (first | exact Bool.noConfusion h | exact absurd h (by decide) | (simp at h; done) | (rw [h]; try simp only [nrm] at h; try rw [h]; try (exfalso; omega)) | skip))))
          all_goals first
            | (exfalso; rename_i h'; rw [k3] at h'; rw [h] at h'; exact absurd h' (by decide))
            | exact AW.swap (st' := sRP (Nd.av ⟨false, pairs, pivots, kids, buf⟩) 124 125 buf.length (r + 1) (K ++ ((buf.take (r + 1)).map wMs).flatten)) 148 900 (by decide) (by decide) (by (constructor <;> (repeat' (first | exact LeT.nil | exact LeB.nil | apply LeT.cons | apply LeB.cons | exact Ol.refl | apply Lx.s | apply Lx.b | apply Lx.i | exact Lx.refl)) <;> (first | rfl | assumption | omega | (simp only [List.length_map, BS_len]; done) | skip))) (ih3 (r + 1) _ (by omega) (by omega) (by (constructor <;> (repeat' (first | exact LeT.nil | exact LeB.nil | apply LeT.cons | apply LeB.cons | exact Ol.refl | apply Lx.s | apply Lx.b | apply Lx.i | exact Lx.refl)) <;> (first | rfl | assumption | omega | (simp only [List.length_map, BS_len]; done) | skip))))
        · rename_i h'
          rw [k1] at h'; rw [k3] at h
          apply AO.kCall 75; refine AO.sCall1 (hg := gRP4 G (buf.getD r default).block _ b1) (h := ?_)
          repeat' (first
    | apply AO.nil
    | (apply AO.kBuildS; first | refine AO.sBuildT (h := ?_) | refine AO.sBuildS (h := ?_))
    | (apply AO.kApp; first | refine AO.sGrowT (h := ?_) | refine AO.sNewT (h := ?_) | refine AO.sGrowBT (h := ?_) | refine AO.sGrow (h := ?_) | refine AO.sNewr (h := ?_))
    | (apply AO.kIx; first | refine AO.sIxN (h := ?_) | refine AO.sIx (h := ?_) | refine AO.sP (h := ?_) | refine AO.sPi (h := ?_))
    | (apply AO.kBox; refine AO.sBox (h := ?_))
    | (apply AO.kAlloc; refine AO.sAlloc (h := ?_))
    | (apply AO.kStore; first | refine AO.sStore (h := ?_) | refine AO.sStB (h := ?_))
    | (apply AO.kAdd; refine AO.sAdd (h := ?_))
    | (apply AO.kCv; first | refine AO.sBytes (h := ?_) | refine AO.sStr (h := ?_) | refine AO.sStrR (h := ?_))
    | (apply AO.kP; first | refine AO.sP (h := ?_) | refine AO.sPi (h := ?_) | refine AO.sLoadB (h := ?_) | refine AO.sSameB (h := ?_))
    | (apply AO.kP; refine AO.eqNil (h1 := fun h => ?_) (h2 := ?_))
    | apply AW.seq
    | (apply AW.kR; refine AW.sR (h := ?_))
    | apply AW.skip
    | apply AW.block
    | apply AW.out
    | (apply AW.kE; refine AW.sE (h := ?_))
    | apply AW.label
    | ((first | (apply AW.kC; refine AW.sC (h1 := fun h => ?_) (h2 := fun h => ?_))) <;> (try (first | exact Bool.noConfusion h | exact absurd h (by decide) | (simp at h; done) | (rw [h]; try simp only [nrm] at h; try rw [h]; try (exfalso; omega)) | skip))))
          apply AO.kCall 75; refine AO.sCall1 (hg := gRP2 (G ++ be (buf.getD r default).block.toNat 4) (buf.getD r default).deep _ b2) (h := ?_)
          repeat' (first
    | apply AO.nil
    | (apply AO.kBuildS; first | refine AO.sBuildT (h := ?_) | refine AO.sBuildS (h := ?_))
    | (apply AO.kApp; first | refine AO.sGrowT (h := ?_) | refine AO.sNewT (h := ?_) | refine AO.sGrowBT (h := ?_) | refine AO.sGrow (h := ?_) | refine AO.sNewr (h := ?_))
    | (apply AO.kIx; first | refine AO.sIxN (h := ?_) | refine AO.sIx (h := ?_) | refine AO.sP (h := ?_) | refine AO.sPi (h := ?_))
    | (apply AO.kBox; refine AO.sBox (h := ?_))
    | (apply AO.kAlloc; refine AO.sAlloc (h := ?_))
    | (apply AO.kStore; first | refine AO.sStore (h := ?_) | refine AO.sStB (h := ?_))
    | (apply AO.kAdd; refine AO.sAdd (h := ?_))
    | (apply AO.kCv; first | refine AO.sBytes (h := ?_) | refine AO.sStr (h := ?_) | refine AO.sStrR (h := ?_))
    | (apply AO.kP; first | refine AO.sP (h := ?_) | refine AO.sPi (h := ?_) | refine AO.sLoadB (h := ?_) | refine AO.sSameB (h := ?_))
    | (apply AO.kP; refine AO.eqNil (h1 := fun h => ?_) (h2 := ?_))
    | apply AW.seq
    | (apply AW.kR; refine AW.sR (h := ?_))
    | apply AW.skip
    | apply AW.block
    | apply AW.out
    | (apply AW.kE; refine AW.sE (h := ?_))
    | apply AW.label
    | ((first | (apply AW.kC; refine AW.sC (h1 := fun h => ?_) (h2 := fun h => ?_))) <;> (try (first | exact Bool.noConfusion h | exact absurd h (by decide) | (simp at h; done) | (rw [h]; try simp only [nrm] at h; try rw [h]; try (exfalso; omega)) | skip))))
          apply AO.kCall 74; refine AO.sCall1 (hg := gRPT (G ++ be (buf.getD r default).block.toNat 4 ++ be (buf.getD r default).deep.toNat 2) (buf.getD r default).add _ b3 sm.2) (h := ?_)
          simp only [w3 h' h]
          repeat' (first
    | apply AO.nil
    | (apply AO.kBuildS; first | refine AO.sBuildT (h := ?_) | refine AO.sBuildS (h := ?_))
    | (apply AO.kApp; first | refine AO.sGrowT (h := ?_) | refine AO.sNewT (h := ?_) | refine AO.sGrowBT (h := ?_) | refine AO.sGrow (h := ?_) | refine AO.sNewr (h := ?_))
    | (apply AO.kIx; first | refine AO.sIxN (h := ?_) | refine AO.sIx (h := ?_) | refine AO.sP (h := ?_) | refine AO.sPi (h := ?_))
    | (apply AO.kBox; refine AO.sBox (h := ?_))
    | (apply AO.kAlloc; refine AO.sAlloc (h := ?_))
    | (apply AO.kStore; first | refine AO.sStore (h := ?_) | refine AO.sStB (h := ?_))
    | (apply AO.kAdd; refine AO.sAdd (h := ?_))
    | (apply AO.kCv; first | refine AO.sBytes (h := ?_) | refine AO.sStr (h := ?_) | refine AO.sStrR (h := ?_))
    | (apply AO.kP; first | refine AO.sP (h := ?_) | refine AO.sPi (h := ?_) | refine AO.sLoadB (h := ?_) | refine AO.sSameB (h := ?_))
    | (apply AO.kP; refine AO.eqNil (h1 := fun h => ?_) (h2 := ?_))
    | apply AW.seq
    | (apply AW.kR; refine AW.sR (h := ?_))
    | apply AW.skip
    | apply AW.block
    | apply AW.out
    | (apply AW.kE; refine AW.sE (h := ?_))
    | apply AW.label
    | ((first | (apply AW.kC; refine AW.sC (h1 := fun h => ?_) (h2 := fun h => ?_))) <;> (try (first | exact Bool.noConfusion h | exact absurd h (by decide) | (simp at h; done) | (rw [h]; try simp only [nrm] at h; try rw [h]; try (exfalso; omega)) | skip))))
          exact AW.swap (st' := sRP (Nd.av ⟨false, pairs, pivots, kids, buf⟩) 124 125 buf.length (r + 1) (K ++ ((buf.take (r + 1)).map wMs).flatten)) 165 900 (by decide) (by decide) (by (constructor <;> (repeat' (first | exact LeT.nil | exact LeB.nil | apply LeT.cons | apply LeB.cons | exact Ol.refl | apply Lx.s | apply Lx.b | apply Lx.i | exact Lx.refl)) <;> (first | rfl | assumption | omega | (simp only [List.length_map, BS_len]; done) | skip))) (ih3 (r + 1) _ (by omega) (by omega) (by (constructor <;> (repeat' (first | exact LeT.nil | exact LeB.nil | apply LeT.cons | apply LeB.cons | exact Ol.refl | apply Lx.s | apply Lx.b | apply Lx.i | exact Lx.refl)) <;> (first | rfl | assumption | omega | (simp only [List.length_map, BS_len]; done) | skip))))
        · rename_i h'
          rw [k1] at h'; rw [k3] at h
          simp only [w0 h' h]
          exact AW.swap (st' := sRP (Nd.av ⟨false, pairs, pivots, kids, buf⟩) 124 125 buf.length (r + 1) (K ++ ((buf.take (r + 1)).map wMs).flatten)) 141 900 (by decide) (by decide) (by (constructor <;> (repeat' (first | exact LeT.nil | exact LeB.nil | apply LeT.cons | apply LeB.cons | exact Ol.refl | apply Lx.s | apply Lx.b | apply Lx.i | exact Lx.refl)) <;> (first | rfl | assumption | omega | (simp only [List.length_map, BS_len]; done) | skip))) (ih3 (r + 1) _ (by omega) (by omega) (by (constructor <;> (repeat' (first | exact LeT.nil | exact LeB.nil | apply LeT.cons | apply LeB.cons | exact Ol.refl | apply Lx.s | apply Lx.b | apply Lx.i | exact Lx.refl)) <;> (first | rfl | assumption | omega | (simp only [List.length_map, BS_len]; done) | skip))))
      · obtain rfl : r = buf.length := by omega
        rw [List.take_length]
        repeat' (first
    | apply AO.nil
    | (apply AO.kBuildS; first | refine AO.sBuildT (h := ?_) | refine AO.sBuildS (h := ?_))
    | (apply AO.kApp; first | refine AO.sGrowT (h := ?_) | refine AO.sNewT (h := ?_) | refine AO.sGrowBT (h := ?_) | refine AO.sGrow (h := ?_) | refine AO.sNewr (h := ?_))
    | (apply AO.kIx; first | refine AO.sIxN (h := ?_) | refine AO.sIx (h := ?_) | refine AO.sP (h := ?_) | refine AO.sPi (h := ?_))
    | (apply AO.kBox; refine AO.sBox (h := ?_))
    | (apply AO.kAlloc; refine AO.sAlloc (h := ?_))
    | (apply AO.kStore; first | refine AO.sStore (h := ?_) | refine AO.sStB (h := ?_))
    | (apply AO.kAdd; refine AO.sAdd (h := ?_))
    | (apply AO.kCv; first | refine AO.sBytes (h := ?_) | refine AO.sStr (h := ?_) | refine AO.sStrR (h := ?_))
    | (apply AO.kP; first | refine AO.sP (h := ?_) | refine AO.sPi (h := ?_) | refine AO.sLoadB (h := ?_) | refine AO.sSameB (h := ?_))
    | (apply AO.kP; refine AO.eqNil (h1 := fun h => ?_) (h2 := ?_))
    | apply AW.seq
    | (apply AW.kR; refine AW.sR (h := ?_))
    | apply AW.skip
    | apply AW.block
    | apply AW.out
    | (apply AW.kE; refine AW.sE (h := ?_))
    | apply AW.label
    | ((first | (apply AW.kC; refine AW.sC (h1 := fun h => ?_) (h2 := fun h => ?_))) <;> (try (first | exact Bool.noConfusion h | exact absurd h (by decide) | (simp at h; done) | (rw [h]; try simp only [nrm] at h; try rw [h]; try (exfalso; omega)) | skip))))
        all_goals first
          | (exfalso; omega)
          | exact AW.ret (hD rfl (.tup (.cons (grB (by rw [wN, if_neg Bool.false_ne_true, hK, hH])) (.cons .refl .nil))))
end Go.Proofs.Ytmfonbehcfjjgaa.Mv

/- Packing: what is put is taken. Under no condition. -/
namespace Go.Proofs.Ytmfonbehcfjjgaa.Mv
open Go Go.Proofs
set_option linter.unusedSimpArgs false
set_option linter.unusedVariables false
set_option maxRecDepth 10000
set_option maxHeartbeats 4000000
attribute [local irreducible] AW AO AR

theorem num_go (l : L) (a : Nat) : l.foldl (fun n c => n * 256 + c.toNat) a = a * 256 ^ l.length + num l := by
  induction l generalizing a with
  | nil => simp [num]
  | cons c l ih =>
    have e : num (c :: l) = (0 * 256 + c.toNat) * 256 ^ l.length + num l := ih _
    rw [List.foldl_cons, ih, e, List.length_cons, Nat.pow_succ, Nat.add_mul, Nat.zero_mul, Nat.zero_add, Nat.mul_assoc, Nat.mul_comm 256, Nat.add_assoc]
theorem num_cons (c : UInt8) (l : L) : num (c :: l) = c.toNat * 256 ^ l.length + num l := by
  rw [num, List.foldl_cons, num_go, Nat.zero_mul, Nat.zero_add]
theorem num_be (n : Nat) : ∀ s, num (be n s) = n % 256 ^ s
  | 0 => by simp [be, num, Nat.mod_one]
  | s + 1 => by
    rw [be, num_cons, num_be n s, be_len, Nat.mod_pow_succ, UInt8.toNat_ofNat', Nat.mul_comm, Nat.add_comm]
/-- What was put is taken. -/
theorem take_be (A C : L) (m s : Nat) : takeV ⟨A ++ (be m s ++ C), A.length, 0⟩ s = m % 256 ^ s ∧ takeR ⟨A ++ (be m s ++ C), A.length, 0⟩ s = ⟨A ++ (be m s ++ C), A.length + s, 0⟩ := by
  have h := take_v (r := ⟨A ++ (be m s ++ C), A.length, 0⟩) (s := s) rfl (by simp [be_len])
  rw [h.1, h.2]
  refine ⟨?_, rfl⟩
  dsimp only
  rw [List.drop_left, List.take_append_of_le_length (by rw [be_len]; omega), List.take_of_length_le (by rw [be_len]; omega), num_be]
theorem w_mod {k : IntKind} {n s : Nat} (h : k = .u8 ∧ s = 1 ∨ k = .u16 ∧ s = 2 ∨ k = .u32 ∧ s = 4) : IntKind.wrap k (n : Int) = ((n % 256 ^ s : Nat) : Int) := by
  rcases h with ⟨rfl, rfl⟩ | ⟨rfl, rfl⟩ | ⟨rfl, rfl⟩ <;> (simp [IntKind.wrap, IntKind.bits, IntKind.signed]; try omega)
theorem be_mod (n : Nat) : ∀ s, be (n % 256 ^ s) s = be n s := by
  have : ∀ s k, s ≤ k → be (n % 256 ^ k) s = be n s := fun s => by
    induction s with
    | zero => intro k h; rfl
    | succ s ih =>
      intro k h
      rw [be, be, ih k (by omega)]
      congr 1
      apply UInt8.toNat_inj.1
      rw [UInt8.toNat_ofNat', UInt8.toNat_ofNat']
      obtain ⟨d, rfl⟩ : ∃ d, k = s + 1 + d := ⟨k - (s + 1), by omega⟩
      rw [Nat.pow_add, Nat.pow_succ, Nat.mul_assoc, Nat.mod_mul_right_div_self, Nat.mod_mul_right_mod]
  exact fun s => this s s (Nat.le_refl _)
theorem nat_u64 {n : Int} (h : (Lit.int .u64 n).wf = true) : ∃ m : Nat, n = (m : Int) ∧ m < 18446744073709551616 := by
  simp [Lit.wf] at h
  have e1 : IntKind.u64.min = 0 := by decide
  have e2 : IntKind.u64.max = 18446744073709551615 := by decide
  rw [e1, e2] at h
  exact ⟨n.toNat, by omega, by omega⟩
end Go.Proofs.Ytmfonbehcfjjgaa.Mv

/- The codec: reading asL such. Under no condition. -/
namespace Go.Proofs.Ytmfonbehcfjjgaa.Mv
open Go Go.Proofs
set_option linter.unusedSimpArgs false
set_option linter.unusedVariables false
set_option maxRecDepth 10000

/-- What reads. -/
abbrev Par (α : Type) := Rd → α × Rd
section
variable {α β : Type}
def bd (p : Par α) (g : α → Par β) : Par β := fun r => g (p r).1 (p r).2
def pu (x : α) : Par α := fun r => (x, r)
def tk (s : Nat) : Par Nat := fun r => (takeV r s, takeR r s)
def txP (most : Nat) : Par L := fun r => textP r most
def fl (x : Int) : Par Unit := fun r => ((), failR r x)
def rep (p : Par α) : Nat → Par (List α)
  | 0 => pu []
  | n + 1 => bd (rep p n) fun xs => bd p fun x => pu (xs ++ [x])

/-! ### errors stay; what is cut off is too short -/
structure Pf (p : Par α) : Prop where
  st : ∀ r, r.e ≠ 0 → (p r).2 = r
  bb : ∀ r, (p r).2.b = r.b
  mo : ∀ r, r.p ≤ r.b.length → r.p ≤ (p r).2.p ∧ (p r).2.p ≤ r.b.length
  pre : ∀ (b : L) (q k : Nat), q ≤ k → k ≤ b.length → (p ⟨b, q, 0⟩).2.e = 0 → (p ⟨b.take k, q, 0⟩).2.e = 2 ∨ ((p ⟨b.take k, q, 0⟩).1 = (p ⟨b, q, 0⟩).1 ∧ (p ⟨b.take k, q, 0⟩).2 = ⟨b.take k, (p ⟨b, q, 0⟩).2.p, 0⟩)
theorem Pf.pu (x : α) : Pf (pu x) := ⟨fun _ _ => rfl, fun _ => rfl, fun r h => ⟨Nat.le_refl _, h⟩, fun b q k _ _ _ => .inr ⟨rfl, rfl⟩⟩
theorem Pf.e0 {p : Par α} (hp : Pf p) {r : Rd} (h : (p r).2.e = 0) : r.e = 0 := Decidable.byContradiction fun h' => by
  rw [hp.st r h'] at h; exact h' h
theorem Pf.eq {p : Par α} (hp : Pf p) {b : L} {q : Nat} (h : (p ⟨b, q, 0⟩).2.e = 0) : p ⟨b, q, 0⟩ = ((p ⟨b, q, 0⟩).1, ⟨b, (p ⟨b, q, 0⟩).2.p, 0⟩) := by
  have eb := hp.bb ⟨b, q, 0⟩
  generalize p ⟨b, q, 0⟩ = z at *
  obtain ⟨x, zb, zp, ze⟩ := z
  dsimp only at *
  rw [eb, h]
theorem Pf.bd {p : Par α} {g : α → Par β} (hp : Pf p) (hg : ∀ x, Pf (g x)) : Pf (bd p g) := by
  refine ⟨fun r h => ?_, fun r => ((hg _).bb _).trans (hp.bb r), fun r h => ?_, fun b q k h1 h2 h3 => ?_⟩
  · have e := hp.st r h
    have := (hg (p r).1).st (p r).2 (by rw [e]; exact h)
    exact this.trans e
  · obtain ⟨a1, a2⟩ := hp.mo r h
    have e := hp.bb r
    obtain ⟨b1, b2⟩ := (hg (p r).1).mo (p r).2 (by rw [e]; exact a2)
    rw [e] at b2
    exact ⟨Nat.le_trans a1 b1, b2⟩
  · have h3' : (g (p ⟨b, q, 0⟩).1 (p ⟨b, q, 0⟩).2).2.e = 0 := h3
    have e0 : (p ⟨b, q, 0⟩).2.e = 0 := (hg _).e0 h3'
    have hm := hp.mo ⟨b, q, 0⟩ (by show q ≤ b.length; omega)
    have hq := hp.eq e0
    have hpr := hp.pre b q k h1 h2 e0
    have hmk := hp.mo ⟨b.take k, q, 0⟩ (by show q ≤ (b.take k).length; rw [List.length_take]; omega)
    show (g (p ⟨b.take k, q, 0⟩).1 (p ⟨b.take k, q, 0⟩).2).2.e = 2 ∨ (g (p ⟨b.take k, q, 0⟩).1 (p ⟨b.take k, q, 0⟩).2).1 = (g (p ⟨b, q, 0⟩).1 (p ⟨b, q, 0⟩).2).1 ∧ (g (p ⟨b.take k, q, 0⟩).1 (p ⟨b.take k, q, 0⟩).2).2 = ⟨b.take k, (g (p ⟨b, q, 0⟩).1 (p ⟨b, q, 0⟩).2).2.p, 0⟩
    generalize p ⟨b, q, 0⟩ = z at *
    generalize p ⟨b.take k, q, 0⟩ = y at *
    obtain ⟨x, zb, zp, ze⟩ := z
    obtain ⟨x', yy⟩ := y
    simp only [Prod.mk.injEq, Rd.mk.injEq, true_and] at hq
    obtain ⟨rfl, rfl⟩ := hq
    dsimp only at *
    rcases hpr with e2 | ⟨rfl, rfl⟩
    · left
      rw [(hg _).st _ (by rw [e2]; decide)]; exact e2
    · have hk : zp ≤ k := by
        have := hmk.2
        dsimp only at this
        rw [List.length_take] at this; omega
      exact (hg _).pre _ zp k hk h2 h3'
theorem Pf.rep {p : Par α} (hp : Pf p) : ∀ n, Pf (rep p n)
  | 0 => Pf.pu _
  | n + 1 => (Pf.rep hp n).bd fun _ => hp.bd fun _ => Pf.pu _
theorem Pf.ite {c : Prop} [Decidable c] {p p' : Par α} (h : Pf p) (h' : Pf p') : Pf (if c then p else p') := by split; exact h; exact h'
theorem Pf.fl {x : Int} (hx : x ≠ 0) : Pf (fl x) := by
  refine ⟨fun r h => ?_, fun r => ?_, fun r h => ?_, fun b q k _ _ h => ?_⟩
  · show failR r x = r
    rw [failR, if_neg h]
  · show (failR r x).b = r.b
    unfold failR; split <;> rfl
  · show r.p ≤ (failR r x).p ∧ (failR r x).p ≤ r.b.length
    unfold failR; split
    · exact ⟨Nat.le_refl _, h⟩
    · exact ⟨Nat.le_refl _, h⟩
  · exact absurd h hx
theorem cut_mid {b : L} {q s k : Nat} (h : q + s ≤ k) : ((b.take k).drop q).take s = (b.drop q).take s := by
  rw [List.drop_take, List.take_take, Nat.min_eq_left (by omega)]
theorem Pf.tk (s : Nat) : Pf (tk s) := by
  refine ⟨fun r h => (take_e h).2, fun r => takeR_b r s, fun r h => (takeR_p h).symm, fun b q k h1 h2 h3 => ?_⟩
  have hs : q + s ≤ b.length := by
    by_cases hh : b.length < q + s
    · have : (takeR ⟨b, q, 0⟩ s).e = 0 := h3
      rw [(take_s (r := ⟨b, q, 0⟩) rfl hh).2] at this; cases this
    · omega
  have t := take_v (r := ⟨b, q, 0⟩) rfl hs
  by_cases hk : q + s ≤ k
  · have t' := take_v (r := ⟨b.take k, q, 0⟩) (s := s) rfl (by show q + s ≤ (b.take k).length; rw [List.length_take]; omega)
    right
    show takeV ⟨b.take k, q, 0⟩ s = takeV ⟨b, q, 0⟩ s ∧ takeR ⟨b.take k, q, 0⟩ s = ⟨b.take k, (takeR ⟨b, q, 0⟩ s).p, 0⟩
    rw [t.1, t.2, t'.1, t'.2]
    exact ⟨by rw [cut_mid hk], rfl⟩
  · left
    show (takeR ⟨b.take k, q, 0⟩ s).e = 2
    rw [(take_s (r := ⟨b.take k, q, 0⟩) rfl (by show (b.take k).length < q + s; rw [List.length_take]; omega)).2]
theorem text_v {b : L} {q most : Nat} (h : (textP ⟨b, q, 0⟩ most).2.e = 0) : ∃ n, q + 1 ≤ b.length ∧ n = num ((b.drop q).take 1) ∧ n ≤ most ∧ q + 1 + n ≤ b.length ∧ textP ⟨b, q, 0⟩ most = ((b.drop (q + 1)).take n, ⟨b, q + 1 + n, 0⟩) := by
  have hs : q + 1 ≤ b.length := by
    by_cases hh : b.length < q + 1
    · rw [textP, if_pos (by rw [(take_s (r := ⟨b, q, 0⟩) rfl hh).2]; simp), (take_s (r := ⟨b, q, 0⟩) rfl hh).2] at h; cases h
    · omega
  have t := take_v (r := ⟨b, q, 0⟩) rfl hs
  rw [textP, t.1, t.2] at h
  rw [textP, t.1, t.2]
  dsimp only at h ⊢
  rw [if_neg (by simp)] at h ⊢
  have em : mx0 (most : Int) = most := by unfold mx0; rw [if_neg (by omega)]
  rw [em] at h ⊢
  split at h
  · cases h
  · rename_i h1
    split at h
    · cases h
    · rename_i h2
      rw [if_neg h1, if_neg h2]
      exact ⟨_, hs, rfl, by omega, by omega, rfl⟩
theorem text_of {b : L} {q most n : Nat} (h1 : q + 1 ≤ b.length) (hn : n = num ((b.drop q).take 1)) (h2 : n ≤ most) : textP ⟨b, q, 0⟩ most = if b.length < q + 1 + n then ([], ⟨b, q, 2⟩) else ((b.drop (q + 1)).take n, ⟨b, q + 1 + n, 0⟩) := by
  have t := take_v (r := ⟨b, q, 0⟩) rfl h1
  have em : mx0 (most : Int) = most := by unfold mx0; rw [if_neg (by omega)]
  rw [textP, t.1, t.2]
  dsimp only
  rw [if_neg (by simp), ← hn, em, if_neg (by omega)]
theorem Pf.tx (most : Nat) : Pf (txP most) := by
  refine ⟨fun r h => ?_, fun r => ?_, fun r h => ?_, fun b q k h1 h2 h3 => ?_⟩
  · show (textP r most).2 = r
    rw [textP, (take_e h).2, if_pos h]
  · show (textP r most).2.b = r.b
    unfold textP
    split
    · exact takeR_b r 1
    · split
      · rfl
      · split <;> rfl
  · show r.p ≤ (textP r most).2.p ∧ (textP r most).2.p ≤ r.b.length
    obtain ⟨t1, t2⟩ := takeR_p (s := 1) h
    unfold textP
    split
    · exact ⟨t2, t1⟩
    · split
      · exact ⟨Nat.le_refl _, h⟩
      · split
        · exact ⟨Nat.le_refl _, h⟩
        · dsimp only; omega
  · obtain ⟨n, a1, a2, a3, a4, a5⟩ := text_v h3
    show (textP ⟨b.take k, q, 0⟩ most).2.e = 2 ∨ (textP ⟨b.take k, q, 0⟩ most).1 = (textP ⟨b, q, 0⟩ most).1 ∧ (textP ⟨b.take k, q, 0⟩ most).2 = ⟨b.take k, (textP ⟨b, q, 0⟩ most).2.p, 0⟩
    rw [a5]
    dsimp only
    by_cases hk : q + 1 ≤ k
    · rw [text_of (n := n) (by rw [List.length_take]; omega) (by rw [cut_mid hk]; exact a2) a3]
      by_cases hn : q + 1 + n ≤ k
      · rw [if_neg (by rw [List.length_take]; omega)]
        exact .inr ⟨by rw [cut_mid hn], rfl⟩
      · rw [if_pos (by rw [List.length_take]; omega)]
        exact .inl rfl
    · left
      have t := (take_s (r := ⟨b.take k, q, 0⟩) (s := 1) rfl (by show (b.take k).length < q + 1; rw [List.length_take]; omega)).2
      rw [textP, t, if_pos (by simp)]

/-! ### what was written is read -/
def Wt (p : Par α) (f : L) (x : α) : Prop := ∀ A C : L, p ⟨A ++ (f ++ C), A.length, 0⟩ = (x, ⟨A ++ (f ++ C), A.length + f.length, 0⟩)
theorem Wt.pu (x : α) : Wt (pu x) [] x := fun A C => rfl
theorem Wt.bd {p : Par α} {g : α → Par β} {f f' : L} {x : α} {y : β} (h : Wt p f x) (h' : Wt (g x) f' y) : Wt (bd p g) (f ++ f') y := fun A C => by
  have h1 := h A (f' ++ C)
  have h2 := h' (A ++ f) C
  unfold Mv.bd
  rw [List.append_assoc f f' C, h1]
  dsimp only
  rw [List.append_assoc A f, List.length_append] at h2
  rw [h2, List.length_append, Nat.add_assoc]
theorem Wt.bd0 {p : Par α} {g : α → Par β} {f' : L} {x : α} {y : β} (h : Wt p [] x) (h' : Wt (g x) f' y) : Wt (Mv.bd p g) f' y := h.bd h'
theorem Wt.bdE {p : Par α} {g : α → Par β} {f : L} {x : α} {y : β} (h : Wt p f x) (h' : Wt (g x) [] y) : Wt (Mv.bd p g) f y := by
  have := h.bd h'
  rwa [List.append_nil] at this
theorem Wt.tk {n s : Nat} (h : n < 256 ^ s) : Wt (tk s) (be n s) n := fun A C => by
  have t := take_be A C n s
  show (takeV _ s, takeR _ s) = _
  rw [t.1, t.2, Nat.mod_eq_of_lt h, be_len]
theorem Wt.tx {x : L} {most : Nat} (h : x.length ≤ most) (h2 : most ≤ 255) : Wt (txP most) (Mv.tx x) x := fun A C => by
  have e : cut255 x = x := List.take_of_length_le (by omega)
  have lb := be_len x.length 1
  have et : Mv.tx x = be x.length 1 ++ x := by rw [Mv.tx, e]
  have en : num (be x.length 1) = x.length := by rw [num_be]; exact Nat.mod_eq_of_lt (by omega)
  show textP _ _ = _
  rw [et, List.append_assoc, text_of (n := x.length) (by simp only [List.length_append, lb]; omega) (by rw [List.drop_left, List.take_append_of_le_length (by omega), List.take_of_length_le (by omega), en]) h]
  rw [if_neg (by simp only [List.length_append, lb]; omega)]
  refine Prod.ext ?_ ?_
  · dsimp only
    rw [← List.append_assoc A, show A.length + 1 = (A ++ be x.length 1).length by rw [List.length_append, lb], List.drop_left, List.take_append_of_le_length (Nat.le_refl _), List.take_length]
  · dsimp only
    rw [List.length_append, lb, Nat.add_assoc]
theorem Wt.rep [Inhabited α] {p : Par α} {w : α → L} {l : List α} (h : ∀ i, i < l.length → Wt p (w (l.getD i default)) (l.getD i default)) : ∀ q, q ≤ l.length → Wt (rep p q) ((l.take q).map w).flatten (l.take q)
  | 0, _ => Wt.pu []
  | q + 1, hq => by
    rw [fl_more (by omega), takeD (by omega)]
    exact (Wt.rep h q (by omega)).bd ((h q (by omega)).bdE (Wt.pu _))

/-! ### what is read was written -/
def Rt (p : Par α) (R : α → L → Prop) : Prop := ∀ (b : L) (q : Nat), q ≤ b.length → (p ⟨b, q, 0⟩).2.e = 0 → ∃ l, R (p ⟨b, q, 0⟩).1 l ∧ b.take (p ⟨b, q, 0⟩).2.p = b.take q ++ l
theorem Rt.mono {p : Par α} {R R' : α → L → Prop} (h : Rt p R) (hr : ∀ x l, R x l → R' x l) : Rt p R' := fun b q h1 h2 => by
  obtain ⟨l, a, b⟩ := h b q h1 h2
  exact ⟨l, hr _ _ a, b⟩
theorem Rt.pu (x : α) : Rt (pu x) fun y l => y = x ∧ l = [] := fun b q _ _ => ⟨[], ⟨rfl, rfl⟩, by rw [List.append_nil]; rfl⟩
theorem Rt.fl {x : Int} (hx : x ≠ 0) {R : Unit → L → Prop} : Rt (fl x) R := fun b q _ h => absurd h hx
theorem Rt.bd {p : Par α} {g : α → Par β} {R : α → L → Prop} {R' : α → β → L → Prop} (hp : Pf p) (hg : ∀ x, Pf (g x)) (h : Rt p R) (h' : ∀ x, Rt (g x) (R' x)) : Rt (bd p g) fun y l => ∃ x l1 l2, R x l1 ∧ R' x y l2 ∧ l = l1 ++ l2 := fun b q h1 h2 => by
  have h2' : (g (p ⟨b, q, 0⟩).1 (p ⟨b, q, 0⟩).2).2.e = 0 := h2
  have e0 : (p ⟨b, q, 0⟩).2.e = 0 := (hg _).e0 h2'
  obtain ⟨l1, r1, t1⟩ := h b q h1 e0
  have hm := (hp.mo ⟨b, q, 0⟩ h1).2
  have hq := hp.eq e0
  show ∃ l, (∃ x l1 l2, R x l1 ∧ R' x (g (p ⟨b, q, 0⟩).1 (p ⟨b, q, 0⟩).2).1 l2 ∧ l = l1 ++ l2) ∧ b.take (g (p ⟨b, q, 0⟩).1 (p ⟨b, q, 0⟩).2).2.p = b.take q ++ l
  generalize p ⟨b, q, 0⟩ = z at *
  obtain ⟨x, zb, zp, ze⟩ := z
  simp only [Prod.mk.injEq, Rd.mk.injEq, true_and] at hq
  obtain ⟨rfl, rfl⟩ := hq
  dsimp only at *
  obtain ⟨l2, r2, t2⟩ := h' x zb zp hm h2'
  exact ⟨l1 ++ l2, ⟨x, l1, l2, r1, r2, rfl⟩, by rw [t2, t1, List.append_assoc]⟩
theorem be_num : ∀ l : L, be (num l) l.length = l
  | [] => rfl
  | c :: l => by
    have hl : num l < 256 ^ l.length := by have := num_take (l := l) l.length (Nat.le_refl _); rwa [List.take_length] at this
    have hc := c.toNat_lt
    rw [List.length_cons, be, num_cons]
    have e1 : be (c.toNat * 256 ^ l.length + num l) l.length = l := by
      rw [← be_mod, Nat.add_comm, Nat.add_mul_mod_self_right, be_mod]; exact be_num l
    have e2 : (c.toNat * 256 ^ l.length + num l) / 256 ^ l.length = c.toNat := by
      rw [Nat.add_comm, Nat.add_mul_div_right _ _ (Nat.pow_pos (by decide)), Nat.div_eq_of_lt hl, Nat.zero_add]
    rw [e1, e2]
    congr 1
    apply UInt8.toNat_inj.1
    rw [UInt8.toNat_ofNat']; omega
theorem Rt.tk (s : Nat) : Rt (tk s) fun n l => l = be n s ∧ n < 256 ^ s := fun b q h1 h2 => by
  have hs : q + s ≤ b.length := by
    by_cases hh : b.length < q + s
    · have : (takeR ⟨b, q, 0⟩ s).e = 0 := h2
      rw [(take_s (r := ⟨b, q, 0⟩) rfl hh).2] at this; cases this
    · omega
  have t := take_v (r := ⟨b, q, 0⟩) rfl hs
  refine ⟨(b.drop q).take s, ⟨?_, takeV_lt ⟨b, q, 0⟩ s⟩, ?_⟩
  · show _ = be (takeV ⟨b, q, 0⟩ s) s
    rw [t.1]
    have := be_num ((b.drop q).take s)
    have hl : ((b.drop q).take s).length = s := by rw [List.length_take, List.length_drop]; omega
    rw [hl] at this
    exact this.symm
  · show b.take (takeR ⟨b, q, 0⟩ s).p = _
    rw [t.2]
    exact List.take_add
theorem Rt.tx {most : Nat} (hm : most ≤ 255) : Rt (txP most) fun x l => l = Mv.tx x ∧ x.length ≤ most := fun b q h1 h2 => by
  obtain ⟨n, a1, a2, a3, a4, a5⟩ := text_v h2
  show ∃ l, (l = Mv.tx (textP ⟨b, q, 0⟩ most).1 ∧ (textP ⟨b, q, 0⟩ most).1.length ≤ most) ∧ b.take (textP ⟨b, q, 0⟩ most).2.p = b.take q ++ l
  rw [a5]
  dsimp only
  have hl : ((b.drop (q + 1)).take n).length = n := by rw [List.length_take, List.length_drop]; omega
  have h1 : ((b.drop q).take 1).length = 1 := by rw [List.length_take, List.length_drop]; omega
  have e : cut255 ((b.drop (q + 1)).take n) = (b.drop (q + 1)).take n := List.take_of_length_le (by omega)
  have hb := be_num ((b.drop q).take 1)
  rw [h1, ← a2] at hb
  refine ⟨(b.drop q).take 1 ++ (b.drop (q + 1)).take n, ⟨?_, by omega⟩, ?_⟩
  · rw [Mv.tx, e, hl, hb]
  · rw [← List.append_assoc, ← List.take_add, ← List.take_add]
theorem Rt.rep {p : Par α} {w : α → L} {G : α → Prop} (hp : Pf p) (h : Rt p fun x l => l = w x ∧ G x) : ∀ n, Rt (rep p n) fun xs l => l = (xs.map w).flatten ∧ xs.length = n ∧ ∀ x ∈ xs, G x
  | 0 => (Rt.pu []).mono fun x l ⟨h1, h2⟩ => by subst h1; subst h2; simp
  | n + 1 => by
    refine (Rt.bd (hp.rep n) (fun _ => hp.bd fun _ => Pf.pu _) (Rt.rep hp h n) fun xs => Rt.bd hp (fun _ => Pf.pu _) h fun x => Rt.pu _).mono fun ys l hh => ?_
    obtain ⟨xs, l1, l2, ⟨rfl, e2, e3⟩, ⟨x, l3, l4, ⟨rfl, e5⟩, ⟨rfl, rfl⟩, rfl⟩, rfl⟩ := hh
    refine ⟨by simp, by simp [e2], fun y hy => ?_⟩
    rcases List.mem_append.1 hy with h | h
    · exact e3 y h
    · rw [List.mem_singleton.1 h]; exact e5
theorem rep_len {p : Par α} (r : Rd) : ∀ n, (rep p n r).1.length = n
  | 0 => rfl
  | n + 1 => by
    show ((rep p n r).1 ++ [_]).length = _
    rw [List.length_append, rep_len r n]; rfl
end
end Go.Proofs.Ytmfonbehcfjjgaa.Mv
