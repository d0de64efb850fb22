/- Keys: the statement KeyUnder. Under no condition. -/
import Derived.Test.YtafbjkidgdpfoaaKeyC
namespace Go.Proofs.Ytafbjkidgdpfoaa.Mv
open Go Go.Proofs
set_option linter.unusedSimpArgs false
set_option linter.unusedVariables false
set_option maxRecDepth 10000
set_option maxHeartbeats 4000000
attribute [local irreducible] AW AO AR

theorem undN_spec (lo hi : L) (e : Bool) (n : Nat) : wiS lo hi e (lo.take (undN lo hi e n)) = true ∧ ∀ m, undN lo hi e n < m → m ≤ n → wiS lo hi e (lo.take m) = false := by
  induction n with
  | zero => exact ⟨by simp [undN, wi_nil], fun m h1 h2 => by simp [undN] at h1; omega⟩
  | succ n ih =>
    simp only [undN]
    split
    · rename_i h
      exact ⟨h, fun m h1 h2 => by omega⟩
    · rename_i h
      refine ⟨ih.1, fun m h1 h2 => ?_⟩
      by_cases hm : m = n + 1
      · subst hm; simpa using h
      · exact ih.2 m h1 (by omega)
theorem lt_of_lt_le {a b c : L} (h1 : lt a b = true) (h2 : lt c b = false) : lt a c = true := by
  rcases lt_total b c with h | h | h
  · exact lt_trans h1 h
  · subst h; exact h1
  · rw [h] at h2; cases h2
theorem le_trans' {a b c : L} (h1 : lt b a = false) (h2 : lt c b = false) : lt c a = false := by
  cases h : lt c a with
  | false => rfl
  | true =>
    rcases lt_total b c with h3 | h3 | h3
    · rw [lt_trans h3 h] at h1; cases h1
    · subst h3; rw [h] at h1; cases h1
    · rw [h3] at h2; cases h2
theorem und_facts (lo hi : L) (e : Bool) (k : L) : hp lo (undS lo hi e) = true ∧ (undS lo hi e).length ≤ lo.length ∧ (inR lo hi e k = true → hp k (undS lo hi e) = true) ∧ (emR lo hi e = true → undS lo hi e = []) ∧
    (emR lo hi e = false → (undS lo hi e).length < lo.length → succOk (lo.take ((undS lo hi e).length + 1)) = true ∧ inR lo hi e (succS (lo.take ((undS lo hi e).length + 1))) = true) := by
  cases hem : emR lo hi e with
  | true =>
    have : undS lo hi e = [] := by simp [undS, hem]
    rw [this]
    exact ⟨hp_nil lo, by simp, fun _ => hp_nil k, fun _ => rfl, fun h => (nomatch h)⟩
  | false =>
    have hu : undS lo hi e = lo.take (undN lo hi e lo.length) := by simp [undS, hem]
    have hle := undN_le lo hi e lo.length
    obtain ⟨w1, w2⟩ := undN_spec lo hi e lo.length
    have hlen : (lo.take (undN lo hi e lo.length)).length = undN lo hi e lo.length := by simp; omega
    rw [hu, hlen]
    simp only [wiS, Bool.and_eq_true, Bool.or_eq_true, Bool.not_eq_true'] at w1
    obtain ⟨w3, w4⟩ := w1
    refine ⟨w3, hle, fun hk => ?_, fun h => (nomatch h), fun _ hlt => ?_⟩
    · cases hq : hp k (lo.take (undN lo hi e lo.length)) with
      | true => rfl
      | false =>
        exfalso
        simp only [inR, Bool.and_eq_true, Bool.or_eq_true, Bool.not_eq_true'] at hk
        have h1 := ((succ_facts (lo.take (undN lo hi e lo.length)) lo).1 w3).1
        have h2 := le_trans' h1 hk.1
        obtain ⟨h3, h4⟩ := (succ_facts (lo.take (undN lo hi e lo.length)) k).2.1 h2 hq
        rcases w4 with w4 | w4
        · rw [h3] at w4; cases w4
        · rcases hk.2 with h5 | h5
          · rw [w4.1] at h5; cases h5
          · rw [lt_of_lt_le h5 w4.2] at h4; cases h4
    · have h1 := w2 (undN lo hi e lo.length + 1) (by omega) (by omega)
      have h2 : hp lo (lo.take (undN lo hi e lo.length + 1)) = true := hp_pre.2 ⟨lo.drop (undN lo hi e lo.length + 1), (List.take_append_drop _ _).symm⟩
      generalize lo.take (undN lo hi e lo.length + 1) = q at *
      simp only [wiS, h2, Bool.true_and, Bool.or_eq_false_iff, Bool.not_eq_false'] at h1
      refine ⟨h1.1, ?_⟩
      have h3 := lt_asymm (((succ_facts q lo).1 h2).2 h1.1)
      simp only [inR, h3, Bool.not_false, Bool.true_and]
      cases e with
      | false => rfl
      | true => simpa using h1.2
theorem lUnder (lo hi : L) (e : Bool) (k : L) : Good Try.prog 6 [.agg [.s lo, .s hi, .b e], .s k] [] (.b true) [] := by
  obtain ⟨f1, f2, f3, f4, f5⟩ := und_facts lo hi e k
  refine Good.w tabOk mixed Try.func6 (N := 65) (by kernel_rfl) rfl (by (repeat (first | exact LE.nil | apply LE.cons)); done) (by (repeat (first | exact LE.nil | apply LE.cons)); done) fun D hD F => ?_
  repeat' (first
    | apply AO.nil
    | (apply AO.kG; first | (refine AO.gt rfl (fun h => ?_) (fun h => ?_) <;> (first | exact Bool.noConfusion h | exact absurd h (by decide) | (simp at h; done) | (rw [h]; try simp only [decide_eq_true_eq, decide_eq_false_iff_not, Int.not_lt, Int.not_le, ge_iff_le, gt_iff_lt, Bool.not_eq_true', Bool.not_eq_false', beq_iff_eq, beq_eq_false_iff_ne, ne_eq] at h; try rw [h]; try (exfalso; omega)) | skip)) | (refine AO.gf rfl (fun h => ?_) (fun h => ?_) <;> (first | exact Bool.noConfusion h | exact absurd h (by decide) | (simp at h; done) | (rw [h]; try simp only [decide_eq_true_eq, decide_eq_false_iff_not, Int.not_lt, Int.not_le, ge_iff_le, gt_iff_lt, Bool.not_eq_true', Bool.not_eq_false', beq_iff_eq, beq_eq_false_iff_ne, ne_eq] at h; try rw [h]; try (exfalso; omega)) | skip)) | refine AO.gs rfl ?_)
    | (apply AO.kCall 21; refine AO.call rfl (by (repeat constructor); done) (gAwake3) (by (repeat (first | exact LeL.nil | (refine LeL.cons (Le.refl _) ?_) | (refine LeL.cons Le.gr ?_) | (refine LeL.cons Le.nil ?_))); done) rfl ?_; skip)
    | (apply AO.kCall 20; refine AO.call rfl (by (repeat constructor); done) (gGreat3 _ _ _) (by (repeat (first | exact LeL.nil | (refine LeL.cons (Le.refl _) ?_) | (refine LeL.cons Le.gr ?_) | (refine LeL.cons Le.nil ?_))); done) rfl ?_; skip)
    | (apply AO.kCall 22; refine AO.call rfl (by (repeat constructor); done) (gUnder _ _ _ ?_) (by (repeat (first | exact LeL.nil | (refine LeL.cons (Le.refl _) ?_) | (refine LeL.cons Le.gr ?_) | (refine LeL.cons Le.nil ?_))); done) rfl ?_; (· first | omega | (have q := great2_false (a := lo) (b := hi) ‹_›; omega) | (have q := great2_false (a := lo) (b := hi) ‹_›; simp only [List.length_take]; omega)); skip)
    | (apply AO.kCall 26; refine AO.call rfl (by (repeat constructor); done) (gSucc _ ?_) (by (repeat (first | exact LeL.nil | (refine LeL.cons (Le.refl _) ?_) | (refine LeL.cons Le.gr ?_) | (refine LeL.cons Le.nil ?_))); done) rfl ?_; (· first | omega | (have q := great2_false (a := lo) (b := hi) ‹_›; omega) | (have q := great2_false (a := lo) (b := hi) ‹_›; simp only [List.length_take]; omega)); skip)
    | (apply AO.kCall 24; refine AO.call rfl (by (repeat constructor); done) (gHas _ _) (by (repeat (first | exact LeL.nil | (refine LeL.cons (Le.refl _) ?_) | (refine LeL.cons Le.gr ?_) | (refine LeL.cons Le.nil ?_))); done) rfl ?_; skip)
    | (apply AO.kCall 23; refine AO.call rfl (by (repeat constructor); done) (gIn' _ _ _ _) (by (repeat (first | exact LeL.nil | (refine LeL.cons (Le.refl _) ?_) | (refine LeL.cons Le.gr ?_) | (refine LeL.cons Le.nil ?_))); done) rfl ?_; skip)
    | (apply AO.kCall 25; refine AO.call rfl (by (repeat constructor); done) (gEmpty' _ _ _) (by (repeat (first | exact LeL.nil | (refine LeL.cons (Le.refl _) ?_) | (refine LeL.cons Le.gr ?_) | (refine LeL.cons Le.nil ?_))); done) rfl ?_; skip)
    | (apply AO.kBox; refine AO.box (by (repeat constructor); done) rfl rfl ?_)
    | (apply AO.kAlloc; refine AO.alloc rfl (by (repeat constructor); done) rfl ?_)
    | (apply AO.kStore; first | refine AO.store rfl rfl rfl (by (repeat constructor); done) rfl ?_ | refine AO.storeB rfl rfl rfl rfl rfl rfl (by first | omega | (have q := great2_false (a := lo) (b := hi) ‹_›; omega) | (have q := great2_false (a := lo) (b := hi) ‹_›; simp only [List.length_take]; omega)) ?_ | refine AO.storeB rfl rfl rfl rfl rfl (wrapB _) (by first | omega | (have q := great2_false (a := lo) (b := hi) ‹_›; omega) | (have q := great2_false (a := lo) (b := hi) ‹_›; simp only [List.length_take]; omega)) ?_)
    | (apply AO.kAdd; refine AO.add rfl rfl (by first | omega | (have q := great2_false (a := lo) (b := hi) ‹_›; omega) | (have q := great2_false (a := lo) (b := hi) ‹_›; simp only [List.length_take]; omega)) ?_)
    | (apply AO.kSub; refine AO.sub rfl rfl (by first | omega | (have q := great2_false (a := lo) (b := hi) ‹_›; omega) | (have q := great2_false (a := lo) (b := hi) ‹_›; simp only [List.length_take]; omega)) ?_)
    | (apply AO.kCv; first | refine AO.bytes rfl rfl rfl rfl rfl rfl rfl rfl ?_ | refine AO.str rfl rfl rfl rfl rfl rfl rfl rfl (by first | omega | (have q := great2_false (a := lo) (b := hi) ‹_›; omega) | (have q := great2_false (a := lo) (b := hi) ‹_›; simp only [List.length_take]; omega)) ?_)
    | (apply AO.kP; first | refine AO.p rfl (by (repeat constructor); done) ?_ | refine AO.pi rfl (by (repeat constructor); done) (by first | omega | (have q := great2_false (a := lo) (b := hi) ‹_›; omega) | (have q := great2_false (a := lo) (b := hi) ‹_›; simp only [List.length_take]; omega)) ?_ | refine AO.loadB rfl rfl rfl rfl (by first | omega | (have q := great2_false (a := lo) (b := hi) ‹_›; omega) | (have q := great2_false (a := lo) (b := hi) ‹_›; simp only [List.length_take]; omega)) ?_)
    | apply AW.seq
    | (apply AW.kR; refine AW.r (by kernel_rfl) ?_)
    | (apply AW.kC; refine AW.cond rfl rfl (fun h => ?_) (fun h => ?_) <;> (first | exact Bool.noConfusion h | exact absurd h (by decide) | (simp at h; done) | (rw [h]; try simp only [decide_eq_true_eq, decide_eq_false_iff_not, Int.not_lt, Int.not_le, ge_iff_le, gt_iff_lt, Bool.not_eq_true', Bool.not_eq_false', beq_iff_eq, beq_eq_false_iff_ne, ne_eq] at h; try rw [h]; try (exfalso; omega)) | skip))
    | apply AW.skip
    | apply AW.block
    | apply AW.out
    | (apply AW.kE; refine AW.exit rfl ?_)
    | apply AW.label
    | (apply AW.kRd; refine AW.rd (by kernel_rfl) ?_)
    | (apply AR.kAny; first | (apply AR.kG; first | (refine AR.gt rfl (by (repeat (first | exact LE.nil | apply LE.cons)); done) (fun h => ?_) (fun h => ?_) <;> (first | exact Bool.noConfusion h | exact absurd h (by decide) | (simp at h; done) | (rw [h]; try simp only [decide_eq_true_eq, decide_eq_false_iff_not, Int.not_lt, Int.not_le, ge_iff_le, gt_iff_lt, Bool.not_eq_true', Bool.not_eq_false', beq_iff_eq, beq_eq_false_iff_ne, ne_eq] at h; try rw [h]; try (exfalso; omega)) | skip)) | (refine AR.gf rfl (by (repeat (first | exact LE.nil | apply LE.cons)); done) (fun h => ?_) (fun h => ?_) <;> (first | exact Bool.noConfusion h | exact absurd h (by decide) | (simp at h; done) | (rw [h]; try simp only [decide_eq_true_eq, decide_eq_false_iff_not, Int.not_lt, Int.not_le, ge_iff_le, gt_iff_lt, Bool.not_eq_true', Bool.not_eq_false', beq_iff_eq, beq_eq_false_iff_ne, ne_eq] at h; try rw [h]; try (exfalso; omega)) | skip)) | refine AR.gs rfl (by (repeat (first | exact LE.nil | apply LE.cons)); done) ?_) | (apply AR.kCall 21; refine AR.call rfl (by (repeat constructor); done) (gAwake3) (by (repeat (first | exact LeL.nil | (refine LeL.cons (Le.refl _) ?_) | (refine LeL.cons Le.gr ?_) | (refine LeL.cons Le.nil ?_))); done) rfl (by (repeat (first | exact LE.nil | apply LE.cons)); done) ?_; skip) | (apply AR.kCall 20; refine AR.call rfl (by (repeat constructor); done) (gGreat3 _ _ _) (by (repeat (first | exact LeL.nil | (refine LeL.cons (Le.refl _) ?_) | (refine LeL.cons Le.gr ?_) | (refine LeL.cons Le.nil ?_))); done) rfl (by (repeat (first | exact LE.nil | apply LE.cons)); done) ?_; skip) | (apply AR.kCall 22; refine AR.call rfl (by (repeat constructor); done) (gUnder _ _ _ ?_) (by (repeat (first | exact LeL.nil | (refine LeL.cons (Le.refl _) ?_) | (refine LeL.cons Le.gr ?_) | (refine LeL.cons Le.nil ?_))); done) rfl (by (repeat (first | exact LE.nil | apply LE.cons)); done) ?_; (· first | omega | (have q := great2_false (a := lo) (b := hi) ‹_›; omega) | (have q := great2_false (a := lo) (b := hi) ‹_›; simp only [List.length_take]; omega)); skip) | (apply AR.kCall 26; refine AR.call rfl (by (repeat constructor); done) (gSucc _ ?_) (by (repeat (first | exact LeL.nil | (refine LeL.cons (Le.refl _) ?_) | (refine LeL.cons Le.gr ?_) | (refine LeL.cons Le.nil ?_))); done) rfl (by (repeat (first | exact LE.nil | apply LE.cons)); done) ?_; (· first | omega | (have q := great2_false (a := lo) (b := hi) ‹_›; omega) | (have q := great2_false (a := lo) (b := hi) ‹_›; simp only [List.length_take]; omega)); skip) | (apply AR.kCall 24; refine AR.call rfl (by (repeat constructor); done) (gHas _ _) (by (repeat (first | exact LeL.nil | (refine LeL.cons (Le.refl _) ?_) | (refine LeL.cons Le.gr ?_) | (refine LeL.cons Le.nil ?_))); done) rfl (by (repeat (first | exact LE.nil | apply LE.cons)); done) ?_; skip) | (apply AR.kCall 23; refine AR.call rfl (by (repeat constructor); done) (gIn' _ _ _ _) (by (repeat (first | exact LeL.nil | (refine LeL.cons (Le.refl _) ?_) | (refine LeL.cons Le.gr ?_) | (refine LeL.cons Le.nil ?_))); done) rfl (by (repeat (first | exact LE.nil | apply LE.cons)); done) ?_; skip) | (apply AR.kCall 25; refine AR.call rfl (by (repeat constructor); done) (gEmpty' _ _ _) (by (repeat (first | exact LeL.nil | (refine LeL.cons (Le.refl _) ?_) | (refine LeL.cons Le.gr ?_) | (refine LeL.cons Le.nil ?_))); done) rfl (by (repeat (first | exact LE.nil | apply LE.cons)); done) ?_; skip) | (apply AR.kBox; refine AR.box (by (repeat constructor); done) rfl rfl (by (repeat (first | exact LE.nil | apply LE.cons)); done) ?_) | (apply AR.kAlloc; refine AR.alloc rfl (by (repeat constructor); done) rfl (by (repeat (first | exact LE.nil | apply LE.cons)); done) ?_) | (apply AR.kStore; refine AR.store rfl rfl rfl (by (repeat constructor); done) rfl (by (repeat (first | exact LE.nil | apply LE.cons)); done) ?_) | (apply AR.kAdd; refine AR.add rfl rfl (by first | omega | (have q := great2_false (a := lo) (b := hi) ‹_›; omega) | (have q := great2_false (a := lo) (b := hi) ‹_›; simp only [List.length_take]; omega)) (by (repeat (first | exact LE.nil | apply LE.cons)); done) ?_) | (apply AR.kSub; refine AR.sub rfl rfl (by first | omega | (have q := great2_false (a := lo) (b := hi) ‹_›; omega) | (have q := great2_false (a := lo) (b := hi) ‹_›; simp only [List.length_take]; omega)) (by (repeat (first | exact LE.nil | apply LE.cons)); done) ?_) | (apply AR.kP; first | refine AR.p rfl (by (repeat constructor); done) (by (repeat (first | exact LE.nil | apply LE.cons)); done) ?_ | refine AR.pi rfl (by (repeat constructor); done) (by first | omega | (have q := great2_false (a := lo) (b := hi) ‹_›; omega) | (have q := great2_false (a := lo) (b := hi) ‹_›; simp only [List.length_take]; omega)) (by (repeat (first | exact LE.nil | apply LE.cons)); done) ?_))
    | (apply AR.kNil; refine AR.nil (by kernel_rfl) (by kernel_rfl) ?_))
  all_goals (refine AW.ret (hD rfl ?_); (repeat' (first | apply Lx.s | apply Lx.b | apply Lx.i | apply LxL.cons | exact LxL.nil | apply Lx.tup | apply Lx.agg | apply Lx.refl)) <;> (try with_reducible rfl))
  all_goals (exfalso; (try simp_all) <;> omega)
end Go.Proofs.Ytafbjkidgdpfoaa.Mv
