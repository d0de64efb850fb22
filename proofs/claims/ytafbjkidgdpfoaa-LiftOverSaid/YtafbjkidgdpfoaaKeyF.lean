/- Keys: the statement KeyCuts. Under no condition. -/
import Derived.Test.YtafbjkidgdpfoaaKeyE
namespace Go.Proofs.Ytafbjkidgdpfoaa.Mv
open Go Go.Proofs
set_option linter.unusedSimpArgs false
set_option linter.unusedVariables false
set_option maxRecDepth 10000
set_option maxHeartbeats 4000000
attribute [local irreducible] AW AO AR

theorem lt_mx (k a b : L) : lt k (mxS a b) = (lt k a || lt k b) := by
  unfold mxS
  split
  · rename_i h
    cases h2 : lt k b with
    | false => simp
    | true => simp [lt_of_lt_le h2 h]
  · rename_i h
    have h' : lt a b = true := by simpa using h
    cases h2 : lt k a with
    | false => simp
    | true => simp [lt_trans h2 h']
theorem lt_mn (k a b : L) : lt k (mnS a b) = (lt k a && lt k b) := by
  unfold mnS
  split
  · rename_i h
    cases h2 : lt k a with
    | false => simp
    | true => simp [lt_of_lt_le h2 h]
  · rename_i h
    have h' : lt b a = true := by simpa using h
    cases h2 : lt k b with
    | false => simp
    | true => simp [lt_trans h2 h']
theorem eq_of_le {a b : L} (h1 : lt a b = false) (h2 : lt b a = false) : a = b := by
  rcases lt_total a b with h | h | h
  · rw [h] at h1; cases h1
  · exact h
  · rw [h] at h2; cases h2
theorem mx_comm (a b : L) : mxS a b = mxS b a := by
  unfold mxS
  split <;> split
  · exact eq_of_le ‹_› ‹_›
  · rfl
  · rfl
  · rename_i h1 h2
    have h1' : lt a b = true := by simpa using h1
    rw [lt_asymm h1'] at h2; exact absurd rfl h2
theorem mn_comm (a b : L) : mnS a b = mnS b a := by
  unfold mnS
  split <;> split
  · exact eq_of_le ‹_› ‹_›
  · rfl
  · rfl
  · rename_i h1 h2
    have h1' : lt b a = true := by simpa using h1
    rw [lt_asymm h1'] at h2; exact absurd rfl h2
theorem em_in {lo hi : L} {e : Bool} (h : emR lo hi e = true) (k : L) : inR lo hi e k = false := by
  simp only [emR, Bool.and_eq_true, Bool.not_eq_true'] at h
  obtain ⟨rfl, h⟩ := h
  simp only [inR]
  cases h2 : lt k lo with
  | true => rfl
  | false =>
    cases h3 : lt k hi with
    | false => rfl
    | true =>
      exfalso
      have := lt_of_lt_le h3 h
      rw [this] at h2; cases h2
theorem cut_in (l1 h1 : L) (e1 : Bool) (l2 h2 : L) (e2 : Bool) (k : L) : inR (mxS l1 l2) (cutHi l1 h1 e1 l2 h2 e2) (e1 || e2) k = (inR l1 h1 e1 k && inR l2 h2 e2 k) := by
  simp only [inR, lt_mx, cutHi]
  cases e1 <;> cases e2 <;> simp [lt_mn] <;> cases lt k l1 <;> cases lt k l2 <;> simp
theorem cS_in (l1 h1 : L) (e1 : Bool) (l2 h2 : L) (e2 : Bool) (k : L) : inR (cS l1 h1 e1 l2 h2 e2).1 (cS l1 h1 e1 l2 h2 e2).2.1 (cS l1 h1 e1 l2 h2 e2).2.2 k = (inR l1 h1 e1 k && inR l2 h2 e2 k) := by
  rw [← cut_in]
  unfold cS
  split
  · rename_i h
    rw [em_in (k := k) (lo := mxS l1 l2) h]
    simp [inR, lt_nil]
  · rfl
theorem cutHi_comm (l1 h1 : L) (e1 : Bool) (l2 h2 : L) (e2 : Bool) : cutHi l1 h1 e1 l2 h2 e2 = cutHi l2 h2 e2 l1 h1 e1 := by
  unfold cutHi
  cases e1 <;> cases e2 <;> simp [mn_comm]
theorem cS_comm (l1 h1 : L) (e1 : Bool) (l2 h2 : L) (e2 : Bool) : cS l1 h1 e1 l2 h2 e2 = cS l2 h2 e2 l1 h1 e1 := by
  unfold cS cutEm
  rw [cutHi_comm, mx_comm, Bool.or_comm]
theorem mx_idem (a b : L) : mxS (mxS a b) a = mxS a b := by
  cases h : lt a b with
  | false => simp [mxS, h, lt_irrefl]
  | true => simp [mxS, h, lt_asymm h]
theorem mn_idem (a b : L) : mnS (mnS a b) a = mnS a b := by
  cases h : lt b a with
  | false => simp [mnS, h, lt_irrefl]
  | true => simp [mnS, h, lt_asymm h]
theorem cS_idem (l1 h1 : L) (e1 : Bool) (l2 h2 : L) (e2 : Bool) : cS (cS l1 h1 e1 l2 h2 e2).1 (cS l1 h1 e1 l2 h2 e2).2.1 (cS l1 h1 e1 l2 h2 e2).2.2 l1 h1 e1 = cS l1 h1 e1 l2 h2 e2 := by
  cases hem : cutEm l1 h1 e1 l2 h2 e2 with
  | true =>
    have hc : cS l1 h1 e1 l2 h2 e2 = ([], [], true) := by simp [cS, hem]
    rw [hc]
    have : cutEm [] [] true l1 h1 e1 = true := by
      have h1 : cutHi [] [] true l1 h1 e1 = [] := by
        simp only [cutHi, if_true]
        cases e1 with
        | false => rfl
        | true => simp [mnS, lt_nil]
      simp [cutEm, emR, h1, lt_nil]
    simp [cS, this]
  | false =>
    have hc : cS l1 h1 e1 l2 h2 e2 = (mxS l1 l2, cutHi l1 h1 e1 l2 h2 e2, e1 || e2) := by simp [cS, hem]
    have h3 : cutHi (mxS l1 l2) (cutHi l1 h1 e1 l2 h2 e2) (e1 || e2) l1 h1 e1 = cutHi l1 h1 e1 l2 h2 e2 := by
      cases e1 <;> cases e2 <;> simp [cutHi, mn_idem]
      unfold mnS; split <;> rfl
    have h4 : (e1 || e2 || e1) = (e1 || e2) := by cases e1 <;> cases e2 <;> rfl
    rw [hc]
    have : cutEm (mxS l1 l2) (cutHi l1 h1 e1 l2 h2 e2) (e1 || e2) l1 h1 e1 = false := by
      have := hem
      unfold cutEm at this ⊢
      rw [h3, mx_idem, h4]; exact this
    simp only [cS, this, Bool.false_eq_true, if_false, h3, mx_idem, h4]
theorem lCuts (l1 h1 : L) (e1 : Bool) (l2 h2 : L) (e2 : Bool) (k : L) : Good Try.prog 10 [.agg [.s l1, .s h1, .b e1], .agg [.s l2, .s h2, .b e2], .s k] [] (.b true) [] := by
  have f1 := cS_in l1 h1 e1 l2 h2 e2 k
  have f2 := (cS_comm l1 h1 e1 l2 h2 e2).symm
  have f3 := cS_idem l1 h1 e1 l2 h2 e2
  refine Good.w tabOk mixed Try.func10 (N := 52) (by kernel_rfl) rfl (by (repeat (first | exact LE.nil | apply LE.cons)); done) (by (repeat (first | exact LE.nil | apply LE.cons)); done) fun D hD F => ?_
  repeat' (first
    | apply AO.nil
    | (apply AO.kG; first | (refine AO.gt rfl (fun h => ?_) (fun h => ?_) <;> (first | exact Bool.noConfusion h | exact absurd h (by decide) | (simp at h; done) | (rw [h]; try simp only [decide_eq_true_eq, decide_eq_false_iff_not, Int.not_lt, Int.not_le, ge_iff_le, gt_iff_lt, Bool.not_eq_true', Bool.not_eq_false', beq_iff_eq, beq_eq_false_iff_ne, ne_eq] at h; try rw [h]; try (exfalso; omega)) | skip)) | (refine AO.gf rfl (fun h => ?_) (fun h => ?_) <;> (first | exact Bool.noConfusion h | exact absurd h (by decide) | (simp at h; done) | (rw [h]; try simp only [decide_eq_true_eq, decide_eq_false_iff_not, Int.not_lt, Int.not_le, ge_iff_le, gt_iff_lt, Bool.not_eq_true', Bool.not_eq_false', beq_iff_eq, beq_eq_false_iff_ne, ne_eq] at h; try rw [h]; try (exfalso; omega)) | skip)) | refine AO.gs rfl ?_)
    | (apply AO.kCall 21; refine AO.call rfl (by (repeat constructor); done) (gAwake3) (by (repeat (first | exact LeL.nil | (refine LeL.cons (Le.refl _) ?_) | (refine LeL.cons Le.gr ?_) | (refine LeL.cons Le.nil ?_))); done) rfl ?_; skip)
    | (apply AO.kCall 20; refine AO.call rfl (by (repeat constructor); done) (gGreat3 _ _ _) (by (repeat (first | exact LeL.nil | (refine LeL.cons (Le.refl _) ?_) | (refine LeL.cons Le.gr ?_) | (refine LeL.cons Le.nil ?_))); done) rfl ?_; skip)
    | (apply AO.kCall 36; refine AO.call rfl (by (repeat constructor); done) (gCutS _ _ _ _ _ _) (by (repeat (first | exact LeL.nil | (refine LeL.cons (Le.refl _) ?_) | (refine LeL.cons Le.gr ?_) | (refine LeL.cons Le.nil ?_))); done) rfl ?_; skip)
    | (apply AO.kCall 34; refine AO.call rfl (by (repeat constructor); done) (gIn _ _ _ _) (by (repeat (first | exact LeL.nil | (refine LeL.cons (Le.refl _) ?_) | (refine LeL.cons Le.gr ?_) | (refine LeL.cons Le.nil ?_))); done) rfl ?_; skip)
    | (apply AO.kBox; refine AO.box (by (repeat constructor); done) rfl rfl ?_)
    | (apply AO.kAlloc; refine AO.alloc rfl (by (repeat constructor); done) rfl ?_)
    | (apply AO.kStore; first | refine AO.store rfl rfl rfl (by (repeat constructor); done) rfl ?_ | refine AO.storeB rfl rfl rfl rfl rfl rfl (by first | decide | omega | assumption | (simp only [List.length_take, List.length_drop, List.length_append, List.length_cons, List.length_nil, List.length_set]; omega) | (refine ⟨rfl, ?_⟩; first | omega | (simp only [List.length_take, List.length_drop, List.length_append, List.length_cons, List.length_nil, List.length_set]; omega)) | (simp only [List.length_take, List.length_drop, List.length_append, List.length_cons, List.length_nil, List.length_set] at *; omega)) ?_ | refine AO.storeB rfl rfl rfl rfl rfl (wrapB _) (by first | decide | omega | assumption | (simp only [List.length_take, List.length_drop, List.length_append, List.length_cons, List.length_nil, List.length_set]; omega) | (refine ⟨rfl, ?_⟩; first | omega | (simp only [List.length_take, List.length_drop, List.length_append, List.length_cons, List.length_nil, List.length_set]; omega)) | (simp only [List.length_take, List.length_drop, List.length_append, List.length_cons, List.length_nil, List.length_set] at *; omega)) ?_)
    | (apply AO.kAdd; refine AO.add rfl rfl (by first | decide | omega | assumption | (simp only [List.length_take, List.length_drop, List.length_append, List.length_cons, List.length_nil, List.length_set]; omega) | (refine ⟨rfl, ?_⟩; first | omega | (simp only [List.length_take, List.length_drop, List.length_append, List.length_cons, List.length_nil, List.length_set]; omega)) | (simp only [List.length_take, List.length_drop, List.length_append, List.length_cons, List.length_nil, List.length_set] at *; omega)) ?_)
    | (apply AO.kSub; refine AO.sub rfl rfl (by first | decide | omega | assumption | (simp only [List.length_take, List.length_drop, List.length_append, List.length_cons, List.length_nil, List.length_set]; omega) | (refine ⟨rfl, ?_⟩; first | omega | (simp only [List.length_take, List.length_drop, List.length_append, List.length_cons, List.length_nil, List.length_set]; omega)) | (simp only [List.length_take, List.length_drop, List.length_append, List.length_cons, List.length_nil, List.length_set] at *; omega)) ?_)
    | (apply AO.kCv; first | refine AO.bytes rfl rfl rfl rfl rfl rfl rfl rfl ?_ | refine AO.str rfl rfl rfl rfl rfl rfl rfl rfl (by first | decide | omega | assumption | (simp only [List.length_take, List.length_drop, List.length_append, List.length_cons, List.length_nil, List.length_set]; omega) | (refine ⟨rfl, ?_⟩; first | omega | (simp only [List.length_take, List.length_drop, List.length_append, List.length_cons, List.length_nil, List.length_set]; omega)) | (simp only [List.length_take, List.length_drop, List.length_append, List.length_cons, List.length_nil, List.length_set] at *; omega)) ?_)
    | (apply AO.kP; first | refine AO.p rfl (by (repeat constructor); done) ?_ | refine AO.pi rfl (by (repeat constructor); done) (by first | decide | omega | assumption | (simp only [List.length_take, List.length_drop, List.length_append, List.length_cons, List.length_nil, List.length_set]; omega) | (refine ⟨rfl, ?_⟩; first | omega | (simp only [List.length_take, List.length_drop, List.length_append, List.length_cons, List.length_nil, List.length_set]; omega)) | (simp only [List.length_take, List.length_drop, List.length_append, List.length_cons, List.length_nil, List.length_set] at *; omega)) ?_ | refine AO.loadB rfl rfl rfl rfl (by first | decide | omega | assumption | (simp only [List.length_take, List.length_drop, List.length_append, List.length_cons, List.length_nil, List.length_set]; omega) | (refine ⟨rfl, ?_⟩; first | omega | (simp only [List.length_take, List.length_drop, List.length_append, List.length_cons, List.length_nil, List.length_set]; omega)) | (simp only [List.length_take, List.length_drop, List.length_append, List.length_cons, List.length_nil, List.length_set] at *; omega)) ?_)
    | apply AW.seq
    | (apply AW.kR; refine AW.r (by kernel_rfl) ?_)
    | (apply AW.kC; refine AW.cond rfl rfl (fun h => ?_) (fun h => ?_) <;> (first | exact Bool.noConfusion h | exact absurd h (by decide) | (simp at h; done) | (rw [h]; try simp only [decide_eq_true_eq, decide_eq_false_iff_not, Int.not_lt, Int.not_le, ge_iff_le, gt_iff_lt, Bool.not_eq_true', Bool.not_eq_false', beq_iff_eq, beq_eq_false_iff_ne, ne_eq] at h; try rw [h]; try (exfalso; omega)) | skip))
    | apply AW.skip
    | apply AW.block
    | apply AW.out
    | (apply AW.kE; refine AW.exit rfl ?_)
    | apply AW.label
    | (apply AW.kRd; refine AW.rd (by kernel_rfl) ?_)
    | (apply AR.kAny; first | (apply AR.kG; first | (refine AR.gt rfl (by (repeat (first | exact LE.nil | apply LE.cons)); done) (fun h => ?_) (fun h => ?_) <;> (first | exact Bool.noConfusion h | exact absurd h (by decide) | (simp at h; done) | (rw [h]; try simp only [decide_eq_true_eq, decide_eq_false_iff_not, Int.not_lt, Int.not_le, ge_iff_le, gt_iff_lt, Bool.not_eq_true', Bool.not_eq_false', beq_iff_eq, beq_eq_false_iff_ne, ne_eq] at h; try rw [h]; try (exfalso; omega)) | skip)) | (refine AR.gf rfl (by (repeat (first | exact LE.nil | apply LE.cons)); done) (fun h => ?_) (fun h => ?_) <;> (first | exact Bool.noConfusion h | exact absurd h (by decide) | (simp at h; done) | (rw [h]; try simp only [decide_eq_true_eq, decide_eq_false_iff_not, Int.not_lt, Int.not_le, ge_iff_le, gt_iff_lt, Bool.not_eq_true', Bool.not_eq_false', beq_iff_eq, beq_eq_false_iff_ne, ne_eq] at h; try rw [h]; try (exfalso; omega)) | skip)) | refine AR.gs rfl (by (repeat (first | exact LE.nil | apply LE.cons)); done) ?_) | (apply AR.kCall 21; refine AR.call rfl (by (repeat constructor); done) (gAwake3) (by (repeat (first | exact LeL.nil | (refine LeL.cons (Le.refl _) ?_) | (refine LeL.cons Le.gr ?_) | (refine LeL.cons Le.nil ?_))); done) rfl (by (repeat (first | exact LE.nil | apply LE.cons)); done) ?_; skip) | (apply AR.kCall 20; refine AR.call rfl (by (repeat constructor); done) (gGreat3 _ _ _) (by (repeat (first | exact LeL.nil | (refine LeL.cons (Le.refl _) ?_) | (refine LeL.cons Le.gr ?_) | (refine LeL.cons Le.nil ?_))); done) rfl (by (repeat (first | exact LE.nil | apply LE.cons)); done) ?_; skip) | (apply AR.kCall 36; refine AR.call rfl (by (repeat constructor); done) (gCutS _ _ _ _ _ _) (by (repeat (first | exact LeL.nil | (refine LeL.cons (Le.refl _) ?_) | (refine LeL.cons Le.gr ?_) | (refine LeL.cons Le.nil ?_))); done) rfl (by (repeat (first | exact LE.nil | apply LE.cons)); done) ?_; skip) | (apply AR.kCall 34; refine AR.call rfl (by (repeat constructor); done) (gIn _ _ _ _) (by (repeat (first | exact LeL.nil | (refine LeL.cons (Le.refl _) ?_) | (refine LeL.cons Le.gr ?_) | (refine LeL.cons Le.nil ?_))); done) rfl (by (repeat (first | exact LE.nil | apply LE.cons)); done) ?_; skip) | (apply AR.kBox; refine AR.box (by (repeat constructor); done) rfl rfl (by (repeat (first | exact LE.nil | apply LE.cons)); done) ?_) | (apply AR.kAlloc; refine AR.alloc rfl (by (repeat constructor); done) rfl (by (repeat (first | exact LE.nil | apply LE.cons)); done) ?_) | (apply AR.kStore; refine AR.store rfl rfl rfl (by (repeat constructor); done) rfl (by (repeat (first | exact LE.nil | apply LE.cons)); done) ?_) | (apply AR.kAdd; refine AR.add rfl rfl (by first | decide | omega | assumption | (simp only [List.length_take, List.length_drop, List.length_append, List.length_cons, List.length_nil, List.length_set]; omega) | (refine ⟨rfl, ?_⟩; first | omega | (simp only [List.length_take, List.length_drop, List.length_append, List.length_cons, List.length_nil, List.length_set]; omega)) | (simp only [List.length_take, List.length_drop, List.length_append, List.length_cons, List.length_nil, List.length_set] at *; omega)) (by (repeat (first | exact LE.nil | apply LE.cons)); done) ?_) | (apply AR.kSub; refine AR.sub rfl rfl (by first | decide | omega | assumption | (simp only [List.length_take, List.length_drop, List.length_append, List.length_cons, List.length_nil, List.length_set]; omega) | (refine ⟨rfl, ?_⟩; first | omega | (simp only [List.length_take, List.length_drop, List.length_append, List.length_cons, List.length_nil, List.length_set]; omega)) | (simp only [List.length_take, List.length_drop, List.length_append, List.length_cons, List.length_nil, List.length_set] at *; omega)) (by (repeat (first | exact LE.nil | apply LE.cons)); done) ?_) | (apply AR.kP; first | refine AR.p rfl (by (repeat constructor); done) (by (repeat (first | exact LE.nil | apply LE.cons)); done) ?_ | refine AR.pi rfl (by (repeat constructor); done) (by first | decide | omega | assumption | (simp only [List.length_take, List.length_drop, List.length_append, List.length_cons, List.length_nil, List.length_set]; omega) | (refine ⟨rfl, ?_⟩; first | omega | (simp only [List.length_take, List.length_drop, List.length_append, List.length_cons, List.length_nil, List.length_set]; omega)) | (simp only [List.length_take, List.length_drop, List.length_append, List.length_cons, List.length_nil, List.length_set] at *; omega)) (by (repeat (first | exact LE.nil | apply LE.cons)); done) ?_))
    | (apply AR.kNil; refine AR.nil (by kernel_rfl) (by kernel_rfl) ?_))
  all_goals (refine AW.ret (hD rfl ?_); (repeat' (first | apply Lx.s | apply Lx.b | apply Lx.i | apply LxL.cons | exact LxL.nil | apply Lx.tup | apply Lx.agg | apply Lx.refl)) <;> (try with_reducible rfl))
  all_goals (exfalso; simp_all)
end Go.Proofs.Ytafbjkidgdpfoaa.Mv
