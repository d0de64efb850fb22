/- Lifts: the statements of three joined lifts and of the way back. Under no condition. -/
import Derived.Test.YtafbjkidgdpfoaaLiftL
namespace Go.Proofs.Ytafbjkidgdpfoaa.Mv
open Go Go.Proofs
set_option linter.unusedSimpArgs false
set_option linter.unusedVariables false
set_option maxRecDepth 10000
set_option maxHeartbeats 4000000
attribute [local irreducible] AW AO AR

theorem hp_self (p : L) : hp p p = true := by rw [hp_pre]; exact ⟨[], by simp⟩
theorem hp_app_nil (p m : L) : hp p (p ++ m) = true → m = [] := fun h => by
  have := hp_len h
  simp at this
  exact List.eq_nil_of_length_eq_zero (by omega)
theorem jA (s1 s2 r a2 : L) : joinOk s1 (s2 ++ r) s2 a2 = true ∧ joinS s1 (s2 ++ r) s2 a2 = s1 ∧ joinA s1 (s2 ++ r) s2 a2 = a2 ++ r := by
  simp [joinOk, joinS, joinA, hp_app]
theorem jB (s1 a1 m a2 : L) : joinOk s1 a1 (a1 ++ m) a2 = true ∧ joinS s1 a1 (a1 ++ m) a2 = s1 ++ m ∧ joinA s1 a1 (a1 ++ m) a2 = a2 := by
  cases h : hp a1 (a1 ++ m) with
  | true =>
    obtain rfl := hp_app_nil _ _ h
    simp [joinOk, joinS, joinA, hp_self]
  | false => simp [joinOk, joinS, joinA, hp_app, h]
theorem jC {s1 a1 s2 a2 : L} (h1 : hp a1 s2 = false) (h2 : hp s2 a1 = false) : joinOk s1 a1 s2 a2 = false ∧ joinS s1 a1 s2 a2 = [] ∧ joinA s1 a1 s2 a2 = [] := by
  simp [joinOk, joinS, joinA, h1, h2]
/-- Beginnings of the same text. -/
theorem hp_both {k a b : L} (h1 : hp k a = true) (h2 : hp k b = true) : hp a b = true ∨ hp b a = true := by
  rw [hp, List.isPrefixOf_iff_prefix] at *
  rw [hp, List.isPrefixOf_iff_prefix]
  exact (List.prefix_or_prefix_of_prefix h1 h2).symm
theorem hp_trans {a b c : L} (h1 : hp a b = true) (h2 : hp b c = true) : hp a c = true := by
  obtain ⟨x, rfl⟩ := hp_pre.1 h1
  obtain ⟨y, rfl⟩ := hp_pre.1 h2
  rw [List.append_assoc]; exact hp_app _ _
theorem no_tt {b : Bool} (h : b = true → False) : b = false := by cases b <;> simp_all

def three (p : Bool) (S1 A1 S2 A2 : L) : Bool × L × L := if p = true then (joinOk S1 A1 S2 A2, joinS S1 A1 S2 A2, joinA S1 A1 S2 A2) else (false, [], [])
theorem join_three (s1 a1 s2 a2 s3 a3 : L) :
    three (joinOk s1 a1 s2 a2) (joinS s1 a1 s2 a2) (joinA s1 a1 s2 a2) s3 a3 = three (joinOk s2 a2 s3 a3) s1 a1 (joinS s2 a2 s3 a3) (joinA s2 a2 s3 a3) := by
  have key : ∀ {S A S' A' : L} , hp A S' = false → hp S' A = false → (joinOk S A S' A', joinS S A S' A', joinA S A S' A') = (false, [], []) := fun h1 h2 => by
    simp [joinOk, joinS, joinA, h1, h2]
  cases h1 : hp a1 s2 with
  | true =>
    obtain ⟨r, rfl⟩ := hp_pre.1 h1
    obtain ⟨p1, p2, p3⟩ := jA s1 s2 r a2
    rw [p1, p2, p3]
    cases h2 : hp a2 s3 with
    | true =>
      obtain ⟨u, rfl⟩ := hp_pre.1 h2
      obtain ⟨q1, q2, q3⟩ := jA s2 s3 u a3
      rw [q1, q2, q3]
      obtain ⟨t1, t2, t3⟩ := jA s1 s3 (u ++ r) a3
      obtain ⟨v1, v2, v3⟩ := jA s1 s2 r (a3 ++ u)
      simp only [three, if_true, List.append_assoc]
      rw [t1, t2, t3, v1, v2, v3]
      simp
    | false =>
      cases h3 : hp s3 a2 with
      | true =>
        obtain ⟨m, rfl⟩ := hp_pre.1 h3
        obtain ⟨q1, q2, q3⟩ := jB s2 a2 m a3
        rw [q1, q2, q3]
        simp only [three, if_true]
        cases h4 : hp r m with
        | true =>
          obtain ⟨u, rfl⟩ := hp_pre.1 h4
          obtain ⟨t1, t2, t3⟩ := jA s1 (a2 ++ m) u a3
          obtain ⟨v1, v2, v3⟩ := jA s1 (s2 ++ m) u a3
          rw [← List.append_assoc, ← List.append_assoc, t1, t2, t3, v1, v2, v3]
        | false =>
          cases h5 : hp m r with
          | true =>
            obtain ⟨u, rfl⟩ := hp_pre.1 h5
            obtain ⟨t1, t2, t3⟩ := jB s1 (a2 ++ r) u a3
            obtain ⟨v1, v2, v3⟩ := jB s1 (s2 ++ r) u a3
            rw [← List.append_assoc, ← List.append_assoc, t1, t2, t3, v1, v2, v3]
          | false => rw [key (by rw [hp_app2]; exact h4) (by rw [hp_app2]; exact h5), key (by rw [hp_app2]; exact h4) (by rw [hp_app2]; exact h5)]
      | false =>
        obtain ⟨q1, q2, q3⟩ := jC (s1 := s2) (a2 := a3) h2 h3
        rw [q1]
        simp only [three, if_true, Bool.false_eq_true, if_false]
        refine key (no_tt fun h => ?_) (no_tt fun h => ?_)
        · rcases hp_both h (hp_app a2 r) with h' | h'
          · rw [h3] at h'; cases h'
          · rw [h2] at h'; cases h'
        · have := hp_trans h (hp_app a2 r)
          rw [h3] at this; cases this
  | false =>
    cases h2 : hp s2 a1 with
    | true =>
      obtain ⟨m, rfl⟩ := hp_pre.1 h2
      obtain ⟨p1, p2, p3⟩ := jB s1 a1 m a2
      rw [p1, p2, p3]
      cases h3 : hp a2 s3 with
      | true =>
        obtain ⟨u, rfl⟩ := hp_pre.1 h3
        obtain ⟨q1, q2, q3⟩ := jA (a1 ++ m) s3 u a3
        rw [q1, q2, q3]
        obtain ⟨t1, t2, t3⟩ := jA (s1 ++ m) s3 u a3
        obtain ⟨v1, v2, v3⟩ := jB s1 a1 m (a3 ++ u)
        simp only [three, if_true]
        rw [t1, t2, t3, v1, v2, v3]
      | false =>
        cases h4 : hp s3 a2 with
        | true =>
          obtain ⟨n, rfl⟩ := hp_pre.1 h4
          obtain ⟨q1, q2, q3⟩ := jB (a1 ++ m) a2 n a3
          rw [q1, q2, q3]
          obtain ⟨t1, t2, t3⟩ := jB (s1 ++ m) a2 n a3
          obtain ⟨v1, v2, v3⟩ := jB s1 a1 (m ++ n) a3
          simp only [three, if_true]
          rw [List.append_assoc, t1, t2, t3, v1, v2, v3, List.append_assoc]
        | false =>
          obtain ⟨q1, q2, q3⟩ := jC (s1 := a1 ++ m) (a2 := a3) h3 h4
          obtain ⟨t1, t2, t3⟩ := jC (s1 := s1 ++ m) (a2 := a3) h3 h4
          simp only [three, if_true, Bool.false_eq_true, if_false, q1, t1, t2, t3]
    | false =>
      obtain ⟨p1, p2, p3⟩ := jC (s1 := s1) (a2 := a2) h1 h2
      rw [p1]
      cases h3 : hp a2 s3 with
      | true =>
        obtain ⟨u, rfl⟩ := hp_pre.1 h3
        obtain ⟨q1, q2, q3⟩ := jA s2 s3 u a3
        rw [q1, q2, q3]
        simp only [three, if_true, Bool.false_eq_true, if_false]
        exact (key h1 h2).symm
      | false =>
        cases h4 : hp s3 a2 with
        | true =>
          obtain ⟨n, rfl⟩ := hp_pre.1 h4
          obtain ⟨q1, q2, q3⟩ := jB s2 a2 n a3
          rw [q1, q2, q3]
          simp only [three, if_true, Bool.false_eq_true, if_false]
          refine (key (no_tt fun h => ?_) (no_tt fun h => ?_)).symm
          · have := hp_trans h (hp_app s2 n)
            rw [h1] at this; cases this
          · rcases hp_both h (hp_app s2 n) with h' | h'
            · rw [h1] at h'; cases h'
            · rw [h2] at h'; cases h'
        | false =>
          obtain ⟨q1, q2, q3⟩ := jC (s1 := s2) (a2 := a3) h3 h4
          rw [q1]; rfl

theorem lThree (s1 a1 s2 a2 s3 a3 : L) : Good Try.prog 4 [.agg [.s s1, .s a1], .agg [.s s2, .s a2], .agg [.s s3, .s a3]] [] (.b true) [] := by
  have e2 := joinS_len s1 a1 s2 a2
  have e3 := joinA_len s1 a1 s2 a2
  have e4 := joinS_len s2 a2 s3 a3
  have e5 := joinA_len s2 a2 s3 a3
  refine Good.w tabOk mixed Try.func4 (N := 65) (by kernel_rfl) rfl (by (repeat (first | exact LE.nil | apply LE.cons)); done) (by (repeat (first | exact LE.nil | apply LE.cons)); done) fun D hD F => ?_
  repeat' (first
    | apply AO.nil
    | (apply AO.kG; first | (refine AO.gt rfl (fun h => ?_) (fun h => ?_) <;> (first | exact Bool.noConfusion h | exact absurd h (by decide) | (simp at h; done) | (rw [h]; try simp only [decide_eq_true_eq, decide_eq_false_iff_not, Int.not_lt, Int.not_le, ge_iff_le, gt_iff_lt, Bool.not_eq_true', Bool.not_eq_false', beq_iff_eq, beq_eq_false_iff_ne, ne_eq] at h; try rw [h]; try (exfalso; omega)) | skip)) | (refine AO.gf rfl (fun h => ?_) (fun h => ?_) <;> (first | exact Bool.noConfusion h | exact absurd h (by decide) | (simp at h; done) | (rw [h]; try simp only [decide_eq_true_eq, decide_eq_false_iff_not, Int.not_lt, Int.not_le, ge_iff_le, gt_iff_lt, Bool.not_eq_true', Bool.not_eq_false', beq_iff_eq, beq_eq_false_iff_ne, ne_eq] at h; try rw [h]; try (exfalso; omega)) | skip)) | refine AO.gs rfl ?_)
    | (apply AO.kCall 14; refine AO.call rfl (by (repeat constructor); done) (gGreat4 _ _) (by (repeat (first | exact LeL.nil | (refine LeL.cons (Le.refl _) ?_) | (refine LeL.cons Le.gr ?_) | (refine LeL.cons Le.nil ?_))); done) rfl ?_; skip)
    | (apply AO.kCall 15; refine AO.call rfl (by (repeat constructor); done) (gAwake4) (by (repeat (first | exact LeL.nil | (refine LeL.cons (Le.refl _) ?_) | (refine LeL.cons Le.gr ?_) | (refine LeL.cons Le.nil ?_))); done) rfl ?_; skip)
    | (apply AO.kCall 16; refine AO.call rfl (by (repeat constructor); done) (gJoin _ _ _ _ ?_ ?_) (by (repeat (first | exact LeL.nil | (refine LeL.cons (Le.refl _) ?_) | (refine LeL.cons Le.gr ?_) | (refine LeL.cons Le.nil ?_))); done) rfl ?_; (· first | decide | (have q1 := great2_false (a := s1) (b := a1) ‹_›; have q2 := great2_false (a := s2) (b := a2) ‹_›; have q3 := great2_false (a := s3) (b := a3) ‹_›; omega)); (· first | decide | (have q1 := great2_false (a := s1) (b := a1) ‹_›; have q2 := great2_false (a := s2) (b := a2) ‹_›; have q3 := great2_false (a := s3) (b := a3) ‹_›; omega)); skip)
    | (apply AO.kBox; refine AO.box (by (repeat constructor); done) rfl rfl ?_)
    | (apply AO.kAlloc; refine AO.alloc rfl (by (repeat constructor); done) rfl ?_)
    | (apply AO.kStore; first | refine AO.store rfl rfl rfl (by (repeat constructor); done) rfl ?_ | refine AO.storeB rfl rfl rfl rfl rfl rfl (by first | decide | (have q1 := great2_false (a := s1) (b := a1) ‹_›; have q2 := great2_false (a := s2) (b := a2) ‹_›; have q3 := great2_false (a := s3) (b := a3) ‹_›; omega)) ?_ | refine AO.storeB rfl rfl rfl rfl rfl (wrapB _) (by first | decide | (have q1 := great2_false (a := s1) (b := a1) ‹_›; have q2 := great2_false (a := s2) (b := a2) ‹_›; have q3 := great2_false (a := s3) (b := a3) ‹_›; omega)) ?_)
    | (apply AO.kAdd; refine AO.add rfl rfl (by first | decide | (have q1 := great2_false (a := s1) (b := a1) ‹_›; have q2 := great2_false (a := s2) (b := a2) ‹_›; have q3 := great2_false (a := s3) (b := a3) ‹_›; omega)) ?_)
    | (apply AO.kSub; refine AO.sub rfl rfl (by first | decide | (have q1 := great2_false (a := s1) (b := a1) ‹_›; have q2 := great2_false (a := s2) (b := a2) ‹_›; have q3 := great2_false (a := s3) (b := a3) ‹_›; omega)) ?_)
    | (apply AO.kCv; first | refine AO.bytes rfl rfl rfl rfl rfl rfl rfl rfl ?_ | refine AO.str rfl rfl rfl rfl rfl rfl rfl rfl (by first | decide | (have q1 := great2_false (a := s1) (b := a1) ‹_›; have q2 := great2_false (a := s2) (b := a2) ‹_›; have q3 := great2_false (a := s3) (b := a3) ‹_›; omega)) ?_)
    | (apply AO.kP; first | refine AO.p rfl (by (repeat constructor); done) ?_ | refine AO.pi rfl (by (repeat constructor); done) (by first | decide | (have q1 := great2_false (a := s1) (b := a1) ‹_›; have q2 := great2_false (a := s2) (b := a2) ‹_›; have q3 := great2_false (a := s3) (b := a3) ‹_›; omega)) ?_ | refine AO.loadB rfl rfl rfl rfl (by first | decide | (have q1 := great2_false (a := s1) (b := a1) ‹_›; have q2 := great2_false (a := s2) (b := a2) ‹_›; have q3 := great2_false (a := s3) (b := a3) ‹_›; omega)) ?_)
    | apply AW.seq
    | (apply AW.kR; refine AW.r (by kernel_rfl) ?_)
    | (apply AW.kC; refine AW.cond rfl rfl (fun h => ?_) (fun h => ?_) <;> (first | exact Bool.noConfusion h | exact absurd h (by decide) | (simp at h; done) | (rw [h]; try simp only [decide_eq_true_eq, decide_eq_false_iff_not, Int.not_lt, Int.not_le, ge_iff_le, gt_iff_lt, Bool.not_eq_true', Bool.not_eq_false', beq_iff_eq, beq_eq_false_iff_ne, ne_eq] at h; try rw [h]; try (exfalso; omega)) | skip))
    | apply AW.skip
    | apply AW.block
    | apply AW.out
    | (apply AW.kE; refine AW.exit rfl ?_)
    | apply AW.label
    | (apply AW.kRd; refine AW.rd (by kernel_rfl) ?_)
    | (apply AR.kAny; first | (apply AR.kG; first | (refine AR.gt rfl (by (repeat (first | exact LE.nil | apply LE.cons)); done) (fun h => ?_) (fun h => ?_) <;> (first | exact Bool.noConfusion h | exact absurd h (by decide) | (simp at h; done) | (rw [h]; try simp only [decide_eq_true_eq, decide_eq_false_iff_not, Int.not_lt, Int.not_le, ge_iff_le, gt_iff_lt, Bool.not_eq_true', Bool.not_eq_false', beq_iff_eq, beq_eq_false_iff_ne, ne_eq] at h; try rw [h]; try (exfalso; omega)) | skip)) | (refine AR.gf rfl (by (repeat (first | exact LE.nil | apply LE.cons)); done) (fun h => ?_) (fun h => ?_) <;> (first | exact Bool.noConfusion h | exact absurd h (by decide) | (simp at h; done) | (rw [h]; try simp only [decide_eq_true_eq, decide_eq_false_iff_not, Int.not_lt, Int.not_le, ge_iff_le, gt_iff_lt, Bool.not_eq_true', Bool.not_eq_false', beq_iff_eq, beq_eq_false_iff_ne, ne_eq] at h; try rw [h]; try (exfalso; omega)) | skip)) | refine AR.gs rfl (by (repeat (first | exact LE.nil | apply LE.cons)); done) ?_) | (apply AR.kCall 14; refine AR.call rfl (by (repeat constructor); done) (gGreat4 _ _) (by (repeat (first | exact LeL.nil | (refine LeL.cons (Le.refl _) ?_) | (refine LeL.cons Le.gr ?_) | (refine LeL.cons Le.nil ?_))); done) rfl (by (repeat (first | exact LE.nil | apply LE.cons)); done) ?_; skip) | (apply AR.kCall 15; refine AR.call rfl (by (repeat constructor); done) (gAwake4) (by (repeat (first | exact LeL.nil | (refine LeL.cons (Le.refl _) ?_) | (refine LeL.cons Le.gr ?_) | (refine LeL.cons Le.nil ?_))); done) rfl (by (repeat (first | exact LE.nil | apply LE.cons)); done) ?_; skip) | (apply AR.kCall 16; refine AR.call rfl (by (repeat constructor); done) (gJoin _ _ _ _ ?_ ?_) (by (repeat (first | exact LeL.nil | (refine LeL.cons (Le.refl _) ?_) | (refine LeL.cons Le.gr ?_) | (refine LeL.cons Le.nil ?_))); done) rfl (by (repeat (first | exact LE.nil | apply LE.cons)); done) ?_; (· first | decide | (have q1 := great2_false (a := s1) (b := a1) ‹_›; have q2 := great2_false (a := s2) (b := a2) ‹_›; have q3 := great2_false (a := s3) (b := a3) ‹_›; omega)); (· first | decide | (have q1 := great2_false (a := s1) (b := a1) ‹_›; have q2 := great2_false (a := s2) (b := a2) ‹_›; have q3 := great2_false (a := s3) (b := a3) ‹_›; omega)); skip) | (apply AR.kBox; refine AR.box (by (repeat constructor); done) rfl rfl (by (repeat (first | exact LE.nil | apply LE.cons)); done) ?_) | (apply AR.kAlloc; refine AR.alloc rfl (by (repeat constructor); done) rfl (by (repeat (first | exact LE.nil | apply LE.cons)); done) ?_) | (apply AR.kStore; refine AR.store rfl rfl rfl (by (repeat constructor); done) rfl (by (repeat (first | exact LE.nil | apply LE.cons)); done) ?_) | (apply AR.kAdd; refine AR.add rfl rfl (by first | decide | (have q1 := great2_false (a := s1) (b := a1) ‹_›; have q2 := great2_false (a := s2) (b := a2) ‹_›; have q3 := great2_false (a := s3) (b := a3) ‹_›; omega)) (by (repeat (first | exact LE.nil | apply LE.cons)); done) ?_) | (apply AR.kSub; refine AR.sub rfl rfl (by first | decide | (have q1 := great2_false (a := s1) (b := a1) ‹_›; have q2 := great2_false (a := s2) (b := a2) ‹_›; have q3 := great2_false (a := s3) (b := a3) ‹_›; omega)) (by (repeat (first | exact LE.nil | apply LE.cons)); done) ?_) | (apply AR.kP; first | refine AR.p rfl (by (repeat constructor); done) (by (repeat (first | exact LE.nil | apply LE.cons)); done) ?_ | refine AR.pi rfl (by (repeat constructor); done) (by first | decide | (have q1 := great2_false (a := s1) (b := a1) ‹_›; have q2 := great2_false (a := s2) (b := a2) ‹_›; have q3 := great2_false (a := s3) (b := a3) ‹_›; omega)) (by (repeat (first | exact LE.nil | apply LE.cons)); done) ?_))
    | (apply AR.kNil; refine AR.nil (by kernel_rfl) (by kernel_rfl) ?_))
  all_goals (refine AW.ret (hD rfl ?_); (repeat' (first | apply Lx.s | apply Lx.b | apply Lx.i | apply LxL.cons | exact LxL.nil | apply Lx.tup | apply Lx.agg | apply Lx.refl)) <;> (try with_reducible rfl))
  all_goals (exfalso; have f := join_three s1 a1 s2 a2 s3 a3; simp_all [three])

theorem blt_app (p x y : L) : Op.bytesLess (p ++ x) (p ++ y) = Op.bytesLess x y := by
  induction p with
  | nil => rfl
  | cons c p ih => simp [Op.bytesLess, ih]
theorem upS_back {s a k : L} (h : hp k s = true) : hp (upS s a k) a = true ∧ upS a s (upS s a k) = k := by
  obtain ⟨t, rfl⟩ := hp_pre.1 h
  rw [upS_app]
  exact ⟨hp_app _ _, upS_app _ _ _⟩
theorem upS_blt {s a k k' : L} (h : hp k s = true) (h' : hp k' s = true) : Op.bytesLess (upS s a k) (upS s a k') = Op.bytesLess k k' := by
  obtain ⟨t, rfl⟩ := hp_pre.1 h
  obtain ⟨t', rfl⟩ := hp_pre.1 h'
  rw [upS_app, upS_app, blt_app, blt_app]
theorem lBack (s a x y : L) : Good Try.prog 5 [.agg [.s s, .s a], .s x, .s y] [] (.b true) [] := by
  have e1 := upS_len s a x
  refine Good.w tabOk mixed Try.func5 (N := 70) (by kernel_rfl) rfl (by (repeat (first | exact LE.nil | apply LE.cons)); done) (by (repeat (first | exact LE.nil | apply LE.cons)); done) fun D hD F => ?_
  repeat' (first
    | apply AO.nil
    | (apply AO.kG; first | (refine AO.gt rfl (fun h => ?_) (fun h => ?_) <;> (first | exact Bool.noConfusion h | exact absurd h (by decide) | (simp at h; done) | (rw [h]; try simp only [decide_eq_true_eq, decide_eq_false_iff_not, Int.not_lt, Int.not_le, ge_iff_le, gt_iff_lt, Bool.not_eq_true', Bool.not_eq_false', beq_iff_eq, beq_eq_false_iff_ne, ne_eq] at h; try rw [h]; try (exfalso; omega)) | skip)) | (refine AO.gf rfl (fun h => ?_) (fun h => ?_) <;> (first | exact Bool.noConfusion h | exact absurd h (by decide) | (simp at h; done) | (rw [h]; try simp only [decide_eq_true_eq, decide_eq_false_iff_not, Int.not_lt, Int.not_le, ge_iff_le, gt_iff_lt, Bool.not_eq_true', Bool.not_eq_false', beq_iff_eq, beq_eq_false_iff_ne, ne_eq] at h; try rw [h]; try (exfalso; omega)) | skip)) | refine AO.gs rfl ?_)
    | (apply AO.kCall 14; refine AO.call rfl (by (repeat constructor); done) (gGreat4 _ _) (by (repeat (first | exact LeL.nil | (refine LeL.cons (Le.refl _) ?_) | (refine LeL.cons Le.gr ?_) | (refine LeL.cons Le.nil ?_))); done) rfl ?_; skip)
    | (apply AO.kCall 15; refine AO.call rfl (by (repeat constructor); done) (gAwake4) (by (repeat (first | exact LeL.nil | (refine LeL.cons (Le.refl _) ?_) | (refine LeL.cons Le.gr ?_) | (refine LeL.cons Le.nil ?_))); done) rfl ?_; skip)
    | (apply AO.kCall 18; refine AO.call rfl (by (repeat constructor); done) (gUp _ _ _ ?_) (by (repeat (first | exact LeL.nil | (refine LeL.cons (Le.refl _) ?_) | (refine LeL.cons Le.gr ?_) | (refine LeL.cons Le.nil ?_))); done) rfl ?_; (· first | decide | (have q1 := great2_false (a := s) (b := a) ‹_›; omega)); skip)
    | (apply AO.kCall 19; refine AO.call rfl (by (repeat constructor); done) (gDown _ _ _ ?_) (by (repeat (first | exact LeL.nil | (refine LeL.cons (Le.refl _) ?_) | (refine LeL.cons Le.gr ?_) | (refine LeL.cons Le.nil ?_))); done) rfl ?_; (· first | decide | (have q1 := great2_false (a := s) (b := a) ‹_›; omega)); skip)
    | (apply AO.kBox; refine AO.box (by (repeat constructor); done) rfl rfl ?_)
    | (apply AO.kAlloc; refine AO.alloc rfl (by (repeat constructor); done) rfl ?_)
    | (apply AO.kStore; first | refine AO.store rfl rfl rfl (by (repeat constructor); done) rfl ?_ | refine AO.storeB rfl rfl rfl rfl rfl rfl (by first | decide | (have q1 := great2_false (a := s) (b := a) ‹_›; omega)) ?_ | refine AO.storeB rfl rfl rfl rfl rfl (wrapB _) (by first | decide | (have q1 := great2_false (a := s) (b := a) ‹_›; omega)) ?_)
    | (apply AO.kAdd; refine AO.add rfl rfl (by first | decide | (have q1 := great2_false (a := s) (b := a) ‹_›; omega)) ?_)
    | (apply AO.kSub; refine AO.sub rfl rfl (by first | decide | (have q1 := great2_false (a := s) (b := a) ‹_›; omega)) ?_)
    | (apply AO.kCv; first | refine AO.bytes rfl rfl rfl rfl rfl rfl rfl rfl ?_ | refine AO.str rfl rfl rfl rfl rfl rfl rfl rfl (by first | decide | (have q1 := great2_false (a := s) (b := a) ‹_›; omega)) ?_)
    | (apply AO.kP; first | refine AO.p rfl (by (repeat constructor); done) ?_ | refine AO.pi rfl (by (repeat constructor); done) (by first | decide | (have q1 := great2_false (a := s) (b := a) ‹_›; omega)) ?_ | refine AO.loadB rfl rfl rfl rfl (by first | decide | (have q1 := great2_false (a := s) (b := a) ‹_›; omega)) ?_)
    | apply AW.seq
    | (apply AW.kR; refine AW.r (by kernel_rfl) ?_)
    | (apply AW.kC; refine AW.cond rfl rfl (fun h => ?_) (fun h => ?_) <;> (first | exact Bool.noConfusion h | exact absurd h (by decide) | (simp at h; done) | (rw [h]; try simp only [decide_eq_true_eq, decide_eq_false_iff_not, Int.not_lt, Int.not_le, ge_iff_le, gt_iff_lt, Bool.not_eq_true', Bool.not_eq_false', beq_iff_eq, beq_eq_false_iff_ne, ne_eq] at h; try rw [h]; try (exfalso; omega)) | skip))
    | apply AW.skip
    | apply AW.block
    | apply AW.out
    | (apply AW.kE; refine AW.exit rfl ?_)
    | apply AW.label
    | (apply AW.kRd; refine AW.rd (by kernel_rfl) ?_)
    | (apply AR.kAny; first | (apply AR.kG; first | (refine AR.gt rfl (by (repeat (first | exact LE.nil | apply LE.cons)); done) (fun h => ?_) (fun h => ?_) <;> (first | exact Bool.noConfusion h | exact absurd h (by decide) | (simp at h; done) | (rw [h]; try simp only [decide_eq_true_eq, decide_eq_false_iff_not, Int.not_lt, Int.not_le, ge_iff_le, gt_iff_lt, Bool.not_eq_true', Bool.not_eq_false', beq_iff_eq, beq_eq_false_iff_ne, ne_eq] at h; try rw [h]; try (exfalso; omega)) | skip)) | (refine AR.gf rfl (by (repeat (first | exact LE.nil | apply LE.cons)); done) (fun h => ?_) (fun h => ?_) <;> (first | exact Bool.noConfusion h | exact absurd h (by decide) | (simp at h; done) | (rw [h]; try simp only [decide_eq_true_eq, decide_eq_false_iff_not, Int.not_lt, Int.not_le, ge_iff_le, gt_iff_lt, Bool.not_eq_true', Bool.not_eq_false', beq_iff_eq, beq_eq_false_iff_ne, ne_eq] at h; try rw [h]; try (exfalso; omega)) | skip)) | refine AR.gs rfl (by (repeat (first | exact LE.nil | apply LE.cons)); done) ?_) | (apply AR.kCall 14; refine AR.call rfl (by (repeat constructor); done) (gGreat4 _ _) (by (repeat (first | exact LeL.nil | (refine LeL.cons (Le.refl _) ?_) | (refine LeL.cons Le.gr ?_) | (refine LeL.cons Le.nil ?_))); done) rfl (by (repeat (first | exact LE.nil | apply LE.cons)); done) ?_; skip) | (apply AR.kCall 15; refine AR.call rfl (by (repeat constructor); done) (gAwake4) (by (repeat (first | exact LeL.nil | (refine LeL.cons (Le.refl _) ?_) | (refine LeL.cons Le.gr ?_) | (refine LeL.cons Le.nil ?_))); done) rfl (by (repeat (first | exact LE.nil | apply LE.cons)); done) ?_; skip) | (apply AR.kCall 18; refine AR.call rfl (by (repeat constructor); done) (gUp _ _ _ ?_) (by (repeat (first | exact LeL.nil | (refine LeL.cons (Le.refl _) ?_) | (refine LeL.cons Le.gr ?_) | (refine LeL.cons Le.nil ?_))); done) rfl (by (repeat (first | exact LE.nil | apply LE.cons)); done) ?_; (· first | decide | (have q1 := great2_false (a := s) (b := a) ‹_›; omega)); skip) | (apply AR.kCall 19; refine AR.call rfl (by (repeat constructor); done) (gDown _ _ _ ?_) (by (repeat (first | exact LeL.nil | (refine LeL.cons (Le.refl _) ?_) | (refine LeL.cons Le.gr ?_) | (refine LeL.cons Le.nil ?_))); done) rfl (by (repeat (first | exact LE.nil | apply LE.cons)); done) ?_; (· first | decide | (have q1 := great2_false (a := s) (b := a) ‹_›; omega)); skip) | (apply AR.kBox; refine AR.box (by (repeat constructor); done) rfl rfl (by (repeat (first | exact LE.nil | apply LE.cons)); done) ?_) | (apply AR.kAlloc; refine AR.alloc rfl (by (repeat constructor); done) rfl (by (repeat (first | exact LE.nil | apply LE.cons)); done) ?_) | (apply AR.kStore; refine AR.store rfl rfl rfl (by (repeat constructor); done) rfl (by (repeat (first | exact LE.nil | apply LE.cons)); done) ?_) | (apply AR.kAdd; refine AR.add rfl rfl (by first | decide | (have q1 := great2_false (a := s) (b := a) ‹_›; omega)) (by (repeat (first | exact LE.nil | apply LE.cons)); done) ?_) | (apply AR.kSub; refine AR.sub rfl rfl (by first | decide | (have q1 := great2_false (a := s) (b := a) ‹_›; omega)) (by (repeat (first | exact LE.nil | apply LE.cons)); done) ?_) | (apply AR.kP; first | refine AR.p rfl (by (repeat constructor); done) (by (repeat (first | exact LE.nil | apply LE.cons)); done) ?_ | refine AR.pi rfl (by (repeat constructor); done) (by first | decide | (have q1 := great2_false (a := s) (b := a) ‹_›; omega)) (by (repeat (first | exact LE.nil | apply LE.cons)); done) ?_))
    | (apply AR.kNil; refine AR.nil (by kernel_rfl) (by kernel_rfl) ?_))
  all_goals (refine AW.ret (hD rfl ?_); (repeat' (first | apply Lx.s | apply Lx.b | apply Lx.i | apply LxL.cons | exact LxL.nil | apply Lx.tup | apply Lx.agg | apply Lx.refl)) <;> (try with_reducible rfl))
  all_goals (exfalso; have f := @upS_back s a x; have f' := @upS_blt s a x y; simp_all [blt])
end Go.Proofs.Ytafbjkidgdpfoaa.Mv
