/- Keys: the statements KeyBetween, KeyOf. Under no condition. -/
import Derived.Test.YtafbjkidgdpfoaaKeyB
import Derived.Test.YtafbjkidgdpfoaaLiftC
namespace Go.Proofs.Ytafbjkidgdpfoaa.Mv
open Go Go.Proofs
set_option linter.unusedSimpArgs false
set_option linter.unusedVariables false
set_option maxRecDepth 10000
set_option maxHeartbeats 4000000
attribute [local irreducible] AW AO AR

theorem lt_asymm {a b : L} (h : lt a b = true) : lt b a = false := by
  cases h2 : lt b a with
  | false => rfl
  | true => have := lt_trans h h2; rw [lt_irrefl] at this; cases this
theorem lt_app (p x y : L) : lt (p ++ x) (p ++ y) = lt x y := by
  induction p with
  | nil => rfl
  | cons c p ih => simp only [lt] at ih ⊢; simp [Op.bytesLess, ih]
theorem lt_nil (x : L) : lt x [] = false := by cases x <;> rfl
theorem lt_pre (p : L) (c : UInt8) (x : L) : lt p (p ++ c :: x) = true := by
  have := lt_app p [] (c :: x)
  rw [List.append_nil] at this
  rw [this]; rfl
theorem com_split {a b : L} (h : lt a b = true) : ∃ x y t, a = comS a b ++ x ∧ b = comS a b ++ y :: t ∧ (x = [] ∨ ∃ z x', x = z :: x' ∧ z < y) := by
  induction a generalizing b with
  | nil =>
    cases b with
    | nil => cases h
    | cons y b => exact ⟨[], y, b, by simp [comS], by simp [comS], .inl rfl⟩
  | cons c a ih =>
    cases b with
    | nil => cases h
    | cons y b =>
      by_cases e : c = y
      · subst e
        obtain ⟨x, y, t, h1, h2, h3⟩ := ih (b := b) (by simpa [lt, Op.bytesLess] using h)
        refine ⟨x, y, t, ?_, ?_, h3⟩
        · simp only [comS, if_true, List.cons_append, List.cons.injEq, true_and]; exact h1
        · simp only [comS, if_true, List.cons_append, List.cons.injEq, true_and]; exact h2
      · refine ⟨c :: a, y, b, by simp [comS, e], by simp [comS, e], .inr ⟨c, a, rfl, ?_⟩⟩
        simpa [lt, Op.bytesLess, e] using h
theorem bet_facts {a b : L} (h : lt a b = true) : lt a (betS a b) = true ∧ lt b (betS a b) = false ∧ hp b (betS a b) = true ∧ betS a b ≠ [] ∧ lt a ((betS a b).take ((betS a b).length - 1)) = false := by
  obtain ⟨x, y, t, h1, h2, h3⟩ := com_split h
  have hm : betS a b = comS a b ++ [y] := by
    rw [betS, if_pos h]
    generalize comS a b = c at h2 ⊢
    rw [h2, show c ++ y :: t = (c ++ [y]) ++ t by simp]
    exact List.take_left' (by simp)
  rw [hm]
  generalize comS a b = c at *
  subst h1; subst h2
  refine ⟨?_, ?_, ?_, by simp, ?_⟩
  · rw [lt_app]
    rcases h3 with rfl | ⟨z, x', rfl, hz⟩
    · rfl
    · simp [lt, Op.bytesLess, hz]
  · rw [lt_app]
    simp [lt, Op.bytesLess]
  · rw [hp_app2]; simp [hp]
  · have := lt_app c x []
    rw [List.append_nil] at this
    simp [this, lt_nil]
theorem next_facts {a b : L} (h : lt a b = true) : lt a (a ++ [0]) = true ∧ lt b (a ++ [0]) = false := by
  refine ⟨lt_pre a 0 [], ?_⟩
  obtain ⟨x, y, t, h1, h2, h3⟩ := com_split h
  generalize comS a b = c at *
  subst h1; subst h2
  rw [List.append_assoc, lt_app]
  rcases h3 with rfl | ⟨z, x', rfl, hz⟩
  · have : ¬ y < 0 := by simp
    cases t <;> simp [lt, Op.bytesLess, this]
  · have h4 : ¬ y < z := fun h' => by have := UInt8.lt_trans hz h'; exact absurd this (UInt8.lt_irrefl _)
    have h5 : ¬ y = z := fun e => by subst e; exact absurd hz (UInt8.lt_irrefl _)
    simp [lt, Op.bytesLess, h4, h5]
theorem betS_len (a b : L) : (betS a b).length ≤ b.length := by
  unfold betS; split <;> simp <;> omega

theorem lBetween (a b : L) : Good Try.prog 8 [.s a, .s b] [] (.b true) [] := by
  have hl := betS_len a b
  have hf := @bet_facts a b
  have hn := @next_facts a b
  have hz : betS a b ≠ [] → 0 < (betS a b).length := List.length_pos_iff.2
  have hb : lt a b = false → betS a b = [] := fun h => by simp [betS, h]
  simp only [lt] at hf hn hb
  refine Good.w tabOk mixed Try.func8 (N := 67) (by kernel_rfl) rfl (by (repeat (first | exact LE.nil | apply LE.cons)); done) (by (repeat (first | exact LE.nil | apply LE.cons)); done) fun D hD F => ?_
  repeat' (first
    | apply AO.nil
    | (apply AO.kG; first | (refine AO.gt rfl (fun h => ?_) (fun h => ?_) <;> (first | exact Bool.noConfusion h | exact absurd h (by decide) | (simp at h; done) | (rw [h]; try simp only [decide_eq_true_eq, decide_eq_false_iff_not, Int.not_lt, Int.not_le, ge_iff_le, gt_iff_lt, Bool.not_eq_true', Bool.not_eq_false', beq_iff_eq, beq_eq_false_iff_ne, ne_eq] at h; try rw [h]; try (exfalso; omega)) | skip)) | (refine AO.gf rfl (fun h => ?_) (fun h => ?_) <;> (first | exact Bool.noConfusion h | exact absurd h (by decide) | (simp at h; done) | (rw [h]; try simp only [decide_eq_true_eq, decide_eq_false_iff_not, Int.not_lt, Int.not_le, ge_iff_le, gt_iff_lt, Bool.not_eq_true', Bool.not_eq_false', beq_iff_eq, beq_eq_false_iff_ne, ne_eq] at h; try rw [h]; try (exfalso; omega)) | skip)) | refine AO.gs rfl ?_)
    | (apply AO.kCall 21; refine AO.call rfl (by (repeat constructor); done) (gAwake3) (by (repeat (first | exact LeL.nil | (refine LeL.cons (Le.refl _) ?_) | (refine LeL.cons Le.gr ?_) | (refine LeL.cons Le.nil ?_))); done) rfl ?_; skip)
    | (apply AO.kCall 32; refine AO.call rfl (by (repeat constructor); done) (gBetween _ _ ?_ ?_) (by (repeat (first | exact LeL.nil | (refine LeL.cons (Le.refl _) ?_) | (refine LeL.cons Le.gr ?_) | (refine LeL.cons Le.nil ?_))); done) rfl ?_; (· first | omega | (have q := hz ‹_›; refine ⟨?_, ?_⟩ <;> omega)); (· first | omega | (have q := hz ‹_›; refine ⟨?_, ?_⟩ <;> omega)); skip)
    | (apply AO.kCall 24; refine AO.call rfl (by (repeat constructor); done) (gHas _ _) (by (repeat (first | exact LeL.nil | (refine LeL.cons (Le.refl _) ?_) | (refine LeL.cons Le.gr ?_) | (refine LeL.cons Le.nil ?_))); done) rfl ?_; skip)
    | (apply AO.kCall 29; refine AO.call rfl (by (repeat constructor); done) (gNext _ ?_) (by (repeat (first | exact LeL.nil | (refine LeL.cons (Le.refl _) ?_) | (refine LeL.cons Le.gr ?_) | (refine LeL.cons Le.nil ?_))); done) rfl ?_; (· first | omega | (have q := hz ‹_›; refine ⟨?_, ?_⟩ <;> omega)); skip)
    | (apply AO.kBox; refine AO.box (by (repeat constructor); done) rfl rfl ?_)
    | (apply AO.kAlloc; refine AO.alloc rfl (by (repeat constructor); done) rfl ?_)
    | (apply AO.kStore; first | refine AO.store rfl rfl rfl (by (repeat constructor); done) rfl ?_ | refine AO.storeB rfl rfl rfl rfl rfl rfl (by first | omega | (have q := hz ‹_›; refine ⟨?_, ?_⟩ <;> omega)) ?_ | refine AO.storeB rfl rfl rfl rfl rfl (wrapB _) (by first | omega | (have q := hz ‹_›; refine ⟨?_, ?_⟩ <;> omega)) ?_)
    | (apply AO.kAdd; refine AO.add rfl rfl (by first | omega | (have q := hz ‹_›; refine ⟨?_, ?_⟩ <;> omega)) ?_)
    | (apply AO.kSub; refine AO.sub rfl rfl (by first | omega | (have q := hz ‹_›; refine ⟨?_, ?_⟩ <;> omega)) ?_)
    | (apply AO.kCv; first | refine AO.bytes rfl rfl rfl rfl rfl rfl rfl rfl ?_ | refine AO.str rfl rfl rfl rfl rfl rfl rfl rfl (by first | omega | (have q := hz ‹_›; refine ⟨?_, ?_⟩ <;> omega)) ?_)
    | (apply AO.kP; first | refine AO.p rfl (by (repeat constructor); done) ?_ | refine AO.pi rfl (by (repeat constructor); done) (by first | omega | (have q := hz ‹_›; refine ⟨?_, ?_⟩ <;> omega)) ?_ | refine AO.loadB rfl rfl rfl rfl (by first | omega | (have q := hz ‹_›; refine ⟨?_, ?_⟩ <;> omega)) ?_)
    | apply AW.seq
    | (apply AW.kR; refine AW.r (by kernel_rfl) ?_)
    | (apply AW.kC; refine AW.cond rfl rfl (fun h => ?_) (fun h => ?_) <;> (first | exact Bool.noConfusion h | exact absurd h (by decide) | (simp at h; done) | (rw [h]; try simp only [decide_eq_true_eq, decide_eq_false_iff_not, Int.not_lt, Int.not_le, ge_iff_le, gt_iff_lt, Bool.not_eq_true', Bool.not_eq_false', beq_iff_eq, beq_eq_false_iff_ne, ne_eq] at h; try rw [h]; try (exfalso; omega)) | skip))
    | apply AW.skip
    | apply AW.block
    | apply AW.out
    | (apply AW.kE; refine AW.exit rfl ?_)
    | apply AW.label
    | (apply AW.kRd; refine AW.rd (by kernel_rfl) ?_)
    | (apply AR.kAny; first | (apply AR.kG; first | (refine AR.gt rfl (by (repeat (first | exact LE.nil | apply LE.cons)); done) (fun h => ?_) (fun h => ?_) <;> (first | exact Bool.noConfusion h | exact absurd h (by decide) | (simp at h; done) | (rw [h]; try simp only [decide_eq_true_eq, decide_eq_false_iff_not, Int.not_lt, Int.not_le, ge_iff_le, gt_iff_lt, Bool.not_eq_true', Bool.not_eq_false', beq_iff_eq, beq_eq_false_iff_ne, ne_eq] at h; try rw [h]; try (exfalso; omega)) | skip)) | (refine AR.gf rfl (by (repeat (first | exact LE.nil | apply LE.cons)); done) (fun h => ?_) (fun h => ?_) <;> (first | exact Bool.noConfusion h | exact absurd h (by decide) | (simp at h; done) | (rw [h]; try simp only [decide_eq_true_eq, decide_eq_false_iff_not, Int.not_lt, Int.not_le, ge_iff_le, gt_iff_lt, Bool.not_eq_true', Bool.not_eq_false', beq_iff_eq, beq_eq_false_iff_ne, ne_eq] at h; try rw [h]; try (exfalso; omega)) | skip)) | refine AR.gs rfl (by (repeat (first | exact LE.nil | apply LE.cons)); done) ?_) | (apply AR.kCall 21; refine AR.call rfl (by (repeat constructor); done) (gAwake3) (by (repeat (first | exact LeL.nil | (refine LeL.cons (Le.refl _) ?_) | (refine LeL.cons Le.gr ?_) | (refine LeL.cons Le.nil ?_))); done) rfl (by (repeat (first | exact LE.nil | apply LE.cons)); done) ?_; skip) | (apply AR.kCall 32; refine AR.call rfl (by (repeat constructor); done) (gBetween _ _ ?_ ?_) (by (repeat (first | exact LeL.nil | (refine LeL.cons (Le.refl _) ?_) | (refine LeL.cons Le.gr ?_) | (refine LeL.cons Le.nil ?_))); done) rfl (by (repeat (first | exact LE.nil | apply LE.cons)); done) ?_; (· first | omega | (have q := hz ‹_›; refine ⟨?_, ?_⟩ <;> omega)); (· first | omega | (have q := hz ‹_›; refine ⟨?_, ?_⟩ <;> omega)); skip) | (apply AR.kCall 24; refine AR.call rfl (by (repeat constructor); done) (gHas _ _) (by (repeat (first | exact LeL.nil | (refine LeL.cons (Le.refl _) ?_) | (refine LeL.cons Le.gr ?_) | (refine LeL.cons Le.nil ?_))); done) rfl (by (repeat (first | exact LE.nil | apply LE.cons)); done) ?_; skip) | (apply AR.kCall 29; refine AR.call rfl (by (repeat constructor); done) (gNext _ ?_) (by (repeat (first | exact LeL.nil | (refine LeL.cons (Le.refl _) ?_) | (refine LeL.cons Le.gr ?_) | (refine LeL.cons Le.nil ?_))); done) rfl (by (repeat (first | exact LE.nil | apply LE.cons)); done) ?_; (· first | omega | (have q := hz ‹_›; refine ⟨?_, ?_⟩ <;> omega)); skip) | (apply AR.kBox; refine AR.box (by (repeat constructor); done) rfl rfl (by (repeat (first | exact LE.nil | apply LE.cons)); done) ?_) | (apply AR.kAlloc; refine AR.alloc rfl (by (repeat constructor); done) rfl (by (repeat (first | exact LE.nil | apply LE.cons)); done) ?_) | (apply AR.kStore; refine AR.store rfl rfl rfl (by (repeat constructor); done) rfl (by (repeat (first | exact LE.nil | apply LE.cons)); done) ?_) | (apply AR.kAdd; refine AR.add rfl rfl (by first | omega | (have q := hz ‹_›; refine ⟨?_, ?_⟩ <;> omega)) (by (repeat (first | exact LE.nil | apply LE.cons)); done) ?_) | (apply AR.kSub; refine AR.sub rfl rfl (by first | omega | (have q := hz ‹_›; refine ⟨?_, ?_⟩ <;> omega)) (by (repeat (first | exact LE.nil | apply LE.cons)); done) ?_) | (apply AR.kP; first | refine AR.p rfl (by (repeat constructor); done) (by (repeat (first | exact LE.nil | apply LE.cons)); done) ?_ | refine AR.pi rfl (by (repeat constructor); done) (by first | omega | (have q := hz ‹_›; refine ⟨?_, ?_⟩ <;> omega)) (by (repeat (first | exact LE.nil | apply LE.cons)); done) ?_))
    | (apply AR.kNil; refine AR.nil (by kernel_rfl) (by kernel_rfl) ?_))
  all_goals (refine AW.ret (hD rfl ?_); (repeat' (first | apply Lx.s | apply Lx.b | apply Lx.i | apply LxL.cons | exact LxL.nil | apply Lx.tup | apply Lx.agg | apply Lx.refl)) <;> (try with_reducible rfl))
  all_goals (exfalso; simp_all [blt, le_iff, lt])

theorem lt_off {k p : L} (y : L) (h : hp k p = false) : lt k (p ++ y) = lt k p := by
  induction p generalizing k with
  | nil => simp [hp] at h
  | cons c p ih =>
    cases k with
    | nil => rfl
    | cons z k =>
      by_cases e : z = c
      · subst e
        have h' : hp k p = false := by simpa [hp] using h
        have := ih h'
        simp only [lt, List.cons_append] at this ⊢
        simp [Op.bytesLess, this]
      · have e' : (z == c) = false := by simpa using e
        simp [lt, Op.bytesLess, e']
theorem succ_snoc (p : L) (c : UInt8) : (c = 255 → succS (p ++ [c]) = succS p ∧ succOk (p ++ [c]) = succOk p) ∧ (c ≠ 255 → succS (p ++ [c]) = p ++ [c + 1] ∧ succOk (p ++ [c]) = true) := by
  refine ⟨fun h => ?_, fun h => ?_⟩
  · simp [succS, succOk, core_snoc, h]
  · simp [succS, succOk, core_snoc, h]
theorem hp_less {k p y : L} (h : hp k p = false) : hp k (p ++ y) = false := by
  cases h2 : hp k (p ++ y) with
  | false => rfl
  | true => rw [hp_trans h2 (hp_app _ _)] at h; cases h
theorem hp_cons (z c : UInt8) (k p : L) : hp (z :: k) (c :: p) = (c == z && hp k p) := rfl
theorem hp_nil (k : L) : hp k [] = true := by cases k <;> rfl
theorem lt_one (z c : UInt8) (x : L) : lt (z :: x) [c] = decide (z < c) := by cases x <;> simp [lt, Op.bytesLess]
theorem lt_succ {z c : UInt8} (h : c ≠ 255) : z < c + 1 ↔ z < c ∨ z = c := by
  have h1 : (c + 1).toNat = c.toNat + 1 := by
    have : c.toNat ≠ 255 := fun e => h (UInt8.toNat_inj.1 e)
    have := c.toNat_lt
    rw [UInt8.toNat_add]
    show (c.toNat + 1) % 256 = _
    omega
  rw [UInt8.lt_iff_toNat_lt, UInt8.lt_iff_toNat_lt, h1, ← UInt8.toNat_inj]
  omega
theorem succ_facts (p k : L) : (hp k p = true → lt k p = false ∧ (succOk p = true → lt k (succS p) = true)) ∧ (lt k p = false → hp k p = false → succOk p = true ∧ lt k (succS p) = false) ∧ (lt k p = true → succOk p = true → lt k (succS p) = true) := by
  have key : ∀ n (p k : L), p.length = n → (hp k p = true → lt k p = false ∧ (succOk p = true → lt k (succS p) = true)) ∧ (lt k p = false → hp k p = false → succOk p = true ∧ lt k (succS p) = false) ∧ (lt k p = true → succOk p = true → lt k (succS p) = true) := by
    intro n
    induction n with
    | zero =>
      intro p k hp0
      obtain rfl := List.eq_nil_of_length_eq_zero hp0
      refine ⟨fun _ => ⟨lt_nil k, fun h => by simp [succOk, core_nil] at h⟩, fun _ h => by simp [hp] at h, fun h => by rw [lt_nil] at h; cases h⟩
    | succ n ih =>
      intro p k hp0
      have hne : p ≠ [] := by intro e; subst e; cases hp0
      obtain ⟨p0, c, rfl⟩ : ∃ p0 c, p = p0 ++ [c] := ⟨p.dropLast, p.getLast hne, (List.dropLast_concat_getLast hne).symm⟩
      have hl : p0.length = n := by simpa using hp0
      obtain ⟨i1, i2, i3⟩ := ih p0 k hl
      obtain ⟨s1, s2⟩ := succ_snoc p0 c
      cases hk : hp k p0 with
      | false =>
        have e1 := lt_off [c] hk
        have e2 := hp_less (y := [c]) hk
        rw [e1, e2]
        by_cases hc : c = 255
        · obtain ⟨t1, t2⟩ := s1 hc
          rw [t1, t2]
          exact ⟨fun h => by simp at h, fun h _ => i2 h hk, i3⟩
        · obtain ⟨t1, t2⟩ := s2 hc
          rw [t1, t2, lt_off [c + 1] hk]
          exact ⟨fun h => by simp at h, fun h _ => ⟨rfl, h⟩, fun h _ => h⟩
      | true =>
        obtain ⟨x, rfl⟩ := hp_pre.1 hk
        obtain ⟨j1, j2⟩ := i1 hk
        rw [hp_app2, lt_app]
        by_cases hc : c = 255
        · obtain ⟨t1, t2⟩ := s1 hc
          rw [t1, t2]
          subst hc
          refine ⟨fun h => ⟨?_, j2⟩, fun h1 h2 => ?_, fun _ => j2⟩
          · obtain ⟨t, rfl⟩ := hp_pre.1 h
            rw [List.cons_append, List.nil_append, lt_one]
            simp
          · exfalso
            cases x with
            | nil => simp [lt, Op.bytesLess] at h1
            | cons z x =>
              rw [lt_one] at h1
              rw [hp_cons, hp_nil] at h2
              have h3 : ¬ z < 255 := by simpa using h1
              have h4 : ¬ z = 255 := fun e => by subst e; simp at h2
              have := z.toNat_lt
              have h5 : (255 : UInt8).toNat = 255 := rfl
              rw [UInt8.lt_iff_toNat_lt, h5] at h3
              exact h4 (UInt8.toNat_inj.1 (by rw [h5]; omega))
        · obtain ⟨t1, t2⟩ := s2 hc
          rw [t1, t2, lt_app]
          cases x with
          | nil => exact ⟨fun h => by simp [hp] at h, fun h => by simp [lt, Op.bytesLess] at h, fun _ _ => rfl⟩
          | cons z x =>
            rw [lt_one, lt_one, hp_cons, hp_nil, Bool.and_true]
            simp only [decide_eq_true_eq, decide_eq_false_iff_not, beq_iff_eq, beq_eq_false_iff_ne, lt_succ hc]
            refine ⟨fun h => ⟨fun h' => ?_, fun _ => .inr h.symm⟩, fun h h' => ⟨trivial, fun q => ?_⟩, fun h _ => .inl h⟩
            · subst h; exact absurd h' (UInt8.lt_irrefl _)
            · rcases q with q | q
              · exact h q
              · exact h' q.symm
  exact key _ p k rfl
theorem lOf (p k : L) : Good Try.prog 9 [.s p, .s k] [] (.b true) [] := by
  obtain ⟨f1, f2, f3⟩ := succ_facts p k
  simp only [lt] at f1 f2 f3
  refine Good.w tabOk mixed Try.func9 (N := 61) (by kernel_rfl) rfl (by (repeat (first | exact LE.nil | apply LE.cons)); done) (by (repeat (first | exact LE.nil | apply LE.cons)); done) fun D hD F => ?_
  repeat' (first
    | apply AO.nil
    | (apply AO.kG; first | (refine AO.gt rfl (fun h => ?_) (fun h => ?_) <;> (first | exact Bool.noConfusion h | exact absurd h (by decide) | (simp at h; done) | (rw [h]; try simp only [decide_eq_true_eq, decide_eq_false_iff_not, Int.not_lt, Int.not_le, ge_iff_le, gt_iff_lt, Bool.not_eq_true', Bool.not_eq_false', beq_iff_eq, beq_eq_false_iff_ne, ne_eq] at h; try rw [h]; try (exfalso; omega)) | skip)) | (refine AO.gf rfl (fun h => ?_) (fun h => ?_) <;> (first | exact Bool.noConfusion h | exact absurd h (by decide) | (simp at h; done) | (rw [h]; try simp only [decide_eq_true_eq, decide_eq_false_iff_not, Int.not_lt, Int.not_le, ge_iff_le, gt_iff_lt, Bool.not_eq_true', Bool.not_eq_false', beq_iff_eq, beq_eq_false_iff_ne, ne_eq] at h; try rw [h]; try (exfalso; omega)) | skip)) | refine AO.gs rfl ?_)
    | (apply AO.kCall 21; refine AO.call rfl (by (repeat constructor); done) (gAwake3) (by (repeat (first | exact LeL.nil | (refine LeL.cons (Le.refl _) ?_) | (refine LeL.cons Le.gr ?_) | (refine LeL.cons Le.nil ?_))); done) rfl ?_; skip)
    | (apply AO.kCall 26; refine AO.call rfl (by (repeat constructor); done) (gSucc _ ?_) (by (repeat (first | exact LeL.nil | (refine LeL.cons (Le.refl _) ?_) | (refine LeL.cons Le.gr ?_) | (refine LeL.cons Le.nil ?_))); done) rfl ?_; (· first | decide | omega | assumption | (simp only [List.length_take, List.length_drop, List.length_append, List.length_cons, List.length_nil, List.length_set]; omega) | (refine ⟨rfl, ?_⟩; first | omega | (simp only [List.length_take, List.length_drop, List.length_append, List.length_cons, List.length_nil, List.length_set]; omega)) | (simp only [List.length_take, List.length_drop, List.length_append, List.length_cons, List.length_nil, List.length_set] at *; omega)); skip)
    | (apply AO.kCall 24; refine AO.call rfl (by (repeat constructor); done) (gHas _ _) (by (repeat (first | exact LeL.nil | (refine LeL.cons (Le.refl _) ?_) | (refine LeL.cons Le.gr ?_) | (refine LeL.cons Le.nil ?_))); done) rfl ?_; skip)
    | (apply AO.kCall 35; refine AO.call rfl (by (repeat constructor); done) (gOf _ ?_) (by (repeat (first | exact LeL.nil | (refine LeL.cons (Le.refl _) ?_) | (refine LeL.cons Le.gr ?_) | (refine LeL.cons Le.nil ?_))); done) rfl ?_; (· first | decide | omega | assumption | (simp only [List.length_take, List.length_drop, List.length_append, List.length_cons, List.length_nil, List.length_set]; omega) | (refine ⟨rfl, ?_⟩; first | omega | (simp only [List.length_take, List.length_drop, List.length_append, List.length_cons, List.length_nil, List.length_set]; omega)) | (simp only [List.length_take, List.length_drop, List.length_append, List.length_cons, List.length_nil, List.length_set] at *; omega)); skip)
    | (apply AO.kCall 34; refine AO.call rfl (by (repeat constructor); done) (gIn _ _ _ _) (by (repeat (first | exact LeL.nil | (refine LeL.cons (Le.refl _) ?_) | (refine LeL.cons Le.gr ?_) | (refine LeL.cons Le.nil ?_))); done) rfl ?_; skip)
    | (apply AO.kBox; refine AO.box (by (repeat constructor); done) rfl rfl ?_)
    | (apply AO.kAlloc; refine AO.alloc rfl (by (repeat constructor); done) rfl ?_)
    | (apply AO.kStore; first | refine AO.store rfl rfl rfl (by (repeat constructor); done) rfl ?_ | refine AO.storeB rfl rfl rfl rfl rfl rfl (by first | decide | omega | assumption | (simp only [List.length_take, List.length_drop, List.length_append, List.length_cons, List.length_nil, List.length_set]; omega) | (refine ⟨rfl, ?_⟩; first | omega | (simp only [List.length_take, List.length_drop, List.length_append, List.length_cons, List.length_nil, List.length_set]; omega)) | (simp only [List.length_take, List.length_drop, List.length_append, List.length_cons, List.length_nil, List.length_set] at *; omega)) ?_ | refine AO.storeB rfl rfl rfl rfl rfl (wrapB _) (by first | decide | omega | assumption | (simp only [List.length_take, List.length_drop, List.length_append, List.length_cons, List.length_nil, List.length_set]; omega) | (refine ⟨rfl, ?_⟩; first | omega | (simp only [List.length_take, List.length_drop, List.length_append, List.length_cons, List.length_nil, List.length_set]; omega)) | (simp only [List.length_take, List.length_drop, List.length_append, List.length_cons, List.length_nil, List.length_set] at *; omega)) ?_)
    | (apply AO.kAdd; refine AO.add rfl rfl (by first | decide | omega | assumption | (simp only [List.length_take, List.length_drop, List.length_append, List.length_cons, List.length_nil, List.length_set]; omega) | (refine ⟨rfl, ?_⟩; first | omega | (simp only [List.length_take, List.length_drop, List.length_append, List.length_cons, List.length_nil, List.length_set]; omega)) | (simp only [List.length_take, List.length_drop, List.length_append, List.length_cons, List.length_nil, List.length_set] at *; omega)) ?_)
    | (apply AO.kSub; refine AO.sub rfl rfl (by first | decide | omega | assumption | (simp only [List.length_take, List.length_drop, List.length_append, List.length_cons, List.length_nil, List.length_set]; omega) | (refine ⟨rfl, ?_⟩; first | omega | (simp only [List.length_take, List.length_drop, List.length_append, List.length_cons, List.length_nil, List.length_set]; omega)) | (simp only [List.length_take, List.length_drop, List.length_append, List.length_cons, List.length_nil, List.length_set] at *; omega)) ?_)
    | (apply AO.kCv; first | refine AO.bytes rfl rfl rfl rfl rfl rfl rfl rfl ?_ | refine AO.str rfl rfl rfl rfl rfl rfl rfl rfl (by first | decide | omega | assumption | (simp only [List.length_take, List.length_drop, List.length_append, List.length_cons, List.length_nil, List.length_set]; omega) | (refine ⟨rfl, ?_⟩; first | omega | (simp only [List.length_take, List.length_drop, List.length_append, List.length_cons, List.length_nil, List.length_set]; omega)) | (simp only [List.length_take, List.length_drop, List.length_append, List.length_cons, List.length_nil, List.length_set] at *; omega)) ?_)
    | (apply AO.kP; first | refine AO.p rfl (by (repeat constructor); done) ?_ | refine AO.pi rfl (by (repeat constructor); done) (by first | decide | omega | assumption | (simp only [List.length_take, List.length_drop, List.length_append, List.length_cons, List.length_nil, List.length_set]; omega) | (refine ⟨rfl, ?_⟩; first | omega | (simp only [List.length_take, List.length_drop, List.length_append, List.length_cons, List.length_nil, List.length_set]; omega)) | (simp only [List.length_take, List.length_drop, List.length_append, List.length_cons, List.length_nil, List.length_set] at *; omega)) ?_ | refine AO.loadB rfl rfl rfl rfl (by first | decide | omega | assumption | (simp only [List.length_take, List.length_drop, List.length_append, List.length_cons, List.length_nil, List.length_set]; omega) | (refine ⟨rfl, ?_⟩; first | omega | (simp only [List.length_take, List.length_drop, List.length_append, List.length_cons, List.length_nil, List.length_set]; omega)) | (simp only [List.length_take, List.length_drop, List.length_append, List.length_cons, List.length_nil, List.length_set] at *; omega)) ?_)
    | apply AW.seq
    | (apply AW.kR; refine AW.r (by kernel_rfl) ?_)
    | (apply AW.kC; refine AW.cond rfl rfl (fun h => ?_) (fun h => ?_) <;> (first | exact Bool.noConfusion h | exact absurd h (by decide) | (simp at h; done) | (rw [h]; try simp only [decide_eq_true_eq, decide_eq_false_iff_not, Int.not_lt, Int.not_le, ge_iff_le, gt_iff_lt, Bool.not_eq_true', Bool.not_eq_false', beq_iff_eq, beq_eq_false_iff_ne, ne_eq] at h; try rw [h]; try (exfalso; omega)) | skip))
    | apply AW.skip
    | apply AW.block
    | apply AW.out
    | (apply AW.kE; refine AW.exit rfl ?_)
    | apply AW.label
    | (apply AW.kRd; refine AW.rd (by kernel_rfl) ?_)
    | (apply AR.kAny; first | (apply AR.kG; first | (refine AR.gt rfl (by (repeat (first | exact LE.nil | apply LE.cons)); done) (fun h => ?_) (fun h => ?_) <;> (first | exact Bool.noConfusion h | exact absurd h (by decide) | (simp at h; done) | (rw [h]; try simp only [decide_eq_true_eq, decide_eq_false_iff_not, Int.not_lt, Int.not_le, ge_iff_le, gt_iff_lt, Bool.not_eq_true', Bool.not_eq_false', beq_iff_eq, beq_eq_false_iff_ne, ne_eq] at h; try rw [h]; try (exfalso; omega)) | skip)) | (refine AR.gf rfl (by (repeat (first | exact LE.nil | apply LE.cons)); done) (fun h => ?_) (fun h => ?_) <;> (first | exact Bool.noConfusion h | exact absurd h (by decide) | (simp at h; done) | (rw [h]; try simp only [decide_eq_true_eq, decide_eq_false_iff_not, Int.not_lt, Int.not_le, ge_iff_le, gt_iff_lt, Bool.not_eq_true', Bool.not_eq_false', beq_iff_eq, beq_eq_false_iff_ne, ne_eq] at h; try rw [h]; try (exfalso; omega)) | skip)) | refine AR.gs rfl (by (repeat (first | exact LE.nil | apply LE.cons)); done) ?_) | (apply AR.kCall 21; refine AR.call rfl (by (repeat constructor); done) (gAwake3) (by (repeat (first | exact LeL.nil | (refine LeL.cons (Le.refl _) ?_) | (refine LeL.cons Le.gr ?_) | (refine LeL.cons Le.nil ?_))); done) rfl (by (repeat (first | exact LE.nil | apply LE.cons)); done) ?_; skip) | (apply AR.kCall 26; refine AR.call rfl (by (repeat constructor); done) (gSucc _ ?_) (by (repeat (first | exact LeL.nil | (refine LeL.cons (Le.refl _) ?_) | (refine LeL.cons Le.gr ?_) | (refine LeL.cons Le.nil ?_))); done) rfl (by (repeat (first | exact LE.nil | apply LE.cons)); done) ?_; (· first | decide | omega | assumption | (simp only [List.length_take, List.length_drop, List.length_append, List.length_cons, List.length_nil, List.length_set]; omega) | (refine ⟨rfl, ?_⟩; first | omega | (simp only [List.length_take, List.length_drop, List.length_append, List.length_cons, List.length_nil, List.length_set]; omega)) | (simp only [List.length_take, List.length_drop, List.length_append, List.length_cons, List.length_nil, List.length_set] at *; omega)); skip) | (apply AR.kCall 24; refine AR.call rfl (by (repeat constructor); done) (gHas _ _) (by (repeat (first | exact LeL.nil | (refine LeL.cons (Le.refl _) ?_) | (refine LeL.cons Le.gr ?_) | (refine LeL.cons Le.nil ?_))); done) rfl (by (repeat (first | exact LE.nil | apply LE.cons)); done) ?_; skip) | (apply AR.kCall 35; refine AR.call rfl (by (repeat constructor); done) (gOf _ ?_) (by (repeat (first | exact LeL.nil | (refine LeL.cons (Le.refl _) ?_) | (refine LeL.cons Le.gr ?_) | (refine LeL.cons Le.nil ?_))); done) rfl (by (repeat (first | exact LE.nil | apply LE.cons)); done) ?_; (· first | decide | omega | assumption | (simp only [List.length_take, List.length_drop, List.length_append, List.length_cons, List.length_nil, List.length_set]; omega) | (refine ⟨rfl, ?_⟩; first | omega | (simp only [List.length_take, List.length_drop, List.length_append, List.length_cons, List.length_nil, List.length_set]; omega)) | (simp only [List.length_take, List.length_drop, List.length_append, List.length_cons, List.length_nil, List.length_set] at *; omega)); skip) | (apply AR.kCall 34; refine AR.call rfl (by (repeat constructor); done) (gIn _ _ _ _) (by (repeat (first | exact LeL.nil | (refine LeL.cons (Le.refl _) ?_) | (refine LeL.cons Le.gr ?_) | (refine LeL.cons Le.nil ?_))); done) rfl (by (repeat (first | exact LE.nil | apply LE.cons)); done) ?_; skip) | (apply AR.kBox; refine AR.box (by (repeat constructor); done) rfl rfl (by (repeat (first | exact LE.nil | apply LE.cons)); done) ?_) | (apply AR.kAlloc; refine AR.alloc rfl (by (repeat constructor); done) rfl (by (repeat (first | exact LE.nil | apply LE.cons)); done) ?_) | (apply AR.kStore; refine AR.store rfl rfl rfl (by (repeat constructor); done) rfl (by (repeat (first | exact LE.nil | apply LE.cons)); done) ?_) | (apply AR.kAdd; refine AR.add rfl rfl (by first | decide | omega | assumption | (simp only [List.length_take, List.length_drop, List.length_append, List.length_cons, List.length_nil, List.length_set]; omega) | (refine ⟨rfl, ?_⟩; first | omega | (simp only [List.length_take, List.length_drop, List.length_append, List.length_cons, List.length_nil, List.length_set]; omega)) | (simp only [List.length_take, List.length_drop, List.length_append, List.length_cons, List.length_nil, List.length_set] at *; omega)) (by (repeat (first | exact LE.nil | apply LE.cons)); done) ?_) | (apply AR.kSub; refine AR.sub rfl rfl (by first | decide | omega | assumption | (simp only [List.length_take, List.length_drop, List.length_append, List.length_cons, List.length_nil, List.length_set]; omega) | (refine ⟨rfl, ?_⟩; first | omega | (simp only [List.length_take, List.length_drop, List.length_append, List.length_cons, List.length_nil, List.length_set]; omega)) | (simp only [List.length_take, List.length_drop, List.length_append, List.length_cons, List.length_nil, List.length_set] at *; omega)) (by (repeat (first | exact LE.nil | apply LE.cons)); done) ?_) | (apply AR.kP; first | refine AR.p rfl (by (repeat constructor); done) (by (repeat (first | exact LE.nil | apply LE.cons)); done) ?_ | refine AR.pi rfl (by (repeat constructor); done) (by first | decide | omega | assumption | (simp only [List.length_take, List.length_drop, List.length_append, List.length_cons, List.length_nil, List.length_set]; omega) | (refine ⟨rfl, ?_⟩; first | omega | (simp only [List.length_take, List.length_drop, List.length_append, List.length_cons, List.length_nil, List.length_set]; omega)) | (simp only [List.length_take, List.length_drop, List.length_append, List.length_cons, List.length_nil, List.length_set] at *; omega)) (by (repeat (first | exact LE.nil | apply LE.cons)); done) ?_))
    | (apply AR.kNil; refine AR.nil (by kernel_rfl) (by kernel_rfl) ?_))
  all_goals (refine AW.ret (hD rfl ?_); (repeat' (first | apply Lx.s | apply Lx.b | apply Lx.i | apply LxL.cons | exact LxL.nil | apply Lx.tup | apply Lx.agg | apply Lx.refl)) <;> (try with_reducible rfl))
  all_goals (exfalso; cases h9 : Op.bytesLess k p <;> simp_all [blt, le_iff, lt, inR])
end Go.Proofs.Ytafbjkidgdpfoaa.Mv
