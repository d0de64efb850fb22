/- A machine for proofs, part T: a region that draws its order comes to what it comes to in the text's order. Under no condition. -/
import Derived.Test.YtocppeifkjdeiaaCoreS
namespace Go.Proofs.Ytocppeifkjdeiaa.Mv
open Go
set_option linter.unusedSimpArgs false
set_option linter.unusedVariables false

theorem RR.congr {c : Ctx} {st st' : St} {a : Act} {w : World} (h : RR c st a w) (h1 : ∀ t, st.get t = st'.get t) (h2 : ∀ t, st.ob t = st'.ob t) : RR c st' a w := by
  obtain ⟨Γ, m, h⟩ := h
  exact ⟨Γ, m, h.defers, h.size, h.gok, fun t ht => by rw [← h1]; exact h.tmps t ht, fun t => by rw [← h2]; exact h.obs t, fun t g hg => h.own t g (by rw [h2]; exact hg), fun t t' g hg hg' => h.inj t t' g (by rw [h2]; exact hg) (by rw [h2]; exact hg'), h.frame, h.sub, h.fresh, h.ext⟩
theorem ObOk.heap {Γ m w w' t ob} (h : ObOk Γ m w t ob) (hw : w'.heap = w.heap) : ObOk Γ m w' t ob :=
  h.keep (Sub.refl _) rfl rfl (fun _ _ => ⟨fun _ h => h, fun _ _ h => h⟩) fun g _ => ⟨by rw [hw], fun _ _ => rfl⟩
theorem RR.drew {c : Ctx} {st : St} {a : Act} {w : World} (h : RR c st a w) : RR c st a { w with drawn := w.drawn + 1 } := by
  obtain ⟨Γ, m, h⟩ := h
  exact ⟨Γ, m, h.defers, h.size, fun ad v hv => h.gok ad v hv, h.tmps, fun t => (h.obs t).heap rfl, h.own, h.inj, ⟨h.frame.os, h.frame.tape, h.frame.output, h.frame.size, h.frame.block⟩, h.sub, h.fresh, h.ext⟩

theorem chain_len {P tab ops} : ∀ {os : List Oper} {st : St} {rs : List Rec}, Chain P tab ops os st rs → rs.length = os.length
  | [], _, [], _ => rfl
  | _ :: _, _, _ :: _, h => by simp [chain_len h.2]
  | [], _, _ :: _, h => h.elim
  | _ :: _, _, [], h => h.elim
theorem chain_at {P tab ops} : ∀ {os : List Oper} {st : St} {rs : List Rec} {i : Nat} {o : Oper} {r : Rec}, Chain P tab ops os st rs → os[i]? = some o → rs[i]? = some r → ∀ k, OneOk P tab ops (appS rs (fun j => decide (j < k + i)) k st) o r
  | [], _, _, i, _, _, _, ho, _, _ => by simp at ho
  | o :: os, st, [], i, _, _, h, _, _, _ => h.elim
  | o :: os, st, q :: rs, 0, _, _, h, ho, hr, k => by
    simp at ho hr; subst ho; subst hr
    have : appS (q :: rs) (fun j => decide (j < k + 0)) k st = st := by
      have h4 : ∀ (rs : List Rec) (i : Nat) (s : St), k ≤ i → appS rs (fun j => decide (j < k + 0)) i s = s := by
        intro rs; induction rs with
        | nil => intro i s _; rfl
        | cons r rs ih =>
          intro i s hi
          have : decide (i < k + 0) = false := by simp; omega
          simp only [appS, this, Bool.false_eq_true, if_false]
          exact ih _ _ (by omega)
      exact h4 _ _ _ (Nat.le_refl _)
    rw [this]
    exact h.1
  | o :: os, st, q :: rs, i + 1, o', r', h, ho, hr, k => by
    have ih := chain_at h.2 (by simpa using ho) (by simpa using hr) (k + 1)
    have hk : decide (k < k + (i + 1)) = true := by simp
    simp only [appS, hk, if_true]
    have e : (fun j => decide (j < k + (i + 1))) = fun j => decide (j < k + 1 + i) := by funext j; congr 2; omega
    rw [e]
    exact ih

theorem refs_appT {rs : List Rec} {S : Nat → Bool} {d : Nat} : ∀ {i : Nat} {st : St}, d ∈ St.refsT (appS rs S i st).T → d ∈ St.refsT st.T ∨ ∃ j r, rs[j]? = some r ∧ S (i + j) = true ∧ d ∈ St.refsT r.e.T := by
  have happ : ∀ (l r : List (Nat × AV)), d ∈ St.refsT (l ++ r) → d ∈ St.refsT l ∨ d ∈ St.refsT r := by
    intro l r h
    induction l with
    | nil => exact .inr h
    | cons p l ih =>
      obtain ⟨j, x⟩ := p
      simp only [List.cons_append, St.refsT, List.mem_append] at h ⊢
      rcases h with h | h
      · exact .inl (.inl h)
      · rcases ih h with h | h
        · exact .inl (.inr h)
        · exact .inr h
  induction rs with
  | nil => intro i st h; exact .inl h
  | cons r rs ih =>
    intro i st h
    simp only [appS] at h
    rcases ih h with h | ⟨j, q, hq, hs, hd⟩
    · split at h
      · rename_i hs
        rcases happ _ _ h with h | h
        · exact .inr ⟨0, r, rfl, hs, h⟩
        · exact .inl h
      · exact .inl h
    · exact .inr ⟨j + 1, q, by simpa using hq, by rw [← hs]; congr 1; omega, hd⟩
theorem refs_appB {rs : List Rec} {S : Nat → Bool} {d : Nat} : ∀ {i : Nat} {st : St}, d ∈ St.refsB (appS rs S i st).B → d ∈ St.refsB st.B ∨ ∃ j r, rs[j]? = some r ∧ S (i + j) = true ∧ d ∈ St.refsB r.e.B := by
  have happ : ∀ (l r : List (Nat × Ob)), d ∈ St.refsB (l ++ r) → d ∈ St.refsB l ∨ d ∈ St.refsB r := by
    intro l r h
    induction l with
    | nil => exact .inr h
    | cons p l ih =>
      obtain ⟨j, x⟩ := p
      simp only [List.cons_append, St.refsB, List.mem_append] at h ⊢
      rcases h with h | h
      · exact .inl (.inl h)
      · rcases ih h with h | h
        · exact .inl (.inr h)
        · exact .inr h
  induction rs with
  | nil => intro i st h; exact .inl h
  | cons r rs ih =>
    intro i st h
    simp only [appS] at h
    rcases ih h with h | ⟨j, q, hq, hs, hd⟩
    · split at h
      · rename_i hs
        rcases happ _ _ h with h | h
        · exact .inr ⟨0, r, rfl, hs, h⟩
        · exact .inl h
      · exact .inl h
    · exact .inr ⟨j + 1, q, by simpa using hq, by rw [← hs]; congr 1; omega, hd⟩
theorem refs_appT' {rs : List Rec} {S : Nat → Bool} {d : Nat} : ∀ {i : Nat} {st : St}, (d ∈ St.refsT st.T ∨ ∃ j r, rs[j]? = some r ∧ S (i + j) = true ∧ d ∈ St.refsT r.e.T) → d ∈ St.refsT (appS rs S i st).T := by
  have happ : ∀ (l r : List (Nat × AV)), d ∈ St.refsT l ∨ d ∈ St.refsT r → d ∈ St.refsT (l ++ r) := by
    intro l r h
    induction l with
    | nil => rcases h with h | h
             · cases h
             · exact h
    | cons p l ih =>
      obtain ⟨j, x⟩ := p
      simp only [List.cons_append, St.refsT, List.mem_append] at h ⊢
      rcases h with (h | h) | h
      · exact .inl h
      · exact .inr (ih (.inl h))
      · exact .inr (ih (.inr h))
  induction rs with
  | nil => intro i st h; rcases h with h | ⟨j, r, hr, _⟩
           · exact h
           · simp at hr
  | cons r rs ih =>
    intro i st h
    simp only [appS]
    refine ih ?_
    rcases h with h | ⟨j, q, hq, hs, hd⟩
    · refine .inl ?_
      split
      · exact happ _ _ (.inr h)
      · exact h
    · cases j with
      | zero => simp at hq; subst hq; simp only [Nat.add_zero] at hs; rw [if_pos hs]; exact .inl (happ _ _ (.inl hd))
      | succ j => exact .inr ⟨j, q, by simpa using hq, by rw [← hs]; congr 1; omega, hd⟩
theorem refs_appB' {rs : List Rec} {S : Nat → Bool} {d : Nat} : ∀ {i : Nat} {st : St}, (d ∈ St.refsB st.B ∨ ∃ j r, rs[j]? = some r ∧ S (i + j) = true ∧ d ∈ St.refsB r.e.B) → d ∈ St.refsB (appS rs S i st).B := by
  have happ : ∀ (l r : List (Nat × Ob)), d ∈ St.refsB l ∨ d ∈ St.refsB r → d ∈ St.refsB (l ++ r) := by
    intro l r h
    induction l with
    | nil => rcases h with h | h
             · cases h
             · exact h
    | cons p l ih =>
      obtain ⟨j, x⟩ := p
      simp only [List.cons_append, St.refsB, List.mem_append] at h ⊢
      rcases h with (h | h) | h
      · exact .inl h
      · exact .inr (ih (.inl h))
      · exact .inr (ih (.inr h))
  induction rs with
  | nil => intro i st h; rcases h with h | ⟨j, r, hr, _⟩
           · exact h
           · simp at hr
  | cons r rs ih =>
    intro i st h
    simp only [appS]
    refine ih ?_
    rcases h with h | ⟨j, q, hq, hs, hd⟩
    · refine .inl ?_
      split
      · exact happ _ _ (.inr h)
      · exact h
    · cases j with
      | zero => simp at hq; subst hq; simp only [Nat.add_zero] at hs; rw [if_pos hs]; exact .inl (happ _ _ (.inl hd))
      | succ j => exact .inr ⟨j, q, by simpa using hq, by rw [← hs]; congr 1; omega, hd⟩

theorem look_key {α : Type} {l : List (Nat × α)} {t : Nat} (h : (look l t).isSome = true) : ∃ p ∈ l, p.1 = t := by
  obtain ⟨x, hx⟩ := Option.isSome_iff_exists.1 h
  exact ⟨_, look_mem hx, rfl⟩

/-- What two that keep off each other don't share. -/
structure Off (ops : Array Oper) (o o' : Oper) (r r' : Rec) : Prop where
  tt : ∀ t, (look r.e.T t).isSome = true → look r'.e.T t = none
  read : ∀ t, (look r.e.T t).isSome = true → Operand.tmp t ∉ o'.op.operands.toList ∧ guardSlot ops o' ≠ some t
  read' : ∀ t, (look r'.e.T t).isSome = true → Operand.tmp t ∉ o.op.operands.toList ∧ guardSlot ops o ≠ some t
  bb : ∀ t, (look r.e.B t).isSome = true → look r'.e.B t = none
  tag : ∀ t, (look r.e.B t).isSome = true → t ∉ r'.tags
  tag' : ∀ t, (look r'.e.B t).isSome = true → t ∉ r.tags
  new : ∀ d ∈ r.e.new, d ∉ St.refsT r'.e.T ∧ d ∉ St.refsB r'.e.B
  new' : ∀ d ∈ r'.e.new, d ∉ St.refsT r.e.T ∧ d ∉ St.refsB r.e.B

theorem look_off {α β : Type} {l : List (Nat × α)} {l' : List (Nat × β)} {t : Nat} (h : ∀ p ∈ l, ∀ q ∈ l', p.1 ≠ q.1) (ht : (look l t).isSome = true) : look l' t = none := by
  obtain ⟨p, hp, rfl⟩ := look_key ht
  exact look_none fun q hq e => h p hp q hq e.symm

theorem apart_off {ops : Array Oper} {o o' : Oper} {r r' : Rec} (h : apart (looks ops o) (looks ops o') r r' = true) : Off ops o o' r r' := by
  simp only [apart, looks, Bool.and_eq_true, List.all_eq_true] at h
  obtain ⟨⟨⟨⟨⟨h1, h2⟩, h3⟩, h4⟩, h5⟩, h6⟩ := h
  refine ⟨fun t ht => look_off (fun p hp q hq => by have := (h1 p hp).1.1 q hq; simpa using this) ht, fun t ht => ?_, fun t ht => ?_, fun t ht => look_off (fun p hp q hq => by have := (h3 p hp).1 q hq; simpa using this) ht, fun t ht => ?_, fun t ht => ?_, fun d hd => by have := h5 d hd; simpa using this, fun d hd => by have := h6 d hd; simpa using this⟩
  · obtain ⟨p, hp, rfl⟩ := look_key ht
    refine ⟨fun hm => ?_, fun hm => ?_⟩
    · have := (h1 p hp).1.2 _ hm; simp at this
    · have := (h1 p hp).2; rw [hm] at this; simp at this
  · obtain ⟨p, hp, rfl⟩ := look_key ht
    refine ⟨fun hm => ?_, fun hm => ?_⟩
    · have := (h2 p hp).1 _ hm; simp at this
    · have := (h2 p hp).2; rw [hm] at this; simp at this
  · obtain ⟨p, hp, rfl⟩ := look_key ht
    have := (h3 p hp).2; simpa using this
  · obtain ⟨p, hp, rfl⟩ := look_key ht
    have := h4 p hp; simpa using this

end Go.Proofs.Ytocppeifkjdeiaa.Mv
