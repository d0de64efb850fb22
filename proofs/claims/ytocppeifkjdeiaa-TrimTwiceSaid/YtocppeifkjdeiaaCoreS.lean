/- A machine for proofs, part S: what an operation looks at; regions that draw their order. Under no condition. -/
import Derived.Test.YtocppeifkjdeiaaCoreR
namespace Go.Proofs.Ytocppeifkjdeiaa.Mv
open Go
set_option linter.unusedSimpArgs false
set_option linter.unusedVariables false

theorem plan_agree {tab : Tab} {fs : Array Field} {st st' : St} : ∀ {ps : List (Nat × Operand)}, (∀ p ∈ ps, st.val p.2 = st'.val p.2) → plan tab fs st ps = plan tab fs st' ps
  | [], _ => rfl
  | (f, x) :: ps, h => by
    simp only [plan]
    rw [plan_agree fun p hp => h p (by simp [hp]), h (f, x) (by simp)]

theorem pop_agree {tab : Tab} {st st' : St} {op : Op} (hx : ∀ x, x ∈ op.operands → st.val x = st'.val x) (ho : ∀ x, x ∈ op.operands → ∀ t ∈ (st.val x).refs, st.ob t = st'.ob t) : pop tab st op = pop tab st' op := by
  cases op with
  | move x => simp only [pop]; rw [hx x (by simp [Op.operands])]
  | assign x => simp only [pop]; rw [hx x (by simp [Op.operands])]
  | pick x y z => simp only [pop]; rw [hx x (by simp [Op.operands]), hx y (by simp [Op.operands]), hx z (by simp [Op.operands])]
  | binOp op t x y t' => simp only [pop]; rw [hx x (by simp [Op.operands]), hx y (by simp [Op.operands])]
  | unOp op t x => simp only [pop]; rw [hx x (by simp [Op.operands])]
  | convert s d x =>
    have h1 := hx x (by simp [Op.operands])
    have h2 := ho x (by simp [Op.operands])
    simp only [pop]
    rw [← h1]
    cases hv : st.val x with
    | bsl g o n sz =>
      rw [hv] at h2
      have h3 := h2 g (by simp [AV.refs])
      match sz with
      | 1 => simp only [h3]
      | 0 => rfl
      | _ + 2 => rfl
    | _ => rfl
  | extract x j => simp only [pop]; rw [hx x (by simp [Op.operands])]
  | nilCheck x => simp only [pop]; rw [hx x (by simp [Op.operands])]
  | fieldAddr t x f => simp only [pop]; rw [hx x (by simp [Op.operands])]
  | field t x f => simp only [pop]; rw [hx x (by simp [Op.operands])]
  | load t x =>
    have h1 := hx x (by simp [Op.operands])
    have h2 := ho x (by simp [Op.operands])
    simp only [pop]
    rw [← h1]
    cases hv : st.val x with
    | ptr g o => rw [hv] at h2; simp only; rw [h2 g (by simp [AV.refs])]
    | _ => rfl
  | build t ps =>
    simp only [pop]
    split
    · split
      · rw [plan_agree fun p hp => hx p.2 (by simp only [Op.operands]; simpa using ⟨p.1, by simpa using hp⟩)]
      · rfl
    · rfl
  | indexAddr t x y => simp only [pop]; rw [hx x (by simp [Op.operands]), hx y (by simp [Op.operands])]
  | index t x y => simp only [pop]; rw [hx x (by simp [Op.operands]), hx y (by simp [Op.operands])]
  | slice t x lo hi mx =>
    have h1 : lo.map st.val = lo.map st'.val := by cases lo with | none => rfl | some y => simp [hx y (by simp [Op.operands])]
    have h2 : hi.map st.val = hi.map st'.val := by cases hi with | none => rfl | some y => simp [hx y (by simp [Op.operands])]
    simp only [pop]
    rw [hx x (by simp [Op.operands]), h1, h2]
  | makeFunc fn first caps =>
    have h1 : caps.toList.map st.val = caps.toList.map st'.val := List.map_congr_left fun y hy => hx y (by simp only [Op.operands]; simpa using .inr (by simpa using hy))
    simp only [pop]
    rw [h1]
  | call cl =>
    obtain ⟨callee, args, argTypes⟩ := cl
    have hm : ∀ x ∈ args.toList, st.val x = st'.val x := fun x hx' => hx x (by simp only [Op.operands, Call.operands]; simpa using .inr (by simpa using hx'))
    simp only [pop]
    split
    · split
      · rename_i x t e1 e2; rw [hm x (by rw [e1]; simp)]
      · rfl
    · split
      · rename_i x y e1; rw [hm x (by rw [e1]; simp), hm y (by rw [e1]; simp)]
      · rfl
    · split
      · rename_i x y e1; rw [hm x (by rw [e1]; simp), hm y (by rw [e1]; simp)]
      · rfl
    · rfl
  | _ => rfl

theorem mop_agree {tab : Tab} {st st' : St} {o : Oper} (hx : ∀ x, x ∈ o.op.operands → st.val x = st'.val x) (ho : ∀ x, x ∈ o.op.operands → ∀ t ∈ (st.val x).refs, st.ob t = st'.ob t) : mop tab st o = mop tab st' o := by
  obtain ⟨dst, op, type, pos, after, guard⟩ := o
  simp only at hx ho
  cases op with
  | store t x y =>
    have h1 := hx x (by simp [Op.operands])
    have h2 := ho x (by simp [Op.operands])
    simp only [mop]
    rw [← h1, ← hx y (by simp [Op.operands])]
    split
    · rename_i i g off hi hv
      rw [hv] at h2
      rw [h2 g (by simp [AV.refs])]
    · rfl
  | box t x => simp only [mop]; rw [hx x (by simp [Op.operands])]
  | alloc t => rfl
  | buildSlice t len ps =>
    have hm : ∀ p ∈ ps.toList, st.val p.2 = st'.val p.2 := fun p hp => hx p.2 (by simp only [Op.operands]; simpa using ⟨p.1, by simpa using hp⟩)
    have h1 : ∀ j : TyI, (ps.toList.all fun p => fitsIn j.size (st.val p.2) && (st.val p.2).cells.all AV.shut) = ps.toList.all fun p => fitsIn j.size (st'.val p.2) && (st'.val p.2).cells.all AV.shut := fun j => by
      apply Bool.eq_iff_iff.2
      simp only [List.all_eq_true]
      exact ⟨fun h p hp => by rw [← hm p hp]; exact h p hp, fun h p hp => by rw [hm p hp]; exact h p hp⟩
    have h2 : (ps.toList.map fun p => (st.val p.2).cells.map AV.close) = ps.toList.map fun p => (st'.val p.2).cells.map AV.close := List.map_congr_left fun p hp => by rw [hm p hp]
    simp only [mop]
    rw [h2]
    split
    · split
      · split
        · rw [h1]
        · rfl
      · rfl
    · rfl
  | makeSlice t x y => simp only [mop]; rw [hx x (by simp [Op.operands]), hx y (by simp [Op.operands])]
  | convert s d x => simp only [mop]; rw [hx x (by simp [Op.operands])]
  | call cl =>
    obtain ⟨callee, args, argTypes⟩ := cl
    simp only [mop]
    split
    · split
      · rename_i s x t u d e1 e2
        have hm : ∀ x ∈ args.toList, x ∈ (Op.call { callee := .builtin .append, args := args, argTypes := argTypes }).operands := fun x hx' => by simp only [Op.operands, Call.operands]; simpa using hx'
        have h1 := hx s (hm s (by rw [e1]; simp))
        have h2 := ho s (hm s (by rw [e1]; simp))
        have h3 := hx x (hm x (by rw [e1]; simp))
        rw [← h1, ← h3]
        split
        · split
          · split
            · split
              · split
                · rename_i tg e' sz rows hv
                  rw [hv] at h2
                  rw [h2 tg (by simp [AV.refs])]
                · rfl
                · rfl
              · rfl
            · rfl
          · rfl
        · rfl
      · rfl
    · rfl
  | _ => rfl

theorem mem_opRefs {st : St} {xs : List Operand} {x : Operand} {t : Nat} (hx : x ∈ xs) (ht : t ∈ (st.val x).refs) : t ∈ opRefs st xs := by
  induction xs with
  | nil => cases hx
  | cons y ys ih =>
    simp only [opRefs, List.mem_append]
    cases hx with
    | head => exact .inl ht
    | tail _ hx => exact .inr (ih hx)
theorem opRefs_agree {st st' : St} : ∀ {xs : List Operand}, (∀ x ∈ xs, st.val x = st'.val x) → opRefs st xs = opRefs st' xs
  | [], _ => rfl
  | x :: xs, h => by simp only [opRefs]; rw [h x (by simp), opRefs_agree fun y hy => h y (by simp [hy])]
theorem obRefs_agree {st st' : St} : ∀ {ts : List Nat}, (∀ t ∈ ts, st.ob t = st'.ob t) → obRefs st ts = obRefs st' ts
  | [], _ => rfl
  | t :: ts, h => by simp only [obRefs]; rw [h t (by simp), obRefs_agree fun y hy => h y (by simp [hy])]
theorem tagsAt_agree {st st' : St} {o : Oper} (hx : ∀ x, x ∈ o.op.operands → st.val x = st'.val x) (ht : ∀ t ∈ tagsAt st o, st.ob t = st'.ob t) : tagsAt st o = tagsAt st' o := by
  have h1 : opRefs st o.op.operands.toList = opRefs st' o.op.operands.toList := opRefs_agree fun x hx' => hx x (by simpa using hx')
  unfold tagsAt
  rw [← h1]
  congr 1
  exact obRefs_agree fun t ht' => ht t (List.mem_append_left _ ht')

/-- The slot that a guard asks. -/
def guardSlot (ops : Array Oper) (o : Oper) : Option Nat :=
  match o.guard with
  | none => none
  | some (j, _) => (ops[j]?).bind (·.dst)
theorem wants_agree {ops : Array Oper} {st st' : St} {o : Oper} (hg : ∀ d, guardSlot ops o = some d → st.get d = st'.get d) : wants ops st o = wants ops st' o := by
  unfold wants
  split
  · rfl
  · rename_i j want he
    split
    · rename_i d hd
      rw [hg d (by simp [guardSlot, he, hd])]
    · rfl

theorem one_agree {P : Program} {tab : Tab} {ops : Array Oper} {st st' : St} {o : Oper} {r : Rec} (h : OneOk P tab ops st o r) (hx : ∀ x, x ∈ o.op.operands → st.val x = st'.val x) (ht : ∀ t ∈ r.tags, st.ob t = st'.ob t) (hg : ∀ d, guardSlot ops o = some d → st.get d = st'.get d)
    (hf : ∀ d ∈ r.e.new, st'.free d) : OneOk P tab ops st' o r := by
  obtain ⟨h1, h2⟩ := h
  rw [h1] at ht
  have ho : ∀ x, x ∈ o.op.operands → ∀ t ∈ (st.val x).refs, st.ob t = st'.ob t := fun x hx' t ht' => ht t (List.mem_append_left _ (mem_opRefs (by simpa using hx') ht'))
  refine ⟨by rw [h1]; exact tagsAt_agree hx ht, ?_⟩
  rcases h2 with ⟨h3, h4, _⟩ | ⟨h3, h4⟩
  · refine .inl ⟨by rw [← wants_agree hg]; exact h3, ?_, hf⟩
    cases h4 with
    | pure q1 q2 => exact .pure (by rw [← pop_agree hx ho]; exact q1) q2
    | mem q1 => exact .mem (by rw [← mop_agree hx ho]; exact q1)
    | call q1 =>
      obtain ⟨fx, xs, ts, d, f, caps, args, ins, res, outs, ρ, k1, k2, k3, k4, k5, k6, k7⟩ := q1
      have hop : ∀ z, z = fx ∨ z ∈ xs.toList → z ∈ o.op.operands := fun z hz => by rw [k1]; simp only [Op.operands, Call.operands]; simpa using hz
      refine .call ⟨fx, xs, ts, d, f, caps, args, ins, res, outs, ρ, k1, k2, by rw [← hx fx (hop fx (.inl rfl))]; exact k3, k4, ?_, fun p hp => ?_, k7⟩
      · rw [← List.map_congr_left fun z hz => hx z (hop z (.inr hz))]; exact k5
      · obtain ⟨k8, k9⟩ := k6 p hp
        exact ⟨by rw [← ht _ k9]; exact k8, by rw [← tagsAt_agree hx ht]; exact k9⟩
    | ext q1 =>
      refine .ext fun g st'' hx'' ht'' c Γ m a w => q1 g st'' (fun x hx3 => (hx x hx3).trans (hx'' x hx3)) (fun t ht3 => (ht t ht3).trans (ht'' t ?_)) c Γ m a w
      rw [← tagsAt_agree hx ht]; exact ht3
  · exact .inr ⟨by rw [← wants_agree hg]; exact h3, h4⟩


/-! ### which one waits for which -/
/-- What two of which neither waits for the other must keep off. -/
def apart (o o' : Option Nat × List Operand × Option Nat) (r r' : Rec) : Bool :=
  r.e.T.all (fun p => r'.e.T.all (fun q => p.1 != q.1) && o'.2.1.all (fun x => match x with | .tmp t => t != p.1 | _ => true) && (match o'.2.2 with | some d => d != p.1 | none => true)) &&
  r'.e.T.all (fun p => o.2.1.all (fun x => match x with | .tmp t => t != p.1 | _ => true) && (match o.2.2 with | some d => d != p.1 | none => true)) &&
  r.e.B.all (fun p => r'.e.B.all (fun q => p.1 != q.1) && !r'.tags.contains p.1) && r'.e.B.all (fun p => !r.tags.contains p.1) &&
  r.e.new.all (fun d => !(St.refsT r'.e.T).contains d && !(St.refsB r'.e.B).contains d) && r'.e.new.all (fun d => !(St.refsT r.e.T).contains d && !(St.refsB r.e.B).contains d)
def looks (ops : Array Oper) (o : Oper) : Option Nat × List Operand × Option Nat := (o.dst, o.op.operands.toList, guardSlot ops o)

/-- Pairs of which neither waits for the other keep off each other. -/
def NI (ops : Array Oper) (rs : List Rec) : Prop :=
  ∀ i j o o' r r', i < j → ops[i]? = some o → ops[j]? = some o' → rs[i]? = some r → rs[j]? = some r' → ((Region.before ops).getD j 0).testBit i = false → apart (looks ops o) (looks ops o') r r' = true

abbrev befAfter (acc : Array Nat) (s : Nat) (e : Edge) : Nat := if Region.binds .any e then s ||| 2 ^ e.on ||| acc.getD e.on 0 else s
theorem bef_after {acc : Array Nat} {k : Nat} : ∀ (l : List Edge) (s : Nat), (l.foldl (befAfter acc) s).testBit k = true → s.testBit k = true ∨ ∃ e ∈ l, Region.binds .any e = true ∧ (k = e.on ∨ (acc.getD e.on 0).testBit k = true)
  | [], s, h => .inl h
  | e :: l, s, h => by
    rw [List.foldl_cons] at h
    rcases bef_after l _ h with h | ⟨e', he', h'⟩
    · unfold befAfter at h
      split at h
      · rename_i hb
        rw [Nat.testBit_or, Nat.testBit_or, Bool.or_eq_true, Bool.or_eq_true, Nat.testBit_two_pow] at h
        rcases h with (h | h) | h
        · exact .inl h
        · exact .inr ⟨e, by simp, hb, .inl (by simp at h; exact h.symm)⟩
        · exact .inr ⟨e, by simp, hb, .inr h⟩
      · exact .inl h
    · exact .inr ⟨e', by simp [he'], h'⟩
abbrev befStep (acc : Array Nat) (o : Oper) : Array Nat := acc.push (o.after.foldl (befAfter acc) 0)
theorem bef_keep : ∀ (l : List Oper) (acc : Array Nat), acc.size ≤ (l.foldl befStep acc).size ∧ ∀ i, i < acc.size → (l.foldl befStep acc).getD i 0 = acc.getD i 0
  | [], acc => ⟨Nat.le_refl _, fun _ _ => rfl⟩
  | o :: l, acc => by
    obtain ⟨h1, h2⟩ := bef_keep l (befStep acc o)
    simp only [Array.size_push] at h1 h2
    refine ⟨by simpa using by omega, fun i hi => ?_⟩
    rw [List.foldl_cons, h2 i (by omega)]
    simp [Array.getElem?_push, Nat.ne_of_lt hi]
theorem bef_spec : ∀ (l : List Oper) (acc : Array Nat) (i k : Nat), acc.size ≤ i → ((l.foldl befStep acc).getD i 0).testBit k = true →
    ∃ o, l[i - acc.size]? = some o ∧ ∃ e ∈ o.after.toList, Region.binds .any e = true ∧ (k = e.on ∨ ((l.foldl befStep acc).getD e.on 0).testBit k = true)
  | [], acc, i, k, hi, h => by
    simp only [List.foldl_nil] at h
    rw [Array.getD_eq_getD_getElem?, Array.getElem?_eq_none hi] at h
    simp at h
  | o :: l, acc, i, k, hi, h => by
    obtain ⟨h1, h2⟩ := bef_keep l (befStep acc o)
    simp only [Array.size_push] at h1 h2
    by_cases e : i = acc.size
    · subst e
      rw [List.foldl_cons, h2 _ (by omega)] at h
      have hx : (befStep acc o).getD acc.size 0 = o.after.foldl (befAfter acc) 0 := by simp [befStep]
      rw [hx, ← Array.foldl_toList] at h
      rcases bef_after _ _ h with h | ⟨e, he, hb, h⟩
      · simp at h
      · refine ⟨o, by simp, e, he, hb, ?_⟩
        rcases h with h | h
        · exact .inl h
        · have hlt : e.on < acc.size := by
            refine Classical.byContradiction fun hn => ?_
            rw [Array.getD_eq_getD_getElem?, Array.getElem?_eq_none (by omega)] at h
            simp at h
          have h3 := (bef_keep (o :: l) acc).2 e.on hlt
          exact .inr (by rw [h3]; exact h)
    · have := bef_spec l (befStep acc o) i k (by simp; omega) (by simpa using h)
      obtain ⟨o', ho', rest⟩ := this
      refine ⟨o', ?_, by simpa using rest⟩
      simp only [Array.size_push] at ho'
      rw [show i - acc.size = (i - (acc.size + 1)) + 1 by omega]
      simpa using ho'

/-- Who waits for one that has not been done has not been done. -/
theorem bef_closed {ops : Array Oper} {S : Nat → Bool} (hS : ∀ j o, ops[j]? = some o → S j = true → ∀ e ∈ o.after.toList, Region.binds .any e = true → S e.on = true) :
    ∀ (n i k : Nat), i ≤ n → (∀ o, ops[i]? = some o → ∀ e ∈ o.after.toList, Region.binds .any e = true → S e.on = true ∧ e.on < i) → (∀ j o, ops[j]? = some o → ∀ e ∈ o.after.toList, Region.binds .any e = true → e.on < j) → ((Region.before ops).getD i 0).testBit k = true → S k = true := by
  intro n
  induction n with
  | zero =>
    intro i k hi h1 hback h
    obtain rfl : i = 0 := by omega
    unfold Region.before at h
    rw [← Array.foldl_toList] at h
    obtain ⟨o, ho, e, he, hb, _⟩ := bef_spec ops.toList #[] 0 k (by simp) h
    have := (h1 o (by simpa using ho) e he hb).2
    omega
  | succ n ih =>
    intro i k hi h1 hback h
    have h' := h
    unfold Region.before at h
    rw [← Array.foldl_toList] at h
    obtain ⟨o, ho, e, he, hb, hk⟩ := bef_spec ops.toList #[] i k (by simp) h
    obtain ⟨h3, h4⟩ := h1 o (by simpa using ho) e he hb
    rcases hk with rfl | hk
    · exact h3
    · refine ih e.on k (by omega) (fun o' ho' e' he' hb' => ⟨hS e.on o' ho' h3 e' he' hb', hback e.on o' ho' e' he' hb'⟩) hback ?_
      unfold Region.before
      rw [← Array.foldl_toList]
      exact hk

end Go.Proofs.Ytocppeifkjdeiaa.Mv
