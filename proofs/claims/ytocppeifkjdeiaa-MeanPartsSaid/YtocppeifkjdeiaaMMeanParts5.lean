/- What the statement MeanParts needs, part 5. Under no condition. -/
import Derived.Tactics
import Derived.Test.YtocppeifkjdeiaaMMeanParts4
/- A machine for proofs, part R: operations one behind the other, and in any order. Under no condition. -/
namespace Go.Proofs.Ytocppeifkjdeiaa.Mv
open Go
set_option linter.unusedSimpArgs false
set_option linter.unusedVariables false

def okOper (N : Nat) (o : Oper) : Bool := (match o.dst with | some d => decide (d < N) | none => true) && o.op.operands.all (okOp N)

/-- An operation by a proof of its own: from all states that agree where it looks. -/
def ExtOk (P : Program) (tab : Tab) (st : St) (o : Oper) (e : Eff) : Prop :=
  ∀ (g : Option (Nat × Bool)) (st' : St), (∀ x, x ∈ o.op.operands → st.val x = st'.val x) → (∀ t ∈ tagsAt st o, st.ob t = st'.ob t) → ∀ (c : Ctx) (Γ : Gam) (m : Nm) (a : Act) (w : World), c.P = P → TabOk c.P tab → RRW c Γ m st' a w →
    okOper c.N o = true → (∀ d ∈ e.new, st'.free d) → ∀ Q : Exit → Act → World → Prop, ({ o with guard := g } : Oper).wp c.P a w (fun a' w' => RR c (st'.app e) a' w') Q

/-- An operation, done. -/
inductive Does (P : Program) (tab : Tab) (st : St) (o : Oper) (e : Eff) : Prop
  | pure {v} : pop tab st o.op = some v → e = putEff o.dst v → Does P tab st o e
  | mem : mop tab st o = some e → Does P tab st o e
  | call : CallOk P st o e → Does P tab st o e
  | ext : ExtOk P tab st o e → Does P tab st o e

theorem does_wp {c Γ m st a w} {tab : Tab} (ht : TabOk c.P tab) (h : RRW c Γ m st a w) {o : Oper} {e : Eff} (hok : okOper c.N o = true) (hd : Does c.P tab st o e) (hf : ∀ d ∈ e.new, st.free d) {Q : Exit → Act → World → Prop} :
    o.wp c.P a w (fun a' w' => RR c (st.app e) a' w') Q := by
  simp only [okOper, Bool.and_eq_true] at hok
  cases hd with
  | pure h1 h2 => subst h2; exact pop_wp ht h hok.2 h1
  | mem h1 => exact mop_wp ht h hok.2 h1 hf
  | call h1 => exact call_wp h hok.2 h1 hf
  | ext h1 => exact h1 o.guard st (fun _ _ => rfl) (fun _ _ => rfl) c Γ m a w rfl ht h (by simpa [okOper] using hok) hf Q

/-- Is it wanted? -/
def wants (ops : Array Oper) (st : St) (o : Oper) : Option Bool :=
  match o.guard with
  | none => some true
  | some (j, want) => match (ops[j]?).bind (·.dst) with
    | some d => match st.get d with
      | .b x => some (x == want)
      | .u => some false
      | _ => none
    | none => none

theorem wants_spec {c Γ m st a w} (h : RRW c Γ m st a w) {ops : Array Oper} (hok : ops.all (okOper c.N) = true) {o : Oper} {b : Bool} (hw : wants ops st o = some b) : Region.wanted o (yielded ops a.tmps) = b := by
  unfold wants at hw
  unfold Region.wanted
  split at hw
  · rename_i hg; rw [hg]; exact Option.some.inj hw
  · rename_i j want hg
    rw [hg]
    split at hw
    · rename_i d hd
      have hdn : d < c.N := by
        cases hj : ops[j]? with
        | none => rw [hj] at hd; cases hd
        | some p =>
          rw [hj] at hd
          have := (Array.all_eq_true_iff_forall_mem.1 hok) p (Array.mem_of_getElem? hj)
          simp only [okOper, Bool.and_eq_true] at this
          simp only [Option.bind_some] at hd
          rw [hd] at this
          simpa using this.1
      have hr := h.tmps d hdn
      have hdt : d < a.tmps.size := by rw [h.size]; exact hdn
      have hget : a.tmps[d]? = some (a.tmps.getD d undef) := by simp [hdt]
      simp only [yielded, hd, Option.bind_some, hget]
      split at hw
      · rename_i x hx
        rw [hx] at hr
        cases hq : a.tmps.getD d undef <;> rw [hq] at hr <;> cases hr
        cases hw
        rfl
      · rename_i hx
        rw [hx] at hr
        generalize a.tmps.getD d undef = v at hr
        cases hr
        cases hw
        rfl
      · cases hw
    · cases hw

theorem skip_put {c Γ m st a w} (h : RRW c Γ m st a w) (d : Option Nat) : RR c (st.app (putEff d .u)) (a.put d undef) w := by
  refine ⟨Γ, m, ?_⟩
  have := h.put d (v := undef) (x := .u) .u
  cases d with
  | none => exact this
  | some d => exact this

/-! ### any order -/
structure Rec where
  tags : List Nat
  e : Eff

def OneOk (P : Program) (tab : Tab) (ops : Array Oper) (st : St) (o : Oper) (r : Rec) : Prop :=
  r.tags = tagsAt st o ∧ ((wants ops st o = some true ∧ Does P tab st o r.e ∧ ∀ d ∈ r.e.new, st.free d) ∨ (wants ops st o = some false ∧ r.e = putEff o.dst .u))
def Chain (P : Program) (tab : Tab) (ops : Array Oper) : List Oper → St → List Rec → Prop
  | [], _, [] => True
  | o :: os, st, r :: rs => OneOk P tab ops st o r ∧ Chain P tab ops os (st.app r.e) rs
  | _, _, _ => False

/-- The state behind those of the records that have been done. -/
def appS : List Rec → (Nat → Bool) → Nat → St → St
  | [], _, _, st => st
  | r :: rs, S, i, st => appS rs S (i + 1) (if S i then st.app r.e else st)

theorem get_app (st : St) (e : Eff) (t : Nat) : (st.app e).get t = match look e.T t with | some c => c | none => st.get t := by
  simp only [St.get, St.app, look_app]
  cases look e.T t <;> rfl
theorem ob_app (st : St) (e : Eff) (t : Nat) : (st.app e).ob t = match look e.B t with | some c => c | none => st.ob t := by
  simp only [St.ob, St.app, look_app]
  cases look e.B t <;> rfl

theorem appS_get {rs : List Rec} {S S' : Nat → Bool} {t : Nat} : ∀ {i : Nat} {st st' : St}, (∀ j r, rs[j]? = some r → (look r.e.T t).isSome = true → S (i + j) = S' (i + j)) → st.get t = st'.get t → (appS rs S i st).get t = (appS rs S' i st').get t := by
  induction rs with
  | nil => intro i st st' _ h; exact h
  | cons r rs ih =>
    intro i st st' hs h
    simp only [appS]
    refine ih (fun j q hq hl => by have := hs (j + 1) q (by simpa using hq) hl; simpa [Nat.add_assoc, Nat.add_comm 1 j] using this) ?_
    cases hl : look r.e.T t with
    | none => split <;> split <;> simp [get_app, hl, h]
    | some c =>
      have := hs 0 r rfl (by simp [hl])
      simp only [Nat.add_zero] at this
      rw [this]
      split <;> simp [get_app, hl, h]
theorem appS_ob {rs : List Rec} {S S' : Nat → Bool} {t : Nat} : ∀ {i : Nat} {st st' : St}, (∀ j r, rs[j]? = some r → (look r.e.B t).isSome = true → S (i + j) = S' (i + j)) → st.ob t = st'.ob t → (appS rs S i st).ob t = (appS rs S' i st').ob t := by
  induction rs with
  | nil => intro i st st' _ h; exact h
  | cons r rs ih =>
    intro i st st' hs h
    simp only [appS]
    refine ih (fun j q hq hl => by have := hs (j + 1) q (by simpa using hq) hl; simpa [Nat.add_assoc, Nat.add_comm 1 j] using this) ?_
    cases hl : look r.e.B t with
    | none => split <;> split <;> simp [ob_app, hl, h]
    | some c =>
      have := hs 0 r rfl (by simp [hl])
      simp only [Nat.add_zero] at this
      rw [this]
      split <;> simp [ob_app, hl, h]

/-- One more done, last in time: if nothing behind it in the text touches what it writes. -/
theorem appS_add_get {rs : List Rec} {S : Nat → Bool} {n : Nat} {t : Nat} : ∀ {i : Nat} {st : St} {k : Nat} {r : Rec}, rs[k]? = some r → n = i + k → S n = false → (∀ j q, rs[j]? = some q → k < j → S (i + j) = true → (look r.e.T t).isSome = true → look q.e.T t = none) →
    (appS rs (fun j => j == n || S j) i st).get t = ((appS rs S i st).app r.e).get t := by
  induction rs with
  | nil => intro i st k r hr; simp at hr
  | cons q rs ih =>
    intro i st k r hr hn hS hno
    cases k with
    | zero =>
      simp at hr; subst hr
      obtain rfl : n = i := by omega
      simp only [appS, beq_self_eq_true, Bool.true_or, if_true, hS, Bool.false_eq_true, if_false]
      rw [get_app]
      cases hl : look q.e.T t with
      | none =>
        refine appS_get (fun j p hp hp' => ?_) (by simp [get_app, hl])
        have : (n + 1 + j == n) = false := by simp; omega
        simp [this]
      | some c =>
        have h1 : (appS rs (fun j => j == n || S j) (n + 1) (st.app q.e)).get t = (appS rs (fun _ => false) (n + 1) (st.app q.e)).get t := by
          refine appS_get (fun j p hp hp' => ?_) rfl
          have h2 : (n + 1 + j == n) = false := by simp; omega
          simp only [h2, Bool.false_or]
          cases h3 : S (n + 1 + j) with
          | false => rfl
          | true =>
            have := hno (j + 1) p (by simpa using hp) (by omega) (by rw [← h3]; congr 1; omega) (by simp [hl])
            rw [this] at hp'; cases hp'
        rw [h1]
        have h4 : ∀ (rs : List Rec) (i : Nat) (s : St), appS rs (fun _ => false) i s = s := by
          intro rs; induction rs with
          | nil => intro i s; rfl
          | cons r rs ih => intro i s; simp only [appS, Bool.false_eq_true, if_false]; exact ih _ _
        rw [h4, get_app, hl]
    | succ k =>
      simp only [appS]
      have h1 : (i == n) = false := by simp; omega
      simp only [h1, Bool.false_or]
      exact ih (by simpa using hr) (by omega) hS fun j p hp hj hs hl => hno (j + 1) p (by simpa using hp) (by omega) (by rw [← hs]; congr 1; omega) hl
theorem appS_add_ob {rs : List Rec} {S : Nat → Bool} {n : Nat} {t : Nat} : ∀ {i : Nat} {st : St} {k : Nat} {r : Rec}, rs[k]? = some r → n = i + k → S n = false → (∀ j q, rs[j]? = some q → k < j → S (i + j) = true → (look r.e.B t).isSome = true → look q.e.B t = none) →
    (appS rs (fun j => j == n || S j) i st).ob t = ((appS rs S i st).app r.e).ob t := by
  induction rs with
  | nil => intro i st k r hr; simp at hr
  | cons q rs ih =>
    intro i st k r hr hn hS hno
    cases k with
    | zero =>
      simp at hr; subst hr
      obtain rfl : n = i := by omega
      simp only [appS, beq_self_eq_true, Bool.true_or, if_true, hS, Bool.false_eq_true, if_false]
      rw [ob_app]
      cases hl : look q.e.B t with
      | none =>
        refine appS_ob (fun j p hp hp' => ?_) (by simp [ob_app, hl])
        have : (n + 1 + j == n) = false := by simp; omega
        simp [this]
      | some c =>
        have h1 : (appS rs (fun j => j == n || S j) (n + 1) (st.app q.e)).ob t = (appS rs (fun _ => false) (n + 1) (st.app q.e)).ob t := by
          refine appS_ob (fun j p hp hp' => ?_) rfl
          have h2 : (n + 1 + j == n) = false := by simp; omega
          simp only [h2, Bool.false_or]
          cases h3 : S (n + 1 + j) with
          | false => rfl
          | true =>
            have := hno (j + 1) p (by simpa using hp) (by omega) (by rw [← h3]; congr 1; omega) (by simp [hl])
            rw [this] at hp'; cases hp'
        rw [h1]
        have h4 : ∀ (rs : List Rec) (i : Nat) (s : St), appS rs (fun _ => false) i s = s := by
          intro rs; induction rs with
          | nil => intro i s; rfl
          | cons r rs ih => intro i s; simp only [appS, Bool.false_eq_true, if_false]; exact ih _ _
        rw [h4, ob_app, hl]
    | succ k =>
      simp only [appS]
      have h1 : (i == n) = false := by simp; omega
      simp only [h1, Bool.false_or]
      exact ih (by simpa using hr) (by omega) hS fun j p hp hj hs hl => hno (j + 1) p (by simpa using hp) (by omega) (by rw [← hs]; congr 1; omega) hl

end Go.Proofs.Ytocppeifkjdeiaa.Mv

/- A machine for proofs, part S: what an operation looks at; regions that draw their order. Under no condition. -/
namespace Go.Proofs.Ytocppeifkjdeiaa.Mv
open Go
set_option linter.unusedSimpArgs false
set_option linter.unusedVariables false

theorem plan_agree {tab : Tab} {fs : Array Field} {st st' : St} : ∀ {ps : List (Nat × Operand)}, (∀ p ∈ ps, st.val p.2 = st'.val p.2) → plan tab fs st ps = plan tab fs st' ps
  | [], _ => rfl
  | (f, x) :: ps, h => by
    simp only [plan]
    rw [plan_agree fun p hp => h p (by simp [hp]), h (f, x) (by simp)]

theorem pop_agree {tab : Tab} {st st' : St} {op : Op} (hx : ∀ x, x ∈ op.operands → st.val x = st'.val x) (ho : ∀ x, x ∈ op.operands → ∀ t ∈ (st.val x).refs, st.ob t = st'.ob t) : pop tab st op = pop tab st' op := by
  cases op with
  | move x => simp only [pop]; rw [hx x (by simp [Op.operands])]
  | assign x => simp only [pop]; rw [hx x (by simp [Op.operands])]
  | pick x y z => simp only [pop]; rw [hx x (by simp [Op.operands]), hx y (by simp [Op.operands]), hx z (by simp [Op.operands])]
  | binOp op t x y t' => simp only [pop]; rw [hx x (by simp [Op.operands]), hx y (by simp [Op.operands])]
  | unOp op t x => simp only [pop]; rw [hx x (by simp [Op.operands])]
  | convert s d x =>
    have h1 := hx x (by simp [Op.operands])
    have h2 := ho x (by simp [Op.operands])
    simp only [pop]
    rw [← h1]
    cases hv : st.val x with
    | bsl g o n sz =>
      rw [hv] at h2
      have h3 := h2 g (by simp [AV.refs])
      match sz with
      | 1 => simp only [h3]
      | 0 => rfl
      | _ + 2 => rfl
    | _ => rfl
  | extract x j => simp only [pop]; rw [hx x (by simp [Op.operands])]
  | nilCheck x => simp only [pop]; rw [hx x (by simp [Op.operands])]
  | fieldAddr t x f => simp only [pop]; rw [hx x (by simp [Op.operands])]
  | field t x f => simp only [pop]; rw [hx x (by simp [Op.operands])]
  | load t x =>
    have h1 := hx x (by simp [Op.operands])
    have h2 := ho x (by simp [Op.operands])
    simp only [pop]
    rw [← h1]
    cases hv : st.val x with
    | ptr g o => rw [hv] at h2; simp only; rw [h2 g (by simp [AV.refs])]
    | _ => rfl
  | build t ps =>
    simp only [pop]
    split
    · split
      · rw [plan_agree fun p hp => hx p.2 (by simp only [Op.operands]; simpa using ⟨p.1, by simpa using hp⟩)]
      · rfl
    · rfl
  | indexAddr t x y => simp only [pop]; rw [hx x (by simp [Op.operands]), hx y (by simp [Op.operands])]
  | index t x y => simp only [pop]; rw [hx x (by simp [Op.operands]), hx y (by simp [Op.operands])]
  | slice t x lo hi mx =>
    have h1 : lo.map st.val = lo.map st'.val := by cases lo with | none => rfl | some y => simp [hx y (by simp [Op.operands])]
    have h2 : hi.map st.val = hi.map st'.val := by cases hi with | none => rfl | some y => simp [hx y (by simp [Op.operands])]
    simp only [pop]
    rw [hx x (by simp [Op.operands]), h1, h2]
  | makeFunc fn first caps =>
    have h1 : caps.toList.map st.val = caps.toList.map st'.val := List.map_congr_left fun y hy => hx y (by simp only [Op.operands]; simpa using .inr (by simpa using hy))
    simp only [pop]
    rw [h1]
  | call cl =>
    obtain ⟨callee, args, argTypes⟩ := cl
    have hm : ∀ x ∈ args.toList, st.val x = st'.val x := fun x hx' => hx x (by simp only [Op.operands, Call.operands]; simpa using .inr (by simpa using hx'))
    simp only [pop]
    split
    · split
      · rename_i x t e1 e2; rw [hm x (by rw [e1]; simp)]
      · rfl
    · split
      · rename_i x y e1; rw [hm x (by rw [e1]; simp), hm y (by rw [e1]; simp)]
      · rfl
    · split
      · rename_i x y e1; rw [hm x (by rw [e1]; simp), hm y (by rw [e1]; simp)]
      · rfl
    · rfl
  | _ => rfl

theorem mop_agree {tab : Tab} {st st' : St} {o : Oper} (hx : ∀ x, x ∈ o.op.operands → st.val x = st'.val x) (ho : ∀ x, x ∈ o.op.operands → ∀ t ∈ (st.val x).refs, st.ob t = st'.ob t) : mop tab st o = mop tab st' o := by
  obtain ⟨dst, op, type, pos, after, guard⟩ := o
  simp only at hx ho
  cases op with
  | store t x y =>
    have h1 := hx x (by simp [Op.operands])
    have h2 := ho x (by simp [Op.operands])
    simp only [mop]
    rw [← h1, ← hx y (by simp [Op.operands])]
    split
    · rename_i i g off hi hv
      rw [hv] at h2
      rw [h2 g (by simp [AV.refs])]
    · rfl
  | box t x => simp only [mop]; rw [hx x (by simp [Op.operands])]
  | alloc t => rfl
  | buildSlice t len ps =>
    have hm : ∀ p ∈ ps.toList, st.val p.2 = st'.val p.2 := fun p hp => hx p.2 (by simp only [Op.operands]; simpa using ⟨p.1, by simpa using hp⟩)
    have h1 : ∀ j : TyI, (ps.toList.all fun p => fitsIn j.size (st.val p.2) && (st.val p.2).cells.all AV.shut) = ps.toList.all fun p => fitsIn j.size (st'.val p.2) && (st'.val p.2).cells.all AV.shut := fun j => by
      apply Bool.eq_iff_iff.2
      simp only [List.all_eq_true]
      exact ⟨fun h p hp => by rw [← hm p hp]; exact h p hp, fun h p hp => by rw [hm p hp]; exact h p hp⟩
    have h2 : (ps.toList.map fun p => (st.val p.2).cells.map AV.close) = ps.toList.map fun p => (st'.val p.2).cells.map AV.close := List.map_congr_left fun p hp => by rw [hm p hp]
    simp only [mop]
    rw [h2]
    split
    · split
      · split
        · rw [h1]
        · rfl
      · rfl
    · rfl
  | makeSlice t x y => simp only [mop]; rw [hx x (by simp [Op.operands]), hx y (by simp [Op.operands])]
  | convert s d x => simp only [mop]; rw [hx x (by simp [Op.operands])]
  | call cl =>
    obtain ⟨callee, args, argTypes⟩ := cl
    simp only [mop]
    split
    · split
      · rename_i s x t u d e1 e2
        have hm : ∀ x ∈ args.toList, x ∈ (Op.call { callee := .builtin .append, args := args, argTypes := argTypes }).operands := fun x hx' => by simp only [Op.operands, Call.operands]; simpa using hx'
        have h1 := hx s (hm s (by rw [e1]; simp))
        have h2 := ho s (hm s (by rw [e1]; simp))
        have h3 := hx x (hm x (by rw [e1]; simp))
        rw [← h1, ← h3]
        split
        · split
          · split
            · split
              · split
                · rename_i tg e' sz rows hv
                  rw [hv] at h2
                  rw [h2 tg (by simp [AV.refs])]
                · rfl
                · rfl
              · rfl
            · rfl
          · rfl
        · rfl
      · rfl
    · rfl
  | _ => rfl

theorem mem_opRefs {st : St} {xs : List Operand} {x : Operand} {t : Nat} (hx : x ∈ xs) (ht : t ∈ (st.val x).refs) : t ∈ opRefs st xs := by
  induction xs with
  | nil => cases hx
  | cons y ys ih =>
    simp only [opRefs, List.mem_append]
    cases hx with
    | head => exact .inl ht
    | tail _ hx => exact .inr (ih hx)
theorem opRefs_agree {st st' : St} : ∀ {xs : List Operand}, (∀ x ∈ xs, st.val x = st'.val x) → opRefs st xs = opRefs st' xs
  | [], _ => rfl
  | x :: xs, h => by simp only [opRefs]; rw [h x (by simp), opRefs_agree fun y hy => h y (by simp [hy])]
theorem obRefs_agree {st st' : St} : ∀ {ts : List Nat}, (∀ t ∈ ts, st.ob t = st'.ob t) → obRefs st ts = obRefs st' ts
  | [], _ => rfl
  | t :: ts, h => by simp only [obRefs]; rw [h t (by simp), obRefs_agree fun y hy => h y (by simp [hy])]
theorem tagsAt_agree {st st' : St} {o : Oper} (hx : ∀ x, x ∈ o.op.operands → st.val x = st'.val x) (ht : ∀ t ∈ tagsAt st o, st.ob t = st'.ob t) : tagsAt st o = tagsAt st' o := by
  have h1 : opRefs st o.op.operands.toList = opRefs st' o.op.operands.toList := opRefs_agree fun x hx' => hx x (by simpa using hx')
  unfold tagsAt at ht ⊢
  cases hs : stillOp o.op with
  | true => rfl
  | false =>
    rw [hs] at ht
    simp only [cond_false] at ht ⊢
    rw [← h1]
    congr 2
    cases nearOp o.op with
    | true => rfl
    | false => exact obRefs_agree fun t ht' => ht t (List.mem_append_left _ ht')
/-- Operations that look at no object answer the same whatever the objects are. -/
theorem still_agree {tab : Tab} {st st' : St} {o : Oper} (hs : stillOp o.op = true) (hx : ∀ x, x ∈ o.op.operands → st.val x = st'.val x) : pop tab st o.op = pop tab st' o.op ∧ mop tab st o = mop tab st' o ∧ ∀ c, o.op ≠ .call c := by
  obtain ⟨dst, op, type, pos, after, guard⟩ := o
  simp only at hs hx ⊢
  cases op with
  | move x => exact ⟨by simp only [pop]; rw [hx x (by simp [Op.operands])], rfl, fun c h => by cases h⟩
  | nilCheck x => exact ⟨by simp only [pop]; rw [hx x (by simp [Op.operands])], rfl, fun c h => by cases h⟩
  | fieldAddr t x f => exact ⟨by simp only [pop]; rw [hx x (by simp [Op.operands])], rfl, fun c h => by cases h⟩
  | _ => cases hs

/-- The slot that a guard asks. -/
def guardSlot (ops : Array Oper) (o : Oper) : Option Nat :=
  match o.guard with
  | none => none
  | some (j, _) => (ops[j]?).bind (·.dst)
theorem wants_agree {ops : Array Oper} {st st' : St} {o : Oper} (hg : ∀ d, guardSlot ops o = some d → st.get d = st'.get d) : wants ops st o = wants ops st' o := by
  unfold wants
  split
  · rfl
  · rename_i j want he
    split
    · rename_i d hd
      rw [hg d (by simp [guardSlot, he, hd])]
    · rfl

theorem one_agree {P : Program} {tab : Tab} {ops : Array Oper} {st st' : St} {o : Oper} {r : Rec} (h : OneOk P tab ops st o r) (hx : ∀ x, x ∈ o.op.operands → st.val x = st'.val x) (ht : ∀ t ∈ r.tags, st.ob t = st'.ob t) (hg : ∀ d, guardSlot ops o = some d → st.get d = st'.get d)
    (hf : ∀ d ∈ r.e.new, st'.free d) : OneOk P tab ops st' o r := by
  obtain ⟨h1, h2⟩ := h
  rw [h1] at ht
  have hpm : pop tab st o.op = pop tab st' o.op ∧ mop tab st o = mop tab st' o := by
    cases hs : stillOp o.op with
    | true => exact ⟨(still_agree hs hx).1, (still_agree hs hx).2.1⟩
    | false =>
      have ho : ∀ x, x ∈ o.op.operands → ∀ t ∈ (st.val x).refs, st.ob t = st'.ob t := fun x hx' t ht' => ht t (by
        unfold tagsAt
        rw [hs]
        exact List.mem_append_left _ (mem_opRefs (by simpa using hx') ht'))
      exact ⟨pop_agree hx ho, mop_agree hx ho⟩
  refine ⟨by rw [h1]; exact tagsAt_agree hx ht, ?_⟩
  rcases h2 with ⟨h3, h4, _⟩ | ⟨h3, h4⟩
  · refine .inl ⟨by rw [← wants_agree hg]; exact h3, ?_, hf⟩
    cases h4 with
    | pure q1 q2 => exact .pure (by rw [← hpm.1]; exact q1) q2
    | mem q1 => exact .mem (by rw [← hpm.2]; exact q1)
    | call q1 =>
      obtain ⟨fx, xs, ts, d, f, caps, args, ins, res, outs, ρ, k1, k2, k3, k4, k5, k6, k7⟩ := q1
      have hop : ∀ z, z = fx ∨ z ∈ xs.toList → z ∈ o.op.operands := fun z hz => by rw [k1]; simp only [Op.operands, Call.operands]; simpa using hz
      refine .call ⟨fx, xs, ts, d, f, caps, args, ins, res, outs, ρ, k1, k2, by rw [← hx fx (hop fx (.inl rfl))]; exact k3, k4, ?_, fun p hp => ?_, k7⟩
      · rw [← List.map_congr_left fun z hz => hx z (hop z (.inr hz))]; exact k5
      · obtain ⟨k8, k9⟩ := k6 p hp
        exact ⟨by rw [← ht _ k9]; exact k8, by rw [← tagsAt_agree hx ht]; exact k9⟩
    | ext q1 =>
      refine .ext fun g st'' hx'' ht'' c Γ m a w => q1 g st'' (fun x hx3 => (hx x hx3).trans (hx'' x hx3)) (fun t ht3 => (ht t ht3).trans (ht'' t ?_)) c Γ m a w
      rw [← tagsAt_agree hx ht]; exact ht3
  · exact .inr ⟨by rw [← wants_agree hg]; exact h3, h4⟩


/-! ### which one waits for which -/
/-- What two of which neither waits for the other must keep off. -/
def apart (o o' : Option Nat × List Operand × Option Nat) (r r' : Rec) : Bool :=
  r.e.T.all (fun p => r'.e.T.all (fun q => p.1 != q.1) && o'.2.1.all (fun x => match x with | .tmp t => t != p.1 | _ => true) && (match o'.2.2 with | some d => d != p.1 | none => true)) &&
  r'.e.T.all (fun p => o.2.1.all (fun x => match x with | .tmp t => t != p.1 | _ => true) && (match o.2.2 with | some d => d != p.1 | none => true)) &&
  r.e.B.all (fun p => r'.e.B.all (fun q => p.1 != q.1) && !r'.tags.contains p.1) && r'.e.B.all (fun p => !r.tags.contains p.1) &&
  r.e.new.all (fun d => !(St.refsT r'.e.T).contains d && !(St.refsB r'.e.B).contains d) && r'.e.new.all (fun d => !(St.refsT r.e.T).contains d && !(St.refsB r.e.B).contains d)
def looks (ops : Array Oper) (o : Oper) : Option Nat × List Operand × Option Nat := (o.dst, o.op.operands.toList, guardSlot ops o)

/-- Pairs of which neither waits for the other keep off each other. -/
def NI (ops : Array Oper) (rs : List Rec) : Prop :=
  ∀ i j o o' r r', i < j → ops[i]? = some o → ops[j]? = some o' → rs[i]? = some r → rs[j]? = some r' → ((Region.before ops).getD j 0).testBit i = false → apart (looks ops o) (looks ops o') r r' = true

abbrev befAfter (acc : Array Nat) (s : Nat) (e : Edge) : Nat := if Region.binds .any e then s ||| 2 ^ e.on ||| acc.getD e.on 0 else s
theorem bef_after {acc : Array Nat} {k : Nat} : ∀ (l : List Edge) (s : Nat), (l.foldl (befAfter acc) s).testBit k = true → s.testBit k = true ∨ ∃ e ∈ l, Region.binds .any e = true ∧ (k = e.on ∨ (acc.getD e.on 0).testBit k = true)
  | [], s, h => .inl h
  | e :: l, s, h => by
    rw [List.foldl_cons] at h
    rcases bef_after l _ h with h | ⟨e', he', h'⟩
    · unfold befAfter at h
      split at h
      · rename_i hb
        rw [Nat.testBit_or, Nat.testBit_or, Bool.or_eq_true, Bool.or_eq_true, Nat.testBit_two_pow] at h
        rcases h with (h | h) | h
        · exact .inl h
        · exact .inr ⟨e, by simp, hb, .inl (by simp at h; exact h.symm)⟩
        · exact .inr ⟨e, by simp, hb, .inr h⟩
      · exact .inl h
    · exact .inr ⟨e', by simp [he'], h'⟩
abbrev befStep (acc : Array Nat) (o : Oper) : Array Nat := acc.push (o.after.foldl (befAfter acc) 0)
theorem bef_keep : ∀ (l : List Oper) (acc : Array Nat), acc.size ≤ (l.foldl befStep acc).size ∧ ∀ i, i < acc.size → (l.foldl befStep acc).getD i 0 = acc.getD i 0
  | [], acc => ⟨Nat.le_refl _, fun _ _ => rfl⟩
  | o :: l, acc => by
    obtain ⟨h1, h2⟩ := bef_keep l (befStep acc o)
    simp only [Array.size_push] at h1 h2
    refine ⟨by simpa using by omega, fun i hi => ?_⟩
    rw [List.foldl_cons, h2 i (by omega)]
    simp [Array.getElem?_push, Nat.ne_of_lt hi]
theorem bef_spec : ∀ (l : List Oper) (acc : Array Nat) (i k : Nat), acc.size ≤ i → ((l.foldl befStep acc).getD i 0).testBit k = true →
    ∃ o, l[i - acc.size]? = some o ∧ ∃ e ∈ o.after.toList, Region.binds .any e = true ∧ (k = e.on ∨ ((l.foldl befStep acc).getD e.on 0).testBit k = true)
  | [], acc, i, k, hi, h => by
    simp only [List.foldl_nil] at h
    rw [Array.getD_eq_getD_getElem?, Array.getElem?_eq_none hi] at h
    simp at h
  | o :: l, acc, i, k, hi, h => by
    obtain ⟨h1, h2⟩ := bef_keep l (befStep acc o)
    simp only [Array.size_push] at h1 h2
    by_cases e : i = acc.size
    · subst e
      rw [List.foldl_cons, h2 _ (by omega)] at h
      have hx : (befStep acc o).getD acc.size 0 = o.after.foldl (befAfter acc) 0 := by simp [befStep]
      rw [hx, ← Array.foldl_toList] at h
      rcases bef_after _ _ h with h | ⟨e, he, hb, h⟩
      · simp at h
      · refine ⟨o, by simp, e, he, hb, ?_⟩
        rcases h with h | h
        · exact .inl h
        · have hlt : e.on < acc.size := by
            refine Classical.byContradiction fun hn => ?_
            rw [Array.getD_eq_getD_getElem?, Array.getElem?_eq_none (by omega)] at h
            simp at h
          have h3 := (bef_keep (o :: l) acc).2 e.on hlt
          exact .inr (by rw [h3]; exact h)
    · have := bef_spec l (befStep acc o) i k (by simp; omega) (by simpa using h)
      obtain ⟨o', ho', rest⟩ := this
      refine ⟨o', ?_, by simpa using rest⟩
      simp only [Array.size_push] at ho'
      rw [show i - acc.size = (i - (acc.size + 1)) + 1 by omega]
      simpa using ho'

/-- Who waits for one that has not been done has not been done. -/
theorem bef_closed {ops : Array Oper} {S : Nat → Bool} (hS : ∀ j o, ops[j]? = some o → S j = true → ∀ e ∈ o.after.toList, Region.binds .any e = true → S e.on = true) :
    ∀ (n i k : Nat), i ≤ n → (∀ o, ops[i]? = some o → ∀ e ∈ o.after.toList, Region.binds .any e = true → S e.on = true ∧ e.on < i) → (∀ j o, ops[j]? = some o → ∀ e ∈ o.after.toList, Region.binds .any e = true → e.on < j) → ((Region.before ops).getD i 0).testBit k = true → S k = true := by
  intro n
  induction n with
  | zero =>
    intro i k hi h1 hback h
    obtain rfl : i = 0 := by omega
    unfold Region.before at h
    rw [← Array.foldl_toList] at h
    obtain ⟨o, ho, e, he, hb, _⟩ := bef_spec ops.toList #[] 0 k (by simp) h
    have := (h1 o (by simpa using ho) e he hb).2
    omega
  | succ n ih =>
    intro i k hi h1 hback h
    have h' := h
    unfold Region.before at h
    rw [← Array.foldl_toList] at h
    obtain ⟨o, ho, e, he, hb, hk⟩ := bef_spec ops.toList #[] i k (by simp) h
    obtain ⟨h3, h4⟩ := h1 o (by simpa using ho) e he hb
    rcases hk with rfl | hk
    · exact h3
    · refine ih e.on k (by omega) (fun o' ho' e' he' hb' => ⟨hS e.on o' ho' h3 e' he' hb', hback e.on o' ho' e' he' hb'⟩) hback ?_
      unfold Region.before
      rw [← Array.foldl_toList]
      exact hk

end Go.Proofs.Ytocppeifkjdeiaa.Mv

/- A machine for proofs, part T: a region that draws its order comes to what it comes to in the text's order. Under no condition. -/
namespace Go.Proofs.Ytocppeifkjdeiaa.Mv
open Go
set_option linter.unusedSimpArgs false
set_option linter.unusedVariables false

theorem RR.congr {c : Ctx} {st st' : St} {a : Act} {w : World} (h : RR c st a w) (h1 : ∀ t, st.get t = st'.get t) (h2 : ∀ t, st.ob t = st'.ob t) : RR c st' a w := by
  obtain ⟨Γ, m, h⟩ := h
  exact ⟨Γ, m, h.defers, h.size, h.gok, fun t ht => by rw [← h1]; exact h.tmps t ht, fun t => by rw [← h2]; exact h.obs t, fun t g hg => h.own t g (by rw [h2]; exact hg), fun t t' g hg hg' => h.inj t t' g (by rw [h2]; exact hg) (by rw [h2]; exact hg'), h.frame, h.sub, h.fresh, h.ext⟩
theorem ObOk.heap {Γ m w w' t ob} (h : ObOk Γ m w t ob) (hw : w'.heap = w.heap) (hst : w'.os = w.os ∧ w'.tape = w.tape ∧ w'.output = w.output) : ObOk Γ m w' t ob :=
  h.keep (Sub.refl _) rfl rfl rfl (by rw [hw]; exact Nat.le_refl _) hst (fun _ _ => ⟨fun _ h => h, fun _ _ h => h⟩) fun g _ => ⟨by rw [hw], fun _ _ => rfl⟩
theorem RR.drew {c : Ctx} {st : St} {a : Act} {w : World} (h : RR c st a w) : RR c st a { w with drawn := w.drawn + 1 } := by
  obtain ⟨Γ, m, h⟩ := h
  exact ⟨Γ, m, h.defers, h.size, fun ad v hv => h.gok ad v hv, h.tmps, fun t => (h.obs t).heap rfl ⟨rfl, rfl, rfl⟩, h.own, h.inj, ⟨h.frame.os, h.frame.tape, h.frame.output, h.frame.size, h.frame.block⟩, h.sub, h.fresh, h.ext⟩

theorem chain_len {P tab ops} : ∀ {os : List Oper} {st : St} {rs : List Rec}, Chain P tab ops os st rs → rs.length = os.length
  | [], _, [], _ => rfl
  | _ :: _, _, _ :: _, h => by simp [chain_len h.2]
  | [], _, _ :: _, h => h.elim
  | _ :: _, _, [], h => h.elim
theorem chain_at {P tab ops} : ∀ {os : List Oper} {st : St} {rs : List Rec} {i : Nat} {o : Oper} {r : Rec}, Chain P tab ops os st rs → os[i]? = some o → rs[i]? = some r → ∀ k, OneOk P tab ops (appS rs (fun j => decide (j < k + i)) k st) o r
  | [], _, _, i, _, _, _, ho, _, _ => by simp at ho
  | o :: os, st, [], i, _, _, h, _, _, _ => h.elim
  | o :: os, st, q :: rs, 0, _, _, h, ho, hr, k => by
    simp at ho hr; subst ho; subst hr
    have : appS (q :: rs) (fun j => decide (j < k + 0)) k st = st := by
      have h4 : ∀ (rs : List Rec) (i : Nat) (s : St), k ≤ i → appS rs (fun j => decide (j < k + 0)) i s = s := by
        intro rs; induction rs with
        | nil => intro i s _; rfl
        | cons r rs ih =>
          intro i s hi
          have : decide (i < k + 0) = false := by simp; omega
          simp only [appS, this, Bool.false_eq_true, if_false]
          exact ih _ _ (by omega)
      exact h4 _ _ _ (Nat.le_refl _)
    rw [this]
    exact h.1
  | o :: os, st, q :: rs, i + 1, o', r', h, ho, hr, k => by
    have ih := chain_at h.2 (by simpa using ho) (by simpa using hr) (k + 1)
    have hk : decide (k < k + (i + 1)) = true := by simp
    simp only [appS, hk, if_true]
    have e : (fun j => decide (j < k + (i + 1))) = fun j => decide (j < k + 1 + i) := by funext j; congr 2; omega
    rw [e]
    exact ih

theorem refs_appT {rs : List Rec} {S : Nat → Bool} {d : Nat} : ∀ {i : Nat} {st : St}, d ∈ St.refsT (appS rs S i st).T → d ∈ St.refsT st.T ∨ ∃ j r, rs[j]? = some r ∧ S (i + j) = true ∧ d ∈ St.refsT r.e.T := by
  have happ : ∀ (l r : List (Nat × AV)), d ∈ St.refsT (l ++ r) → d ∈ St.refsT l ∨ d ∈ St.refsT r := by
    intro l r h
    induction l with
    | nil => exact .inr h
    | cons p l ih =>
      obtain ⟨j, x⟩ := p
      simp only [List.cons_append, St.refsT, List.mem_append] at h ⊢
      rcases h with h | h
      · exact .inl (.inl h)
      · rcases ih h with h | h
        · exact .inl (.inr h)
        · exact .inr h
  induction rs with
  | nil => intro i st h; exact .inl h
  | cons r rs ih =>
    intro i st h
    simp only [appS] at h
    rcases ih h with h | ⟨j, q, hq, hs, hd⟩
    · split at h
      · rename_i hs
        rcases happ _ _ h with h | h
        · exact .inr ⟨0, r, rfl, hs, h⟩
        · exact .inl h
      · exact .inl h
    · exact .inr ⟨j + 1, q, by simpa using hq, by rw [← hs]; congr 1; omega, hd⟩
theorem refs_appB {rs : List Rec} {S : Nat → Bool} {d : Nat} : ∀ {i : Nat} {st : St}, d ∈ St.refsB (appS rs S i st).B → d ∈ St.refsB st.B ∨ ∃ j r, rs[j]? = some r ∧ S (i + j) = true ∧ d ∈ St.refsB r.e.B := by
  have happ : ∀ (l r : List (Nat × Ob)), d ∈ St.refsB (l ++ r) → d ∈ St.refsB l ∨ d ∈ St.refsB r := by
    intro l r h
    induction l with
    | nil => exact .inr h
    | cons p l ih =>
      obtain ⟨j, x⟩ := p
      simp only [List.cons_append, St.refsB, List.mem_append] at h ⊢
      rcases h with h | h
      · exact .inl (.inl h)
      · rcases ih h with h | h
        · exact .inl (.inr h)
        · exact .inr h
  induction rs with
  | nil => intro i st h; exact .inl h
  | cons r rs ih =>
    intro i st h
    simp only [appS] at h
    rcases ih h with h | ⟨j, q, hq, hs, hd⟩
    · split at h
      · rename_i hs
        rcases happ _ _ h with h | h
        · exact .inr ⟨0, r, rfl, hs, h⟩
        · exact .inl h
      · exact .inl h
    · exact .inr ⟨j + 1, q, by simpa using hq, by rw [← hs]; congr 1; omega, hd⟩
theorem refs_appT' {rs : List Rec} {S : Nat → Bool} {d : Nat} : ∀ {i : Nat} {st : St}, (d ∈ St.refsT st.T ∨ ∃ j r, rs[j]? = some r ∧ S (i + j) = true ∧ d ∈ St.refsT r.e.T) → d ∈ St.refsT (appS rs S i st).T := by
  have happ : ∀ (l r : List (Nat × AV)), d ∈ St.refsT l ∨ d ∈ St.refsT r → d ∈ St.refsT (l ++ r) := by
    intro l r h
    induction l with
    | nil => rcases h with h | h
             · cases h
             · exact h
    | cons p l ih =>
      obtain ⟨j, x⟩ := p
      simp only [List.cons_append, St.refsT, List.mem_append] at h ⊢
      rcases h with (h | h) | h
      · exact .inl h
      · exact .inr (ih (.inl h))
      · exact .inr (ih (.inr h))
  induction rs with
  | nil => intro i st h; rcases h with h | ⟨j, r, hr, _⟩
           · exact h
           · simp at hr
  | cons r rs ih =>
    intro i st h
    simp only [appS]
    refine ih ?_
    rcases h with h | ⟨j, q, hq, hs, hd⟩
    · refine .inl ?_
      split
      · exact happ _ _ (.inr h)
      · exact h
    · cases j with
      | zero => simp at hq; subst hq; simp only [Nat.add_zero] at hs; rw [if_pos hs]; exact .inl (happ _ _ (.inl hd))
      | succ j => exact .inr ⟨j, q, by simpa using hq, by rw [← hs]; congr 1; omega, hd⟩
theorem refs_appB' {rs : List Rec} {S : Nat → Bool} {d : Nat} : ∀ {i : Nat} {st : St}, (d ∈ St.refsB st.B ∨ ∃ j r, rs[j]? = some r ∧ S (i + j) = true ∧ d ∈ St.refsB r.e.B) → d ∈ St.refsB (appS rs S i st).B := by
  have happ : ∀ (l r : List (Nat × Ob)), d ∈ St.refsB l ∨ d ∈ St.refsB r → d ∈ St.refsB (l ++ r) := by
    intro l r h
    induction l with
    | nil => rcases h with h | h
             · cases h
             · exact h
    | cons p l ih =>
      obtain ⟨j, x⟩ := p
      simp only [List.cons_append, St.refsB, List.mem_append] at h ⊢
      rcases h with (h | h) | h
      · exact .inl h
      · exact .inr (ih (.inl h))
      · exact .inr (ih (.inr h))
  induction rs with
  | nil => intro i st h; rcases h with h | ⟨j, r, hr, _⟩
           · exact h
           · simp at hr
  | cons r rs ih =>
    intro i st h
    simp only [appS]
    refine ih ?_
    rcases h with h | ⟨j, q, hq, hs, hd⟩
    · refine .inl ?_
      split
      · exact happ _ _ (.inr h)
      · exact h
    · cases j with
      | zero => simp at hq; subst hq; simp only [Nat.add_zero] at hs; rw [if_pos hs]; exact .inl (happ _ _ (.inl hd))
      | succ j => exact .inr ⟨j, q, by simpa using hq, by rw [← hs]; congr 1; omega, hd⟩

theorem look_key {α : Type} {l : List (Nat × α)} {t : Nat} (h : (look l t).isSome = true) : ∃ p ∈ l, p.1 = t := by
  obtain ⟨x, hx⟩ := Option.isSome_iff_exists.1 h
  exact ⟨_, look_mem hx, rfl⟩

/-- What two that keep off each other don't share. -/
structure Off (ops : Array Oper) (o o' : Oper) (r r' : Rec) : Prop where
  tt : ∀ t, (look r.e.T t).isSome = true → look r'.e.T t = none
  read : ∀ t, (look r.e.T t).isSome = true → Operand.tmp t ∉ o'.op.operands.toList ∧ guardSlot ops o' ≠ some t
  read' : ∀ t, (look r'.e.T t).isSome = true → Operand.tmp t ∉ o.op.operands.toList ∧ guardSlot ops o ≠ some t
  bb : ∀ t, (look r.e.B t).isSome = true → look r'.e.B t = none
  tag : ∀ t, (look r.e.B t).isSome = true → t ∉ r'.tags
  tag' : ∀ t, (look r'.e.B t).isSome = true → t ∉ r.tags
  new : ∀ d ∈ r.e.new, d ∉ St.refsT r'.e.T ∧ d ∉ St.refsB r'.e.B
  new' : ∀ d ∈ r'.e.new, d ∉ St.refsT r.e.T ∧ d ∉ St.refsB r.e.B

theorem look_off {α β : Type} {l : List (Nat × α)} {l' : List (Nat × β)} {t : Nat} (h : ∀ p ∈ l, ∀ q ∈ l', p.1 ≠ q.1) (ht : (look l t).isSome = true) : look l' t = none := by
  obtain ⟨p, hp, rfl⟩ := look_key ht
  exact look_none fun q hq e => h p hp q hq e.symm

theorem apart_off {ops : Array Oper} {o o' : Oper} {r r' : Rec} (h : apart (looks ops o) (looks ops o') r r' = true) : Off ops o o' r r' := by
  simp only [apart, looks, Bool.and_eq_true, List.all_eq_true] at h
  obtain ⟨⟨⟨⟨⟨h1, h2⟩, h3⟩, h4⟩, h5⟩, h6⟩ := h
  refine ⟨fun t ht => look_off (fun p hp q hq => by have := (h1 p hp).1.1 q hq; simpa using this) ht, fun t ht => ?_, fun t ht => ?_, fun t ht => look_off (fun p hp q hq => by have := (h3 p hp).1 q hq; simpa using this) ht, fun t ht => ?_, fun t ht => ?_, fun d hd => by have := h5 d hd; simpa using this, fun d hd => by have := h6 d hd; simpa using this⟩
  · obtain ⟨p, hp, rfl⟩ := look_key ht
    refine ⟨fun hm => ?_, fun hm => ?_⟩
    · have := (h1 p hp).1.2 _ hm; simp at this
    · have := (h1 p hp).2; rw [hm] at this; simp at this
  · obtain ⟨p, hp, rfl⟩ := look_key ht
    refine ⟨fun hm => ?_, fun hm => ?_⟩
    · have := (h2 p hp).1 _ hm; simp at this
    · have := (h2 p hp).2; rw [hm] at this; simp at this
  · obtain ⟨p, hp, rfl⟩ := look_key ht
    have := (h3 p hp).2; simpa using this
  · obtain ⟨p, hp, rfl⟩ := look_key ht
    have := h4 p hp; simpa using this

end Go.Proofs.Ytocppeifkjdeiaa.Mv

/- A machine for proofs, part U: a region that draws its order. Under no condition. -/
namespace Go.Proofs.Ytocppeifkjdeiaa.Mv
open Go
set_option linter.unusedSimpArgs false
set_option linter.unusedVariables false
set_option linter.unusedSectionVars false

structure Reg (c : Ctx) (tab : Tab) (ops : Array Oper) (st : St) (rs : List Rec) : Prop where
  tabok : TabOk c.P tab
  chain : Chain c.P tab ops ops.toList st rs
  ni : NI ops rs
  ok : ops.all (okOper c.N) = true
  back : ∀ (j : Nat) o, ops[j]? = some o → ∀ e ∈ o.after.toList, Region.binds .any e = true → e.on < j

/-- Done so far: with each, what it waits for. -/
def Down (ops : Array Oper) (S : Nat → Bool) : Prop := ∀ (j : Nat) o, ops[j]? = some o → S j = true → ∀ e ∈ o.after.toList, Region.binds .any e = true → S e.on = true

section
variable {c : Ctx} {tab : Tab} {ops : Array Oper} {st : St} {rs : List Rec} (h : Reg c tab ops st rs) {S : Nat → Bool} (hS : Down ops S)
include h hS

theorem Reg.len : rs.length = ops.size := by have := chain_len h.chain; simpa using this

theorem Reg.off {i : Nat} {o : Oper} (ho : ops[i]? = some o) {r : Rec} (hr : rs[i]? = some r) (hi : S i = false) (hp : ∀ e ∈ o.after.toList, Region.binds .any e = true → S e.on = true) {j : Nat} {q : Rec} (hq : rs[j]? = some q) :
    ∃ o', ops[j]? = some o' ∧ ((j < i ∧ S j = false → Off ops o' o q r) ∧ (i < j ∧ S j = true → Off ops o o' r q)) := by
  have hj : j < ops.size := by rw [← h.len hS]; exact (List.getElem?_eq_some_iff.1 hq).1
  refine ⟨ops[j], Array.getElem?_eq_getElem hj, fun ⟨h1, h2⟩ => ?_, fun ⟨h1, h2⟩ => ?_⟩
  · refine apart_off (h.ni j i _ o q r h1 (Array.getElem?_eq_getElem hj) ho hq hr ?_)
    cases hb : ((Region.before ops).getD i 0).testBit j with
    | false => rfl
    | true =>
      have := bef_closed hS i i j (Nat.le_refl _) (fun o' ho' e he hb' => by
        rw [ho] at ho'; cases ho'; exact ⟨hp e he hb', h.back i o ho e he hb'⟩) h.back hb
      rw [h2] at this; cases this
  · refine apart_off (h.ni i j o _ r q h1 ho (Array.getElem?_eq_getElem hj) hr hq ?_)
    cases hb : ((Region.before ops).getD j 0).testBit i with
    | false => rfl
    | true =>
      have := bef_closed hS j j i (Nat.le_refl _) (fun o' ho' e he hb' => ⟨hS j o' ho' h2 e he hb', h.back j o' ho' e he hb'⟩) h.back hb
      rw [hi] at this; cases this

theorem Reg.one {i : Nat} {o : Oper} (ho : ops[i]? = some o) {r : Rec} (hr : rs[i]? = some r) (hi : S i = false) (hp : ∀ e ∈ o.after.toList, Region.binds .any e = true → S e.on = true) : OneOk c.P tab ops (appS rs S 0 st) o r := by
  have h0 := chain_at h.chain (by simpa using ho) hr 0
  have hsame : ∀ j q, rs[j]? = some q → (∀ o', Off ops o' o q r → False) → (∀ o', Off ops o o' r q → False) → (fun j => decide (j < 0 + i)) (0 + j) = S (0 + j) := fun j q hq h1 h2 => by
    obtain ⟨o', ho', h3, h4⟩ := h.off hS ho hr hi hp hq
    simp only [Nat.zero_add]
    rcases Nat.lt_trichotomy j i with hj | hj | hj
    · have : S j = true := by
        cases hs : S j with
        | true => rfl
        | false => exact (h1 o' (h3 ⟨hj, hs⟩)).elim
      simp [this, hj]
    · subst hj; simp [hi]
    · have : S j = false := by
        cases hs : S j with
        | false => rfl
        | true => exact (h2 o' (h4 ⟨hj, hs⟩)).elim
      simp [this]; omega
  refine one_agree h0 (fun x hx => ?_) (fun t ht => ?_) (fun d hd => ?_) (fun d hd => ?_)
  · cases x with
    | tmp t =>
      simp only [St.val]
      exact appS_get (fun j q hq hl => hsame j q hq (fun o' ho' => (ho'.read t hl).1 (by simpa using hx)) fun o' ho' => (ho'.read' t hl).1 (by simpa using hx)) rfl
    | const v => rfl
    | func f => rfl
    | global g => rfl
  · exact appS_ob (fun j q hq hl => hsame j q hq (fun o' ho' => ho'.tag t hl ht) fun o' ho' => ho'.tag' t hl ht) rfl
  · exact appS_get (fun j q hq hl => hsame j q hq (fun o' ho' => (ho'.read d hl).2 hd) fun o' ho' => (ho'.read' d hl).2 hd) rfl
  · have hfree : (appS rs (fun j => decide (j < 0 + i)) 0 st).free d := by
      rcases h0.2 with ⟨_, _, hf⟩ | ⟨_, he⟩
      · exact hf d hd
      · rw [he] at hd; simp [putEff] at hd
    refine ⟨hfree.1, fun hm => ?_, fun hm => ?_⟩
    · rcases refs_appT hm with hm | ⟨j, q, hq, hs, hm⟩
      · exact hfree.2.1 (refs_appT' (.inl hm))
      · obtain ⟨o', ho', _, h4⟩ := h.off hS ho hr hi hp hq
        simp only [Nat.zero_add] at hs
        by_cases hj : j < i
        · exact hfree.2.1 (refs_appT' (.inr ⟨j, q, hq, by simpa using hj, hm⟩))
        · by_cases hj' : j = i
          · subst hj'; rw [hi] at hs; cases hs
          · exact ((h4 ⟨by omega, hs⟩).new d hd).1 hm
    · rcases refs_appB hm with hm | ⟨j, q, hq, hs, hm⟩
      · exact hfree.2.2 (refs_appB' (.inl hm))
      · obtain ⟨o', ho', _, h4⟩ := h.off hS ho hr hi hp hq
        simp only [Nat.zero_add] at hs
        by_cases hj : j < i
        · exact hfree.2.2 (refs_appB' (.inr ⟨j, q, hq, by simpa using hj, hm⟩))
        · by_cases hj' : j = i
          · subst hj'; rw [hi] at hs; cases hs
          · exact ((h4 ⟨by omega, hs⟩).new d hd).2 hm

theorem Reg.step {i : Nat} {o : Oper} (ho : ops[i]? = some o) {r : Rec} (hr : rs[i]? = some r) (hi : S i = false) (hp : ∀ e ∈ o.after.toList, Region.binds .any e = true → S e.on = true) {a : Act} {w : World} (hrr : RR c (appS rs S 0 st) a w)
    {Q : Exit → Act → World → Prop} {K : Act → World → Prop} (hK : ∀ a' w', RR c (appS rs (fun j => j == i || S j) 0 st) a' w' → K a' w') : wpOp c.P ops Q i K a w := by
  have hcong : ∀ a' w', RR c ((appS rs S 0 st).app r.e) a' w' → K a' w' := fun a' w' hx => hK a' w' (hx.congr
    (fun t => (appS_add_get hr (by omega) hi fun j q hq hj hs hl => by
      obtain ⟨o', ho', _, h4⟩ := h.off hS ho hr hi hp hq
      exact (h4 ⟨hj, by simpa using hs⟩).tt t hl).symm)
    (fun t => (appS_add_ob hr (by omega) hi fun j q hq hj hs hl => by
      obtain ⟨o', ho', _, h4⟩ := h.off hS ho hr hi hp hq
      exact (h4 ⟨hj, by simpa using hs⟩).bb t hl).symm))
  obtain ⟨Γ, m, hw⟩ := hrr
  have h1 := h.one hS ho hr hi hp
  have hoko : okOper c.N o = true := (Array.all_eq_true_iff_forall_mem.1 h.ok) o (Array.mem_of_getElem? ho)
  unfold wpOp
  rw [ho]
  simp only
  rcases h1.2 with ⟨h2, h3, h4⟩ | ⟨h2, h3⟩
  · rw [wants_spec hw h.ok h2]
    simp only [if_true]
    exact .inl (Oper.wp_mono hcong (does_wp h.tabok hw hoko h3 h4))
  · rw [wants_spec hw h.ok h2]
    simp only [Bool.false_eq_true, if_false]
    refine hcong _ _ ?_
    rw [h3]
    exact skip_put hw o.dst
end

theorem Reg.any {c : Ctx} {tab : Tab} {ops : Array Oper} {st : St} {rs : List Rec} (h : Reg c tab ops st rs) {Q : Exit → Act → World → Prop} (hQ : ∀ a w, RR c (appS rs (fun _ => true) 0 st) a w → Q .normal a w) :
    ∀ (fuel : Nat) (listed : Array Bool) (a : Act) (w : World), listed.size = ops.size → (listed.toList.filter (!·)).length = fuel → Down ops (fun j => listed.getD j false) → RR c (appS rs (fun j => listed.getD j false) 0 st) a w → wpAny c.P .any ops Q fuel listed a w := by
  intro fuel
  -- who has not been done, and waits for nobody that has not been done
  have hready : ∀ (listed : Array Bool), listed.size = ops.size → Down ops (fun j => listed.getD j false) → (∃ i, i < ops.size ∧ listed.getD i true = false) → Region.ready .any ops listed ≠ [] := by
    intro listed hsz hD ⟨i, hi, hl⟩
    have key : ∀ n i, i ≤ n → i < ops.size → listed.getD i true = false → ∃ j, j ∈ Region.ready .any ops listed := by
      intro n
      induction n with
      | zero =>
        intro i hn hi hl
        obtain rfl : i = 0 := by omega
        refine ⟨0, mem_ready.2 ⟨hl, ops[0], Array.getElem?_eq_getElem hi, fun e he hb => ?_⟩⟩
        have := h.back 0 _ (Array.getElem?_eq_getElem hi) e (by simpa using he) hb; omega
      | succ n ih =>
        intro i hn hi hl
        by_cases hall : ∀ e ∈ (ops[i]).after, Region.binds .any e = true → listed.getD e.on false = true
        · exact ⟨i, mem_ready.2 ⟨hl, ops[i], Array.getElem?_eq_getElem hi, hall⟩⟩
        · have ⟨e, he⟩ := Classical.not_forall.1 hall
          have ⟨he1, he2⟩ := Classical.not_imp.1 he
          have ⟨hb, hn'⟩ := Classical.not_imp.1 he2
          have hlt := h.back i _ (Array.getElem?_eq_getElem hi) e (by simpa using he1) hb
          refine ih e.on (by omega) (by omega) ?_
          have hlt' : e.on < listed.size := by omega
          simp [Array.getD, hlt'] at hn' ⊢
          exact hn'
    obtain ⟨j, hj⟩ := key i i (Nat.le_refl _) hi hl
    intro e; rw [e] at hj; cases hj
  have hopen : ∀ (listed : Array Bool), listed.size = ops.size → (listed.toList.filter (!·)).length ≠ 0 → ∃ i, i < ops.size ∧ listed.getD i true = false := by
    intro listed hsz hne
    cases hf : listed.toList.filter (!·) with
    | nil => rw [hf] at hne; exact absurd rfl hne
    | cons b l =>
      have hb : b ∈ listed.toList.filter (!·) := by rw [hf]; simp
      obtain ⟨hb1, hb2⟩ := List.mem_filter.1 hb
      obtain ⟨i, hi⟩ := List.getElem?_of_mem hb1
      have hi' : listed[i]? = some b := by simpa using hi
      have hlt : i < listed.size := (Array.getElem?_eq_some_iff.1 hi').1
      refine ⟨i, by omega, ?_⟩
      rw [Array.getD_eq_getD_getElem?, hi']
      simpa using hb2
  induction fuel with
  | zero =>
    intro listed a w hsz hlen hD hrr
    have hall : ∀ i, i < ops.size → listed.getD i false = true := fun i hi => by
      cases hl : listed.getD i false with
      | true => rfl
      | false =>
        exfalso
        have hlt : i < listed.size := by omega
        have : listed[i] ∈ listed.toList.filter (!·) := List.mem_filter.2 ⟨by simp, by simp [Array.getD, hlt] at hl; simp [hl]⟩
        rw [List.length_eq_zero_iff.1 hlen] at this; cases this
    refine ⟨?_, hQ a w (hrr.congr (fun t => appS_get (fun j r hr _ => ?_) rfl) (fun t => appS_ob (fun j r hr _ => ?_) rfl))⟩
    · cases hr : Region.ready .any ops listed with
      | nil => rfl
      | cons j l =>
        have hj : j ∈ Region.ready .any ops listed := by rw [hr]; simp
        obtain ⟨h1, o, ho, _⟩ := mem_ready.1 hj
        have hlt : j < ops.size := (Array.getElem?_eq_some_iff.1 ho).1
        have := hall j hlt
        simp [Array.getD, hsz, hlt] at h1 this
        rw [h1] at this; cases this
    · have : j < ops.size := by rw [← h.len hD]; exact (List.getElem?_eq_some_iff.1 hr).1
      simpa using hall j this
    · have : j < ops.size := by rw [← h.len hD]; exact (List.getElem?_eq_some_iff.1 hr).1
      simpa using hall j this
  | succ n ih =>
    intro listed a w hsz hlen hD hrr
    refine ⟨fun hnil => absurd hnil (hready listed hsz hD (hopen listed hsz (by omega))), fun i hi => ?_⟩
    obtain ⟨h1, o, ho, h2⟩ := mem_ready.1 hi
    have hlt : i < ops.size := (Array.getElem?_eq_some_iff.1 ho).1
    have hlt' : i < listed.size := by omega
    have hir : i < rs.length := by rw [h.len hD]; exact hlt
    have hiS : listed.getD i false = false := by simp [Array.getD, hlt'] at h1 ⊢; exact h1
    have hset : (fun j => (listed.setIfInBounds i true).getD j false) = fun j => j == i || listed.getD j false := by
      funext j
      by_cases e : j = i
      · subst e; simp [Array.getD, hlt']
      · have e' : ¬ i = j := fun x => e x.symm
        simp [Array.getD_eq_getD_getElem?, Array.getElem?_setIfInBounds, e, e']
    refine h.step hD ho (List.getElem?_eq_getElem hir) hiS (fun e he hb => h2 e (by simpa using he) hb) hrr fun a' w' hx => ?_
    refine ih (listed.setIfInBounds i true) a' w' (by simpa using hsz) ?_ ?_ (by rw [hset]; exact hx)
    · have hcount : ∀ (l : List Bool) (i : Nat), l[i]? = some false → ((l.set i true).filter (!·)).length + 1 = (l.filter (!·)).length := by
        intro l
        induction l with
        | nil => intro i hi; simp at hi
        | cons b l ih =>
          intro i hi
          cases i with
          | zero => simp at hi; subst hi; simp
          | succ i =>
            have := ih i (by simpa using hi)
            cases b <;> simp [List.filter_cons] at this ⊢ <;> omega
      have hli : listed.toList[i]? = some false := by
        simp [Array.getD, hlt'] at h1
        simp [hlt', h1]
      have := hcount listed.toList i hli
      simp only [Array.toList_setIfInBounds]
      omega
    · rw [hset]
      intro j o' ho' hj e he hb
      simp only [Bool.or_eq_true, beq_iff_eq] at hj ⊢
      rcases hj with rfl | hj
      · rw [ho] at ho'; cases ho'
        exact .inr (h2 e (by simpa using he) hb)
      · exact .inr (hD j o' ho' hj e he hb)

theorem Reg.wp {c : Ctx} {tab : Tab} {ops : Array Oper} {st : St} {rs : List Rec} (h : Reg c tab ops st rs) (hm : c.P.follows .mixedOrders = true) {Q : Exit → Act → World → Prop} (hQ : ∀ a w, RR c (appS rs (fun _ => true) 0 st) a w → Q .normal a w) {id : Nat} {a : Act} {w : World} (hrr : RR c st a w) :
    (Code.region id ops true).wp c.P Q a w := by
  refine wp_region_any hm (h.any hQ ops.size _ a _ (by simp) ?_ ?_ ?_)
  · rw [Array.toList_replicate, List.filter_replicate]
    simp
  · intro j o ho hj
    simp [Array.getD_eq_getD_getElem?, Array.getElem?_replicate] at hj
    split at hj <;> simp at hj
  · refine hrr.drew.congr (fun t => ?_) (fun t => ?_)
    · have : appS rs (fun j => (Array.replicate ops.size false).getD j false) 0 st = st := by
        have h4 : ∀ (rs : List Rec) (i : Nat) (s : St), appS rs (fun j => (Array.replicate ops.size false).getD j false) i s = s := by
          intro rs; induction rs with
          | nil => intro i s; rfl
          | cons r rs ih =>
            intro i s
            have : (Array.replicate ops.size false).getD i false = false := by
              simp [Array.getD_eq_getD_getElem?, Array.getElem?_replicate]; split <;> rfl
            simp only [appS, this, Bool.false_eq_true, if_false]
            exact ih _ _
        exact h4 _ _ _
      rw [this]
    · have : appS rs (fun j => (Array.replicate ops.size false).getD j false) 0 st = st := by
        have h4 : ∀ (rs : List Rec) (i : Nat) (s : St), appS rs (fun j => (Array.replicate ops.size false).getD j false) i s = s := by
          intro rs; induction rs with
          | nil => intro i s; rfl
          | cons r rs ih =>
            intro i s
            have : (Array.replicate ops.size false).getD i false = false := by
              simp [Array.getD_eq_getD_getElem?, Array.getElem?_replicate]; split <;> rfl
            simp only [appS, this, Bool.false_eq_true, if_false]
            exact ih _ _
        exact h4 _ _ _
      rw [this]

end Go.Proofs.Ytocppeifkjdeiaa.Mv
