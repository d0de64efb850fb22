/- A machine for proofs, part R: operations one behind the other, and in any order. Under no condition. -/
import Derived.Test.YtocppeifkjdeiaaCoreQ
import Derived.Tactics
namespace Go.Proofs.Ytocppeifkjdeiaa.Mv
open Go
set_option linter.unusedSimpArgs false
set_option linter.unusedVariables false

def okOper (N : Nat) (o : Oper) : Bool := (match o.dst with | some d => decide (d < N) | none => true) && o.op.operands.all (okOp N)

/-- An operation by a proof of its own: from all states that agree where it looks. -/
def ExtOk (P : Program) (tab : Tab) (st : St) (o : Oper) (e : Eff) : Prop :=
  ∀ (g : Option (Nat × Bool)) (st' : St), (∀ x, x ∈ o.op.operands → st.val x = st'.val x) → (∀ t ∈ tagsAt st o, st.ob t = st'.ob t) → ∀ (c : Ctx) (Γ : Gam) (m : Nm) (a : Act) (w : World), c.P = P → TabOk c.P tab → RRW c Γ m st' a w →
    okOper c.N o = true → (∀ d ∈ e.new, st'.free d) → ∀ Q : Exit → Act → World → Prop, ({ o with guard := g } : Oper).wp c.P a w (fun a' w' => RR c (st'.app e) a' w') Q

/-- An operation, done. -/
inductive Does (P : Program) (tab : Tab) (st : St) (o : Oper) (e : Eff) : Prop
  | pure {v} : pop tab st o.op = some v → e = putEff o.dst v → Does P tab st o e
  | mem : mop tab st o = some e → Does P tab st o e
  | call : CallOk P st o e → Does P tab st o e
  | ext : ExtOk P tab st o e → Does P tab st o e

theorem does_wp {c Γ m st a w} {tab : Tab} (ht : TabOk c.P tab) (h : RRW c Γ m st a w) {o : Oper} {e : Eff} (hok : okOper c.N o = true) (hd : Does c.P tab st o e) (hf : ∀ d ∈ e.new, st.free d) {Q : Exit → Act → World → Prop} :
    o.wp c.P a w (fun a' w' => RR c (st.app e) a' w') Q := by
  simp only [okOper, Bool.and_eq_true] at hok
  cases hd with
  | pure h1 h2 => subst h2; exact pop_wp ht h hok.2 h1
  | mem h1 => exact mop_wp ht h hok.2 h1 hf
  | call h1 => exact call_wp h hok.2 h1 hf
  | ext h1 => exact h1 o.guard st (fun _ _ => rfl) (fun _ _ => rfl) c Γ m a w rfl ht h (by simpa [okOper] using hok) hf Q

/-- Is it wanted? -/
def wants (ops : Array Oper) (st : St) (o : Oper) : Option Bool :=
  match o.guard with
  | none => some true
  | some (j, want) => match (ops[j]?).bind (·.dst) with
    | some d => match st.get d with
      | .b x => some (x == want)
      | .u => some false
      | _ => none
    | none => none

theorem wants_spec {c Γ m st a w} (h : RRW c Γ m st a w) {ops : Array Oper} (hok : ops.all (okOper c.N) = true) {o : Oper} {b : Bool} (hw : wants ops st o = some b) : Region.wanted o (yielded ops a.tmps) = b := by
  unfold wants at hw
  unfold Region.wanted
  split at hw
  · rename_i hg; rw [hg]; exact Option.some.inj hw
  · rename_i j want hg
    rw [hg]
    split at hw
    · rename_i d hd
      have hdn : d < c.N := by
        cases hj : ops[j]? with
        | none => rw [hj] at hd; cases hd
        | some p =>
          rw [hj] at hd
          have := (Array.all_eq_true_iff_forall_mem.1 hok) p (Array.mem_of_getElem? hj)
          simp only [okOper, Bool.and_eq_true] at this
          simp only [Option.bind_some] at hd
          rw [hd] at this
          simpa using this.1
      have hr := h.tmps d hdn
      have hdt : d < a.tmps.size := by rw [h.size]; exact hdn
      have hget : a.tmps[d]? = some (a.tmps.getD d undef) := by simp [hdt]
      simp only [yielded, hd, Option.bind_some, hget]
      split at hw
      · rename_i x hx
        rw [hx] at hr
        cases hq : a.tmps.getD d undef <;> rw [hq] at hr <;> cases hr
        cases hw
        rfl
      · rename_i hx
        rw [hx] at hr
        generalize a.tmps.getD d undef = v at hr
        cases hr
        cases hw
        rfl
      · cases hw
    · cases hw

theorem skip_put {c Γ m st a w} (h : RRW c Γ m st a w) (d : Option Nat) : RR c (st.app (putEff d .u)) (a.put d undef) w := by
  refine ⟨Γ, m, ?_⟩
  have := h.put d (v := undef) (x := .u) .u
  cases d with
  | none => exact this
  | some d => exact this

/-! ### any order -/
structure Rec where
  tags : List Nat
  e : Eff

def OneOk (P : Program) (tab : Tab) (ops : Array Oper) (st : St) (o : Oper) (r : Rec) : Prop :=
  r.tags = tagsAt st o ∧ ((wants ops st o = some true ∧ Does P tab st o r.e ∧ ∀ d ∈ r.e.new, st.free d) ∨ (wants ops st o = some false ∧ r.e = putEff o.dst .u))
def Chain (P : Program) (tab : Tab) (ops : Array Oper) : List Oper → St → List Rec → Prop
  | [], _, [] => True
  | o :: os, st, r :: rs => OneOk P tab ops st o r ∧ Chain P tab ops os (st.app r.e) rs
  | _, _, _ => False

/-- The state behind those of the records that have been done. -/
def appS : List Rec → (Nat → Bool) → Nat → St → St
  | [], _, _, st => st
  | r :: rs, S, i, st => appS rs S (i + 1) (if S i then st.app r.e else st)

theorem get_app (st : St) (e : Eff) (t : Nat) : (st.app e).get t = match look e.T t with | some c => c | none => st.get t := by
  simp only [St.get, St.app, look_app]
  cases look e.T t <;> rfl
theorem ob_app (st : St) (e : Eff) (t : Nat) : (st.app e).ob t = match look e.B t with | some c => c | none => st.ob t := by
  simp only [St.ob, St.app, look_app]
  cases look e.B t <;> rfl

theorem appS_get {rs : List Rec} {S S' : Nat → Bool} {t : Nat} : ∀ {i : Nat} {st st' : St}, (∀ j r, rs[j]? = some r → (look r.e.T t).isSome = true → S (i + j) = S' (i + j)) → st.get t = st'.get t → (appS rs S i st).get t = (appS rs S' i st').get t := by
  induction rs with
  | nil => intro i st st' _ h; exact h
  | cons r rs ih =>
    intro i st st' hs h
    simp only [appS]
    refine ih (fun j q hq hl => by have := hs (j + 1) q (by simpa using hq) hl; simpa [Nat.add_assoc, Nat.add_comm 1 j] using this) ?_
    cases hl : look r.e.T t with
    | none => split <;> split <;> simp [get_app, hl, h]
    | some c =>
      have := hs 0 r rfl (by simp [hl])
      simp only [Nat.add_zero] at this
      rw [this]
      split <;> simp [get_app, hl, h]
theorem appS_ob {rs : List Rec} {S S' : Nat → Bool} {t : Nat} : ∀ {i : Nat} {st st' : St}, (∀ j r, rs[j]? = some r → (look r.e.B t).isSome = true → S (i + j) = S' (i + j)) → st.ob t = st'.ob t → (appS rs S i st).ob t = (appS rs S' i st').ob t := by
  induction rs with
  | nil => intro i st st' _ h; exact h
  | cons r rs ih =>
    intro i st st' hs h
    simp only [appS]
    refine ih (fun j q hq hl => by have := hs (j + 1) q (by simpa using hq) hl; simpa [Nat.add_assoc, Nat.add_comm 1 j] using this) ?_
    cases hl : look r.e.B t with
    | none => split <;> split <;> simp [ob_app, hl, h]
    | some c =>
      have := hs 0 r rfl (by simp [hl])
      simp only [Nat.add_zero] at this
      rw [this]
      split <;> simp [ob_app, hl, h]

/-- One more done, last in time: if nothing behind it in the text touches what it writes. -/
theorem appS_add_get {rs : List Rec} {S : Nat → Bool} {n : Nat} {t : Nat} : ∀ {i : Nat} {st : St} {k : Nat} {r : Rec}, rs[k]? = some r → n = i + k → S n = false → (∀ j q, rs[j]? = some q → k < j → S (i + j) = true → (look r.e.T t).isSome = true → look q.e.T t = none) →
    (appS rs (fun j => j == n || S j) i st).get t = ((appS rs S i st).app r.e).get t := by
  induction rs with
  | nil => intro i st k r hr; simp at hr
  | cons q rs ih =>
    intro i st k r hr hn hS hno
    cases k with
    | zero =>
      simp at hr; subst hr
      obtain rfl : n = i := by omega
      simp only [appS, beq_self_eq_true, Bool.true_or, if_true, hS, Bool.false_eq_true, if_false]
      rw [get_app]
      cases hl : look q.e.T t with
      | none =>
        refine appS_get (fun j p hp hp' => ?_) (by simp [get_app, hl])
        have : (n + 1 + j == n) = false := by simp; omega
        simp [this]
      | some c =>
        have h1 : (appS rs (fun j => j == n || S j) (n + 1) (st.app q.e)).get t = (appS rs (fun _ => false) (n + 1) (st.app q.e)).get t := by
          refine appS_get (fun j p hp hp' => ?_) rfl
          have h2 : (n + 1 + j == n) = false := by simp; omega
          simp only [h2, Bool.false_or]
          cases h3 : S (n + 1 + j) with
          | false => rfl
          | true =>
            have := hno (j + 1) p (by simpa using hp) (by omega) (by rw [← h3]; congr 1; omega) (by simp [hl])
            rw [this] at hp'; cases hp'
        rw [h1]
        have h4 : ∀ (rs : List Rec) (i : Nat) (s : St), appS rs (fun _ => false) i s = s := by
          intro rs; induction rs with
          | nil => intro i s; rfl
          | cons r rs ih => intro i s; simp only [appS, Bool.false_eq_true, if_false]; exact ih _ _
        rw [h4, get_app, hl]
    | succ k =>
      simp only [appS]
      have h1 : (i == n) = false := by simp; omega
      simp only [h1, Bool.false_or]
      exact ih (by simpa using hr) (by omega) hS fun j p hp hj hs hl => hno (j + 1) p (by simpa using hp) (by omega) (by rw [← hs]; congr 1; omega) hl
theorem appS_add_ob {rs : List Rec} {S : Nat → Bool} {n : Nat} {t : Nat} : ∀ {i : Nat} {st : St} {k : Nat} {r : Rec}, rs[k]? = some r → n = i + k → S n = false → (∀ j q, rs[j]? = some q → k < j → S (i + j) = true → (look r.e.B t).isSome = true → look q.e.B t = none) →
    (appS rs (fun j => j == n || S j) i st).ob t = ((appS rs S i st).app r.e).ob t := by
  induction rs with
  | nil => intro i st k r hr; simp at hr
  | cons q rs ih =>
    intro i st k r hr hn hS hno
    cases k with
    | zero =>
      simp at hr; subst hr
      obtain rfl : n = i := by omega
      simp only [appS, beq_self_eq_true, Bool.true_or, if_true, hS, Bool.false_eq_true, if_false]
      rw [ob_app]
      cases hl : look q.e.B t with
      | none =>
        refine appS_ob (fun j p hp hp' => ?_) (by simp [ob_app, hl])
        have : (n + 1 + j == n) = false := by simp; omega
        simp [this]
      | some c =>
        have h1 : (appS rs (fun j => j == n || S j) (n + 1) (st.app q.e)).ob t = (appS rs (fun _ => false) (n + 1) (st.app q.e)).ob t := by
          refine appS_ob (fun j p hp hp' => ?_) rfl
          have h2 : (n + 1 + j == n) = false := by simp; omega
          simp only [h2, Bool.false_or]
          cases h3 : S (n + 1 + j) with
          | false => rfl
          | true =>
            have := hno (j + 1) p (by simpa using hp) (by omega) (by rw [← h3]; congr 1; omega) (by simp [hl])
            rw [this] at hp'; cases hp'
        rw [h1]
        have h4 : ∀ (rs : List Rec) (i : Nat) (s : St), appS rs (fun _ => false) i s = s := by
          intro rs; induction rs with
          | nil => intro i s; rfl
          | cons r rs ih => intro i s; simp only [appS, Bool.false_eq_true, if_false]; exact ih _ _
        rw [h4, ob_app, hl]
    | succ k =>
      simp only [appS]
      have h1 : (i == n) = false := by simp; omega
      simp only [h1, Bool.false_or]
      exact ih (by simpa using hr) (by omega) hS fun j p hp hj hs hl => hno (j + 1) p (by simpa using hp) (by omega) (by rw [← hs]; congr 1; omega) hl

end Go.Proofs.Ytocppeifkjdeiaa.Mv
