/- A machine for proofs, part B: the table of types, operands, the relation between abstract states and the machine's. Under no condition. -/
import Derived.Test.YtocppeifkjdeiaaCoreA
import Derived.ChangeKeysEq
namespace Go.Proofs.Ytocppeifkjdeiaa.Mv
open Go

structure TyI where
  d : TypeDesc
  size : Nat
  bytes : Nat
  zero : List Value
  eqok : Bool
abbrev Tab := List (Nat × TyI)

structure TyOk (P : Program) (t : Nat) (i : TyI) : Prop where
  und : P.underlying t = some i.d
  info : ∃ f, P.info? t = some f ∧ f.size = i.size ∧ f.bytes = i.bytes ∧ ∃ z, f.zero = some z ∧ z.cells.toList = i.zero
  one : i.zero.all (·.oneCell') = true ∧ i.zero.length = i.size
  eq : i.eqok = true → P.stoodInHeld t = false ∧ P.eqGuardType P.depth t = false
def TabL (P : Program) : Tab → Prop
  | [] => True
  | (t, i) :: r => TyOk P t i ∧ TabL P r
/-- Each field's type stands in the table. -/
def tabCl (tab : Tab) : Bool := tab.all fun p => match p.2.d with | .struct fs => fs.toList.all fun f => (look tab f.type).isSome | _ => true
structure TabOk (P : Program) (tab : Tab) : Prop where
  rows : TabL P tab
  closed : tabCl tab = true
theorem TabL.at {P : Program} {tab : Tab} (h : TabL P tab) {t : Nat} {i : TyI} (hl : look tab t = some i) : TyOk P t i := by
  induction tab with
  | nil => simp [look] at hl
  | cons p r ih =>
    obtain ⟨j, k⟩ := p
    simp only [look] at hl
    split at hl
    · rename_i e; subst e; cases hl; exact h.1
    · exact ih h.2 hl
theorem TabOk.at {P : Program} {tab : Tab} (h : TabOk P tab) {t : Nat} {i : TyI} (hl : look tab t = some i) : TyOk P t i := h.rows.at hl
theorem look_mem {α : Type} {l : List (Nat × α)} {t : Nat} {x : α} (h : look l t = some x) : (t, x) ∈ l := by
  induction l with
  | nil => simp [look] at h
  | cons p r ih =>
    obtain ⟨j, y⟩ := p
    simp only [look] at h
    split at h
    · rename_i e; subst e; cases h; simp
    · simp [ih h]
theorem TabOk.fields {P : Program} {tab : Tab} (h : TabOk P tab) {t : Nat} {i : TyI} (hl : look tab t = some i) {fs : Array Field} (hd : i.d = .struct fs) : ∀ f ∈ fs.toList, (look tab f.type).isSome = true := by
  have := (List.all_eq_true.1 h.closed) _ (look_mem hl)
  simp only [hd] at this
  exact List.all_eq_true.1 this

def TyI.agg (i : TyI) : Bool := match i.d with | .struct _ | .array _ _ => true | _ => false

section
variable {P : Program} {t : Nat} {i : TyI} (h : TyOk P t i) (w : World)
include h
theorem TyOk.run_und : (underlying t).run P w = .ok i.d w := run_underlying h.und w
theorem TyOk.run_size : (sizeOf t).run P w = .ok i.size w := by
  obtain ⟨f, hf, hs, _⟩ := h.info
  simp [sizeOf, typeInfo, hf, hs]
theorem TyOk.run_info : ∃ f, (typeInfo t).run P w = .ok f w ∧ f.bytes = i.bytes := by
  obtain ⟨f, hf, hs, hb, _⟩ := h.info
  exact ⟨f, by simp [typeInfo, hf], hb⟩
theorem TyOk.run_zero : ∃ z, (zeroValue t).run P w = .ok z w ∧ z.cells.toList = i.zero := by
  obtain ⟨f, hf, _, _, z, hz, he⟩ := h.info
  exact ⟨z, by simp [zeroValue, typeInfo, hf, hz], he⟩
theorem TyOk.run_agg : (isAgg t).run P w = .ok i.agg w := by
  unfold isAgg
  rw [Sem.run_bind, h.run_und w]
  simp only [Result.andThen_ok, TyI.agg]
  cases i.d <;> rfl
end

/-- A constant. -/
def ofVal : Value → AV
  | .int k n => .i k n
  | .bool t => .b t
  | .string s => .s s.data.toList
  | .slice none 0 0 => .nil
  | v => .x v
theorem ofVal_rep (Γ m v) : Rep Γ m v (ofVal v) := by
  unfold ofVal
  split
  · exact .i
  · exact .b
  · rename_i s; exact .s (l := s.data.toList)
  · exact .nil
  · exact .x
theorem ofVal_leaf {v : Value} (h : v.oneCell' = true) : (ofVal v).leaf = true := by
  unfold ofVal
  split <;> first | rfl | exact h
theorem ofVal_refs (v : Value) : (ofVal v).refs = [] := by
  unfold ofVal
  split <;> rfl

def St.val (s : St) : Operand → AV
  | .tmp t => s.get t
  | .const v => ofVal v
  | .func f => .clo f []
  | .global _ => .any

structure Ctx where
  P : Program
  N : Nat
  w0 : World
  Γ0 : Gam
  S : Nat → Prop
  ins : List Nat
  m0 : Nm
  big : ∀ p ∈ ins, 1000000 ≤ p

/-- Frame: what was there stays, but for the blocks S. -/
structure Fr (S : Nat → Prop) (w0 w : World) : Prop where
  os : w.os = w0.os
  tape : w.tape = w0.tape
  output : w.output = w0.output
  size : w0.heap.size ≤ w.heap.size
  block : ∀ k, k < w0.heap.size → ¬ S k → w.heap[k]? = w0.heap[k]?
theorem Fr.refl (S : Nat → Prop) (w : World) : Fr S w w := ⟨rfl, rfl, rfl, Nat.le_refl _, fun _ _ _ => rfl⟩

structure RRW (c : Ctx) (Γ : Gam) (m : Nm) (st : St) (a : Act) (w : World) : Prop where
  defers : a.defers = []
  size : a.tmps.size = c.N
  gok : ∀ ad v, Γ ad = some v → w.cell? ad = some v
  tmps : ∀ t, t < c.N → Rep Γ m (a.tmps.getD t undef) (st.get t)
  obs : ∀ t, ObOk Γ m w t (st.ob t)
  own : ∀ t g, (st.ob t).blk m t = some g → c.w0.heap.size ≤ g ∨ c.S g
  inj : ∀ t t' g, (st.ob t).blk m t = some g → (st.ob t').blk m t' = some g → t = t'
  frame : Fr c.S c.w0 w
  sub : Sub c.Γ0 Γ
  fresh : ∀ ad, c.Γ0 ad = none → Γ ad ≠ none → c.w0.heap.size ≤ ad.block ∨ c.S ad.block
  ext : ∀ p ∈ c.ins, Ext c.m0 m p

def RR (c : Ctx) (st : St) (a : Act) (w : World) : Prop := ∃ Γ m, RRW c Γ m st a w

/-- Operands' slots are the frame's own. -/
def okOp (N : Nat) : Operand → Bool
  | .tmp t => decide (t < N)
  | _ => true

theorem RRW.eval {c Γ m st a w} (h : RRW c Γ m st a w) (x : Operand) (hx : okOp c.N x = true) : Rep Γ m (a.eval x) (st.val x) := by
  cases x with
  | tmp t => exact h.tmps t (by simpa [okOp] using hx)
  | const v => exact ofVal_rep _ _ _
  | func f => exact .clo [] rfl fun j v c hv => by simp at hv
  | global g => exact .any

/-- What an operation does: slots, objects, tags that are made. -/
structure Eff where
  T : List (Nat × AV)
  B : List (Nat × Ob)
  new : List Nat
def St.app (s : St) (e : Eff) : St := ⟨e.T ++ s.T, e.B ++ s.B⟩

def St.put (s : St) (d : Nat) (c : AV) : St := ⟨(d, c) :: s.T, s.B⟩
def St.puto (s : St) (d : Option Nat) (c : AV) : St := match d with | some d => s.put d c | none => s

theorem RRW.put {c Γ m st a w} (h : RRW c Γ m st a w) (d : Option Nat) {v : Value} {x : AV} (hv : Rep Γ m v x) : RRW c Γ m (st.puto d x) (a.put d v) w := by
  cases d with
  | none => exact h
  | some d =>
    refine ⟨h.defers, by simp [Act.put, h.size], h.gok, fun t ht => ?_, h.obs, h.own, h.inj, h.frame, h.sub, h.fresh, h.ext⟩
    simp only [Act.put, St.puto, St.put, St.get, look]
    by_cases e : d = t
    · subst e
      have hd : d < a.tmps.size := by rw [h.size]; exact ht
      simpa [Array.getElem?_setIfInBounds, hd] using hv
    · rw [if_neg e]
      have := h.tmps t ht
      simp only [St.get] at this
      simpa [Array.getElem?_setIfInBounds, e] using this

/-- Memory turns: what the relation's memory part must show. -/
theorem RRW.mem {c Γ m Γ' m' st a w} {B' : List (Nat × Ob)} {w' : World} (h : RRW c Γ m st a w) (hs : Sub Γ Γ')
    (hm : ∀ t r, r ∈ (st.get t).refs → Ext m m' r) (hext : ∀ p ∈ c.ins, Ext m m' p)
    (gok : ∀ ad v, Γ' ad = some v → w'.cell? ad = some v) (obs : ∀ t, ObOk Γ' m' w' t ((⟨st.T, B'⟩ : St).ob t))
    (own : ∀ t g, ((⟨st.T, B'⟩ : St).ob t).blk m' t = some g → c.w0.heap.size ≤ g ∨ c.S g)
    (inj : ∀ t t' g, ((⟨st.T, B'⟩ : St).ob t).blk m' t = some g → ((⟨st.T, B'⟩ : St).ob t').blk m' t' = some g → t = t')
    (frame : Fr c.S c.w0 w') (fresh : ∀ ad, Γ ad = none → Γ' ad ≠ none → c.w0.heap.size ≤ ad.block ∨ c.S ad.block) : RRW c Γ' m' ⟨st.T, B'⟩ a w' :=
  ⟨h.defers, h.size, gok, fun t ht => (h.tmps t ht).mono hs (hm t), obs, own, inj, frame, h.sub.trans hs, fun ad h0 h1 => by
    cases hg : Γ ad with
    | none => exact fresh ad hg h1
    | some v => exact h.fresh ad h0 (by simp [hg]), fun p hp => ⟨fun g hg => (hext p hp).1 g ((h.ext p hp).1 g hg), fun k x hx => (hext p hp).2 k x ((h.ext p hp).2 k x hx)⟩⟩

end Go.Proofs.Ytocppeifkjdeiaa.Mv
