/- A machine for proofs, part P: contracts, and calls by them. Under no condition. -/
import Derived.Test.YtocppeifkjdeiaaCoreN
namespace Go.Proofs.Ytocppeifkjdeiaa.Mv
open Go
set_option linter.unusedSimpArgs false
set_option linter.unusedVariables false

/-! ### other names for tags -/
def AV.ren (ρ : Nat → Nat) : AV → AV
  | .agg cs => .agg (renL ρ cs)
  | .tup cs => .tup (renL ρ cs)
  | .clo f cs => .clo f (renL ρ cs)
  | .gr t e sz rows => .gr (ρ t) e sz rows
  | .ptr t o => .ptr (ρ t) o
  | .bsl t off n sz => .bsl (ρ t) off n sz
  | c => c
where renL (ρ : Nat → Nat) : List AV → List AV
  | [] => []
  | c :: cs => c.ren ρ :: renL ρ cs
theorem renL_eq (ρ : Nat → Nat) (cs : List AV) : AV.ren.renL ρ cs = cs.map (AV.ren ρ) := by
  induction cs with
  | nil => rfl
  | cons c cs ih => simp [AV.ren.renL, ih]
def Ob.ren (ρ : Nat → Nat) : Ob → Ob
  | .bx cs => .bx (AV.ren.renL ρ cs)
  | o => o
def Nm.pull (m : Nm) (ρ : Nat → Nat) : Nm := ⟨fun t => m.th (ρ t), fun t => m.ka (ρ t)⟩

theorem rep_ren {Γ m ρ v c} (h : Rep Γ (m.pull ρ) v c) : Rep Γ m v (c.ren ρ) := by
  generalize hm : m.pull ρ = m0 at h
  induction h with
  | any => exact .any
  | u => exact .u
  | x => exact .x
  | i => exact .i
  | b => exact .b
  | s => exact .s
  | nil => exact .nil
  | agg vs hl hr ih =>
    subst hm
    refine .agg vs (by rw [renL_eq, List.length_map, hl]) fun j v c hv hc => ?_
    rw [renL_eq, List.getElem?_map] at hc
    obtain ⟨d, hd, rfl⟩ := Option.map_eq_some_iff.1 hc
    exact ih j v d hv hd rfl
  | tup vs hl hr ih =>
    subst hm
    refine .tup vs (by rw [renL_eq, List.length_map, hl]) fun j v c hv hc => ?_
    rw [renL_eq, List.getElem?_map] at hc
    obtain ⟨d, hd, rfl⟩ := Option.map_eq_some_iff.1 hc
    exact ih j v d hv hd rfl
  | sh0 => exact .sh0
  | sh vs h1 h2 h3 h4 h5 h6 h7 h8 ih => exact .sh vs h1 h2 h3 h4 h5 h6 h7 h8
  | gr hr hk ih => subst hm; exact .gr (ih rfl) hk
  | ptr ht => subst hm; exact .ptr ht
  | bsl ht hn => subst hm; exact .bsl ht hn
  | pel vs h1 h2 h3 h4 ih => exact .pel vs h1 h2 h3 h4
  | clo vs hl hr ih =>
    subst hm
    refine .clo vs (by rw [renL_eq, List.length_map, hl]) fun j v c hv hc => ?_
    rw [renL_eq, List.getElem?_map] at hc
    obtain ⟨d, hd, rfl⟩ := Option.map_eq_some_iff.1 hc
    exact ih j v d hv hd rfl

theorem ren_rep {Γ m ρ v c'} (h : Rep Γ m v c') : ∀ {c : AV}, c' = c.ren ρ → Rep Γ (m.pull ρ) v c := by
  induction h with
  | any => intro c hc; cases c <;> simp [AV.ren] at hc; exact .any
  | u => intro c hc; cases c <;> simp [AV.ren] at hc; exact .u
  | x => intro c hc; cases c <;> simp [AV.ren] at hc; subst hc; exact .x
  | i => intro c hc; cases c <;> simp [AV.ren] at hc; obtain ⟨rfl, rfl⟩ := hc; exact .i
  | b => intro c hc; cases c <;> simp [AV.ren] at hc; subst hc; exact .b
  | s => intro c hc; cases c <;> simp [AV.ren] at hc; subst hc; exact .s
  | nil => intro c hc; cases c <;> simp [AV.ren] at hc; exact .nil
  | agg vs hl hr ih => intro c hc; cases c <;> simp [AV.ren] at hc; subst hc; exact .agg vs (by rw [hl, renL_eq, List.length_map]) fun j v d hv hd => ih j v (d.ren ρ) hv (by rw [renL_eq, List.getElem?_map, hd]; rfl) rfl
  | tup vs hl hr ih => intro c hc; cases c <;> simp [AV.ren] at hc; subst hc; exact .tup vs (by rw [hl, renL_eq, List.length_map]) fun j v d hv hd => ih j v (d.ren ρ) hv (by rw [renL_eq, List.getElem?_map, hd]; rfl) rfl
  | sh0 => intro c hc; cases c <;> simp [AV.ren] at hc; obtain ⟨rfl, rfl⟩ := hc; exact .sh0
  | sh vs h1 h2 h3 h4 h5 h6 h7 h8 ih => intro c hc; cases c <;> simp [AV.ren] at hc; obtain ⟨rfl, rfl⟩ := hc; exact .sh vs h1 h2 h3 h4 h5 h6 h7 h8
  | gr hr hk ih => intro c hc; cases c <;> simp [AV.ren] at hc; obtain ⟨rfl, rfl, rfl, rfl⟩ := hc; exact .gr (ih (c := .sh _ _) rfl) hk
  | ptr ht => intro c hc; cases c <;> simp [AV.ren] at hc; obtain ⟨rfl, rfl⟩ := hc; exact .ptr ht
  | bsl ht hn => intro c hc; cases c <;> simp [AV.ren] at hc; obtain ⟨rfl, rfl, rfl, rfl⟩ := hc; exact .bsl ht hn
  | pel vs h1 h2 h3 h4 ih => intro c hc; cases c <;> simp [AV.ren] at hc; subst hc; exact .pel vs h1 h2 h3 h4
  | clo vs hl hr ih => intro c hc; cases c <;> simp [AV.ren] at hc; obtain ⟨rfl, rfl⟩ := hc; exact .clo vs (by rw [hl, renL_eq, List.length_map]) fun j v d hv hd => ih j v (d.ren ρ) hv (by rw [renL_eq, List.getElem?_map, hd]; rfl) rfl

theorem blk_ren (m : Nm) (ρ : Nat → Nat) (ob : Ob) (t : Nat) : (ob.ren ρ).blk m (ρ t) = ob.blk (m.pull ρ) t := by cases ob <;> rfl
theorem ob_ren {Γ m w ρ t ob} : ObOk Γ m w (ρ t) (Ob.ren ρ ob) ↔ ObOk Γ (m.pull ρ) w t ob := by
  cases ob with
  | bx cs =>
    constructor
    · rintro ⟨g, c, E, h1, h2, h3, h4, h5, h6⟩
      exact ⟨g, c, E, h1, h2, ⟨h3.1, by have := h3.2; rw [renL_eq, List.length_map] at this; exact this⟩, fun j v d hv hd => ren_rep (h4 j v (d.ren ρ) hv (by rw [renL_eq, List.getElem?_map, hd]; rfl)) rfl, fun j v hj => h5 j v (by rw [renL_eq, List.length_map]; exact hj), h6⟩
    · rintro ⟨g, c, E, h1, h2, h3, h4, h5, h6⟩
      refine ⟨g, c, E, h1, h2, ⟨h3.1, by rw [renL_eq, List.length_map]; exact h3.2⟩, fun j v d hv hd => ?_, fun j v hj => h5 j v (by rw [renL_eq, List.length_map] at hj; exact hj), h6⟩
      rw [renL_eq, List.getElem?_map] at hd
      obtain ⟨e, he, rfl⟩ := Option.map_eq_some_iff.1 hd
      exact rep_ren (h4 j v e hv he)
  | gw n => exact Iff.rfl
  | dead => exact Iff.rfl

/-! ### contracts -/
structure FnOk (P : Program) (f : FuncId) : Prop where
  fn : ∃ fn, P.funcs[f]? = some fn ∧ (fn.name == "runtime.NumGoroutine") = false ∧ fn.body.isNone = false

/-- The blocks that objects own. -/
def Owns (m : Nm) (l : List (Nat × Ob)) (g : Nat) : Prop := ∃ p ∈ l, p.2.blk m p.1 = some g
def Inj (m : Nm) (l : List (Nat × Ob)) : Prop := ∀ p ∈ l, ∀ q ∈ l, ∀ g, p.2.blk m p.1 = some g → q.2.blk m q.1 = some g → p.1 = q.1

structure Post (ins : List (Nat × Ob)) (res : AV) (outs : List (Nat × Ob)) (w : World) (Γ : Gam) (m : Nm) (v : Value) (w' : World) (Γ' : Gam) (m' : Nm) : Prop where
  sub : Sub Γ Γ'
  gok : ∀ ad v, Γ' ad = some v → w'.cell? ad = some v
  rep : Rep Γ' m' v res
  obs : ∀ p ∈ outs, ObOk Γ' m' w' p.1 p.2
  inj : Inj m' outs
  own : ∀ g, Owns m' outs g → w.heap.size ≤ g ∨ Owns m ins g
  ext : ∀ p ∈ ins, Ext m m' p.1
  frame : Fr (Owns m ins) w w'
  fresh : ∀ ad, Γ ad = none → Γ' ad ≠ none → w.heap.size ≤ ad.block ∨ Owns m ins ad.block

/-- A contract: called with these, in whatever memory, it returns that. -/
structure Good (P : Program) (f : FuncId) (args : List AV) (ins : List (Nat × Ob)) (res : AV) (outs : List (Nat × Ob)) : Prop where
  fn : FnOk P f
  calls : ∀ (w : World) (Γ : Gam) (m : Nm) (vals : List Value), (∀ ad v, Γ ad = some v → w.cell? ad = some v) → RepL Γ m vals args → (∀ p ∈ ins, ObOk Γ m w p.1 p.2) → Inj m ins →
    Calls P f vals.toArray w fun e w' => ∃ v Γ' m', e = .returned v ∧ Post ins res outs w Γ m v w' Γ' m'

/-- What is weaker. -/
def Le (c d : AV) : Prop := ∀ Γ m v, Rep Γ m v c → Rep Γ m v d
theorem Le.refl (c : AV) : Le c c := fun _ _ _ h => h
theorem Le.any (c : AV) : Le c .any := fun _ _ _ _ => .any
theorem Le.gr {t e sz rows} : Le (.gr t e sz rows) (.sh sz rows) := fun _ _ _ h => by cases h with | gr h _ => exact h
theorem Le.nil {sz} : Le .nil (.sh sz []) := fun _ _ _ h => by cases h; exact .sh0
theorem Le.agg {cs ds : List AV} (hl : cs.length = ds.length) (h : ∀ (j : Nat) c d, cs[j]? = some c → ds[j]? = some d → Le c d) : Le (.agg cs) (.agg ds) := fun Γ m v hr => by
  obtain ⟨vs, rfl, h1, h2⟩ := hr.agg_inv
  refine .agg vs (by rw [h1, hl]) fun j v d hv hd => ?_
  · have hj : j < cs.length := by rw [hl]; exact (List.getElem?_eq_some_iff.1 hd).1
    exact h j _ d (List.getElem?_eq_getElem hj) hd _ _ _ (h2 j v _ hv (List.getElem?_eq_getElem hj))
inductive LeL : List AV → List AV → Prop
  | nil : LeL [] []
  | cons {c d cs ds} : Le c d → LeL cs ds → LeL (c :: cs) (d :: ds)
theorem LeL.refl : ∀ cs, LeL cs cs
  | [] => .nil
  | c :: cs => .cons (.refl c) (.refl cs)
theorem LeL.len {cs ds} (h : LeL cs ds) : cs.length = ds.length := by induction h <;> simp_all
theorem LeL.at {cs ds} (h : LeL cs ds) : ∀ (j : Nat) c d, cs[j]? = some c → ds[j]? = some d → Le c d := by
  induction h with
  | nil => intro j c d hc; simp at hc
  | cons h1 h2 ih =>
    intro j c d hc hd
    cases j with
    | zero => simp at hc hd; subst hc; subst hd; exact h1
    | succ j => exact ih j c d (by simpa using hc) (by simpa using hd)
theorem Le.aggL {cs ds : List AV} (h : LeL cs ds) : Le (.agg cs) (.agg ds) := .agg h.len h.at
theorem LeL.rep {Γ m vs cs ds} (h : LeL cs ds) (hr : RepL Γ m vs cs) : RepL Γ m vs ds := by
  refine ⟨by rw [hr.1, h.len], fun j v d hv hd => ?_⟩
  have hj : j < cs.length := by rw [h.len]; exact (List.getElem?_eq_some_iff.1 hd).1
  exact h.at j _ d (List.getElem?_eq_getElem hj) hd _ _ _ (hr.2 j v _ hv (List.getElem?_eq_getElem hj))

/-- The tags that an operation looks at. -/
def opRefs (st : St) : List Operand → List Nat
  | [] => []
  | x :: xs => (st.val x).refs ++ opRefs st xs
def obRefs (st : St) : List Nat → List Nat
  | [] => []
  | t :: ts => (st.ob t).refs ++ obRefs st ts
def tagsAt (st : St) (o : Oper) : List Nat := opRefs st o.op.operands.toList ++ obRefs st (opRefs st o.op.operands.toList)

/-- A call by a contract: what it does. -/
structure CallOk (P : Program) (st : St) (o : Oper) (e : Eff) : Prop where
  ex : ∃ fx xs ts d f caps args ins res outs ρ, o.op = .call { callee := .value fx, args := xs, argTypes := ts } ∧ o.dst = some d ∧ st.val fx = .clo f caps ∧ Good P f args ins res outs ∧
    LeL (xs.toList.map st.val ++ caps) (args.map (AV.ren ρ)) ∧ (∀ p ∈ ins, st.ob (ρ p.1) = p.2.ren ρ ∧ ρ p.1 ∈ tagsAt st o) ∧
    (∀ s ∈ ins.map (·.1) ++ outs.map (·.1), ∀ t ∈ ins.map (·.1) ++ outs.map (·.1), ρ s = ρ t → s = t) ∧ (∀ s ∈ ins.map (·.1), s ∈ outs.map (·.1)) ∧ (outs.map (·.1)).Nodup ∧
    (∀ t ∈ res.refs, t ∈ outs.map (·.1)) ∧ (∀ p ∈ outs, ∀ t ∈ p.2.refs, t ∈ outs.map (·.1)) ∧
    e = ⟨[(d, res.ren ρ)], outs.map fun p => (ρ p.1, p.2.ren ρ), (outs.map (·.1)).filterMap fun t => if t ∈ ins.map (·.1) then none else some (ρ t)⟩

end Go.Proofs.Ytocppeifkjdeiaa.Mv
