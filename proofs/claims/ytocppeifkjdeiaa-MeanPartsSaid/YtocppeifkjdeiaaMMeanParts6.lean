/- What the statement MeanParts needs, part 6. Under no condition. -/
import Derived.LoopN
import Derived.TacticsIn
import Derived.Test.YtocppeifkjdeiaaMMeanParts5
/- A machine for proofs, part V: code, step by step. Under no condition. -/
namespace Go.Proofs.Ytocppeifkjdeiaa.Mv
open Go
set_option linter.unusedSimpArgs false
set_option linter.unusedVariables false

/-- What is still to be done: code, the end of a block, another round. -/
inductive It where
  | c (code : Code)
  | b (id : Nat)
  | lp (n : Nat) (body : Code)

def wpK (P : Program) (Z : Exit → Act → World → Prop) : List It → Exit → Act → World → Prop
  | [] => Z
  | .c code :: k => Exit.then (code.wp P (wpK P Z k)) (wpK P Z k)
  | .b id :: k => Exit.inBlock id (wpK P Z k)
  | .lp n body :: k => Exit.then (Code.rounds P body (wpK P Z k) n) (wpK P Z k)

/-- A walk's surroundings: the context, what must hold at the end. -/
structure Fx (P : Program) (tab : Tab) (N : Nat) (D : St → Prop) where
  c : Ctx
  hP : c.P = P
  hN : c.N = N
  ok : TabOk P tab
  mo : P.follows .mixedOrders = true
  Z : Exit → Act → World → Prop
  fin : ∀ st a w, D st → RR c st a w → Z .normal a w ∧ Z .ret a w

section
variable {P : Program} {tab : Tab} {N : Nat} {D : St → Prop} (F : Fx P tab N D)

def AW (k : List It) (st : St) : Prop := ∀ a w, RR F.c st a w → wpK P F.Z k .normal a w

theorem wpK_ret (k : List It) (Z : Exit → Act → World → Prop) (a : Act) (w : World) (h : Z .ret a w) : wpK P Z k .ret a w := by
  induction k with
  | nil => exact h
  | cons x k ih => cases x <;> exact ih
def popTo (id : Nat) : List It → Option (List It)
  | [] => none
  | .b i :: k => if id = i then some k else popTo id k
  | _ :: k => popTo id k
theorem wpK_exit {id : Nat} {k k' : List It} {Z : Exit → Act → World → Prop} {a : Act} {w : World} (hp : popTo id k = some k') (h : wpK P Z k' .normal a w) : wpK P Z k (.exit id) a w := by
  induction k with
  | nil => cases hp
  | cons x k ih =>
    cases x with
    | c code => exact ih hp
    | lp n body => exact ih hp
    | b i =>
      simp only [popTo] at hp
      simp only [wpK, Exit.inBlock]
      split at hp
      · rename_i e; rw [if_pos e]; cases hp; exact h
      · rename_i e; rw [if_neg e]; exact ih hp

variable {F} {k : List It} {st : St}

theorem AW.fin (h : D st) : AW F [] st := fun a w hr => (F.fin st a w h hr).1
theorem AW.ret (h : D st) : AW F (.c .ret :: k) st := fun a w hr => wp_ret (wpK_ret k _ a w (F.fin st a w h hr).2)
theorem AW.skip (h : AW F k st) : AW F (.c .skip :: k) st := fun a w hr => wp_skip (h a w hr)
theorem AW.label {l : Nat} (h : AW F k st) : AW F (.c (.label l) :: k) st := fun a w hr => wp_label (h a w hr)
theorem AW.seq {x y : Code} (h : AW F (.c x :: .c y :: k) st) : AW F (.c (.seq x y) :: k) st := fun a w hr => wp_seq (h a w hr)
theorem AW.block {id : Nat} {x : Code} (h : AW F (.c x :: .b id :: k) st) : AW F (.c (.block id x) :: k) st := fun a w hr => wp_block (h a w hr)
theorem AW.out {id : Nat} (h : AW F k st) : AW F (.b id :: k) st := fun a w hr => h a w hr
theorem AW.exit {id : Nat} {k' : List It} (hp : popTo id k = some k') (h : AW F k' st) : AW F (.c (.exit id) :: k) st := fun a w hr => wp_exit (wpK_exit hp (h a w hr))

theorem AW.cond {x : Operand} {t e : Code} {b : Bool} (hx : st.val x = .b b) (hN : okOp N x = true) (h1 : b = true → AW F (.c t :: k) st) (h2 : b = false → AW F (.c e :: k) st) : AW F (.c (.cond x t e) :: k) st := fun a w hr => by
  obtain ⟨Γ, m, hw⟩ := hr
  have he := hw.eval x (by rw [F.hN]; exact hN)
  rw [hx] at he
  have : a.eval x = .bool b := by generalize a.eval x = v at he; cases he; rfl
  exact wp_cond_split this (fun hb => h1 hb a w ⟨Γ, m, hw⟩) (fun hb => h2 hb a w ⟨Γ, m, hw⟩)

/-- A loop: states by name, what sinks. -/
theorem AW.loop {α : Type} (S : α → St) (μ : α → Nat) {body : Code} (h : ∀ n x, (∀ y, μ y < μ x → AW F (.lp n body :: k) (S y)) → AW F (.c body :: .lp n body :: k) (S x)) (x : α) : AW F (.c (.loop body) :: k) (S x) := by
  have key : ∀ n x, μ x < n → ∀ a w, RR F.c (S x) a w → Code.rounds P body (wpK P F.Z k) n a w := by
    intro n
    induction n with
    | zero => intro x hx; omega
    | succ n ih =>
      intro x hx a w hr
      exact h n x (fun y hy a w hr => ih y (by omega) a w hr) a w hr
  exact fun a w hr => wp_loop_rounds _ (key (μ x + 1) x (Nat.lt_succ_self _) a w hr)

/-! ### weaker states -/
def Lx (H : Gam → Nm → Prop) (c d : AV) : Prop := ∀ Γ m v, H Γ m → Rep Γ m v c → Rep Γ m v d
section
variable {H : Gam → Nm → Prop}
theorem Lx.refl {c : AV} : Lx H c c := fun _ _ _ _ h => h
theorem Lx.eq {c d : AV} (h : c = d) : Lx H c d := h ▸ Lx.refl
theorem Lx.any {c : AV} : Lx H c .any := fun _ _ _ _ _ => .any
theorem Lx.le {c d : AV} (h : Le c d) : Lx H c d := fun _ _ _ _ hr => h _ _ _ hr
theorem Lx.gr {t e sz rows} : Lx H (.gr t e sz rows) (.sh sz rows) := .le .gr
theorem Lx.nil {sz} : Lx H .nil (.sh sz []) := .le .nil
inductive LxL (H : Gam → Nm → Prop) : List AV → List AV → Prop
  | nil : LxL H [] []
  | cons {c d cs ds} : Lx H c d → LxL H cs ds → LxL H (c :: cs) (d :: ds)
theorem LxL.len {cs ds} (h : LxL H cs ds) : cs.length = ds.length := by induction h <;> simp_all
theorem LxL.at {cs ds} (h : LxL H cs ds) : ∀ (j : Nat) c d, cs[j]? = some c → ds[j]? = some d → Lx H c d := by
  induction h with
  | nil => intro j c d hc; simp at hc
  | cons h1 h2 ih =>
    intro j c d hc hd
    cases j with
    | zero => simp at hc hd; subst hc; subst hd; exact h1
    | succ j => exact ih j c d (by simpa using hc) (by simpa using hd)
theorem Lx.agg {cs ds : List AV} (h : LxL H cs ds) : Lx H (.agg cs) (.agg ds) := fun Γ m v hh hr => by
  obtain ⟨vs, rfl, h1, h2⟩ := hr.agg_inv
  refine .agg vs (by rw [h1, h.len]) fun j v d hv hd => ?_
  have hj : j < cs.length := by rw [h.len]; exact (List.getElem?_eq_some_iff.1 hd).1
  exact h.at j _ d (List.getElem?_eq_getElem hj) hd _ _ _ hh (h2 j v _ hv (List.getElem?_eq_getElem hj))

inductive Ol (H : Gam → Nm → Prop) : Ob → Ob → Prop
  | refl {o} : Ol H o o
  | dead {o} : Ol H o .dead
  | bx {cs ds} : LxL H cs ds → Ol H (.bx cs) (.bx ds)
theorem Ol.eq {o o' : Ob} (h : o = o') : Ol H o o' := h ▸ .refl
inductive LeT (H : Gam → Nm → Prop) (st : St) : List (Nat × AV) → Prop
  | nil : LeT H st []
  | cons {t c T} : Lx H (st.get t) c → LeT H st T → LeT H st ((t, c) :: T)
inductive LeB (H : Gam → Nm → Prop) (st : St) : List (Nat × Ob) → Prop
  | nil : LeB H st []
  | cons {t c B} : Ol H (st.ob t) c → LeB H st B → LeB H st ((t, c) :: B)
structure StLe (H : Gam → Nm → Prop) (st st' : St) : Prop where
  T : LeT H st st'.T
  B : LeB H st st'.B
theorem LeT.get {st : St} {T : List (Nat × AV)} {B : List (Nat × Ob)} (h : LeT H st T) (t : Nat) : Lx H (st.get t) ((⟨T, B⟩ : St).get t) := by
  induction h with
  | nil => exact .any
  | cons h1 h2 ih =>
    simp only [St.get, look]
    split
    · rename_i e; subst e; exact h1
    · exact ih
theorem LeB.ob {st : St} {T : List (Nat × AV)} {B : List (Nat × Ob)} (h : LeB H st B) (t : Nat) : Ol H (st.ob t) ((⟨T, B⟩ : St).ob t) := by
  induction h with
  | nil => exact .dead
  | cons h1 h2 ih =>
    simp only [St.ob, look]
    split
    · rename_i e; subst e; exact h1
    · exact ih
theorem Ol.ok {Γ m w t o o'} (h : Ol H o o') (hh : H Γ m) (ho : ObOk Γ m w t o) : ObOk Γ m w t o' := by
  cases h with
  | refl => exact ho
  | dead => trivial
  | bx h =>
    obtain ⟨g, c, E, h1, h2, h3, h4, h5, h6⟩ := ho
    refine ⟨g, c, E, h1, h2, ⟨h3.1, by rw [← h.len]; exact h3.2⟩, fun j v d hv hd => ?_, fun j v hj => h5 j v (by rw [h.len]; exact hj), h6⟩
    rename_i cs ds
    have hj : j < cs.length := by rw [h.len]; exact (List.getElem?_eq_some_iff.1 hd).1
    exact h.at j _ d (List.getElem?_eq_getElem hj) hd _ _ _ hh (h4 j v _ hv (List.getElem?_eq_getElem hj))
theorem Ol.blk {m t o o' g} (h : Ol H o o') (hb : o'.blk m t g) : o.blk m t g := by
  cases h with
  | refl => exact hb
  | dead => cases hb
  | bx h => exact hb
theorem RRW.less {c Γ m st st' a w} (h : RRW c Γ m st a w) (hh : H Γ m) (hl : StLe H st st') : RRW c Γ m st' a w :=
  ⟨h.defers, h.size, h.gok, fun t ht => (hl.T.get t) _ _ _ hh (h.tmps t ht), fun t => (hl.B.ob t).ok hh (h.obs t), fun t g hg => h.own t g ((hl.B.ob t).blk hg),
    fun t t' g hg hg' => h.inj t t' g ((hl.B.ob t).blk hg) ((hl.B.ob t').blk hg'), h.frame, h.sub, h.fresh, h.ext⟩
end
def Tr : Gam → Nm → Prop := fun _ _ => True
def NilG (d : Nat) (e : TypeId) (sz : Nat) : Gam → Nm → Prop := fun Γ m => Rep Γ m (.slice none 0 0) (.gr d e sz [])
theorem Lx.nilG {d e sz} : Lx (NilG d e sz) .nil (.gr d e sz []) := fun Γ m v hh hr => by cases hr; exact hh
theorem AW.less {st' : St} (hl : StLe Tr st st') (h : AW F k st') : AW F k st := fun a w ⟨Γ, m, hw⟩ => h a w ⟨Γ, m, hw.less trivial hl⟩
/-- The nil slice, from here on one that grows. -/
theorem AW.nilrow {st' : St} (d : Nat) (e : TypeId) (sz : Nat) (hf : st.free d) (hl : StLe (NilG d e sz) ⟨st.T, (d, .gw 0) :: st.B⟩ st') (h : AW F k st') : AW F k st := fun a w ⟨Γ, m, hw⟩ => by
  obtain ⟨m', h1, h2, _⟩ := hw.nilrow hf e sz
  exact h a w ⟨Γ, m', h1.less h2 hl⟩

/-! ### regions -/
theorem oper_in {P : Program} {o : Oper} {a : Act} {w : World} {K : Act → World → Prop} {Q : Exit → Act → World → Prop} (h : o.wp P a w K Q) : o.wpIn Fence.wide 0 P a w K Q := by
  refine ⟨fun _ _ => trivial, ?_⟩
  show o.uponIn Fence.wide 0 P a K Q ((execOp a.eval o).run P w)
  unfold Oper.wp at h
  generalize (execOp a.eval o).run P w = r at h
  rcases r with ⟨n, w'⟩ | ⟨hl, w'⟩
  · cases n with
    | enter f args => exact ⟨fun e => (by cases e), callsIn_wide.2 h⟩
    | row r args => exact ⟨fun e => (by cases e), fun c cs _ => let ⟨v, w', hR, hs⟩ := h c cs; ⟨v, w', hR, stepsIn_wide.2 hs⟩⟩
    | round => exact h.elim
    | value v => exact h
    | skip => exact h
    | defer d => exact h
    | _ => exact h.elim
  · cases hl with
    | panic v => exact h
    | _ => exact h.elim
/-- Operations in the order of the text. -/
def AO (F : Fx P tab N D) (ops : Array Oper) (k : List It) (l : List Oper) (st : St) : Prop :=
  ops.all (okOper N) = true → l.all (okOper N) = true → ∀ a w, RR F.c st a w → wpListIn Fence.wide 0 P ops (wpK P F.Z k) l a w

theorem AW.region {id : Nat} {ops : Array Oper} (hok : ops.toList.all (okOper N) = true) (h : AO F ops k ops.toList st) : AW F (.c (.region id ops false) :: k) st := fun a w hr =>
  wpIn_wide.1 (wpIn_region_list (n := 0) (h (by rw [← Array.all_toList]; exact hok) hok a w hr))

variable {ops : Array Oper} {l : List Oper} {o : Oper}
theorem AO.nil (h : AW F k st) : AO F ops k [] st := fun _ _ a w hr => wpListIn_nil (h a w hr)
theorem AO.step {e : Eff} (hw : wants ops st o = some true) (hd : Does P tab st o e) (hf : ∀ d ∈ e.new, st.free d) (h : AO F ops k l (st.app e)) : AO F ops k (o :: l) st := fun hok hl a w ⟨Γ, m, hr⟩ => by
  obtain ⟨c, rfl, rfl, tok, mo, Z, fin⟩ := F
  simp only [List.all_cons, Bool.and_eq_true] at hl
  refine wpListIn_step fun K hK => ?_
  rw [wants_spec hr hok hw]
  simp only [if_true]
  exact oper_in <| Oper.wp_mono (fun a' w' h' => hK a' w' (h hok hl.2 a' w' h')) (does_wp tok hr hl.1 hd hf)
theorem AO.pass (hw : wants ops st o = some false) (h : AO F ops k l (st.puto o.dst .u)) : AO F ops k (o :: l) st := fun hok hl a w ⟨Γ, m, hr⟩ => by
  obtain ⟨c, rfl, rfl, tok, mo, Z, fin⟩ := F
  simp only [List.all_cons, Bool.and_eq_true] at hl
  refine wpListIn_step fun K hK => ?_
  rw [wants_spec hr hok hw]
  simp only [Bool.false_eq_true, if_false]
  exact ⟨fun _ _ => trivial, hK _ _ (h hok hl.2 _ _ ⟨Γ, m, hr.put o.dst .u⟩)⟩

/-- Operations in any order: what has been recorded so far, last first. -/
def AR (F : Fx P tab N D) (ops : Array Oper) (k : List It) (l : List Oper) (st : St) (acc : List Rec) : Prop :=
  ∀ st0 id, (∀ rs, Chain P tab ops l st rs → Chain P tab ops ops.toList st0 (acc.reverse ++ rs)) → appS acc.reverse (fun _ => true) 0 st0 = st → ops.all (okOper N) = true →
    ∀ a w, RR F.c st0 a w → (Code.region id ops true).wp P (wpK P F.Z k) a w

def backB : Nat → List Oper → Bool
  | _, [] => true
  | i, o :: os => o.after.toList.all (fun e => !Region.binds .any e || decide (e.on < i)) && backB (i + 1) os
theorem backB_spec {i : Nat} {os : List Oper} (h : backB i os = true) : ∀ (j : Nat) o, os[j]? = some o → ∀ e ∈ o.after.toList, Region.binds .any e = true → e.on < i + j := by
  induction os generalizing i with
  | nil => intro j o ho; simp at ho
  | cons p os ih =>
    simp only [backB, Bool.and_eq_true] at h
    intro j o ho e he hb
    cases j with
    | zero =>
      simp at ho; subst ho
      have := List.all_eq_true.1 h.1 e he
      simpa [hb] using this
    | succ j => have := ih h.2 j o (by simpa using ho) e he hb; omega
/-- Each pair keeps apart, or one waits for the other. -/
def niRow (ops : Array Oper) (bef : Nat) (o' : Oper) (r' : Rec) : Nat → List Oper → List Rec → Bool
  | i, o :: os, r :: rs => (bef.testBit i || apart (looks ops o) (looks ops o') r r') && niRow ops bef o' r' (i + 1) os rs
  | _, _, _ => true
def niB (ops : Array Oper) (bs : List Nat) : List Oper → List Rec → List Oper → List Rec → Nat → Bool
  | o' :: os, r' :: rs, pre, prs, j => niRow ops (bs.getD j 0) o' r' 0 (pre.take j) (prs.take j) && niB ops bs os rs pre prs (j + 1)
  | _, _, _, _, _ => true
theorem niRow_spec {ops bef o' r'} : ∀ {os : List Oper} {rs : List Rec} {i : Nat}, niRow ops bef o' r' i os rs = true → ∀ (n : Nat) o r, os[n]? = some o → rs[n]? = some r → bef.testBit (i + n) = false → apart (looks ops o) (looks ops o') r r' = true
  | [], _, i, _, n, o, r, ho, _, _ => by simp at ho
  | _ :: _, [], i, _, n, o, r, _, hr, _ => by simp at hr
  | p :: os, q :: rs, i, h, n, o, r, ho, hr, hb => by
    simp only [niRow, Bool.and_eq_true, Bool.or_eq_true] at h
    cases n with
    | zero =>
      simp at ho hr; subst ho; subst hr
      rcases h.1 with h1 | h1
      · simp only [Nat.add_zero] at hb; rw [hb] at h1; cases h1
      · exact h1
    | succ n => exact niRow_spec h.2 n o r (by simpa using ho) (by simpa using hr) (by rw [← hb]; congr 1; omega)
theorem niB_spec {ops bs} {pre : List Oper} {prs : List Rec} : ∀ {os : List Oper} {rs : List Rec} {j : Nat}, niB ops bs os rs pre prs j = true → ∀ (m n : Nat) o o' r r', n < j + m → pre[n]? = some o → os[m]? = some o' → prs[n]? = some r → rs[m]? = some r' →
    (bs.getD (j + m) 0).testBit n = false → apart (looks ops o) (looks ops o') r r' = true
  | [], _, j, _, m, n, o, o', r, r', _, _, ho', _, _, _ => by simp at ho'
  | _ :: _, [], j, _, m, n, o, o', r, r', _, _, _, _, hr', _ => by simp at hr'
  | p :: os, q :: rs, j, h, m, n, o, o', r, r', hn, ho, ho', hr, hr', hb => by
    simp only [niB, Bool.and_eq_true] at h
    cases m with
    | zero =>
      simp at ho' hr'; subst ho'; subst hr'
      exact niRow_spec h.1 n o r (by rw [List.getElem?_take, if_pos (by omega)]; exact ho) (by rw [List.getElem?_take, if_pos (by omega)]; exact hr) (by simpa using hb)
    | succ m => exact niB_spec h.2 m n o o' r r' (by omega) ho (by simpa using ho') hr (by simpa using hr') (by rw [← hb]; congr 2; omega)

theorem AW.draw {id : Nat} (hok : ops.toList.all (okOper N) = true) (h : AR F ops k ops.toList st []) : AW F (.c (.region id ops true) :: k) st := fun a w hr =>
  h st id (fun rs hc => hc) rfl (by rw [← Array.all_toList]; exact hok) a w hr

theorem AR.nil {acc : List Rec} (hb : backB 0 ops.toList = true) (hn : niB ops (Region.before ops).toList ops.toList acc.reverse ops.toList acc.reverse 0 = true) (h : AW F k st) : AR F ops k [] st acc := fun st0 id hc hs hok a w hr => by
  obtain ⟨c, rfl, rfl, tok, mo, Z, fin⟩ := F
  have hc' := hc [] trivial
  rw [List.append_nil] at hc'
  have hreg : Reg c tab ops st0 acc.reverse := ⟨tok, hc', fun i j o o' r r' hij ho ho' hr hr' hbb => ?_, hok, fun j o ho e he hbb => ?_⟩
  · exact hreg.wp mo (fun a w hx => h a w (by rw [hs] at hx; exact hx)) hr
  · refine niB_spec hn j i o o' r r' (by omega) (by simpa using ho) (by simpa using ho') hr hr' ?_
    rw [Nat.zero_add, List.getD_eq_getElem?_getD, Array.getElem?_toList, ← Array.getD_eq_getD_getElem?]
    exact hbb
  · have := backB_spec hb j o (by simpa using ho) e (by simpa using he) hbb
    omega
theorem AR.one {acc : List Rec} {r : Rec} (ho : OneOk P tab ops st o r) (h : AR F ops k l (st.app r.e) (r :: acc)) : AR F ops k (o :: l) st acc := fun st0 id hc hs hok a w hr => by
  refine h st0 id (fun rs hrs => ?_) ?_ hok a w hr
  · have := hc (r :: rs) ⟨ho, hrs⟩
    simpa using this
  · have hap : ∀ (l l' : List Rec) (i : Nat) (s : St), appS (l ++ l') (fun _ => true) i s = appS l' (fun _ => true) (i + l.length) (appS l (fun _ => true) i s) := by
      intro l
      induction l with
      | nil => intro l' i s; rfl
      | cons q l ih => intro l' i s; simp only [List.cons_append, appS, if_true, List.length_cons]; rw [ih]; congr 1; omega
    rw [List.reverse_cons, hap, hs]
    rfl
theorem AR.step {acc : List Rec} {e : Eff} (hw : wants ops st o = some true) (hd : Does P tab st o e) (hf : ∀ d ∈ e.new, st.free d) (h : AR F ops k l (st.app e) (⟨tagsAt st o, e⟩ :: acc)) : AR F ops k (o :: l) st acc :=
  AR.one (r := ⟨tagsAt st o, e⟩) ⟨rfl, .inl ⟨hw, hd, hf⟩⟩ h
theorem AR.pass {acc : List Rec} (hw : wants ops st o = some false) (h : AR F ops k l (st.app (putEff o.dst .u)) (⟨tagsAt st o, putEff o.dst .u⟩ :: acc)) : AR F ops k (o :: l) st acc :=
  AR.one (r := ⟨tagsAt st o, putEff o.dst .u⟩) ⟨rfl, .inr ⟨hw, rfl⟩⟩ h
end

end Go.Proofs.Ytocppeifkjdeiaa.Mv

/- A machine for proofs, part W: from a walk to a contract, steps in handy forms. Under no condition. -/
namespace Go.Proofs.Ytocppeifkjdeiaa.Mv
open Go
set_option linter.unusedSimpArgs false
set_option linter.unusedVariables false

/-! ### what a function answers -/
def resOf (tab : Tab) (st : St) : ResultVar → Option AV
  | .tmp t => some (st.get t)
  | .cell a t => match look tab t, st.get a with
    | some i, .ptr g o => match st.ob g with
      | .bx cs => part i (cs.drop o)
      | _ => none
    | _, _ => none
def resAll (tab : Tab) (st : St) : List ResultVar → Option (List AV)
  | [] => some []
  | r :: rs => match resOf tab st r, resAll tab st rs with
    | some c, some cs => some (c :: cs)
    | _, _ => none
def resTup : List AV → AV
  | [c] => c
  | cs => .tup cs
def okRes (N : Nat) : ResultVar → Bool
  | .tmp t => decide (t < N)
  | .cell a _ => decide (a < N)

def resRun (a : Act) : ResultVar → Sem Value
  | .tmp t => pure (a.tmps.getD t undef)
  | .cell x t => do loadVar t (← asAddr (a.tmps.getD x undef))

theorem resOf_run {c Γ m st a w} {tab : Tab} (ht : TabOk c.P tab) (h : RRW c Γ m st a w) {r : ResultVar} (hok : okRes c.N r = true) {x : AV} (hr : resOf tab st r = some x) :
    ∃ v, (resRun a r).run c.P w = .ok v w ∧ Rep Γ m v x := by
  cases r with
  | tmp t =>
    cases hr
    exact ⟨_, rfl, h.tmps t (by simpa [okRes] using hok)⟩
  | cell y t =>
    simp only [resOf] at hr
    split at hr
    · rename_i i g o' hi e
      have h1 := h.tmps y (by simpa [okRes] using hok)
      rw [e] at h1
      split at hr
      · rename_i cs e2
        have hb := h.obs g
        rw [e2] at hb
        obtain ⟨k, cc, E, q1, q2, q3, q4, q5, q6⟩ := hb
        cases h1e : a.tmps.getD y undef with
        | pointer p =>
          rw [h1e] at h1
          cases h1 with
          | ptr hth =>
            rw [q1] at hth; cases hth
            have hr' : RepL Γ m ((cc.toList.take cs.length).drop o') (cs.drop o') := RepL.drop ⟨by have := q3.2; simp; omega, fun j v d hv hd => q4 j v d (by
              rw [List.getElem?_take] at hv
              split at hv
              · simpa using hv
              · cases hv) hd⟩ o'
            obtain ⟨val, h2, h3⟩ := loadAt_run (a := ⟨k, o', none⟩) ht (fun j v hv => by
              rw [add_lit, cell_of_row w k _ cc E.1 E.2 q2]
              rw [List.getElem?_drop, List.getElem?_take] at hv
              split at hv
              · simpa using hv
              · cases hv) hr' hi hr
            refine ⟨val, ?_, h3⟩
            simpa [resRun, h1e, asAddr, Instr.loadAt, Instr.sureAddr] using h2
        | _ => rw [h1e] at h1; cases h1
      · cases hr
    · cases hr

theorem resAll_run {c Γ m st a w} {tab : Tab} (ht : TabOk c.P tab) (h : RRW c Γ m st a w) : ∀ {rs : List ResultVar} {cs : List AV}, rs.all (okRes c.N) = true → resAll tab st rs = some cs →
    ∃ vs : List Value, (rs.mapM (resRun a)).run c.P w = .ok vs w ∧ RepL Γ m vs cs
  | [], cs, _, hr => by cases hr; exact ⟨[], rfl, .nil⟩
  | r :: rs, cs, hok, hr => by
    simp only [List.all_cons, Bool.and_eq_true] at hok
    simp only [resAll] at hr
    split at hr
    · rename_i x xs h1 h2
      cases hr
      obtain ⟨v, h3, h4⟩ := resOf_run ht h hok.1 h1
      obtain ⟨vs, h5, h6⟩ := resAll_run ht h hok.2 h2
      exact ⟨v :: vs, by simp [List.mapM_cons, h3, h5], .cons h4 h6⟩
    · cases hr

theorem results_run {c Γ m st a w} {tab : Tab} (ht : TabOk c.P tab) (h : RRW c Γ m st a w) {fn : Func} {cs : List AV} (hok : fn.results.toList.all (okRes c.N) = true) (hr : resAll tab st fn.results.toList = some cs) :
    ∃ v, (results fn a.tmps).run c.P w = .ok v w ∧ Rep Γ m v (resTup cs) := by
  obtain ⟨vs, h1, h2⟩ := resAll_run ht h hok hr
  have hm : (fn.results.mapM (resRun a)).run c.P w = .ok vs.toArray w := by
    rw [Array.mapM_eq_mapM_toList]
    simp [h1]
  have he : results fn a.tmps = (do let vs ← fn.results.mapM (resRun a); pure (if h : vs.size = 1 then vs[0] else .tuple vs)) := by
    unfold results
    congr 1
  have hx : (results fn a.tmps).run c.P w = .ok (if h : vs.toArray.size = 1 then vs.toArray[0] else .tuple vs.toArray) w := by
    rw [he]
    simp only [Sem.run_bind, hm, Result.andThen_ok, Sem.run_pure]
  refine ⟨_, hx, ?_⟩
  match vs, cs, h2 with
  | [], [], h2 => exact .tup [] rfl fun j v c hv => by simp at hv
  | [v], [c], h2 => exact h2.2 0 v c rfl rfl
  | v :: v' :: vs, c :: c' :: cs, h2 => simpa [resTup] using Rep.tup (v :: v' :: vs) h2.1 h2.2
  | [], _ :: _, h2 => have := h2.1; simp at this
  | _ :: _, [], h2 => have := h2.1; simp at this
  | [_], _ :: _ :: _, h2 => have := h2.1; simp at this
  | _ :: _ :: _, [_], h2 => have := h2.1; simp at this

/-- The end of a walk. -/
structure Done (tab : Tab) (rs : List ResultVar) (ins : List (Nat × Ob)) (res : AV) (outs : List (Nat × Ob)) (st : St) : Prop where
  ex : ∃ (τ : Nat → Nat) (cs : List AV), resAll tab st rs = some cs ∧ Lx Tr (resTup cs) (res.ren τ) ∧ (∀ p ∈ outs, Ol Tr (st.ob (τ p.1)) (p.2.ren τ)) ∧
    (∀ s ∈ outs.map (·.1), ∀ t ∈ outs.map (·.1), τ s = τ t → s = t) ∧ ∀ p ∈ ins, τ p.1 = p.1

theorem ren_id (c : AV) : c.ren (fun t => t) = c := by
  match c with
  | .agg cs => simp only [AV.ren, renL_eq]; congr 1; exact go cs
  | .tup cs => simp only [AV.ren, renL_eq]; congr 1; exact go cs
  | .clo f cs => simp only [AV.ren, renL_eq]; congr 1; exact go cs
  | .gr .. | .ptr .. | .bsl .. | .bsc .. | .shc .. | .mpv _ | .any | .u | .x _ | .i .. | .b _ | .s _ | .nil | .sh .. | .pel _ | .fv _ => rfl
where go : (cs : List AV) → cs.map (AV.ren fun t => t) = cs
  | [] => rfl
  | c :: cs => by rw [List.map_cons, ren_id c, go cs]

theorem Done.plain {tab : Tab} {rs : List ResultVar} {res : AV} {st : St} {cs : List AV} (h : resAll tab st rs = some cs) (hl : Lx Tr (resTup cs) res) : Done tab rs [] res [] st :=
  ⟨fun t => t, cs, h, by rw [ren_id]; exact hl, fun p hp => by simp at hp, fun s hs => by simp at hs, fun p hp => by simp at hp⟩

def entT : Nat → List AV → List (Nat × AV)
  | _, [] => []
  | j, c :: cs => (j, c) :: entT (j + 1) cs
theorem entT_look {args : List AV} {j t : Nat} : look (entT j args) (j + t) = args[t]? := by
  induction args generalizing j t with
  | nil => rfl
  | cons c cs ih =>
    simp only [entT, look]
    cases t with
    | zero => simp
    | succ t =>
      rw [if_neg (by omega)]
      have := ih (j := j + 1) (t := t)
      rw [show j + (t + 1) = j + 1 + t by omega, this]
      simp

/-- Facts of a function, all at once. -/
def fnB (fn : Func) (N n : Nat) : Bool := fn.name != "runtime.NumGoroutine" && fn.body.isSome && fn.ntmps == N && decide (n ≤ N) && fn.results.toList.all (okRes N)

theorem Good.walk {P : Program} {tab : Tab} (ht : TabOk P tab) (mo : P.follows .mixedOrders = true) {f : FuncId} {fn : Func} {code : Code} {rs : List ResultVar} {N : Nat} {args : List AV} {ins : List (Nat × Ob)} {res : AV} {outs : List (Nat × Ob)}
    (hf : P.funcs[f]? = some fn) (hfn : fnB fn N args.length = true) (hb : fn.body = some code) (hrs : fn.results.toList = rs) (hbig : ∀ p ∈ ins, 1000000 ≤ p.1)
    (h : ∀ F : Fx P tab N (Done tab rs ins res outs), AW F [.c code] ⟨entT 0 args, ins⟩) : Good P f args ins res outs := by
  simp only [fnB, Bool.and_eq_true, bne_iff_ne, beq_iff_eq, decide_eq_true_eq] at hfn
  obtain ⟨⟨⟨⟨h1, h2⟩, rfl⟩, h4⟩, h5⟩ := hfn
  refine ⟨⟨fn, hf, by simpa using h1, by simpa using h2⟩, fun w Γ m vals gok hv hobs hinj => ?_⟩
  let c : Ctx := ⟨P, fn.ntmps, w, Γ, Owns m ins, ins.map (·.1), m, fun p hp => by
    obtain ⟨q, hq, rfl⟩ := List.mem_map.1 hp; exact hbig q hq⟩
  have key : ∀ st a w', Done tab rs ins res outs st → RR c st a w' → ∃ v, a.defers = [] ∧ (results fn a.tmps).run P w' = .ok v w' ∧ ∃ Γ' m', Post ins res outs w Γ m v w' Γ' m' := by
    rintro st a w' ⟨τ, cs, d1, d2, d3, d4, d5⟩ ⟨Γ', m', hr⟩
    obtain ⟨v, hv1, hv2⟩ := results_run (c := c) ht hr (fn := fn) h5 (by rw [hrs]; exact d1)
    have hblk : ∀ p ∈ outs, ∀ g, p.2.blk (m'.pull τ) p.1 g → (st.ob (τ p.1)).blk m' (τ p.1) g := fun p hp g hg => by
      rw [← blk_ren] at hg
      exact (d3 p hp).blk hg
    refine ⟨v, hr.defers, hv1, Γ', m'.pull τ, hr.sub, hr.gok, ren_rep (d2 _ _ _ trivial hv2) rfl, fun p hp => ob_ren.1 ((d3 p hp).ok trivial (hr.obs _)), ?_, ?_, ?_, hr.frame, hr.fresh⟩
    · intro p hp q hq g hpg hqg
      exact d4 p.1 (List.mem_map.2 ⟨p, hp, rfl⟩) q.1 (List.mem_map.2 ⟨q, hq, rfl⟩) (hr.inj _ _ g (hblk p hp g hpg) (hblk q hq g hqg))
    · rintro g ⟨p, hp, hg⟩
      exact hr.own _ _ (hblk p hp g hg)
    · intro p hp
      have he := hr.ext p.1 (List.mem_map.2 ⟨p, hp, rfl⟩)
      refine ⟨fun g hg => ?_, fun k x hx => ?_⟩
      · show m'.th (τ p.1) = _; rw [d5 p hp]; exact he.1 g hg
      · show m'.ka (τ p.1) k = _; rw [d5 p hp]; exact he.2 k x hx
  refine calls_of_wp hf hb ?_
  let F : Fx P tab fn.ntmps (Done tab rs ins res outs) := ⟨c, rfl, rfl, ht, mo, bodyPost P fn fun e w' => ∃ v Γ' m', e = .returned v ∧ Post ins res outs w Γ m v w' Γ' m', fun st a w' hd hr => by
    obtain ⟨v, k1, k2, Γ', m', k3⟩ := key st a w' hd hr
    exact ⟨⟨k1, v, k2, v, Γ', m', rfl, k3⟩, ⟨k1, v, k2, v, Γ', m', rfl, k3⟩⟩⟩
  have hst := h F { tmps := vals.toArray ++ Array.replicate (fn.ntmps - vals.toArray.size) undef, defers := [] } w ⟨Γ, m, ?_⟩
  · refine Code.wp_mono (fun e a w' hq => ?_) hst
    cases e <;> exact hq
  · refine ⟨rfl, ?_, gok, fun t htn => ?_, fun t => ?_, fun t g hg => ?_, fun t t' g hg hg' => ?_, Fr.refl _ _, Sub.refl _, fun ad q1 q2 => absurd q1 q2, fun p hp => ⟨fun g hg => hg, fun k x hx => hx⟩⟩
    · have := hv.1
      show _ = fn.ntmps
      simp only [Array.size_append, List.size_toArray, Array.size_replicate]
      omega
    · have hlen := hv.1
      simp only [St.get]
      have := entT_look (args := args) (j := 0) (t := t)
      rw [Nat.zero_add] at this
      rw [this]
      cases hq : args[t]? with
      | none => exact .any
      | some x =>
        have hlt : t < vals.length := by rw [hlen]; exact (List.getElem?_eq_some_iff.1 hq).1
        have := hv.2 t vals[t] x (List.getElem?_eq_getElem hlt) hq
        simpa [Array.getD_eq_getD_getElem?, Array.getElem?_append, hlt] using this
    · simp only [St.ob]
      cases hq : look ins t with
      | none => trivial
      | some ob => exact hobs _ (look_mem hq)
    · simp only [St.ob] at hg
      cases hq : look ins t with
      | none => rw [hq] at hg; cases hg
      | some ob => rw [hq] at hg; exact .inr ⟨_, look_mem hq, hg⟩
    · simp only [St.ob] at hg hg'
      cases hq : look ins t with
      | none => rw [hq] at hg; cases hg
      | some ob =>
        cases hq' : look ins t' with
        | none => rw [hq'] at hg'; cases hg'
        | some ob' => rw [hq] at hg; rw [hq'] at hg'; exact hinj _ (look_mem hq) _ (look_mem hq') g hg hg'

end Go.Proofs.Ytocppeifkjdeiaa.Mv

/- A machine for proofs, part X: steps, in forms that unify. Under no condition. -/
namespace Go.Proofs.Ytocppeifkjdeiaa.Mv
open Go
set_option linter.unusedSimpArgs false
set_option linter.unusedVariables false

/-- The same list, written out. -/
inductive LE {α : Type} : List α → List α → Prop
  | nil : LE [] []
  | cons {a asL bs} : LE asL bs → LE (a :: asL) (a :: bs)
theorem LE.eq {α : Type} {asL bs : List α} (h : LE asL bs) : asL = bs := by induction h <;> simp_all
inductive LE2 {α : Type} : List (List α) → List (List α) → Prop
  | nil : LE2 [] []
  | cons {a b asL bs} : LE a b → LE2 asL bs → LE2 (a :: asL) (b :: bs)
/-- The same values, written out. -/
inductive Wf : List AV → List AV → Prop
  | nil : Wf [] []
  | s {l asL bs} : Wf asL bs → Wf (.s l :: asL) (.s l :: bs)
  | b {t asL bs} : Wf asL bs → Wf (.b t :: asL) (.b t :: bs)
  | i {k n asL bs} : Wf asL bs → Wf (.i k n :: asL) (.i k n :: bs)
  | ptr {t o asL bs} : Wf asL bs → Wf (.ptr t o :: asL) (.ptr t o :: bs)
  | agg {cs cs' asL bs} : Wf cs cs' → Wf asL bs → Wf (.agg cs :: asL) (.agg cs' :: bs)
  | tup {cs cs' asL bs} : Wf cs cs' → Wf asL bs → Wf (.tup cs :: asL) (.tup cs' :: bs)
  | gr {t e sz rows asL bs} : Wf asL bs → Wf (.gr t e sz rows :: asL) (.gr t e sz rows :: bs)
  | sh {sz rows asL bs} : Wf asL bs → Wf (.sh sz rows :: asL) (.sh sz rows :: bs)
  | nul {asL bs} : Wf asL bs → Wf (.nil :: asL) (.nil :: bs)
  | pel {cs cs' asL bs} : Wf cs cs' → Wf asL bs → Wf (.pel cs :: asL) (.pel cs' :: bs)
  | pelx {cs asL bs} : Wf asL bs → Wf (.pel cs :: asL) (.pel cs :: bs)
  | bsl {t off n sz asL bs} : Wf asL bs → Wf (.bsl t off n sz :: asL) (.bsl t off n sz :: bs)
  | bsc {t off n cap sz asL bs} : Wf asL bs → Wf (.bsc t off n cap sz :: asL) (.bsc t off n cap sz :: bs)
  | shc {sz rows more asL bs} : Wf asL bs → Wf (.shc sz rows more :: asL) (.shc sz rows more :: bs)
  | mpv {t asL bs} : Wf asL bs → Wf (.mpv t :: asL) (.mpv t :: bs)
  | clo {f cs cs' asL bs} : Wf cs cs' → Wf asL bs → Wf (.clo f cs :: asL) (.clo f cs' :: bs)
  | fv {c asL bs} : Wf asL bs → Wf (.fv c :: asL) (.fv c :: bs)
  | x {v asL bs} : Wf asL bs → Wf (.x v :: asL) (.x v :: bs)
  | u {asL bs} : Wf asL bs → Wf (.u :: asL) (.u :: bs)
  | any {asL bs} : Wf asL bs → Wf (.any :: asL) (.any :: bs)
theorem Wf.eq {asL bs : List AV} (h : Wf asL bs) : asL = bs := by induction h <;> simp_all
def Wh (c d : AV) : Prop := Wf [c] [d]
theorem Wh.eq {c d : AV} (h : Wh c d) : c = d := by
  have := Wf.eq h
  simpa using this

def St.freeB (s : St) (d : Nat) : Bool := decide (d < 1000000) && !(St.refsT s.T).contains d && !(St.refsB s.B).contains d
theorem St.freeB_ok {s : St} {d : Nat} (h : s.freeB d = true) : s.free d := by
  simp only [St.freeB, Bool.and_eq_true, decide_eq_true_eq] at h
  exact ⟨h.1.1, by simpa using h.1.2, by simpa using h.2⟩

/-- A number's lowest byte. -/
def u8 (n : Int) : UInt8 := UInt8.ofNat (n % 256).toNat
theorem wrapB (n : Int) : IntKind.wrap .u8 n = ((u8 n).toNat : Int) := by
  simp only [IntKind.wrap, IntKind.bits, IntKind.signed, Bool.false_and, Bool.false_eq_true, if_false, u8, UInt8.toNat_ofNat', Int.reducePow, Nat.reducePow]
  omega
theorem u8_succ (x : UInt8) : u8 ((x.toNat : Int) + 1) = x + 1 := by
  apply UInt8.toNat_inj.1
  simp only [u8, UInt8.toNat_ofNat', UInt8.toNat_add]
  have : (1 : UInt8).toNat = 1 := rfl
  rw [this]
  omega
theorem wrap64 {n : Int} (h : -9223372036854775808 ≤ n ∧ n ≤ 9223372036854775807) : IntKind.wrap .i64 n = n := by
  simp only [IntKind.wrap, IntKind.bits, IntKind.signed, Bool.true_and, decide_eq_true_eq, ge_iff_le, Nat.reduceSub, Int.reducePow]
  split <;> omega

section
variable {P : Program} {tab : Tab} {N : Nat} {D : St → Prop} {F : Fx P tab N D} {ops : Array Oper} {k : List It} {l : List Oper} {T : List (Nat × AV)} {B : List (Nat × Ob)}
  {d ty : Nat} {pos : String} {after : Array Edge} {op : Op}

/-! ### a region's operations, in the order of the text -/
theorem AO.p' {v : AV} (hp : pop tab ⟨T, B⟩ op = some v) (h : AO F ops k l ⟨(d, v) :: T, B⟩) : AO F ops k (⟨some d, op, ty, pos, after, none⟩ :: l) ⟨T, B⟩ :=
  AO.step rfl (.pure hp rfl) (fun d hd => by simp [putEff] at hd) h
theorem AO.p {v v' : AV} (hp : pop tab ⟨T, B⟩ op = some v) (hv : Wh v v') (h : AO F ops k l ⟨(d, v') :: T, B⟩) : AO F ops k (⟨some d, op, ty, pos, after, none⟩ :: l) ⟨T, B⟩ :=
  AO.p' (by rw [hp, hv.eq]) h
theorem AO.pi {v v' : AV} {p : Prop} [Decidable p] (hp : pop tab ⟨T, B⟩ op = if p then some v else none) (hv : Wh v v') (hq : p) (h : AO F ops k l ⟨(d, v') :: T, B⟩) : AO F ops k (⟨some d, op, ty, pos, after, none⟩ :: l) ⟨T, B⟩ :=
  AO.p' (by rw [hp, if_pos hq, hv.eq]) h

section
variable {t : TypeId} {x y : Operand} {i : TyI}
theorem box_mop {cs : List AV} (hc : Wf ((⟨T, B⟩ : St).val x).cells cs) (hfit : (fitsIn ((⟨T, B⟩ : St).val x).cells.length ((⟨T, B⟩ : St).val x) && ((⟨T, B⟩ : St).val x).cells.all AV.leaf) = true) :
    mop tab ⟨T, B⟩ ⟨some d, .box t x, ty, pos, after, none⟩ = some ⟨[(d, .ptr d 0)], [(d, .bx cs)], [d]⟩ := by
  simp only [Bool.and_eq_true] at hfit
  simp only [mop, hc.eq] at hfit ⊢
  rw [if_pos hfit]
theorem alloc_mop {cs : List AV} (hi : look tab t = some i) (hc : Wf (i.zero.map ofVal) cs) :
    mop tab ⟨T, B⟩ ⟨some d, .alloc t, ty, pos, after, none⟩ = some ⟨[(d, .ptr d 0)], [(d, .bx cs)], [d]⟩ := by
  simp only [mop, hi, hc.eq]
theorem store_mop {g off : Nat} {cs cs' : List AV} (hi : look tab t = some i) (hx : (⟨T, B⟩ : St).val x = .ptr g off) (hg : (⟨T, B⟩ : St).ob g = .bx cs) (hc : Wf (splice cs off ((⟨T, B⟩ : St).val y).cells) cs')
    (hfit : (fitsIn i.size ((⟨T, B⟩ : St).val y) && ((⟨T, B⟩ : St).val y).cells.all AV.leaf && decide (off + i.size ≤ cs.length)) = true) :
    mop tab ⟨T, B⟩ ⟨none, .store t x y, ty, pos, after, none⟩ = some ⟨[], [(g, .bx cs')], []⟩ := by
  simp only [Bool.and_eq_true, decide_eq_true_eq] at hfit
  simp only [mop, hi, hx, hg, hc.eq]
  rw [if_pos ⟨hfit.1.1, hfit.1.2, hfit.2⟩]
theorem AO.box {cs : List AV} (hc : Wf ((⟨T, B⟩ : St).val x).cells cs) (hfit : (fitsIn ((⟨T, B⟩ : St).val x).cells.length ((⟨T, B⟩ : St).val x) && ((⟨T, B⟩ : St).val x).cells.all AV.leaf) = true) (hf : (⟨T, B⟩ : St).freeB d = true)
    (h : AO F ops k l ⟨(d, .ptr d 0) :: T, (d, .bx cs) :: B⟩) : AO F ops k (⟨some d, .box t x, ty, pos, after, none⟩ :: l) ⟨T, B⟩ :=
  AO.step (e := ⟨[(d, .ptr d 0)], [(d, .bx cs)], [d]⟩) rfl (.mem (box_mop hc hfit)) (fun e he => by simp at he; subst he; exact St.freeB_ok hf) h
theorem AO.alloc {cs : List AV} (hi : look tab t = some i) (hc : Wf (i.zero.map ofVal) cs) (hf : (⟨T, B⟩ : St).freeB d = true)
    (h : AO F ops k l ⟨(d, .ptr d 0) :: T, (d, .bx cs) :: B⟩) : AO F ops k (⟨some d, .alloc t, ty, pos, after, none⟩ :: l) ⟨T, B⟩ :=
  AO.step (e := ⟨[(d, .ptr d 0)], [(d, .bx cs)], [d]⟩) rfl (.mem (alloc_mop hi hc)) (fun e he => by simp at he; subst he; exact St.freeB_ok hf) h
theorem AO.store {g off : Nat} {cs cs' : List AV} (hi : look tab t = some i) (hx : (⟨T, B⟩ : St).val x = .ptr g off) (hg : (⟨T, B⟩ : St).ob g = .bx cs) (hc : Wf (splice cs off ((⟨T, B⟩ : St).val y).cells) cs')
    (hfit : (fitsIn i.size ((⟨T, B⟩ : St).val y) && ((⟨T, B⟩ : St).val y).cells.all AV.leaf && decide (off + i.size ≤ cs.length)) = true)
    (h : AO F ops k l ⟨T, (g, .bx cs') :: B⟩) : AO F ops k (⟨none, .store t x y, ty, pos, after, none⟩ :: l) ⟨T, B⟩ :=
  AO.step (e := ⟨[], [(g, .bx cs')], []⟩) rfl (.mem (store_mop hi hx hg hc hfit)) (fun e he => by simp at he) h
theorem conv_mop {l : List UInt8} {j ie : TyI} {t' e : TypeId} (hi : look tab t = some i) (hj : look tab t' = some j) (hx : (⟨T, B⟩ : St).val x = .s l) (h1 : i.d = .string) (h2 : j.d = .slice e) (h3 : look tab e = some ie) (h4 : ie.d = .int .u8) (hl : l.length ≤ 137438953472) :
    mop tab ⟨T, B⟩ ⟨some d, .convert t t' x, ty, pos, after, none⟩ = some ⟨[(d, .bsl d 0 l.length 1)], [(d, .bx (cellsB l))], [d]⟩ := by
  simp only [mop, hi, hj, hx, h1, h2, h3, h4]
  rw [if_pos hl]
/-- A string's bytes, in a row of their own. -/
theorem AO.bytes {l' : List UInt8} {j ie : TyI} {t' e : TypeId} (hi : look tab t = some i) (hj : look tab t' = some j) (hx : (⟨T, B⟩ : St).val x = .s l') (h1 : i.d = .string) (h2 : j.d = .slice e) (h3 : look tab e = some ie) (h4 : ie.d = .int .u8) (hl : l'.length ≤ 137438953472) (hf : (⟨T, B⟩ : St).freeB d = true)
    (h : AO F ops k l ⟨(d, .bsl d 0 l'.length 1) :: T, (d, .bx (cellsB l')) :: B⟩) : AO F ops k (⟨some d, .convert t t' x, ty, pos, after, none⟩ :: l) ⟨T, B⟩ :=
  AO.step (e := ⟨[(d, .bsl d 0 l'.length 1)], [(d, .bx (cellsB l'))], [d]⟩) rfl (.mem (conv_mop hi hj hx h1 h2 h3 h4 hl)) (fun e he => by simp at he; subst he; exact St.freeB_ok hf) h
/-- A byte of such a row. -/
theorem AO.loadB {l' : List UInt8} {g off : Nat} (hi : look tab t = some i) (ha : i.agg = false) (hx : (⟨T, B⟩ : St).val x = .ptr g off) (hg : (⟨T, B⟩ : St).ob g = .bx (cellsB l')) (ho : off < l'.length)
    (h : AO F ops k l ⟨(d, .i .u8 ((l'.getD off 0).toNat : Int)) :: T, B⟩) : AO F ops k (⟨some d, .load t x, ty, pos, after, none⟩ :: l) ⟨T, B⟩ :=
  AO.p' (by
    simp only [pop, hi, hx, hg, part, ha, Bool.false_eq_true, if_false, List.head?_drop]
    simp [cellsB, List.getD, List.getElem?_eq_getElem ho]) h
theorem cellsB_set (l : List UInt8) (off : Nat) (b : UInt8) (ho : off < l.length) : splice (cellsB l) off [.i .u8 (b.toNat : Int)] = cellsB (l.set off b) := by
  simp only [splice, cellsB, List.length_cons, List.length_nil, ← List.map_take, ← List.map_drop]
  rw [List.set_eq_take_append_cons_drop, if_pos ho]
  simp
theorem AO.storeB {l' : List UInt8} {g off : Nat} {b : UInt8} {n : Int} (hi : look tab t = some i) (hs : i.size = 1) (hx : (⟨T, B⟩ : St).val x = .ptr g off) (hg : (⟨T, B⟩ : St).ob g = .bx (cellsB l')) (hy : (⟨T, B⟩ : St).val y = .i .u8 n) (hn : n = (b.toNat : Int)) (ho : off < l'.length)
    (h : AO F ops k l ⟨T, (g, .bx (cellsB (l'.set off b))) :: B⟩) : AO F ops k (⟨none, .store t x y, ty, pos, after, none⟩ :: l) ⟨T, B⟩ :=
  AO.step (e := ⟨[], [(g, .bx (cellsB (l'.set off b)))], []⟩) rfl (.mem (by
    subst hn
    simp only [mop, hi, hx, hg, hy, AV.cells, hs, cellsB_set l' off b ho]
    rw [if_pos ⟨by simp [fitsIn, AV.leaf], by simp [AV.leaf], by simp [cellsB]; omega⟩])) (fun e he => by simp at he) h
theorem AO.str {l' : List UInt8} {j ie : TyI} {t' e : TypeId} {g off n : Nat} (hi : look tab t = some i) (hj : look tab t' = some j) (hx : (⟨T, B⟩ : St).val x = .bsl g off n 1) (hg : (⟨T, B⟩ : St).ob g = .bx (cellsB l')) (h1 : i.d = .slice e) (h2 : j.d = .string) (h3 : look tab e = some ie) (h4 : ie.d = .int .u8) (hn : off + n ≤ l'.length)
    (h : AO F ops k l ⟨(d, .s ((l'.drop off).take n)) :: T, B⟩) : AO F ops k (⟨some d, .convert t t' x, ty, pos, after, none⟩ :: l) ⟨T, B⟩ :=
  AO.p' (by
    simp only [pop, hi, hj, hx, hg, h1, h2, h3, h4]
    rw [if_pos (by simpa [cellsB] using hn)]
    have : ((cellsB l').drop off).take n = cellsB ((l'.drop off).take n) := by simp [cellsB]
    rw [this, toCells_B]; rfl) h
theorem AO.add {a b : Int} (hx : (⟨T, B⟩ : St).val x = .i .i64 a) (hy : (⟨T, B⟩ : St).val y = .i .i64 b) (hr : -9223372036854775808 ≤ a + b ∧ a + b ≤ 9223372036854775807)
    (h : AO F ops k l ⟨(d, .i .i64 (a + b)) :: T, B⟩) {z} : AO F ops k (⟨some d, .binOp .add t x y z, ty, pos, after, none⟩ :: l) ⟨T, B⟩ :=
  AO.p' (by
    simp only [pop, hx, hy, bin, intBin, isShift, true_or, if_true]
    rw [wrap64 hr]) h
theorem AO.sub {a b : Int} (hx : (⟨T, B⟩ : St).val x = .i .i64 a) (hy : (⟨T, B⟩ : St).val y = .i .i64 b) (hr : -9223372036854775808 ≤ a - b ∧ a - b ≤ 9223372036854775807)
    (h : AO F ops k l ⟨(d, .i .i64 (a - b)) :: T, B⟩) {z} : AO F ops k (⟨some d, .binOp .sub t x y z, ty, pos, after, none⟩ :: l) ⟨T, B⟩ :=
  AO.p' (by
    simp only [pop, hx, hy, bin, intBin, isShift, true_or, if_true]
    rw [wrap64 hr]) h
end

/-- One that waits for a test. -/
theorem AO.g' {g : Nat × Bool} {o : Option Nat} {x : Bool} (hw : wants ops ⟨T, B⟩ ⟨o, op, ty, pos, after, some g⟩ = some x)
    (h1 : x = true → AO F ops k (⟨o, op, ty, pos, after, none⟩ :: l) ⟨T, B⟩) (h2 : x = false → AO F ops k l ((⟨T, B⟩ : St).puto o .u)) : AO F ops k (⟨o, op, ty, pos, after, some g⟩ :: l) ⟨T, B⟩ := by
  cases x with
  | false => exact AO.pass hw (h2 rfl)
  | true =>
    intro hok hl a w hr
    have := h1 rfl hok (by simpa [okOper] using hl) a w hr
    obtain ⟨Γ, m, hw'⟩ := hr
    unfold wpListIn at this ⊢
    obtain ⟨c, rfl, rfl, tok, mo, Z, fin⟩ := F
    rw [wants_spec hw' hok hw]
    rw [if_pos (show Region.wanted ⟨o, op, ty, pos, after, none⟩ (yielded ops a.tmps) = true from rfl)] at this
    simp only [if_true]
    exact this

theorem AO.gt {g : Nat × Bool} {x : Bool} (hw : wants ops ⟨T, B⟩ ⟨some d, op, ty, pos, after, some g⟩ = some (x == true))
    (h1 : x = true → AO F ops k (⟨some d, op, ty, pos, after, none⟩ :: l) ⟨T, B⟩) (h2 : x = false → AO F ops k l ⟨(d, .u) :: T, B⟩) : AO F ops k (⟨some d, op, ty, pos, after, some g⟩ :: l) ⟨T, B⟩ := AO.g' hw (fun h => h1 (by simpa using h)) (fun h => h2 (by simpa using h))
theorem AO.gf {g : Nat × Bool} {x : Bool} (hw : wants ops ⟨T, B⟩ ⟨some d, op, ty, pos, after, some g⟩ = some (x == false))
    (h1 : x = false → AO F ops k (⟨some d, op, ty, pos, after, none⟩ :: l) ⟨T, B⟩) (h2 : x = true → AO F ops k l ⟨(d, .u) :: T, B⟩) : AO F ops k (⟨some d, op, ty, pos, after, some g⟩ :: l) ⟨T, B⟩ := AO.g' hw (fun h => h1 (by simpa using h)) (fun h => h2 (by simpa using h))
theorem AO.gs {g : Nat × Bool} (hw : wants ops ⟨T, B⟩ ⟨some d, op, ty, pos, after, some g⟩ = some false) (h2 : AO F ops k l ⟨(d, .u) :: T, B⟩) : AO F ops k (⟨some d, op, ty, pos, after, some g⟩ :: l) ⟨T, B⟩ := AO.pass hw h2
theorem AW.r {id : Nat} {l : List Oper} {st : St} (hok : l.all (okOper N) = true) (h : AO F l.toArray k l st) : AW F (.c (.region id l.toArray false) :: k) st := AW.region hok h
theorem AW.rd {id : Nat} {l : List Oper} {st : St} (hok : l.all (okOper N) = true) (h : AR F l.toArray k l st []) : AW F (.c (.region id l.toArray true) :: k) st := AW.draw hok h

/-- A loop: what holds at its head, the states by name, what sinks. -/
theorem AW.loopI {α : Type} {st : St} {body : Code} (I : α → Prop) (S : α → St) (μ : α → Nat) (x : α) (hx : I x) (hst : StLe Tr st (S x))
    (h : ∀ n x, I x → (∀ y st', I y → μ y < μ x → StLe Tr st' (S y) → AW F (.lp n body :: k) st') → AW F (.c body :: .lp n body :: k) (S x)) : AW F (.c (.loop body) :: k) st :=
  AW.less hst (AW.loop (α := { x : α // I x }) (fun x => S x.1) (fun x => μ x.1) (fun n x ih => h n x.1 x.2 fun y st' hy hμ hl => AW.less hl (ih ⟨y, hy⟩ hμ)) ⟨x, hx⟩)

/-! ### which kind it is -/
section
variable {st : St} {t : TypeId} {x y : Operand} {z : TypeId} {dd : Option Nat} {g : Option (Nat × Bool)} {gg : Nat × Bool} {xs : Array Operand} {ts : Array TypeId}
theorem AO.kBox (h : AO F ops k (⟨some d, .box t x, ty, pos, after, none⟩ :: l) st) : AO F ops k (⟨some d, .box t x, ty, pos, after, none⟩ :: l) st := h
theorem AO.kAlloc (h : AO F ops k (⟨some d, .alloc t, ty, pos, after, none⟩ :: l) st) : AO F ops k (⟨some d, .alloc t, ty, pos, after, none⟩ :: l) st := h
theorem AO.kCv {t' : TypeId} (h : AO F ops k (⟨some d, .convert t t' x, ty, pos, after, none⟩ :: l) st) : AO F ops k (⟨some d, .convert t t' x, ty, pos, after, none⟩ :: l) st := h
theorem AO.kStore (h : AO F ops k (⟨none, .store t x y, ty, pos, after, none⟩ :: l) st) : AO F ops k (⟨none, .store t x y, ty, pos, after, none⟩ :: l) st := h
theorem AO.kAdd (h : AO F ops k (⟨some d, .binOp .add t x y z, ty, pos, after, none⟩ :: l) st) : AO F ops k (⟨some d, .binOp .add t x y z, ty, pos, after, none⟩ :: l) st := h
theorem AO.kSub (h : AO F ops k (⟨some d, .binOp .sub t x y z, ty, pos, after, none⟩ :: l) st) : AO F ops k (⟨some d, .binOp .sub t x y z, ty, pos, after, none⟩ :: l) st := h
theorem AO.kCall (f : FuncId) (h : AO F ops k (⟨dd, .call { callee := .value (.func f), args := xs, argTypes := ts }, ty, pos, after, none⟩ :: l) st) : AO F ops k (⟨dd, .call { callee := .value (.func f), args := xs, argTypes := ts }, ty, pos, after, none⟩ :: l) st := h
theorem AO.kG (h : AO F ops k (⟨dd, op, ty, pos, after, some gg⟩ :: l) st) : AO F ops k (⟨dd, op, ty, pos, after, some gg⟩ :: l) st := h
theorem AO.kP (h : AO F ops k (⟨some d, op, ty, pos, after, none⟩ :: l) st) : AO F ops k (⟨some d, op, ty, pos, after, none⟩ :: l) st := h
theorem AW.kR {id : Nat} {l : List Oper} (h : AW F (.c (.region id l.toArray false) :: k) st) : AW F (.c (.region id l.toArray false) :: k) st := h
theorem AW.kRd {id : Nat} {l : List Oper} (h : AW F (.c (.region id l.toArray true) :: k) st) : AW F (.c (.region id l.toArray true) :: k) st := h
theorem AW.kC {c e : Code} (h : AW F (.c (.cond x c e) :: k) st) : AW F (.c (.cond x c e) :: k) st := h
theorem AW.kE {id : Nat} (h : AW F (.c (.exit id) :: k) st) : AW F (.c (.exit id) :: k) st := h
end

/-! ### calls -/
theorem call_pure {st : St} {fx : Operand} {xs : Array Operand} {ts : Array TypeId} {f : FuncId} {caps args asL : List AV} {res : AV} (hc : st.val fx = .clo f caps) (ha : Wf (xs.toList.map st.val ++ caps) asL) (hg : Good P f args [] res []) (hl : LeL asL args) (hr : res.refs = []) {g} :
    CallOk P st ⟨some d, .call { callee := .value fx, args := xs, argTypes := ts }, ty, pos, after, g⟩ ⟨[(d, res)], [], []⟩ :=
  ⟨fx, xs, ts, d, f, caps, args, [], res, [], fun t => t, rfl, rfl, hc, hg, by
      rw [ha.eq, ren_id.go]; exact hl, fun p hp => by simp at hp, fun s hs => by simp at hs, fun s hs => by simp at hs, by simp, fun t ht => by rw [hr] at ht; simp at ht, fun p hp => by simp at hp, by
      simp [ren_id]⟩
theorem AO.call {fx : Operand} {xs : Array Operand} {ts : Array TypeId} {f : FuncId} {caps args asL : List AV} {res : AV} (hc : (⟨T, B⟩ : St).val fx = .clo f caps) (ha : Wf (xs.toList.map (⟨T, B⟩ : St).val ++ caps) asL) (hg : Good P f args [] res []) (hl : LeL asL args) (hr : res.refs = [])
    (h : AO F ops k l ⟨(d, res) :: T, B⟩) : AO F ops k (⟨some d, .call { callee := .value fx, args := xs, argTypes := ts }, ty, pos, after, none⟩ :: l) ⟨T, B⟩ :=
  AO.step (e := ⟨[(d, res)], [], []⟩) rfl (.call (call_pure hc ha hg hl hr)) (fun d hd => by simp at hd) h
/-! ### the end -/
theorem Lx.b {H} {x y : Bool} (h : x = y) : Lx H (.b x) (.b y) := .eq (by rw [h])
theorem Lx.s {H} {x y : List UInt8} (h : x = y) : Lx H (.s x) (.s y) := .eq (by rw [h])
theorem Lx.i {H} {k : IntKind} {x y : Int} (h : x = y) : Lx H (.i k x) (.i k y) := .eq (by rw [h])
theorem Lx.tup {H} {cs ds : List AV} (h : LxL H cs ds) : Lx H (.tup cs) (.tup ds) := fun Γ m v hh hr => by
  obtain ⟨vs, rfl, h1, h2⟩ := hr.tup_inv
  refine .tup vs (by rw [h1, h.len]) fun j v d hv hd => ?_
  have hj : j < cs.length := by rw [h.len]; exact (List.getElem?_eq_some_iff.1 hd).1
  exact h.at j _ d (List.getElem?_eq_getElem hj) hd _ _ _ hh (h2 j v _ hv (List.getElem?_eq_getElem hj))
end

/-- From a walk to a contract, the slots at the start written out. -/
theorem Good.w {P : Program} {tab : Tab} (ht : TabOk P tab) (mo : P.follows .mixedOrders = true) {f : FuncId} {fn : Func} {code : Code} {rs : List ResultVar} {N : Nat} {args : List AV} {res : AV} {T : List (Nat × AV)}
    (hf : P.funcs[f]? = some fn) (hfn : fnB fn N args.length = true) (hb : fn.body = some code) (hrs : LE fn.results.toList rs) (hT : LE (entT 0 args) T)
    (h : ∀ D : St → Prop, (∀ {st cs}, resAll tab st rs = some cs → Lx Tr (resTup cs) res → D st) → ∀ F : Fx P tab N D, AW F [.c code] ⟨T, []⟩) : Good P f args [] res [] :=
  Good.walk ht mo hf hfn hb hrs.eq (fun p hp => by simp at hp) (by rw [hT.eq]; exact h _ fun h1 h2 => Done.plain h1 h2)


/-- What conditions are said by. -/
theorem nrm : (∀ (p : Prop) [Decidable p], (decide p = true) = p) ∧ (∀ (p : Prop) [Decidable p], (decide p = false) = ¬ p) ∧ (∀ a b : Int, (¬ a < b) = (b ≤ a)) ∧ (∀ a b : Int, (¬ a ≤ b) = (b < a)) ∧
    (∀ a b : Int, (a ≥ b) = (b ≤ a)) ∧ (∀ a b : Int, (a > b) = (b < a)) ∧ (∀ b : Bool, ((!b) = true) = (b = false)) ∧ (∀ b : Bool, ((!b) = false) = (b = true)) ∧
    (∀ (α : Type) [BEq α] [LawfulBEq α] (a b : α), ((a == b) = true) = (a = b)) ∧ (∀ (α : Type) [BEq α] [LawfulBEq α] (a b : α), ((a == b) = false) = (a ≠ b)) ∧ (∀ (α : Type) (a b : α), (a ≠ b) = ¬ a = b) := by
  refine ⟨fun p _ => by simp, fun p _ => by simp, fun a b => by simp, fun a b => by simp, fun a b => rfl, fun a b => rfl, fun b => by simp, fun b => by simp, fun α _ _ a b => by simp, fun α _ _ a b => by simp, fun α a b => rfl⟩

end Go.Proofs.Ytocppeifkjdeiaa.Mv

/- A machine for proofs, part Y: steps in any order, in forms that unify. Under no condition. -/
namespace Go.Proofs.Ytocppeifkjdeiaa.Mv
open Go
set_option linter.unusedSimpArgs false
set_option linter.unusedVariables false

section
variable {P : Program} {tab : Tab} {N : Nat} {D : St → Prop} {F : Fx P tab N D} {ops : Array Oper} {k : List It} {l : List Oper} {T : List (Nat × AV)} {B : List (Nat × Ob)}
  {d ty : Nat} {pos : String} {after : Array Edge} {op : Op} {acc : List Rec} {tg : List Nat}

theorem AR.st {o : Oper} {e : Eff} (hw : wants ops ⟨T, B⟩ o = some true) (hd : Does P tab ⟨T, B⟩ o e) (hf : ∀ d ∈ e.new, (⟨T, B⟩ : St).free d) (ht : LE (tagsAt ⟨T, B⟩ o) tg) (h : AR F ops k l ((⟨T, B⟩ : St).app e) (⟨tg, e⟩ :: acc)) : AR F ops k (o :: l) ⟨T, B⟩ acc :=
  AR.step hw hd hf (by rw [ht.eq]; exact h)
theorem AR.p' {v : AV} (hp : pop tab ⟨T, B⟩ op = some v) (ht : LE (tagsAt ⟨T, B⟩ ⟨some d, op, ty, pos, after, none⟩) tg) (h : AR F ops k l ⟨(d, v) :: T, B⟩ (⟨tg, ⟨[(d, v)], [], []⟩⟩ :: acc)) : AR F ops k (⟨some d, op, ty, pos, after, none⟩ :: l) ⟨T, B⟩ acc :=
  AR.st rfl (.pure hp rfl) (fun d hd => by simp [putEff] at hd) ht h
theorem AR.p {v v' : AV} (hp : pop tab ⟨T, B⟩ op = some v) (hv : Wh v v') (ht : LE (tagsAt ⟨T, B⟩ ⟨some d, op, ty, pos, after, none⟩) tg) (h : AR F ops k l ⟨(d, v') :: T, B⟩ (⟨tg, ⟨[(d, v')], [], []⟩⟩ :: acc)) : AR F ops k (⟨some d, op, ty, pos, after, none⟩ :: l) ⟨T, B⟩ acc :=
  AR.p' (by rw [hp, hv.eq]) ht h
section
variable {t : TypeId} {x y : Operand} {i : TyI}
theorem AR.alloc {cs : List AV} (hi : look tab t = some i) (hc : Wf (i.zero.map ofVal) cs) (hf : (⟨T, B⟩ : St).freeB d = true)
    (ht : LE (tagsAt ⟨T, B⟩ ⟨some d, .alloc t, ty, pos, after, none⟩) tg) (h : AR F ops k l ⟨(d, .ptr d 0) :: T, (d, .bx cs) :: B⟩ (⟨tg, ⟨[(d, .ptr d 0)], [(d, .bx cs)], [d]⟩⟩ :: acc)) : AR F ops k (⟨some d, .alloc t, ty, pos, after, none⟩ :: l) ⟨T, B⟩ acc :=
  AR.st (e := ⟨[(d, .ptr d 0)], [(d, .bx cs)], [d]⟩) rfl (.mem (alloc_mop hi hc)) (fun e he => by simp at he; subst he; exact St.freeB_ok hf) ht h
theorem AR.store {g off : Nat} {cs cs' : List AV} (hi : look tab t = some i) (hx : (⟨T, B⟩ : St).val x = .ptr g off) (hg : (⟨T, B⟩ : St).ob g = .bx cs) (hc : Wf (splice cs off ((⟨T, B⟩ : St).val y).cells) cs')
    (hfit : (fitsIn i.size ((⟨T, B⟩ : St).val y) && ((⟨T, B⟩ : St).val y).cells.all AV.leaf && decide (off + i.size ≤ cs.length)) = true)
    (ht : LE (tagsAt ⟨T, B⟩ ⟨none, .store t x y, ty, pos, after, none⟩) tg) (h : AR F ops k l ⟨T, (g, .bx cs') :: B⟩ (⟨tg, ⟨[], [(g, .bx cs')], []⟩⟩ :: acc)) : AR F ops k (⟨none, .store t x y, ty, pos, after, none⟩ :: l) ⟨T, B⟩ acc :=
  AR.st (e := ⟨[], [(g, .bx cs')], []⟩) rfl (.mem (store_mop hi hx hg hc hfit)) (fun e he => by simp at he) ht h
theorem AR.sub {a b : Int} (hx : (⟨T, B⟩ : St).val x = .i .i64 a) (hy : (⟨T, B⟩ : St).val y = .i .i64 b) (hr : -9223372036854775808 ≤ a - b ∧ a - b ≤ 9223372036854775807) {z}
    (ht : LE (tagsAt ⟨T, B⟩ ⟨some d, .binOp .sub t x y z, ty, pos, after, none⟩) tg) (h : AR F ops k l ⟨(d, .i .i64 (a - b)) :: T, B⟩ (⟨tg, ⟨[(d, .i .i64 (a - b))], [], []⟩⟩ :: acc)) : AR F ops k (⟨some d, .binOp .sub t x y z, ty, pos, after, none⟩ :: l) ⟨T, B⟩ acc :=
  AR.p' (by
    simp only [pop, hx, hy, bin, intBin, isShift, true_or, if_true]
    rw [wrap64 hr]) ht h
end

theorem Does.unguard {st : St} {o : Option Nat} {e : Eff} {g g'} (h : Does P tab st ⟨o, op, ty, pos, after, g⟩ e) : Does P tab st ⟨o, op, ty, pos, after, g'⟩ e := by
  cases h with
  | pure h1 h2 => exact .pure h1 h2
  | mem h => exact .mem h
  | call h => exact .call ⟨h.ex⟩
  | ext h => exact .ext fun _ st' hx ht => h _ st' hx ht
theorem AR.g' {g : Nat × Bool} {o : Option Nat} {x : Bool} (hw : wants ops ⟨T, B⟩ ⟨o, op, ty, pos, after, some g⟩ = some x)
    (h1 : x = true → AR F ops k (⟨o, op, ty, pos, after, none⟩ :: l) ⟨T, B⟩ acc) (h2 : x = false → AR F ops k l ((⟨T, B⟩ : St).app (putEff o .u)) (⟨tagsAt ⟨T, B⟩ ⟨o, op, ty, pos, after, some g⟩, putEff o .u⟩ :: acc)) : AR F ops k (⟨o, op, ty, pos, after, some g⟩ :: l) ⟨T, B⟩ acc := by
  cases x with
  | false => exact AR.pass hw (h2 rfl)
  | true =>
    intro st0 id hc hs
    refine h1 rfl st0 id (fun rs hrs => hc rs ?_) hs
    cases rs with
    | nil => exact hrs
    | cons r rs =>
      obtain ⟨⟨q1, q2⟩, q3⟩ := hrs
      refine ⟨⟨q1, ?_⟩, q3⟩
      rcases q2 with ⟨_, q5, q6⟩ | ⟨q4, _⟩
      · exact .inl ⟨hw, q5.unguard, q6⟩
      · simp [wants] at q4
theorem AR.gt {g : Nat × Bool} {x : Bool} (hw : wants ops ⟨T, B⟩ ⟨some d, op, ty, pos, after, some g⟩ = some (x == true)) (ht : LE (tagsAt ⟨T, B⟩ ⟨some d, op, ty, pos, after, some g⟩) tg)
    (h1 : x = true → AR F ops k (⟨some d, op, ty, pos, after, none⟩ :: l) ⟨T, B⟩ acc) (h2 : x = false → AR F ops k l ⟨(d, .u) :: T, B⟩ (⟨tg, ⟨[(d, .u)], [], []⟩⟩ :: acc)) : AR F ops k (⟨some d, op, ty, pos, after, some g⟩ :: l) ⟨T, B⟩ acc :=
  AR.g' hw (fun h => h1 (by simpa using h)) (fun h => by rw [ht.eq]; exact h2 (by simpa using h))
theorem AR.gf {g : Nat × Bool} {x : Bool} (hw : wants ops ⟨T, B⟩ ⟨some d, op, ty, pos, after, some g⟩ = some (x == false)) (ht : LE (tagsAt ⟨T, B⟩ ⟨some d, op, ty, pos, after, some g⟩) tg)
    (h1 : x = false → AR F ops k (⟨some d, op, ty, pos, after, none⟩ :: l) ⟨T, B⟩ acc) (h2 : x = true → AR F ops k l ⟨(d, .u) :: T, B⟩ (⟨tg, ⟨[(d, .u)], [], []⟩⟩ :: acc)) : AR F ops k (⟨some d, op, ty, pos, after, some g⟩ :: l) ⟨T, B⟩ acc :=
  AR.g' hw (fun h => h1 (by simpa using h)) (fun h => by rw [ht.eq]; exact h2 (by simpa using h))
theorem AR.gs {g : Nat × Bool} (hw : wants ops ⟨T, B⟩ ⟨some d, op, ty, pos, after, some g⟩ = some false) (ht : LE (tagsAt ⟨T, B⟩ ⟨some d, op, ty, pos, after, some g⟩) tg)
    (h2 : AR F ops k l ⟨(d, .u) :: T, B⟩ (⟨tg, ⟨[(d, .u)], [], []⟩⟩ :: acc)) : AR F ops k (⟨some d, op, ty, pos, after, some g⟩ :: l) ⟨T, B⟩ acc := AR.pass hw (by rw [ht.eq]; exact h2)
theorem AR.call {fx : Operand} {xs : Array Operand} {ts : Array TypeId} {f : FuncId} {caps args asL : List AV} {res : AV} (hc : (⟨T, B⟩ : St).val fx = .clo f caps) (ha : Wf (xs.toList.map (⟨T, B⟩ : St).val ++ caps) asL) (hg : Good P f args [] res []) (hl : LeL asL args) (hr : res.refs = [])
    (ht : LE (tagsAt ⟨T, B⟩ ⟨some d, .call { callee := .value fx, args := xs, argTypes := ts }, ty, pos, after, none⟩) tg) (h : AR F ops k l ⟨(d, res) :: T, B⟩ (⟨tg, ⟨[(d, res)], [], []⟩⟩ :: acc)) : AR F ops k (⟨some d, .call { callee := .value fx, args := xs, argTypes := ts }, ty, pos, after, none⟩ :: l) ⟨T, B⟩ acc :=
  AR.st (e := ⟨[(d, res)], [], []⟩) rfl (.call (call_pure hc ha hg hl hr)) (fun d hd => by simp at hd) ht h
/-! ### which kind it is -/
section
variable {st : St} {t : TypeId} {x y : Operand} {z : TypeId} {dd : Option Nat} {g : Option (Nat × Bool)} {gg : Nat × Bool} {xs : Array Operand} {ts : Array TypeId} {o : Oper}
theorem AR.kAny (h : AR F ops k (o :: l) st acc) : AR F ops k (o :: l) st acc := h
theorem AR.kNil (h : AR F ops k [] st acc) : AR F ops k [] st acc := h
theorem AR.kAlloc (h : AR F ops k (⟨some d, .alloc t, ty, pos, after, none⟩ :: l) st acc) : AR F ops k (⟨some d, .alloc t, ty, pos, after, none⟩ :: l) st acc := h
theorem AR.kStore (h : AR F ops k (⟨none, .store t x y, ty, pos, after, none⟩ :: l) st acc) : AR F ops k (⟨none, .store t x y, ty, pos, after, none⟩ :: l) st acc := h
theorem AR.kSub (h : AR F ops k (⟨some d, .binOp .sub t x y z, ty, pos, after, none⟩ :: l) st acc) : AR F ops k (⟨some d, .binOp .sub t x y z, ty, pos, after, none⟩ :: l) st acc := h
theorem AR.kCall (f : FuncId) (h : AR F ops k (⟨dd, .call { callee := .value (.func f), args := xs, argTypes := ts }, ty, pos, after, none⟩ :: l) st acc) : AR F ops k (⟨dd, .call { callee := .value (.func f), args := xs, argTypes := ts }, ty, pos, after, none⟩ :: l) st acc := h
theorem AR.kG (h : AR F ops k (⟨dd, op, ty, pos, after, some gg⟩ :: l) st acc) : AR F ops k (⟨dd, op, ty, pos, after, some gg⟩ :: l) st acc := h
theorem AR.kP (h : AR F ops k (⟨some d, op, ty, pos, after, none⟩ :: l) st acc) : AR F ops k (⟨some d, op, ty, pos, after, none⟩ :: l) st acc := h
end
end

end Go.Proofs.Ytocppeifkjdeiaa.Mv
