/- A machine for proofs, part V: code, step by step. Under no condition. -/
import Derived.Test.YtocppeifkjdeiaaCoreU
import Derived.LoopN
namespace Go.Proofs.Ytocppeifkjdeiaa.Mv
open Go
set_option linter.unusedSimpArgs false
set_option linter.unusedVariables false

/-- What is still to be done: code, the end of a block, another round. -/
inductive It where
  | c (code : Code)
  | b (id : Nat)
  | lp (n : Nat) (body : Code)

def wpK (P : Program) (Z : Exit → Act → World → Prop) : List It → Exit → Act → World → Prop
  | [] => Z
  | .c code :: k => Exit.then (code.wp P (wpK P Z k)) (wpK P Z k)
  | .b id :: k => Exit.inBlock id (wpK P Z k)
  | .lp n body :: k => Exit.then (Code.rounds P body (wpK P Z k) n) (wpK P Z k)

/-- A walk's surroundings: the context, what must hold at the end. -/
structure Fx (P : Program) (tab : Tab) (N : Nat) (D : St → Prop) where
  c : Ctx
  hP : c.P = P
  hN : c.N = N
  ok : TabOk P tab
  mo : P.follows .mixedOrders = true
  Z : Exit → Act → World → Prop
  fin : ∀ st a w, D st → RR c st a w → Z .normal a w ∧ Z .ret a w

section
variable {P : Program} {tab : Tab} {N : Nat} {D : St → Prop} (F : Fx P tab N D)

def AW (k : List It) (st : St) : Prop := ∀ a w, RR F.c st a w → wpK P F.Z k .normal a w

theorem wpK_ret (k : List It) (Z : Exit → Act → World → Prop) (a : Act) (w : World) (h : Z .ret a w) : wpK P Z k .ret a w := by
  induction k with
  | nil => exact h
  | cons x k ih => cases x <;> exact ih
def popTo (id : Nat) : List It → Option (List It)
  | [] => none
  | .b i :: k => if id = i then some k else popTo id k
  | _ :: k => popTo id k
theorem wpK_exit {id : Nat} {k k' : List It} {Z : Exit → Act → World → Prop} {a : Act} {w : World} (hp : popTo id k = some k') (h : wpK P Z k' .normal a w) : wpK P Z k (.exit id) a w := by
  induction k with
  | nil => cases hp
  | cons x k ih =>
    cases x with
    | c code => exact ih hp
    | lp n body => exact ih hp
    | b i =>
      simp only [popTo] at hp
      simp only [wpK, Exit.inBlock]
      split at hp
      · rename_i e; rw [if_pos e]; cases hp; exact h
      · rename_i e; rw [if_neg e]; exact ih hp

variable {F} {k : List It} {st : St}

theorem AW.fin (h : D st) : AW F [] st := fun a w hr => (F.fin st a w h hr).1
theorem AW.ret (h : D st) : AW F (.c .ret :: k) st := fun a w hr => wp_ret (wpK_ret k _ a w (F.fin st a w h hr).2)
theorem AW.skip (h : AW F k st) : AW F (.c .skip :: k) st := fun a w hr => wp_skip (h a w hr)
theorem AW.label {l : Nat} (h : AW F k st) : AW F (.c (.label l) :: k) st := fun a w hr => wp_label (h a w hr)
theorem AW.seq {x y : Code} (h : AW F (.c x :: .c y :: k) st) : AW F (.c (.seq x y) :: k) st := fun a w hr => wp_seq (h a w hr)
theorem AW.block {id : Nat} {x : Code} (h : AW F (.c x :: .b id :: k) st) : AW F (.c (.block id x) :: k) st := fun a w hr => wp_block (h a w hr)
theorem AW.out {id : Nat} (h : AW F k st) : AW F (.b id :: k) st := fun a w hr => h a w hr
theorem AW.exit {id : Nat} {k' : List It} (hp : popTo id k = some k') (h : AW F k' st) : AW F (.c (.exit id) :: k) st := fun a w hr => wp_exit (wpK_exit hp (h a w hr))

theorem AW.cond {x : Operand} {t e : Code} {b : Bool} (hx : st.val x = .b b) (hN : okOp N x = true) (h1 : b = true → AW F (.c t :: k) st) (h2 : b = false → AW F (.c e :: k) st) : AW F (.c (.cond x t e) :: k) st := fun a w hr => by
  obtain ⟨Γ, m, hw⟩ := hr
  have he := hw.eval x (by rw [F.hN]; exact hN)
  rw [hx] at he
  have : a.eval x = .bool b := by generalize a.eval x = v at he; cases he; rfl
  exact wp_cond_split this (fun hb => h1 hb a w ⟨Γ, m, hw⟩) (fun hb => h2 hb a w ⟨Γ, m, hw⟩)

/-- A loop: states by name, what sinks. -/
theorem AW.loop {α : Type} (S : α → St) (μ : α → Nat) {body : Code} (h : ∀ n x, (∀ y, μ y < μ x → AW F (.lp n body :: k) (S y)) → AW F (.c body :: .lp n body :: k) (S x)) (x : α) : AW F (.c (.loop body) :: k) (S x) := by
  have key : ∀ n x, μ x < n → ∀ a w, RR F.c (S x) a w → Code.rounds P body (wpK P F.Z k) n a w := by
    intro n
    induction n with
    | zero => intro x hx; omega
    | succ n ih =>
      intro x hx a w hr
      exact h n x (fun y hy a w hr => ih y (by omega) a w hr) a w hr
  exact fun a w hr => wp_loop_rounds _ (key (μ x + 1) x (Nat.lt_succ_self _) a w hr)

/-! ### weaker states -/
def Lx (H : Gam → Nm → Prop) (c d : AV) : Prop := ∀ Γ m v, H Γ m → Rep Γ m v c → Rep Γ m v d
section
variable {H : Gam → Nm → Prop}
theorem Lx.refl {c : AV} : Lx H c c := fun _ _ _ _ h => h
theorem Lx.eq {c d : AV} (h : c = d) : Lx H c d := h ▸ Lx.refl
theorem Lx.any {c : AV} : Lx H c .any := fun _ _ _ _ _ => .any
theorem Lx.le {c d : AV} (h : Le c d) : Lx H c d := fun _ _ _ _ hr => h _ _ _ hr
theorem Lx.gr {t e sz rows} : Lx H (.gr t e sz rows) (.sh sz rows) := .le .gr
theorem Lx.nil {sz} : Lx H .nil (.sh sz []) := .le .nil
inductive LxL (H : Gam → Nm → Prop) : List AV → List AV → Prop
  | nil : LxL H [] []
  | cons {c d cs ds} : Lx H c d → LxL H cs ds → LxL H (c :: cs) (d :: ds)
theorem LxL.refl : ∀ {cs : List AV}, LxL H cs cs
  | [] => .nil
  | _ :: _ => .cons .refl .refl
theorem LxL.len {cs ds} (h : LxL H cs ds) : cs.length = ds.length := by induction h <;> simp_all
theorem LxL.at {cs ds} (h : LxL H cs ds) : ∀ (j : Nat) c d, cs[j]? = some c → ds[j]? = some d → Lx H c d := by
  induction h with
  | nil => intro j c d hc; simp at hc
  | cons h1 h2 ih =>
    intro j c d hc hd
    cases j with
    | zero => simp at hc hd; subst hc; subst hd; exact h1
    | succ j => exact ih j c d (by simpa using hc) (by simpa using hd)
theorem Lx.agg {cs ds : List AV} (h : LxL H cs ds) : Lx H (.agg cs) (.agg ds) := fun Γ m v hh hr => by
  obtain ⟨vs, rfl, h1, h2⟩ := hr.agg_inv
  refine .agg vs (by rw [h1, h.len]) fun j v d hv hd => ?_
  have hj : j < cs.length := by rw [h.len]; exact (List.getElem?_eq_some_iff.1 hd).1
  exact h.at j _ d (List.getElem?_eq_getElem hj) hd _ _ _ hh (h2 j v _ hv (List.getElem?_eq_getElem hj))

inductive Ol (H : Gam → Nm → Prop) : Ob → Ob → Prop
  | refl {o} : Ol H o o
  | dead {o} : Ol H o .dead
  | bx {cs ds} : LxL H cs ds → Ol H (.bx cs) (.bx ds)
theorem Ol.eq {o o' : Ob} (h : o = o') : Ol H o o' := h ▸ .refl
inductive LeT (H : Gam → Nm → Prop) (st : St) : List (Nat × AV) → Prop
  | nil : LeT H st []
  | cons {t c T} : Lx H (st.get t) c → LeT H st T → LeT H st ((t, c) :: T)
inductive LeB (H : Gam → Nm → Prop) (st : St) : List (Nat × Ob) → Prop
  | nil : LeB H st []
  | cons {t c B} : Ol H (st.ob t) c → LeB H st B → LeB H st ((t, c) :: B)
structure StLe (H : Gam → Nm → Prop) (st st' : St) : Prop where
  T : LeT H st st'.T
  B : LeB H st st'.B
theorem LeT.get {st : St} {T : List (Nat × AV)} {B : List (Nat × Ob)} (h : LeT H st T) (t : Nat) : Lx H (st.get t) ((⟨T, B⟩ : St).get t) := by
  induction h with
  | nil => exact .any
  | cons h1 h2 ih =>
    simp only [St.get, look]
    split
    · rename_i e; subst e; exact h1
    · exact ih
theorem LeB.ob {st : St} {T : List (Nat × AV)} {B : List (Nat × Ob)} (h : LeB H st B) (t : Nat) : Ol H (st.ob t) ((⟨T, B⟩ : St).ob t) := by
  induction h with
  | nil => exact .dead
  | cons h1 h2 ih =>
    simp only [St.ob, look]
    split
    · rename_i e; subst e; exact h1
    · exact ih
theorem Ol.ok {Γ m w t o o'} (h : Ol H o o') (hh : H Γ m) (ho : ObOk Γ m w t o) : ObOk Γ m w t o' := by
  cases h with
  | refl => exact ho
  | dead => trivial
  | bx h =>
    obtain ⟨g, c, E, h1, h2, h3, h4, h5, h6⟩ := ho
    refine ⟨g, c, E, h1, h2, ⟨h3.1, by rw [← h.len]; exact h3.2⟩, fun j v d hv hd => ?_, fun j v hj => h5 j v (by rw [h.len]; exact hj), h6⟩
    rename_i cs ds
    have hj : j < cs.length := by rw [h.len]; exact (List.getElem?_eq_some_iff.1 hd).1
    exact h.at j _ d (List.getElem?_eq_getElem hj) hd _ _ _ hh (h4 j v _ hv (List.getElem?_eq_getElem hj))
theorem Ol.blk {m t o o' g} (h : Ol H o o') (hb : o'.blk m t = some g) : o.blk m t = some g := by
  cases h with
  | refl => exact hb
  | dead => cases hb
  | bx h => exact hb
theorem RRW.less {c Γ m st st' a w} (h : RRW c Γ m st a w) (hh : H Γ m) (hl : StLe H st st') : RRW c Γ m st' a w :=
  ⟨h.defers, h.size, h.gok, fun t ht => (hl.T.get t) _ _ _ hh (h.tmps t ht), fun t => (hl.B.ob t).ok hh (h.obs t), fun t g hg => h.own t g ((hl.B.ob t).blk hg),
    fun t t' g hg hg' => h.inj t t' g ((hl.B.ob t).blk hg) ((hl.B.ob t').blk hg'), h.frame, h.sub, h.fresh, h.ext⟩
end
def Tr : Gam → Nm → Prop := fun _ _ => True
def NilG (d : Nat) (e : TypeId) (sz : Nat) : Gam → Nm → Prop := fun Γ m => Rep Γ m (.slice none 0 0) (.gr d e sz [])
theorem Lx.nilG {d e sz} : Lx (NilG d e sz) .nil (.gr d e sz []) := fun Γ m v hh hr => by cases hr; exact hh
theorem AW.less {st' : St} (hl : StLe Tr st st') (h : AW F k st') : AW F k st := fun a w ⟨Γ, m, hw⟩ => h a w ⟨Γ, m, hw.less trivial hl⟩
/-- The nil slice, from here on one that grows. -/
theorem AW.nilrow {st' : St} (d : Nat) (e : TypeId) (sz : Nat) (hf : st.free d) (hl : StLe (NilG d e sz) ⟨st.T, (d, .gw 0) :: st.B⟩ st') (h : AW F k st') : AW F k st := fun a w ⟨Γ, m, hw⟩ => by
  obtain ⟨m', h1, h2, _⟩ := hw.nilrow hf e sz
  exact h a w ⟨Γ, m', h1.less h2 hl⟩

/-! ### regions -/
/-- Operations in the order of the text. -/
def AO (F : Fx P tab N D) (ops : Array Oper) (k : List It) (l : List Oper) (st : St) : Prop :=
  ops.all (okOper N) = true → l.all (okOper N) = true → ∀ a w, RR F.c st a w → wpList P ops (wpK P F.Z k) l a w

theorem AW.region {id : Nat} {ops : Array Oper} (hok : ops.toList.all (okOper N) = true) (h : AO F ops k ops.toList st) : AW F (.c (.region id ops false) :: k) st := fun a w hr =>
  wp_region_list (h (by rw [← Array.all_toList]; exact hok) hok a w hr)

variable {ops : Array Oper} {l : List Oper} {o : Oper}
theorem AO.nil (h : AW F k st) : AO F ops k [] st := fun _ _ a w hr => wpList_nil (h a w hr)
theorem AO.step {e : Eff} (hw : wants ops st o = some true) (hd : Does P tab st o e) (hf : ∀ d ∈ e.new, st.free d) (h : AO F ops k l (st.app e)) : AO F ops k (o :: l) st := fun hok hl a w ⟨Γ, m, hr⟩ => by
  obtain ⟨c, rfl, rfl, tok, mo, Z, fin⟩ := F
  simp only [List.all_cons, Bool.and_eq_true] at hl
  refine wpList_step fun K hK => ?_
  rw [wants_spec hr hok hw]
  simp only [if_true]
  exact Oper.wp_mono (fun a' w' h' => hK a' w' (h hok hl.2 a' w' h')) (does_wp tok hr hl.1 hd hf)
theorem AO.pass (hw : wants ops st o = some false) (h : AO F ops k l (st.puto o.dst .u)) : AO F ops k (o :: l) st := fun hok hl a w ⟨Γ, m, hr⟩ => by
  obtain ⟨c, rfl, rfl, tok, mo, Z, fin⟩ := F
  simp only [List.all_cons, Bool.and_eq_true] at hl
  refine wpList_step fun K hK => ?_
  rw [wants_spec hr hok hw]
  simp only [Bool.false_eq_true, if_false]
  refine hK _ _ (h hok hl.2 _ _ ⟨Γ, m, hr.put o.dst .u⟩)

/-- Operations in any order: what has been recorded so far, last first. -/
def AR (F : Fx P tab N D) (ops : Array Oper) (k : List It) (l : List Oper) (st : St) (acc : List Rec) : Prop :=
  ∀ st0 id, (∀ rs, Chain P tab ops l st rs → Chain P tab ops ops.toList st0 (acc.reverse ++ rs)) → appS acc.reverse (fun _ => true) 0 st0 = st → ops.all (okOper N) = true →
    ∀ a w, RR F.c st0 a w → (Code.region id ops true).wp P (wpK P F.Z k) a w

def backB : Nat → List Oper → Bool
  | _, [] => true
  | i, o :: os => o.after.toList.all (fun e => !Region.binds .any e || decide (e.on < i)) && backB (i + 1) os
theorem backB_spec {i : Nat} {os : List Oper} (h : backB i os = true) : ∀ (j : Nat) o, os[j]? = some o → ∀ e ∈ o.after.toList, Region.binds .any e = true → e.on < i + j := by
  induction os generalizing i with
  | nil => intro j o ho; simp at ho
  | cons p os ih =>
    simp only [backB, Bool.and_eq_true] at h
    intro j o ho e he hb
    cases j with
    | zero =>
      simp at ho; subst ho
      have := List.all_eq_true.1 h.1 e he
      simpa [hb] using this
    | succ j => have := ih h.2 j o (by simpa using ho) e he hb; omega
/-- Each pair keeps apart, or one waits for the other. -/
def niRow (ops : Array Oper) (bef : Nat) (o' : Oper) (r' : Rec) : Nat → List Oper → List Rec → Bool
  | i, o :: os, r :: rs => (bef.testBit i || apart (looks ops o) (looks ops o') r r') && niRow ops bef o' r' (i + 1) os rs
  | _, _, _ => true
def niB (ops : Array Oper) (bs : List Nat) : List Oper → List Rec → List Oper → List Rec → Nat → Bool
  | o' :: os, r' :: rs, pre, prs, j => niRow ops (bs.getD j 0) o' r' 0 (pre.take j) (prs.take j) && niB ops bs os rs pre prs (j + 1)
  | _, _, _, _, _ => true
theorem niRow_spec {ops bef o' r'} : ∀ {os : List Oper} {rs : List Rec} {i : Nat}, niRow ops bef o' r' i os rs = true → ∀ (n : Nat) o r, os[n]? = some o → rs[n]? = some r → bef.testBit (i + n) = false → apart (looks ops o) (looks ops o') r r' = true
  | [], _, i, _, n, o, r, ho, _, _ => by simp at ho
  | _ :: _, [], i, _, n, o, r, _, hr, _ => by simp at hr
  | p :: os, q :: rs, i, h, n, o, r, ho, hr, hb => by
    simp only [niRow, Bool.and_eq_true, Bool.or_eq_true] at h
    cases n with
    | zero =>
      simp at ho hr; subst ho; subst hr
      rcases h.1 with h1 | h1
      · simp only [Nat.add_zero] at hb; rw [hb] at h1; cases h1
      · exact h1
    | succ n => exact niRow_spec h.2 n o r (by simpa using ho) (by simpa using hr) (by rw [← hb]; congr 1; omega)
theorem niB_spec {ops bs} {pre : List Oper} {prs : List Rec} : ∀ {os : List Oper} {rs : List Rec} {j : Nat}, niB ops bs os rs pre prs j = true → ∀ (m n : Nat) o o' r r', n < j + m → pre[n]? = some o → os[m]? = some o' → prs[n]? = some r → rs[m]? = some r' →
    (bs.getD (j + m) 0).testBit n = false → apart (looks ops o) (looks ops o') r r' = true
  | [], _, j, _, m, n, o, o', r, r', _, _, ho', _, _, _ => by simp at ho'
  | _ :: _, [], j, _, m, n, o, o', r, r', _, _, _, _, hr', _ => by simp at hr'
  | p :: os, q :: rs, j, h, m, n, o, o', r, r', hn, ho, ho', hr, hr', hb => by
    simp only [niB, Bool.and_eq_true] at h
    cases m with
    | zero =>
      simp at ho' hr'; subst ho'; subst hr'
      exact niRow_spec h.1 n o r (by rw [List.getElem?_take, if_pos (by omega)]; exact ho) (by rw [List.getElem?_take, if_pos (by omega)]; exact hr) (by simpa using hb)
    | succ m => exact niB_spec h.2 m n o o' r r' (by omega) ho (by simpa using ho') hr (by simpa using hr') (by rw [← hb]; congr 2; omega)

theorem AW.draw {id : Nat} (hok : ops.toList.all (okOper N) = true) (h : AR F ops k ops.toList st []) : AW F (.c (.region id ops true) :: k) st := fun a w hr =>
  h st id (fun rs hc => hc) rfl (by rw [← Array.all_toList]; exact hok) a w hr

theorem AR.nil {acc : List Rec} (hb : backB 0 ops.toList = true) (hn : niB ops (Region.before ops).toList ops.toList acc.reverse ops.toList acc.reverse 0 = true) (h : AW F k st) : AR F ops k [] st acc := fun st0 id hc hs hok a w hr => by
  obtain ⟨c, rfl, rfl, tok, mo, Z, fin⟩ := F
  have hc' := hc [] trivial
  rw [List.append_nil] at hc'
  have hreg : Reg c tab ops st0 acc.reverse := ⟨tok, hc', fun i j o o' r r' hij ho ho' hr hr' hbb => ?_, hok, fun j o ho e he hbb => ?_⟩
  · exact hreg.wp mo (fun a w hx => h a w (by rw [hs] at hx; exact hx)) hr
  · refine niB_spec hn j i o o' r r' (by omega) (by simpa using ho) (by simpa using ho') hr hr' ?_
    rw [Nat.zero_add, List.getD_eq_getElem?_getD, Array.getElem?_toList, ← Array.getD_eq_getD_getElem?]
    exact hbb
  · have := backB_spec hb j o (by simpa using ho) e (by simpa using he) hbb
    omega
theorem AR.one {acc : List Rec} {r : Rec} (ho : OneOk P tab ops st o r) (h : AR F ops k l (st.app r.e) (r :: acc)) : AR F ops k (o :: l) st acc := fun st0 id hc hs hok a w hr => by
  refine h st0 id (fun rs hrs => ?_) ?_ hok a w hr
  · have := hc (r :: rs) ⟨ho, hrs⟩
    simpa using this
  · have hap : ∀ (l l' : List Rec) (i : Nat) (s : St), appS (l ++ l') (fun _ => true) i s = appS l' (fun _ => true) (i + l.length) (appS l (fun _ => true) i s) := by
      intro l
      induction l with
      | nil => intro l' i s; rfl
      | cons q l ih => intro l' i s; simp only [List.cons_append, appS, if_true, List.length_cons]; rw [ih]; congr 1; omega
    rw [List.reverse_cons, hap, hs]
    rfl
theorem AR.step {acc : List Rec} {e : Eff} (hw : wants ops st o = some true) (hd : Does P tab st o e) (hf : ∀ d ∈ e.new, st.free d) (h : AR F ops k l (st.app e) (⟨tagsAt st o, e⟩ :: acc)) : AR F ops k (o :: l) st acc :=
  AR.one (r := ⟨tagsAt st o, e⟩) ⟨rfl, .inl ⟨hw, hd, hf⟩⟩ h
theorem AR.pass {acc : List Rec} (hw : wants ops st o = some false) (h : AR F ops k l (st.app (putEff o.dst .u)) (⟨tagsAt st o, putEff o.dst .u⟩ :: acc)) : AR F ops k (o :: l) st acc :=
  AR.one (r := ⟨tagsAt st o, putEff o.dst .u⟩) ⟨rfl, .inr ⟨hw, rfl⟩⟩ h
end

end Go.Proofs.Ytocppeifkjdeiaa.Mv
