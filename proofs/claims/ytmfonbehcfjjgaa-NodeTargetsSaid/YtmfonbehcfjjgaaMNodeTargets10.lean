/- What the statement NodeTargets needs, part 10. Under no condition. -/
import Derived.Laws.Cover3
import Derived.Test.YtmfonbehcfjjgaaMNodeTargets9
/- A machine for proofs: boxes that are written no more; what is nil or not; calls of values. Under no condition. -/
namespace Go.Proofs.Ytmfonbehcfjjgaa.Mv
open Go
set_option linter.unusedSimpArgs false
set_option linter.unusedVariables false

section
variable {P : Program} {tab : Tab} {N : Nat} {D : St → Prop} {F : Fx P tab N D} {ops : Array Oper} {k : List It} {l : List Oper} {T : List (Nat × AV)} {B : List (Nat × Ob)}
  {d ty : Nat} {pos : String} {after : Array Edge} {op : Op} {acc : List Rec} {tg : List Nat} {st st' : St}
theorem AO.kCallV {t : Nat} {dd : Option Nat} {xs : Array Operand} {ts : Array TypeId} (h : AO F ops k (⟨dd, .call { callee := .value (.tmp t), args := xs, argTypes := ts }, ty, pos, after, none⟩ :: l) st) : AO F ops k (⟨dd, .call { callee := .value (.tmp t), args := xs, argTypes := ts }, ty, pos, after, none⟩ :: l) st := h
theorem AR.kCallV {t : Nat} {dd : Option Nat} {xs : Array Operand} {ts : Array TypeId} (h : AR F ops k (⟨dd, .call { callee := .value (.tmp t), args := xs, argTypes := ts }, ty, pos, after, none⟩ :: l) st acc) : AR F ops k (⟨dd, .call { callee := .value (.tmp t), args := xs, argTypes := ts }, ty, pos, after, none⟩ :: l) st acc := h

/-- The box t is written no more: its cells are kept. -/
def FzG (t : Nat) (cs : List AV) : Gam → Nm → Prop := fun Γ m => ∀ g, m.th t = some g → ∀ off, Rep Γ m (.pointer (some ⟨g, off, none⟩)) (.pel ((cs.map AV.close).drop off))
theorem Lx.fz {t off : Nat} {cs : List AV} : Lx (FzG t cs) (.ptr t off) (.pel ((cs.map AV.close).drop off)) := fun Γ m v hh hr => by
  cases hr with | ptr h => exact hh _ h off
theorem RR.freeze {c : Ctx} (t : Nat) {cs : List AV} (hob : st.ob t = .bx cs) (hs : cs.all AV.shut = true) (hl : StLe (FzG t cs) ⟨st.T, (t, .dead) :: st.B⟩ st') {a w} (hr : RR c st a w) : RR c st' a w := by
  obtain ⟨Γ, m, hw⟩ := hr
  have hobt := hw.obs t
  rw [hob] at hobt
  obtain ⟨g, cc, E, q1, q2, q3, q4, q5, q6⟩ := hobt
  have hblk : (st.ob t).blk m t = some g := by rw [hob]; exact q1
  let Γ' : Gam := fun ad => if ad.block = g ∧ ad.spot = none ∧ ad.off < cs.length then cc[ad.off]? else Γ ad
  have hin : ∀ j, j < cs.length → Γ' ⟨g, j, none⟩ = cc[j]? := fun j hj => by simp [Γ', hj]
  have hout : ∀ ad : Addr, ad.block ≠ g → Γ' ad = Γ ad := fun ad had => by simp [Γ', had]
  have hsub : Sub Γ Γ' := fun ad v hv => by
    by_cases e : ad.block = g
    · rw [q6 ad e] at hv; cases hv
    · rw [hout ad e]; exact hv
  have hgok : ∀ ad v, Γ' ad = some v → w.cell? ad = some v := fun ad v hv => by
    by_cases e : ad.block = g ∧ ad.spot = none ∧ ad.off < cs.length
    · obtain ⟨e1, e2, e3⟩ := e
      obtain ⟨ab, ao, asL⟩ := ad
      simp only at e1 e2 e3; subst e1; subst e2
      rw [hin ao e3] at hv
      rw [cell_of_row w ab _ cc E.1 E.2 q2]; exact hv
    · simp only [Γ', if_neg e] at hv
      exact hw.gok ad v hv
  have hob' : ∀ s, (⟨st.T, (t, .dead) :: st.B⟩ : St).ob s = if t = s then .dead else st.ob s := fun s => ob_cons _ _ _ _ _
  have hnew : RRW c Γ' m ⟨st.T, (t, .dead) :: st.B⟩ a w := by
    refine hw.mem hsub (fun _ _ _ => ⟨fun _ h => h, fun _ _ h => h⟩) (fun _ _ => ⟨fun _ h => h, fun _ _ h => h⟩) hgok (fun s => ?_) (fun s b hb => ?_) (fun s s2 b hb hb2 => ?_) hw.frame (fun ad h0 h1 => ?_)
    · rw [hob']
      split
      · trivial
      · rename_i hne
        refine (hw.obs s).keep hsub rfl rfl (fun _ _ => ⟨fun _ h => h, fun _ _ h => h⟩) fun b hb => ⟨rfl, fun ad had => hout ad fun e => ?_⟩
        rw [had] at e; subst e
        exact hne (hw.inj t s _ hblk hb)
    · rw [hob'] at hb
      split at hb
      · cases hb
      · exact hw.own s b hb
    · rw [hob'] at hb hb2
      split at hb
      · cases hb
      · split at hb2
        · cases hb2
        · exact hw.inj s s2 b hb hb2
    · by_cases e : ad.block = g
      · rw [e]; exact hw.own t g hblk
      · rw [hout ad e] at h1; exact absurd h0 h1
  have hr : RepL Γ' Nm.e (cc.toList.take cs.length) (cs.map AV.close) := by
    refine ⟨by have := q3.2; simp; omega, fun j v x hv hx => ?_⟩
    rw [List.getElem?_take] at hv
    split at hv
    · rw [List.getElem?_map] at hx
      obtain ⟨y, hy, rfl⟩ := Option.map_eq_some_iff.1 hx
      exact ((q4 j v y (by simpa using hv) hy).sub hsub).close (List.all_eq_true.1 hs _ (List.mem_of_getElem? hy))
    · cases hv
  have hF : FzG t cs Γ' m := fun g' hg' off => by
    rw [q1] at hg'; cases hg'
    have hr' := hr.drop off
    refine .pel _ hr'.1 (fun j v hv => ?_) (fun v hv => ?_) hr'.2
    · rw [List.getElem?_drop, List.getElem?_take] at hv
      split at hv
      · rename_i hlt
        rw [add_lit, hin _ hlt]; simpa using hv
      · cases hv
    · obtain ⟨j, hj⟩ := List.getElem?_of_mem hv
      rw [List.getElem?_drop, List.getElem?_take] at hj
      split at hj
      · rename_i hlt; exact q5 _ v hlt (by simpa using hj)
      · cases hj
  exact ⟨Γ', m, hnew.less hF hl⟩
theorem AW.freeze (t : Nat) {cs : List AV} (hob : st.ob t = .bx cs) (hs : cs.all AV.shut = true) (hl : StLe (FzG t cs) ⟨st.T, (t, .dead) :: st.B⟩ st') (h : AW F k st') : AW F k st := fun a w hr => h a w (hr.freeze t hob hs hl)
theorem AO.freeze (t : Nat) {cs : List AV} (hob : st.ob t = .bx cs) (hs : cs.all AV.shut = true) (hl : StLe (FzG t cs) ⟨st.T, (t, .dead) :: st.B⟩ st') (h : AO F ops k l st') : AO F ops k l st := fun h1 h2 a w hr => h h1 h2 a w (hr.freeze t hob hs hl)

/-- A slice, and nil: it may be, if it has nothing. -/
theorem AO.eqNil {t : TypeId} {i : TyI} {e z : TypeId} {x y : Operand} {sz : Nat} {rows : List (List AV)} (hi : look tab t = some i := by exact rfl) (hd : i.d = .slice e := by exact rfl) (hx : (⟨T, B⟩ : St).val x = .sh sz rows := by exact rfl) (hy : (⟨T, B⟩ : St).val y = .nil := by exact rfl)
    (hxo : okOp N x = true := by exact rfl) (hyo : okOp N y = true := by exact rfl) (hdo : d < N := by exact of_decide_eq_true rfl)
    (h1 : rows = [] → AO F ops k l ⟨(d, .b true) :: T, B⟩) (h2 : AO F ops k l ⟨(d, .b false) :: T, B⟩) : AO F ops k (⟨some d, .binOp .eql t x y z, ty, pos, after, none⟩ :: l) ⟨T, B⟩ := fun hok hl a w ⟨Γ, m, hr⟩ => by
  obtain ⟨c, rfl, rfl, tok, mo, Z, fin⟩ := F
  simp only [List.all_cons, Bool.and_eq_true] at hl
  have hxe := hr.eval x hxo
  have hye := hr.eval y hyo
  rw [hx] at hxe
  rw [hy] at hye
  have hu := (tok.at hi).und
  rw [hd] at hu
  refine wpList_step fun K hK => ?_
  rw [wants_spec hr hok (show wants ops ⟨T, B⟩ ⟨some d, .binOp .eql t x y z, ty, pos, after, none⟩ = some true from rfl)]
  simp only [if_true]
  generalize hvy : a.eval y = vy at hye
  cases hye
  have hrun : ∀ p n q, a.eval x = .slice p n q → (execOp a.eval { dst := some d, op := .binOp .eql t x y z, type := ty, pos, after, guard := none }).run c.P w = .ok (.value (.bool p.isNone)) w := fun p n q hp => by
    have hg : (eqGuard .eql t x y (.slice p n q) (.slice none 0 0)).run c.P w = .ok () w := by simp [eqGuard]
    simp only [execOp, hp, hvy, Sem.run_bind, hg, Result.andThen_ok]
    simp [binOp, run_equal_slice_nil w t e p n q hu]
  rcases hxe.sh_inv with ⟨p, hp, rfl⟩ | ⟨p, cap, vs, hp, _⟩
  · unfold Oper.wp
    rw [hrun _ _ _ hp]
    cases p with
    | none => exact hK _ _ (h1 rfl hok hl.2 _ _ ⟨Γ, m, hr.put (some d) .b⟩)
    | some p => exact hK _ _ (h2 hok hl.2 _ _ ⟨Γ, m, hr.put (some d) .b⟩)
  · unfold Oper.wp
    rw [hrun _ _ _ hp]
    exact hK _ _ (h2 hok hl.2 _ _ ⟨Γ, m, hr.put (some d) .b⟩)
/-- A walk's end where the answer holds a slice that may grow. -/
theorem Good.w2 {P : Program} {tab : Tab} (ht : TabOk P tab) (mo : P.follows .mixedOrders = true) {f : FuncId} {fn : Func} {code : Code} {rs : List ResultVar} {N : Nat} {args : List AV} {t : Nat} {res : AV} {n : Nat} {T : List (Nat × AV)}
    (hf : P.funcs[f]? = some fn) (hfn : fnB fn N args.length = true) (hb : fn.body = some code) (hrs : LE fn.results.toList rs) (hT : LE (entT 0 args) T)
    (h : ∀ D : St → Prop, (∀ {st cs} (t' : Nat), resAll tab st rs = some cs → Lx Tr (resTup cs) (res.ren fun _ => t') → Ol Tr (st.ob t') (.gw n) → D st) → ∀ F : Fx P tab N D, AW F [.c code] ⟨T, []⟩) : Good P f args [] res [(t, .gw n)] :=
  Good.walk ht mo hf hfn hb hrs.eq (fun p hp => by simp at hp) (by
    rw [hT.eq]
    exact h _ fun {st cs} t' h1 h2 h3 => ⟨fun _ => t', cs, h1, h2, fun p hp => by simp at hp; subst hp; exact h3, fun s hs t ht _ => by simp at hs ht; rw [hs, ht], fun p hp => by simp at hp⟩)
end
end Go.Proofs.Ytmfonbehcfjjgaa.Mv

/- Nodes: what they are made of, and whether one may be. Under no condition. -/
namespace Go.Proofs.Ytmfonbehcfjjgaa.Mv
open Go Go.Proofs
set_option linter.unusedSimpArgs false
set_option linter.unusedVariables false
set_option maxRecDepth 10000
set_option maxHeartbeats 4000000

abbrev W16 := BitVec 16
abbrev B32 := BitVec 32
/-- A pair, a kid, a message, a node. -/
structure Pr where
  k : L
  v : L
  deriving DecidableEq, Inhabited
structure Ed where
  block : B32
  deep : W16
  strip : L
  add : L
  deriving DecidableEq, Inhabited
structure Ms where
  kind : UInt8
  key : L
  val : L
  block : B32
  deep : W16
  add : L
  deriving DecidableEq, Inhabited
structure Nd where
  leaf : Bool
  pairs : List Pr
  pivots : List L
  kids : List Ed
  buf : List Ms
  deriving DecidableEq, Inhabited
def Pr.av (p : Pr) : List AV := [.s p.k, .s p.v]
def Ed.av (e : Ed) : List AV := [.i .u32 (e.block.toNat : Int), .i .u16 (e.deep.toNat : Int), .s e.strip, .s e.add]
def Ms.av (m : Ms) : List AV := [.i .u8 (m.kind.toNat : Int), .s m.key, .s m.val, .i .u32 (m.block.toNat : Int), .i .u16 (m.deep.toNat : Int), .s m.add]
def sav (p : L) : List AV := [.s p]
def Nd.av (n : Nd) : List AV := [.b n.leaf, .sh 2 (n.pairs.map Pr.av), .sh 1 (n.pivots.map sav), .sh 4 (n.kids.map Ed.av), .sh 6 (n.buf.map Ms.av)]
/-- No lists that a machine could not hold. -/
structure Nd.small (n : Nd) : Prop where
  pairs : n.pairs.length ≤ 1000000
  pivots : n.pivots.length ≤ 1000000
  kids : n.kids.length ≤ 1000000
  buf : n.buf.length ≤ 1000000

/-- Lists that a machine can hold. -/
structure Nd.fits (n : Nd) : Prop where
  pairs : n.pairs.length ≤ 9223372036854775807
  pivots : n.pivots.length ≤ 9223372036854775807
  kids : n.kids.length ≤ 9223372036854775807
  buf : n.buf.length ≤ 9223372036854775807

theorem dropD {α : Type} [Inhabited α] {b : List α} {n : Nat} (h : n < b.length) : b.drop n = b.getD n default :: b.drop (n + 1) := by
  rw [List.getD_eq_getElem?_getD, List.getElem?_eq_getElem h, Option.getD_some, ← List.drop_eq_getElem_cons h]
theorem takeD {α : Type} [Inhabited α] {b : List α} {n : Nat} (h : n < b.length) : b.take (n + 1) = b.take n ++ [b.getD n default] := by
  rw [List.take_add_one, List.getD_eq_getElem?_getD, List.getElem?_eq_getElem h]; rfl
theorem getD_map {α β : Type} [Inhabited α] [Inhabited β] (f : α → β) {l : List α} {n : Nat} (h : n < l.length) : (l.map f).getD n default = f (l.getD n default) := by
  rw [List.getD_eq_getElem?_getD, List.getD_eq_getElem?_getD, List.getElem?_map, List.getElem?_eq_getElem h]; rfl

/-! ### may it be? -/
def msMay (m : Ms) : Bool :=
  decide (m.key.length ≤ 16) && (
    if m.kind = 1 then decide (m.val.length ≤ 32) && (m.block == 0) && (m.deep == 0) && (m.add == [])
    else if m.kind = 2 then (m.val == []) && (m.block == 0) && (m.deep == 0) && (m.add == [])
    else if m.kind = 3 then decide (m.add.length ≤ 16) && decide (1 ≤ m.deep.toNat) && (m.val == [])
    else false)
/-- Keys that rise. -/
def rise : List L → Bool
  | a :: b :: r => lt a b && rise (b :: r)
  | _ => true
def prLen (p : Pr) : Bool := decide (p.k.length ≤ 16) && decide (p.v.length ≤ 32)
def edOk (e : Ed) : Bool := !(e.deep == 0) && decide (e.strip.length ≤ 16) && decide (e.add.length ≤ 16)
def leafOk (n : Nd) : Bool := n.pivots.isEmpty && n.kids.isEmpty && n.buf.isEmpty && rise (n.pairs.map Pr.k) && n.pairs.all prLen
def innerOk (n : Nd) : Bool := n.pairs.isEmpty && !n.kids.isEmpty && decide (n.pivots.length + 1 = n.kids.length) && n.kids.all edOk && (rise ([] :: n.pivots) && n.pivots.all fun p => decide (p.length ≤ 16)) && n.buf.all msMay
/-- The error's number. -/
def mayN (n : Nd) : Nat :=
  if 16 < n.pairs.length ∨ 8 < n.kids.length ∨ 16 < n.buf.length then 13
  else if n.leaf then (if leafOk n then 0 else 3) else (if innerOk n then 0 else 3)
def may (n : Nd) : Bool := mayN n == 0
theorem rise_cons (a b : L) (r : List L) : rise (a :: b :: r) = (lt a b && rise (b :: r)) := rfl
theorem rise_tail {a : L} {r : List L} (h : rise (a :: r) = true) : rise r = true := by
  cases r with
  | nil => rfl
  | cons b r => rw [rise_cons, Bool.and_eq_true] at h; exact h.2
/-- The rest of a list whose keys rise. -/
theorem rise_drop {ks : List L} {n : Nat} (h0 : 0 < n) (h : n < ks.length) : rise (ks.drop (n - 1)) = (lt (ks.getD (n - 1) default) (ks.getD n default) && rise (ks.drop n)) := by
  rw [dropD (by omega : n - 1 < ks.length), show n - 1 + 1 = n by omega, dropD h, rise_cons]

/-! ### numbers -/
theorem k_eq (a b : UInt8) : ((a.toNat : Int) = (b.toNat : Int)) = (a = b) := propext ⟨fun h => UInt8.toNat_inj.1 (by omega), fun h => by rw [h]⟩
theorem k1 (a : UInt8) : ((a.toNat : Int) = 1) = (a = 1) := k_eq a 1
theorem k2 (a : UInt8) : ((a.toNat : Int) = 2) = (a = 2) := k_eq a 2
theorem k3 (a : UInt8) : ((a.toNat : Int) = 3) = (a = 3) := k_eq a 3
theorem kb (a b : UInt8) : (((a.toNat : Int) == (b.toNat : Int)) : Bool) = (a == b) := by rw [Bool.eq_iff_iff]; simp only [beq_iff_eq, k_eq]
theorem bv_eq {w : Nat} (a b : BitVec w) : ((a.toNat : Int) = (b.toNat : Int)) = (a = b) := propext ⟨fun h => BitVec.eq_of_toNat_eq (by omega), fun h => by rw [h]⟩
theorem bvb {w : Nat} (a b : BitVec w) : (((a.toNat : Int) == (b.toNat : Int)) : Bool) = (a == b) := by rw [Bool.eq_iff_iff]; simp only [beq_iff_eq, bv_eq]
theorem bv0 {w : Nat} (a : BitVec w) : ((a.toNat : Int) = 0) = (a = 0) := by
  have := bv_eq a 0
  simpa using this
theorem bvn0 {w : Nat} (a : BitVec w) : (a.toNat = 0) = (a = 0) := by
  have := bv0 a
  rw [← this]; exact propext ⟨fun h => by omega, fun h => by omega⟩
theorem bvb0 {w : Nat} (a : BitVec w) : (((a.toNat : Int) == 0) : Bool) = (a == 0) := by rw [Bool.eq_iff_iff]; simp only [beq_iff_eq, bv0]
theorem le_lit (a n : Nat) : ((a : Int) ≤ no_index (OfNat.ofNat n)) = (a ≤ OfNat.ofNat n) := propext ⟨fun h => Int.ofNat_le.1 h, fun h => Int.ofNat_le.2 h⟩
theorem lt_lit (a n : Nat) : ((a : Int) < no_index (OfNat.ofNat n)) = (a < OfNat.ofNat n) := propext ⟨fun h => Int.ofNat_lt.1 h, fun h => Int.ofNat_lt.2 h⟩
theorem lit_le (a n : Nat) : ((no_index (OfNat.ofNat n) : Int) ≤ (a : Int)) = (OfNat.ofNat n ≤ a) := propext ⟨fun h => Int.ofNat_le.1 h, fun h => Int.ofNat_le.2 h⟩
theorem lit_lt (a n : Nat) : ((no_index (OfNat.ofNat n) : Int) < (a : Int)) = (OfNat.ofNat n < a) := propext ⟨fun h => Int.ofNat_lt.1 h, fun h => Int.ofNat_lt.2 h⟩
theorem eq_lit (a n : Nat) : ((a : Int) = no_index (OfNat.ofNat n)) = (a = OfNat.ofNat n) := propext ⟨fun h => Int.ofNat_inj.1 h, fun h => Int.ofNat_inj.2 h⟩
theorem lenI (l : L) (n : Nat) : decide (((l.length : Nat) : Int) ≤ (n : Int)) = decide (l.length ≤ n) := by simp

/-! ### lists that are gone through -/
theorem all_step {α : Type} [Inhabited α] {l : List α} {p : α → Bool} {n : Nat} (h : n < l.length) (ha : (l.take n).all p = true) (hp : p (l.getD n default) = true) : (l.take (n + 1)).all p = true := by
  rw [takeD h, List.all_append, ha]; simp only [List.all_cons, List.all_nil, hp, Bool.and_true]
theorem all_fail {α : Type} [Inhabited α] {l : List α} {p : α → Bool} {n : Nat} (h : n < l.length) (hp : p (l.getD n default) = false) : l.all p = false := by
  have : l = l.take n ++ l.getD n default :: l.drop (n + 1) := by rw [← dropD h, List.take_append_drop]
  rw [this, List.all_append, List.all_cons, hp]; simp
theorem all_done {α : Type} {l : List α} {p : α → Bool} {n : Nat} (hn : l.length ≤ n) (ha : (l.take n).all p = true) : l.all p = true := by
  rwa [List.take_of_length_le hn] at ha

/-! ### more than is gone through -/
def prG (p : Pr) : Bool := !decide (100 < p.k.length) && !decide (100 < p.v.length)
def msG (m : Ms) : Bool := !decide (100 < m.key.length) && !decide (100 < m.val.length) && !decide (100 < m.add.length)
def edG (e : Ed) : Bool := !decide (100 < e.strip.length) && !decide (100 < e.add.length)
def svG (p : L) : Bool := !decide (100 < p.length)
def greatP (l : List Pr) : Bool := decide (60 < l.length) || !l.all prG
def greatM (l : List Ms) : Bool := decide (60 < l.length) || !l.all msG
def great (n : Nd) : Bool := decide (60 < n.pivots.length) || decide (60 < n.kids.length) || greatP n.pairs || greatM n.buf || !n.pivots.all svG || !n.kids.all edG

/-- The first place at which it holds. -/
def findI {α : Type} (p : α → Bool) : List α → Nat → Int
  | [], _ => -1
  | a :: l, i => if p a = true then (i : Int) else findI p l (i + 1)
theorem findI_none {α : Type} {p : α → Bool} {l : List α} {i : Nat} (h : l.all (fun a => !p a) = true) : findI p l i = -1 := by
  induction l generalizing i with
  | nil => rfl
  | cons a l ih =>
    simp only [List.all_cons, Bool.and_eq_true, Bool.not_eq_true'] at h
    simp only [findI, h.1, Bool.false_eq_true, if_false]
    exact ih h.2
theorem findI_at {α : Type} [Inhabited α] {p : α → Bool} {l : List α} {i n : Nat} (hn : n < l.length) (h : (l.take n).all (fun a => !p a) = true) (hp : p (l.getD n default) = true) : findI p l i = ((i + n : Nat) : Int) := by
  induction l generalizing i n with
  | nil => simp at hn
  | cons a l ih =>
    cases n with
    | zero =>
      have hp' : p a = true := by simpa using hp
      simp [findI, hp']
    | succ n =>
      simp only [List.take_succ_cons, List.all_cons, Bool.and_eq_true, Bool.not_eq_true'] at h
      simp only [findI, h.1, Bool.false_eq_true, if_false]
      rw [ih (by simpa using hn) h.2 (by simpa using hp)]
      omega
theorem findI_ge {α : Type} {p : α → Bool} {l : List α} {i : Nat} : decide (findI p l i ≥ 0) = !l.all (fun a => !p a) := by
  induction l generalizing i with
  | nil => simp [findI]
  | cons a l ih =>
    simp only [findI, List.all_cons]
    split
    · rename_i h
      simp [h]
    · rename_i h
      rw [ih]; simp [h]
theorem rise_next {ks : List L} {q : Nat} (h : q + 1 < ks.length) : rise (ks.drop q) = (lt (ks.getD q default) (ks.getD (q + 1) default) && rise (ks.drop (q + 1))) := by
  have := rise_drop (ks := ks) (n := q + 1) (by omega) h
  simpa only [Nat.add_sub_cancel] using this
theorem rise_end {ks : List L} {q : Nat} (h : ks.length ≤ q + 1) : rise (ks.drop q) = true := by
  have : (ks.drop q).length ≤ 1 := by rw [List.length_drop]; omega
  match hd : ks.drop q, this with
  | [], _ => rfl
  | [a], _ => rfl
theorem edOk_iff (e : Ed) : edOk e = (!(e.deep == 0) && decide (e.strip.length ≤ 16) && decide (e.add.length ≤ 16)) := rfl
theorem lt_nil_iff (p : L) : lt [] p = !(p == []) := by cases p <;> rfl
theorem cons_getD (a : L) (l : List L) {q : Nat} (h : 0 < q) : (a :: l).getD q default = l.getD (q - 1) default := by
  obtain ⟨k, rfl⟩ : ∃ k, q = k + 1 := ⟨q - 1, by omega⟩
  rfl
theorem great_small {n : Nd} (h : great n = false) : n.small := by
  simp only [great, greatP, greatM, Bool.or_eq_false_iff, decide_eq_false_iff_not] at h
  obtain ⟨⟨⟨⟨⟨h1, h2⟩, h3, _⟩, h4, _⟩, _⟩, _⟩ := h
  exact ⟨by omega, by omega, by omega, by omega⟩
end Go.Proofs.Ytmfonbehcfjjgaa.Mv

/- Nodes: what the small functions answer. Under no condition. -/
namespace Go.Proofs.Ytmfonbehcfjjgaa.Mv
open Go Go.Proofs
set_option linter.unusedSimpArgs false
set_option linter.unusedVariables false
set_option maxRecDepth 10000
set_option maxHeartbeats 4000000
attribute [local irreducible] AW AO AR

theorem gMsMay (m : Ms) : Good Try.prog 121 [.agg m.av] [] (.b (msMay m)) [] := by
  refine Good.w tabOk mixed Try.func121 (N := 47) (by kernel_rfl) rfl (by (repeat (first | exact LE.nil | apply LE.cons)); done) (by (repeat (first | exact LE.nil | apply LE.cons)); done) fun D hD F => ?_
  repeat' (first
    | apply AO.nil
    | (apply AO.kBox; refine AO.sBox (h := ?_))
    | (apply AO.kP; first | refine AO.sP (h := ?_) | refine AO.sPi (h := ?_) | refine AO.sLoadB (h := ?_))
    | apply AW.seq
    | (apply AW.kR; refine AW.sR (h := ?_))
    | apply AW.skip
    | apply AW.block
    | apply AW.out
    | (apply AW.kE; refine AW.sE (h := ?_))
    | apply AW.label
    | ((first | (apply AO.kG; first | refine AO.sgt (h1 := fun h => ?_) (h2 := fun h => ?_) | refine AO.sgf (h1 := fun h => ?_) (h2 := fun h => ?_) | refine AO.sgs (h := ?_)) | (apply AW.kC; refine AW.sC (h1 := fun h => ?_) (h2 := fun h => ?_))) <;> (try (first | exact Bool.noConfusion h | exact absurd h (by decide) | (simp at h; done) | (rw [h]; try simp only [nrm] at h; try rw [h]; try (exfalso; omega)) | skip))))
  all_goals (refine AW.ret (hD rfl ?_); (repeat' (first | apply Lx.s | apply Lx.b | apply Lx.i | apply LxL.cons | exact LxL.nil | apply Lx.tup | apply Lx.agg | apply Lx.refl)) <;> (try with_reducible rfl))
  all_goals simp only [le_lit, lt_lit, lit_le, lit_lt, k1, k2, k3, kb, bvb, bvb0, bv0, bvn0] at *
  all_goals simp_all [msMay, bv_eq, bvn0]
  all_goals (try (rw [Bool.eq_iff_iff]; simp_all [and_assoc, bvn0]))
  all_goals (try omega)
  all_goals (try (repeat' split))
  all_goals (try (intros; simp_all; done))
  all_goals (try (intros; intro e; have := congrArg List.length e; simp only [List.length_nil] at this; omega))
  all_goals (try (intros; exfalso; omega))
theorem gMsMay' (m : Ms) : Good Try.prog 57 [.agg m.av] [] (.b (msMay m)) [] := by
  refine Good.w tabOk mixed Try.func57 (N := 58) (by kernel_rfl) rfl (by (repeat (first | exact LE.nil | apply LE.cons)); done) (by (repeat (first | exact LE.nil | apply LE.cons)); done) fun D hD F => ?_
  repeat' (first
    | apply AO.nil
    | (apply AO.kBox; refine AO.sBox (h := ?_))
    | (apply AO.kP; first | refine AO.sP (h := ?_) | refine AO.sPi (h := ?_) | refine AO.sLoadB (h := ?_))
    | apply AW.seq
    | (apply AW.kR; refine AW.sR (h := ?_))
    | apply AW.skip
    | apply AW.block
    | apply AW.out
    | (apply AW.kE; refine AW.sE (h := ?_))
    | apply AW.label
    | ((first | (apply AO.kG; first | refine AO.sgt (h1 := fun h => ?_) (h2 := fun h => ?_) | refine AO.sgf (h1 := fun h => ?_) (h2 := fun h => ?_) | refine AO.sgs (h := ?_)) | (apply AW.kC; refine AW.sC (h1 := fun h => ?_) (h2 := fun h => ?_))) <;> (try (first | exact Bool.noConfusion h | exact absurd h (by decide) | (simp at h; done) | (rw [h]; try simp only [nrm] at h; try rw [h]; try (exfalso; omega)) | skip))))
  all_goals (refine AW.ret (hD rfl ?_); (repeat' (first | apply Lx.s | apply Lx.b | apply Lx.i | apply LxL.cons | exact LxL.nil | apply Lx.tup | apply Lx.agg | apply Lx.refl)) <;> (try with_reducible rfl))
  all_goals simp only [le_lit, lt_lit, lit_le, lit_lt, k1, k2, k3, kb, bvb, bvb0, bv0, bvn0] at *
  all_goals simp_all [msMay, bv_eq, bvn0]
  all_goals (try (rw [Bool.eq_iff_iff]; simp_all [and_assoc, bvn0]))
  all_goals (try omega)
  all_goals (try (repeat' split))
  all_goals (try (intros; simp_all; done))
  all_goals (try (intros; intro e; have := congrArg List.length e; simp only [List.length_nil] at this; omega))
  all_goals (try (intros; exfalso; omega))
theorem gShort (s : L) : Good Try.prog 118 [.s s] [] (.b (decide (s.length ≤ 16))) [] := by
  refine Good.w tabOk mixed Try.func118 (N := 6) (by kernel_rfl) rfl (by (repeat (first | exact LE.nil | apply LE.cons)); done) (by (repeat (first | exact LE.nil | apply LE.cons)); done) fun D hD F => ?_
  repeat' (first
    | apply AO.nil
    | (apply AO.kP; first | refine AO.sP (h := ?_) | refine AO.sPi (h := ?_))
    | apply AW.seq
    | (apply AW.kR; refine AW.sR (h := ?_))
    | apply AW.skip
    | apply AW.block
    | apply AW.out
    | (apply AW.kE; refine AW.sE (h := ?_))
    | apply AW.label)
  all_goals (refine AW.ret (hD rfl ?_); (repeat' (first | apply Lx.s | apply Lx.b | apply Lx.i | apply LxL.cons | exact LxL.nil | apply Lx.tup | apply Lx.agg | apply Lx.refl)) <;> (try with_reducible rfl))
  all_goals simp only [le_lit]
  repeat' (first
    | apply AO.nil
    | (apply AO.kP; first | refine AO.sP (h := ?_) | refine AO.sPi (h := ?_))
    | apply AW.seq
    | (apply AW.kR; refine AW.sR (h := ?_))
    | apply AW.skip
    | apply AW.block
    | apply AW.out
    | (apply AW.kE; refine AW.sE (h := ?_))
    | apply AW.label)
  all_goals (refine AW.ret (hD rfl ?_); (repeat' (first | apply Lx.s | apply Lx.b | apply Lx.i | apply LxL.cons | exact LxL.nil | apply Lx.tup | apply Lx.agg | apply Lx.refl)) <;> (try with_reducible rfl))
  all_goals simp
theorem gBad (m : Ms) : Good Try.prog 120 [.agg m.av] [] (.b (!msMay m)) [] := by
  refine Good.w tabOk mixed Try.func120 (N := 6) (by kernel_rfl) rfl (by (repeat (first | exact LE.nil | apply LE.cons)); done) (by (repeat (first | exact LE.nil | apply LE.cons)); done) fun D hD F => ?_
  repeat' (first
    | apply AO.nil
    | (apply AO.kCall 121; refine AO.sCall (hg := (gMsMay _)) (h := ?_))
    | (apply AO.kBox; refine AO.sBox (h := ?_))
    | (apply AO.kP; first | refine AO.sP (h := ?_) | refine AO.sPi (h := ?_) | refine AO.sLoadB (h := ?_))
    | apply AW.seq
    | (apply AW.kR; refine AW.sR (h := ?_))
    | apply AW.skip
    | apply AW.block
    | apply AW.out
    | (apply AW.kE; refine AW.sE (h := ?_))
    | apply AW.label)
  all_goals (refine AW.ret (hD rfl ?_); (repeat' (first | apply Lx.s | apply Lx.b | apply Lx.i | apply LxL.cons | exact LxL.nil | apply Lx.tup | apply Lx.agg | apply Lx.refl)) <;> (try with_reducible rfl))
/-- Where the first one is that may not be. -/
theorem gIdxBad (l : List Ms) (hl : l.length ≤ 1000000) : Good Try.prog 54 [.sh 6 (l.map Ms.av), .clo 120 []] [] (.i .i64 (findI (fun m => !msMay m) l 0)) [] := by
  refine Good.w tabOk mixed Try.func54 (N := 19) (by kernel_rfl) rfl (by (repeat (first | exact LE.nil | apply LE.cons)); done) (by (repeat (first | exact LE.nil | apply LE.cons)); done) fun D hD F => ?_
  repeat' (first
    | apply AO.nil
    | (apply AO.kIx; first | refine AO.sIxN (h := ?_) | refine AO.sIx (h := ?_) | refine AO.sP (h := ?_) | refine AO.sPi (h := ?_))
    | (apply AO.kAdd; refine AO.sAdd (h := ?_))
    | (apply AO.kP; first | refine AO.sP (h := ?_) | refine AO.sPi (h := ?_) | refine AO.sLoadB (h := ?_))
    | apply AW.seq
    | (apply AW.kR; refine AW.sR (h := ?_))
    | apply AW.skip
    | apply AW.block
    | apply AW.out
    | (apply AW.kE; refine AW.sE (h := ?_))
    | apply AW.label
    | ((first | (apply AW.kC; refine AW.sC (h1 := fun h => ?_) (h2 := fun h => ?_))) <;> (try (first | exact Bool.noConfusion h | exact absurd h (by decide) | (simp at h; done) | (rw [h]; try simp only [nrm] at h; try rw [h]; try (exfalso; omega)) | skip))))
  refine AW.loopI (fun n : Nat => n ≤ l.length ∧ (l.take n).all (fun m => !!msMay m) = true) (fun n => ⟨[(0, .sh 6 (l.map Ms.av)), (1, .clo 120 []), (7, .i .i64 l.length), (8, .i .i64 n)], []⟩) (fun n => l.length - n) 0 (by simp) (by (constructor <;> (repeat' (first | exact LeT.nil | exact LeB.nil | apply LeT.cons | apply LeB.cons | exact Ol.refl | apply Lx.s | apply Lx.b | apply Lx.i | exact Lx.refl)) <;> (first | rfl | assumption | omega | (simp only [List.length_map, BS_len]; done) | skip))) fun m n ⟨hn, hc⟩ ih => ?_
  repeat' (first
    | apply AO.nil
    | (apply AO.kCallV; refine AO.sCall (hg := (gBad _)) (h := ?_))
    | (apply AO.kIx; first | refine AO.sIxN (h := ?_) | refine AO.sIx (h := ?_) | refine AO.sP (h := ?_) | refine AO.sPi (h := ?_))
    | (apply AO.kAdd; refine AO.sAdd (h := ?_))
    | (apply AO.kP; first | refine AO.sP (h := ?_) | refine AO.sPi (h := ?_) | refine AO.sLoadB (h := ?_))
    | apply AW.seq
    | (apply AW.kR; refine AW.sR (h := ?_))
    | apply AW.skip
    | apply AW.block
    | apply AW.out
    | (apply AW.kE; refine AW.sE (h := ?_))
    | apply AW.label
    | ((first | (apply AW.kC; refine AW.sC (h1 := fun h => ?_) (h2 := fun h => ?_))) <;> (try (first | exact Bool.noConfusion h | exact absurd h (by decide) | (simp at h; done) | (rw [h]; try simp only [nrm] at h; try rw [h]; try (exfalso; omega)) | skip))))
  · refine AW.ret (hD rfl (Lx.i ?_))
    rw [findI_at (by omega) hc (by rename_i h; simpa using h)]
    simp
  · exact ih (n + 1) _ ⟨by omega, all_step (by omega) hc (by rename_i h; simpa using h)⟩ (by omega) (by (constructor <;> (repeat' (first | exact LeT.nil | exact LeB.nil | apply LeT.cons | apply LeB.cons | exact Ol.refl | apply Lx.s | apply Lx.b | apply Lx.i | exact Lx.refl)) <;> (first | rfl | assumption | omega | (simp only [List.length_map, BS_len]; done) | skip)))
  · refine AW.ret (hD rfl (Lx.i ?_))
    exact (findI_none (all_done (by omega) hc)).symm
end Go.Proofs.Ytmfonbehcfjjgaa.Mv

/- Nodes: may one be? Under no condition. -/
namespace Go.Proofs.Ytmfonbehcfjjgaa.Mv
open Go Go.Proofs
set_option linter.unusedSimpArgs false
set_option linter.unusedVariables false
set_option maxRecDepth 10000
set_option maxHeartbeats 4000000
attribute [local irreducible] AW AO AR

theorem gConBad (l : List Ms) (hl : l.length ≤ 1000000) : Good Try.prog 119 [.sh 6 (l.map Ms.av), .clo 120 []] [] (.b (!l.all msMay)) [] := by
  have h := @findI_ge Ms (fun m => !msMay m) l 0
  simp only [Bool.not_not] at h
  refine Good.w tabOk mixed Try.func119 (N := 9) (by kernel_rfl) rfl (by (repeat (first | exact LE.nil | apply LE.cons)); done) (by (repeat (first | exact LE.nil | apply LE.cons)); done) fun D hD F => ?_
  repeat' (first
    | apply AO.nil
    | (apply AO.kCall 54; refine AO.sCall (hg := (gIdxBad _ sd)) (h := ?_))
    | (apply AO.kP; first | refine AO.sP (h := ?_) | refine AO.sPi (h := ?_))
    | apply AW.seq
    | (apply AW.kR; refine AW.sR (h := ?_))
    | apply AW.skip
    | apply AW.block
    | apply AW.out
    | (apply AW.kE; refine AW.sE (h := ?_))
    | apply AW.label)
  all_goals (refine AW.ret (hD rfl ?_); (repeat' (first | apply Lx.s | apply Lx.b | apply Lx.i | apply LxL.cons | exact LxL.nil | apply Lx.tup | apply Lx.agg | apply Lx.refl)) <;> (try with_reducible rfl))
  all_goals exact h
/-- So far, the keys rise and are short. -/
theorem gLeafForm (n : Nd) (hs : n.small) : Good Try.prog 93 [.agg n.av] [] (.b (leafOk n)) [] := by
  have hs1 := hs.pairs; have hs2 := hs.pivots; have hs3 := hs.kids; have hs4 := hs.buf
  refine Good.w tabOk mixed Try.func93 (N := 52) (by kernel_rfl) rfl (by (repeat (first | exact LE.nil | apply LE.cons)); done) (by (repeat (first | exact LE.nil | apply LE.cons)); done) fun D hD F => ?_
  repeat' (first
    | apply AO.nil
    | (apply AO.kIx; first | refine AO.sIxN (h := ?_) | refine AO.sIx (h := ?_) | refine AO.sP (h := ?_) | refine AO.sPi (h := ?_))
    | (apply AO.kBox; refine AO.sBox (h := ?_))
    | (apply AO.kAlloc; refine AO.sAlloc (h := ?_))
    | (apply AO.kStore; first | refine AO.sStore (h := ?_) | refine AO.sStB (h := ?_))
    | (apply AO.kAdd; refine AO.sAdd (h := ?_))
    | (apply AO.kSub; refine AO.sSub (h := ?_))
    | (apply AO.kP; first | refine AO.sP (h := ?_) | refine AO.sPi (h := ?_) | refine AO.sLoadB (h := ?_))
    | apply AW.seq
    | (apply AW.kR; refine AW.sR (h := ?_))
    | apply AW.skip
    | apply AW.block
    | apply AW.out
    | (apply AW.kE; refine AW.sE (h := ?_))
    | apply AW.label
    | (apply AW.kRd; refine AW.sRd (h := ?_))
    | ((first | (apply AO.kG; first | refine AO.sgt (h1 := fun h => ?_) (h2 := fun h => ?_) | refine AO.sgf (h1 := fun h => ?_) (h2 := fun h => ?_) | refine AO.sgs (h := ?_)) | (apply AW.kC; refine AW.sC (h1 := fun h => ?_) (h2 := fun h => ?_)) | (apply AR.kAny; apply AR.kG; first | refine AR.sgt (h1 := fun h => ?_) (h2 := fun h => ?_) | refine AR.sgf (h1 := fun h => ?_) (h2 := fun h => ?_) | refine AR.sgs (h := ?_))) <;> (try (first | exact Bool.noConfusion h | exact absurd h (by decide) | (simp at h; done) | (rw [h]; try simp only [nrm] at h; try rw [h]; try (exfalso; omega)) | skip)))
    | (apply AR.kAny; first | (apply AR.kIx; first | refine AR.sIxN (h := ?_) | refine AR.sIx (h := ?_) | refine AR.sP (h := ?_) | refine AR.sPi (h := ?_)) | (apply AR.kBox; refine AR.sBox (h := ?_)) | (apply AR.kAlloc; refine AR.sAlloc (h := ?_)) | (apply AR.kStore; refine AR.sStore (h := ?_)) | (apply AR.kAdd; refine AR.sAdd (h := ?_)) | (apply AR.kSub; refine AR.sSub (h := ?_)) | (apply AR.kP; first | refine AR.sP (h := ?_) | refine AR.sPi (h := ?_)))
    | (apply AR.kNil; refine AR.sNil (h := ?_)))
  · (refine AW.ret (hD rfl ?_); (repeat' (first | apply Lx.s | apply Lx.b | apply Lx.i | apply LxL.cons | exact LxL.nil | apply Lx.tup | apply Lx.agg | apply Lx.refl)) <;> (try with_reducible rfl))
    have h : ¬ ((n.pivots.map sav).length : Int) + ((n.kids.map Ed.av).length : Int) + ((n.buf.map Ms.av).length : Int) ≤ 0 := by omega
    simp only [List.length_map] at h
    cases h1 : n.pivots with
    | cons a r => simp [leafOk, h1]
    | nil => cases h2 : n.kids with
      | cons a r => simp [leafOk, h1, h2]
      | nil => cases h3 : n.buf with
        | cons a r => simp [leafOk, h1, h2, h3]
        | nil => rw [h1, h2, h3] at h; simp at h
  · have h0 : leafOk n = (rise (n.pairs.map Pr.k) && n.pairs.all prLen) := by
      have h : ((n.pivots.map sav).length : Int) + ((n.kids.map Ed.av).length : Int) + ((n.buf.map Ms.av).length : Int) ≤ 0 := by assumption
      simp only [List.length_map] at h
      have e1 : n.pivots = [] := List.eq_nil_of_length_eq_zero (by omega)
      have e2 : n.kids = [] := List.eq_nil_of_length_eq_zero (by omega)
      have e3 : n.buf = [] := List.eq_nil_of_length_eq_zero (by omega)
      simp [leafOk, e1, e2, e3]
    refine AW.loopI (fun q : Nat => q ≤ n.pairs.length ∧ (n.pairs.take q).all prLen = true ∧ (0 < q → rise (n.pairs.map Pr.k) = rise ((n.pairs.map Pr.k).drop (q - 1)))) (fun q => ⟨[(1, .ptr 1 0), (18, .sh 2 (n.pairs.map Pr.av)), (19, .i .i64 n.pairs.length), (20, .i .i64 q)], [(1, .bx n.av)]⟩) (fun q => n.pairs.length - q) 0 (by simp) (by (constructor <;> (repeat' (first | exact LeT.nil | exact LeB.nil | apply LeT.cons | apply LeB.cons | exact Ol.refl | apply Lx.s | apply Lx.b | apply Lx.i | exact Lx.refl)) <;> (first | rfl | assumption | omega | (simp only [List.length_map, BS_len]; done) | skip))) fun m q ⟨hn, hc, hr⟩ ih => ?_
    have hl : (n.pairs.map Pr.k).length = n.pairs.length := by simp
    repeat' (first
    | apply AO.nil
    | (apply AO.kIx; first | refine AO.sIxN (h := ?_) | refine AO.sIx (h := ?_) | refine AO.sP (h := ?_) | refine AO.sPi (h := ?_))
    | (apply AO.kBox; refine AO.sBox (h := ?_))
    | (apply AO.kAlloc; refine AO.sAlloc (h := ?_))
    | (apply AO.kStore; first | refine AO.sStore (h := ?_) | refine AO.sStB (h := ?_))
    | (apply AO.kAdd; refine AO.sAdd (h := ?_))
    | (apply AO.kSub; refine AO.sSub (h := ?_))
    | (apply AO.kP; first | refine AO.sP (h := ?_) | refine AO.sPi (h := ?_) | refine AO.sLoadB (h := ?_))
    | apply AW.seq
    | (apply AW.kR; refine AW.sR (h := ?_))
    | apply AW.skip
    | apply AW.block
    | apply AW.out
    | (apply AW.kE; refine AW.sE (h := ?_))
    | apply AW.label
    | (apply AW.kRd; refine AW.sRd (h := ?_))
    | ((first | (apply AO.kG; first | refine AO.sgt (h1 := fun h => ?_) (h2 := fun h => ?_) | refine AO.sgf (h1 := fun h => ?_) (h2 := fun h => ?_) | refine AO.sgs (h := ?_)) | (apply AW.kC; refine AW.sC (h1 := fun h => ?_) (h2 := fun h => ?_)) | (apply AR.kAny; apply AR.kG; first | refine AR.sgt (h1 := fun h => ?_) (h2 := fun h => ?_) | refine AR.sgf (h1 := fun h => ?_) (h2 := fun h => ?_) | refine AR.sgs (h := ?_))) <;> (try (first | exact Bool.noConfusion h | exact absurd h (by decide) | (simp at h; done) | (rw [h]; try simp only [nrm] at h; try rw [h]; try (exfalso; omega)) | skip)))
    | (apply AR.kAny; first | (apply AR.kIx; first | refine AR.sIxN (h := ?_) | refine AR.sIx (h := ?_) | refine AR.sP (h := ?_) | refine AR.sPi (h := ?_)) | (apply AR.kBox; refine AR.sBox (h := ?_)) | (apply AR.kAlloc; refine AR.sAlloc (h := ?_)) | (apply AR.kStore; refine AR.sStore (h := ?_)) | (apply AR.kAdd; refine AR.sAdd (h := ?_)) | (apply AR.kSub; refine AR.sSub (h := ?_)) | (apply AR.kP; first | refine AR.sP (h := ?_) | refine AR.sPi (h := ?_)))
    | (apply AR.kNil; refine AR.sNil (h := ?_)))
    · (refine AW.ret (hD rfl ?_); (repeat' (first | apply Lx.s | apply Lx.b | apply Lx.i | apply LxL.cons | exact LxL.nil | apply Lx.tup | apply Lx.agg | apply Lx.refl)) <;> (try with_reducible rfl))
      have hq : 0 < q := by omega
      rw [h0, hr hq, rise_drop hq (by omega), getD_map Pr.k (by omega), getD_map Pr.k (by omega)]
      have h : lt (n.pairs.getD (q - 1) default).k (n.pairs.getD q default).k = false := by
        rename_i h
        rw [show (((q : Nat) : Int) - 1).toNat = q - 1 by omega] at h
        simp only [blt, le_iff] at h
        simpa using h
      rw [h]; simp
    · have hp : prLen (n.pairs.getD q default) = true := by simp only [prLen, Bool.and_eq_true, decide_eq_true_eq]; omega
      refine ih (q + 1) _ ⟨by omega, all_step (by omega) hc hp, fun _ => ?_⟩ (by omega) (by (constructor <;> (repeat' (first | exact LeT.nil | exact LeB.nil | apply LeT.cons | apply LeB.cons | exact Ol.refl | apply Lx.s | apply Lx.b | apply Lx.i | exact Lx.refl)) <;> (first | rfl | assumption | omega | (simp only [List.length_map, BS_len]; done) | skip)))
      have hq : 0 < q := by omega
      rw [hr hq, rise_drop hq (by omega), getD_map Pr.k (by omega), getD_map Pr.k (by omega)]
      have h : lt (n.pairs.getD (q - 1) default).k (n.pairs.getD q default).k = true := by
        have h : (blt (n.pairs.getD q default).k (n.pairs.getD (((q : Nat) : Int) - 1).toNat default).k || (n.pairs.getD q default).k == (n.pairs.getD (((q : Nat) : Int) - 1).toNat default).k) = false := by assumption
        rw [show (((q : Nat) : Int) - 1).toNat = q - 1 by omega] at h
        simp only [blt, le_iff] at h
        simpa using h
      rw [h]; simp
    · have hp : prLen (n.pairs.getD q default) = true := by simp only [prLen, Bool.and_eq_true, decide_eq_true_eq]; omega
      refine ih (q + 1) _ ⟨by omega, all_step (by omega) hc hp, fun _ => ?_⟩ (by omega) (by (constructor <;> (repeat' (first | exact LeT.nil | exact LeB.nil | apply LeT.cons | apply LeB.cons | exact Ol.refl | apply Lx.s | apply Lx.b | apply Lx.i | exact Lx.refl)) <;> (first | rfl | assumption | omega | (simp only [List.length_map, BS_len]; done) | skip)))
      have : q = 0 := by omega
      subst this; simp
    · (refine AW.ret (hD rfl ?_); (repeat' (first | apply Lx.s | apply Lx.b | apply Lx.i | apply LxL.cons | exact LxL.nil | apply Lx.tup | apply Lx.agg | apply Lx.refl)) <;> (try with_reducible rfl))
      rw [h0, all_fail (by omega : q < n.pairs.length) (by simp only [prLen, Bool.and_eq_false_iff, decide_eq_false_iff_not]; omega)]
      simp
    · (refine AW.ret (hD rfl ?_); (repeat' (first | apply Lx.s | apply Lx.b | apply Lx.i | apply LxL.cons | exact LxL.nil | apply Lx.tup | apply Lx.agg | apply Lx.refl)) <;> (try with_reducible rfl))
      rw [h0, all_fail (by omega : q < n.pairs.length) (by simp only [prLen, Bool.and_eq_false_iff, decide_eq_false_iff_not]; omega)]
      simp
    · (refine AW.ret (hD rfl ?_); (repeat' (first | apply Lx.s | apply Lx.b | apply Lx.i | apply LxL.cons | exact LxL.nil | apply Lx.tup | apply Lx.agg | apply Lx.refl)) <;> (try with_reducible rfl))
      have hq : q = n.pairs.length := by omega
      rw [h0, all_done (by omega) hc]
      rcases Nat.eq_zero_or_pos q with hz | hz
      · have : n.pairs = [] := List.eq_nil_of_length_eq_zero (by omega)
        rw [this]; rfl
      · rw [hr hz]
        have : (List.map Pr.k n.pairs).drop (q - 1) = [(n.pairs.map Pr.k).getD (q - 1) default] := by
          rw [dropD (by omega : q - 1 < (n.pairs.map Pr.k).length), show q - 1 + 1 = q by omega, List.drop_eq_nil_of_le (by omega)]
        rw [this]; rfl
theorem gForm (n : Nd) (hs : n.small) : Good Try.prog 94 [.agg n.av] [] (.b (innerOk n)) [] := by
  have hs1 := hs.pairs; have hs2 := hs.pivots; have hs3 := hs.kids; have hs4 := hs.buf
  refine Good.w tabOk mixed Try.func94 (N := 74) (by kernel_rfl) rfl (by (repeat (first | exact LE.nil | apply LE.cons)); done) (by (repeat (first | exact LE.nil | apply LE.cons)); done) fun D hD F => ?_
  repeat' (first
    | apply AO.nil
    | (apply AO.kIx; first | refine AO.sIxN (h := ?_) | refine AO.sIx (h := ?_) | refine AO.sP (h := ?_) | refine AO.sPi (h := ?_))
    | (apply AO.kBox; refine AO.sBox (h := ?_))
    | (apply AO.kAlloc; refine AO.sAlloc (h := ?_))
    | (apply AO.kStore; first | refine AO.sStore (h := ?_) | refine AO.sStB (h := ?_))
    | (apply AO.kAdd; refine AO.sAdd (h := ?_))
    | (apply AO.kSub; refine AO.sSub (h := ?_))
    | (apply AO.kP; first | refine AO.sP (h := ?_) | refine AO.sPi (h := ?_) | refine AO.sLoadB (h := ?_))
    | apply AW.seq
    | (apply AW.kR; refine AW.sR (h := ?_))
    | apply AW.skip
    | apply AW.block
    | apply AW.out
    | (apply AW.kE; refine AW.sE (h := ?_))
    | apply AW.label
    | ((first | (apply AO.kG; first | refine AO.sgt (h1 := fun h => ?_) (h2 := fun h => ?_) | refine AO.sgf (h1 := fun h => ?_) (h2 := fun h => ?_) | refine AO.sgs (h := ?_)) | (apply AW.kC; refine AW.sC (h1 := fun h => ?_) (h2 := fun h => ?_))) <;> (try (first | exact Bool.noConfusion h | exact absurd h (by decide) | (simp at h; done) | (rw [h]; try simp only [nrm] at h; try rw [h]; try (exfalso; omega)) | skip))))
  · (refine AW.ret (hD rfl ?_); (repeat' (first | apply Lx.s | apply Lx.b | apply Lx.i | apply LxL.cons | exact LxL.nil | apply Lx.tup | apply Lx.agg | apply Lx.refl)) <;> (try with_reducible rfl))
    have h : ((((n.pivots.map sav).length : Nat) : Int) != ((n.kids.map Ed.av).length : Int) - 1) = true := by assumption
    have h2 : ¬ (((n.kids.map Ed.av).length : Nat) : Int) = 0 := by assumption
    simp only [List.length_map, bne_iff_ne] at h h2
    have : ¬ n.pivots.length + 1 = n.kids.length := by omega
    simp [innerOk, this]
  · have h : ((((n.pivots.map sav).length : Nat) : Int) != ((n.kids.map Ed.av).length : Int) - 1) = false := by assumption
    have h2 : ¬ (((n.kids.map Ed.av).length : Nat) : Int) = 0 := by assumption
    have h3 : (((n.pairs.map Pr.av).length : Nat) : Int) ≤ 0 := by assumption
    simp only [List.length_map, bne_eq_false_iff_eq] at h h2 h3
    have e1 : n.pairs = [] := List.eq_nil_of_length_eq_zero (by omega)
    have e2 : n.kids.isEmpty = false := by
      cases hk : n.kids with
      | nil => rw [hk] at h2; simp at h2
      | cons a r => rfl
    have e3 : n.pivots.length + 1 = n.kids.length := by omega
    have h0 : innerOk n = (n.kids.all edOk && (rise ([] :: n.pivots) && n.pivots.all fun p => decide (p.length ≤ 16)) && n.buf.all msMay) := by
      simp [innerOk, e1, e2, e3]
    refine AW.loopI (fun q : Nat => q ≤ n.kids.length ∧ (n.kids.take q).all edOk = true) (fun q => ⟨[(1, .ptr 1 0), (29, .sh 4 (n.kids.map Ed.av)), (30, .i .i64 n.kids.length), (31, .i .i64 q)], [(1, .bx n.av)]⟩) (fun q => n.kids.length - q) 0 (by simp) (by (constructor <;> (repeat' (first | exact LeT.nil | exact LeB.nil | apply LeT.cons | apply LeB.cons | exact Ol.refl | apply Lx.s | apply Lx.b | apply Lx.i | exact Lx.refl)) <;> (first | rfl | assumption | omega | (simp only [List.length_map, BS_len]; done) | skip))) fun m q ⟨hn, hc⟩ ih => ?_
    repeat' (first
    | apply AO.nil
    | (apply AO.kCall 118; refine AO.sCall (hg := (gShort _)) (h := ?_))
    | (apply AO.kIx; first | refine AO.sIxN (h := ?_) | refine AO.sIx (h := ?_) | refine AO.sP (h := ?_) | refine AO.sPi (h := ?_))
    | (apply AO.kBox; refine AO.sBox (h := ?_))
    | (apply AO.kAlloc; refine AO.sAlloc (h := ?_))
    | (apply AO.kStore; first | refine AO.sStore (h := ?_) | refine AO.sStB (h := ?_))
    | (apply AO.kAdd; refine AO.sAdd (h := ?_))
    | (apply AO.kSub; refine AO.sSub (h := ?_))
    | (apply AO.kP; first | refine AO.sP (h := ?_) | refine AO.sPi (h := ?_) | refine AO.sLoadB (h := ?_))
    | apply AW.seq
    | (apply AW.kR; refine AW.sR (h := ?_))
    | apply AW.skip
    | apply AW.block
    | apply AW.out
    | (apply AW.kE; refine AW.sE (h := ?_))
    | apply AW.label
    | ((first | (apply AO.kG; first | refine AO.sgt (h1 := fun h => ?_) (h2 := fun h => ?_) | refine AO.sgf (h1 := fun h => ?_) (h2 := fun h => ?_) | refine AO.sgs (h := ?_)) | (apply AW.kC; refine AW.sC (h1 := fun h => ?_) (h2 := fun h => ?_))) <;> (try (first | exact Bool.noConfusion h | exact absurd h (by decide) | (simp at h; done) | (rw [h]; try simp only [nrm] at h; try rw [h]; try (exfalso; omega)) | skip))))
    · (refine AW.ret (hD rfl ?_); (repeat' (first | apply Lx.s | apply Lx.b | apply Lx.i | apply LxL.cons | exact LxL.nil | apply Lx.tup | apply Lx.agg | apply Lx.refl)) <;> (try with_reducible rfl))
      have h : ¬ (n.kids.getD q default).add.length ≤ 16 := by assumption
      rw [h0, all_fail (by omega : q < n.kids.length) (by rw [edOk_iff, decide_eq_false h]; simp)]
      simp
    · refine ih (q + 1) _ ⟨by omega, all_step (by omega) hc (by simp_all [edOk, bv0, bvn0])⟩ (by omega) (by (constructor <;> (repeat' (first | exact LeT.nil | exact LeB.nil | apply LeT.cons | apply LeB.cons | exact Ol.refl | apply Lx.s | apply Lx.b | apply Lx.i | exact Lx.refl)) <;> (first | rfl | assumption | omega | (simp only [List.length_map, BS_len]; done) | skip)))
    · (refine AW.ret (hD rfl ?_); (repeat' (first | apply Lx.s | apply Lx.b | apply Lx.i | apply LxL.cons | exact LxL.nil | apply Lx.tup | apply Lx.agg | apply Lx.refl)) <;> (try with_reducible rfl))
      have h : ¬ (n.kids.getD q default).strip.length ≤ 16 := by assumption
      rw [h0, all_fail (by omega : q < n.kids.length) (by rw [edOk_iff, decide_eq_false h]; simp)]
      simp
    · (refine AW.ret (hD rfl ?_); (repeat' (first | apply Lx.s | apply Lx.b | apply Lx.i | apply LxL.cons | exact LxL.nil | apply Lx.tup | apply Lx.agg | apply Lx.refl)) <;> (try with_reducible rfl))
      have h : (((n.kids.getD q default).deep.toNat : Nat) : Int) = 0 := by assumption
      rw [bv0] at h
      rw [h0, all_fail (by omega : q < n.kids.length) (by rw [edOk_iff, h]; simp)]
      simp
    · have h1 : n.kids.all edOk = true := all_done (by omega) hc
      refine AW.loopI (fun q : Nat => q ≤ n.pivots.length ∧ (n.pivots.take q).all (fun p => decide (p.length ≤ 16)) = true ∧ rise ([] :: n.pivots) = rise (([] :: n.pivots).drop q)) (fun q => ⟨[(1, .ptr 1 0), (5, .s (([] :: n.pivots).getD q default)), (54, .sh 1 (n.pivots.map sav)), (55, .i .i64 n.pivots.length), (56, .i .i64 q)], [(1, .bx n.av)]⟩) (fun q => n.pivots.length - q) 0 (by simp) (by (constructor <;> (repeat' (first | exact LeT.nil | exact LeB.nil | apply LeT.cons | apply LeB.cons | exact Ol.refl | apply Lx.s | apply Lx.b | apply Lx.i | exact Lx.refl)) <;> (first | rfl | assumption | omega | (simp only [List.length_map, BS_len]; done) | skip))) fun m2 q2 ⟨hn2, hc2, hr2⟩ ih2 => ?_
      have hgs : ([] :: n.pivots).getD (q2 + 1) default = n.pivots.getD q2 default := rfl
      repeat' (first
    | apply AO.nil
    | (apply AO.kCall 118; refine AO.sCall (hg := (gShort _)) (h := ?_))
    | (apply AO.kCall 119; refine AO.sCall (hg := (gConBad _ sd)) (h := ?_))
    | (apply AO.kIx; first | refine AO.sIxN (h := ?_) | refine AO.sIx (h := ?_) | refine AO.sP (h := ?_) | refine AO.sPi (h := ?_))
    | (apply AO.kBox; refine AO.sBox (h := ?_))
    | (apply AO.kAlloc; refine AO.sAlloc (h := ?_))
    | (apply AO.kStore; first | refine AO.sStore (h := ?_) | refine AO.sStB (h := ?_))
    | (apply AO.kAdd; refine AO.sAdd (h := ?_))
    | (apply AO.kSub; refine AO.sSub (h := ?_))
    | (apply AO.kP; first | refine AO.sP (h := ?_) | refine AO.sPi (h := ?_) | refine AO.sLoadB (h := ?_))
    | apply AW.seq
    | (apply AW.kR; refine AW.sR (h := ?_))
    | apply AW.skip
    | apply AW.block
    | apply AW.out
    | (apply AW.kE; refine AW.sE (h := ?_))
    | apply AW.label
    | ((first | (apply AO.kG; first | refine AO.sgt (h1 := fun h => ?_) (h2 := fun h => ?_) | refine AO.sgf (h1 := fun h => ?_) (h2 := fun h => ?_) | refine AO.sgs (h := ?_)) | (apply AW.kC; refine AW.sC (h1 := fun h => ?_) (h2 := fun h => ?_))) <;> (try (first | exact Bool.noConfusion h | exact absurd h (by decide) | (simp at h; done) | (rw [h]; try simp only [nrm] at h; try rw [h]; try (exfalso; omega)) | skip))))
      all_goals (try (have hlt : q2 < n.pivots.length := by omega))
      · (refine AW.ret (hD rfl ?_); (repeat' (first | apply Lx.s | apply Lx.b | apply Lx.i | apply LxL.cons | exact LxL.nil | apply Lx.tup | apply Lx.agg | apply Lx.refl)) <;> (try with_reducible rfl))
        have h : ¬ (n.pivots.getD q2 default).length ≤ 16 := by assumption
        rw [h0, all_fail (l := n.pivots) hlt (decide_eq_false h)]
        simp
      · have h5 : lt (([] :: n.pivots).getD q2 default) (n.pivots.getD q2 default) = true := by
          have h5 : (blt (n.pivots.getD q2 default) (([] :: n.pivots).getD q2 default) || n.pivots.getD q2 default == ([] :: n.pivots).getD q2 default) = false := by assumption
          simp only [blt, le_iff] at h5
          simpa using h5
        have h : (n.pivots.getD q2 default).length ≤ 16 := by assumption
        refine ih2 (q2 + 1) _ ⟨by omega, all_step hlt hc2 (decide_eq_true h), ?_⟩ (by omega) (by (constructor <;> (repeat' (first | exact LeT.nil | exact LeB.nil | apply LeT.cons | apply LeB.cons | exact Ol.refl | apply Lx.s | apply Lx.b | apply Lx.i | exact Lx.refl)) <;> (first | rfl | assumption | omega | (simp only [List.length_map, BS_len]; done) | skip)))
        rw [hr2, rise_next (by simp only [List.length_cons]; omega), hgs, h5, Bool.true_and]
      · (refine AW.ret (hD rfl ?_); (repeat' (first | apply Lx.s | apply Lx.b | apply Lx.i | apply LxL.cons | exact LxL.nil | apply Lx.tup | apply Lx.agg | apply Lx.refl)) <;> (try with_reducible rfl))
        have h5 : lt (([] :: n.pivots).getD q2 default) (n.pivots.getD q2 default) = false := by
          have h5 : (blt (n.pivots.getD q2 default) (([] :: n.pivots).getD q2 default) || n.pivots.getD q2 default == ([] :: n.pivots).getD q2 default) = true := by assumption
          simp only [blt, le_iff] at h5
          simpa using h5
        rw [h0, hr2, rise_next (by simp only [List.length_cons]; omega), hgs, h5]
        simp
      · (refine AW.ret (hD rfl ?_); (repeat' (first | apply Lx.s | apply Lx.b | apply Lx.i | apply LxL.cons | exact LxL.nil | apply Lx.tup | apply Lx.agg | apply Lx.refl)) <;> (try with_reducible rfl))
        rw [h0, h1, all_done (by omega) hc2, hr2, rise_end (by simp only [List.length_cons]; omega)]
        simp
  · (refine AW.ret (hD rfl ?_); (repeat' (first | apply Lx.s | apply Lx.b | apply Lx.i | apply LxL.cons | exact LxL.nil | apply Lx.tup | apply Lx.agg | apply Lx.refl)) <;> (try with_reducible rfl))
    have h2 : (((n.kids.map Ed.av).length : Nat) : Int) = 0 := by assumption
    simp only [List.length_map] at h2
    have : n.kids = [] := List.eq_nil_of_length_eq_zero (by omega)
    simp [innerOk, this]
  · (refine AW.ret (hD rfl ?_); (repeat' (first | apply Lx.s | apply Lx.b | apply Lx.i | apply LxL.cons | exact LxL.nil | apply Lx.tup | apply Lx.agg | apply Lx.refl)) <;> (try with_reducible rfl))
    have h2 : 0 < (((n.pairs.map Pr.av).length : Nat) : Int) := by assumption
    simp only [List.length_map] at h2
    cases hk : n.pairs with
    | nil => rw [hk] at h2; simp at h2
    | cons a r => simp [innerOk, hk]
theorem gMay (n : Nd) (hs : n.small) : Good Try.prog 39 [.agg n.av] [] (.i .i64 (mayN n)) [] := by
  obtain ⟨leaf, pairs, pivots, kids, buf⟩ := n
  have hs1 : pairs.length ≤ 1000000 := hs.pairs
  have hs2 : pivots.length ≤ 1000000 := hs.pivots
  have hs3 : kids.length ≤ 1000000 := hs.kids
  have hs4 : buf.length ≤ 1000000 := hs.buf
  clear hs
  refine Good.w tabOk mixed Try.func39 (N := 36) (by kernel_rfl) rfl (by (repeat (first | exact LE.nil | apply LE.cons)); done) (by (repeat (first | exact LE.nil | apply LE.cons)); done) fun D hD F => ?_
  repeat' (first
    | apply AO.nil
    | (apply AO.kCall 93; refine AO.sCall (hg := (gLeafForm ⟨_, _, _, _, _⟩ ⟨hs1, hs2, hs3, hs4⟩)) (h := ?_))
    | (apply AO.kCall 94; refine AO.sCall (hg := (gForm ⟨_, _, _, _, _⟩ ⟨hs1, hs2, hs3, hs4⟩)) (h := ?_))
    | (apply AO.kBox; refine AO.sBox (h := ?_))
    | (apply AO.kP; first | refine AO.sP (h := ?_) | refine AO.sPi (h := ?_) | refine AO.sLoadB (h := ?_))
    | apply AW.seq
    | (apply AW.kR; refine AW.sR (h := ?_))
    | apply AW.skip
    | apply AW.block
    | apply AW.out
    | (apply AW.kE; refine AW.sE (h := ?_))
    | apply AW.label
    | ((first | (apply AO.kG; first | refine AO.sgt (h1 := fun h => ?_) (h2 := fun h => ?_) | refine AO.sgf (h1 := fun h => ?_) (h2 := fun h => ?_) | refine AO.sgs (h := ?_)) | (apply AW.kC; refine AW.sC (h1 := fun h => ?_) (h2 := fun h => ?_))) <;> (try (first | exact Bool.noConfusion h | exact absurd h (by decide) | (simp at h; done) | (rw [h]; try simp only [nrm] at h; try rw [h]; try (exfalso; omega)) | skip))))
  all_goals (refine AW.ret (hD rfl ?_); (repeat' (first | apply Lx.s | apply Lx.b | apply Lx.i | apply LxL.cons | exact LxL.nil | apply Lx.tup | apply Lx.agg | apply Lx.refl)) <;> (try with_reducible rfl))
  all_goals simp only [List.length_map, le_lit, lit_lt] at *
  all_goals (try subst leaf)
  all_goals simp only [mayN]
  all_goals (first | rw [if_pos (by omega)]; rfl | rw [if_neg (by omega)]; simp_all)
theorem gRise (l : List Pr) (hl : l.length ≤ 1000000) : Good Try.prog 56 [.sh 2 (l.map Pr.av)] [] (.b (rise (l.map Pr.k))) [] := by
  have hlm : (l.map Pr.k).length = l.length := by simp
  refine Good.w tabOk mixed Try.func56 (N := 22) (by kernel_rfl) rfl (by (repeat (first | exact LE.nil | apply LE.cons)); done) (by (repeat (first | exact LE.nil | apply LE.cons)); done) fun D hD F => ?_
  repeat' (first
    | apply AO.nil
    | (apply AO.kIx; first | refine AO.sIxN (h := ?_) | refine AO.sIx (h := ?_) | refine AO.sP (h := ?_) | refine AO.sPi (h := ?_))
    | (apply AO.kAdd; refine AO.sAdd (h := ?_))
    | (apply AO.kSub; refine AO.sSub (h := ?_))
    | (apply AO.kP; first | refine AO.sP (h := ?_) | refine AO.sPi (h := ?_) | refine AO.sLoadB (h := ?_))
    | apply AW.seq
    | (apply AW.kR; refine AW.sR (h := ?_))
    | apply AW.skip
    | apply AW.block
    | apply AW.out
    | (apply AW.kE; refine AW.sE (h := ?_))
    | apply AW.label
    | (apply AW.kRd; refine AW.sRd (h := ?_))
    | ((first | (apply AW.kC; refine AW.sC (h1 := fun h => ?_) (h2 := fun h => ?_))) <;> (try (first | exact Bool.noConfusion h | exact absurd h (by decide) | (simp at h; done) | (rw [h]; try simp only [nrm] at h; try rw [h]; try (exfalso; omega)) | skip)))
    | (apply AR.kAny; first | (apply AR.kIx; first | refine AR.sIxN (h := ?_) | refine AR.sIx (h := ?_) | refine AR.sP (h := ?_) | refine AR.sPi (h := ?_)) | (apply AR.kAdd; refine AR.sAdd (h := ?_)) | (apply AR.kSub; refine AR.sSub (h := ?_)) | (apply AR.kP; first | refine AR.sP (h := ?_) | refine AR.sPi (h := ?_)))
    | (apply AR.kNil; refine AR.sNil (h := ?_)))
  refine AW.loopI (fun q : Nat => rise (l.map Pr.k) = rise ((l.map Pr.k).drop q)) (fun q => ⟨[(0, .sh 2 (l.map Pr.av)), (3, .i .i64 ((q : Int) + 1))], []⟩) (fun q => l.length - q) 0 (by simp) (by (constructor <;> (repeat' (first | exact LeT.nil | exact LeB.nil | apply LeT.cons | apply LeB.cons | exact Ol.refl | apply Lx.s | apply Lx.b | apply Lx.i | exact Lx.refl)) <;> (first | rfl | assumption | omega | (simp only [List.length_map, BS_len]; done) | skip))) fun m q hr ih => ?_
  repeat' (first
    | apply AO.nil
    | (apply AO.kIx; first | refine AO.sIxN (h := ?_) | refine AO.sIx (h := ?_) | refine AO.sP (h := ?_) | refine AO.sPi (h := ?_))
    | (apply AO.kAdd; refine AO.sAdd (h := ?_))
    | (apply AO.kSub; refine AO.sSub (h := ?_))
    | (apply AO.kP; first | refine AO.sP (h := ?_) | refine AO.sPi (h := ?_) | refine AO.sLoadB (h := ?_))
    | apply AW.seq
    | (apply AW.kR; refine AW.sR (h := ?_))
    | apply AW.skip
    | apply AW.block
    | apply AW.out
    | (apply AW.kE; refine AW.sE (h := ?_))
    | apply AW.label
    | (apply AW.kRd; refine AW.sRd (h := ?_))
    | ((first | (apply AW.kC; refine AW.sC (h1 := fun h => ?_) (h2 := fun h => ?_))) <;> (try (first | exact Bool.noConfusion h | exact absurd h (by decide) | (simp at h; done) | (rw [h]; try simp only [nrm] at h; try rw [h]; try (exfalso; omega)) | skip)))
    | (apply AR.kAny; first | (apply AR.kIx; first | refine AR.sIxN (h := ?_) | refine AR.sIx (h := ?_) | refine AR.sP (h := ?_) | refine AR.sPi (h := ?_)) | (apply AR.kAdd; refine AR.sAdd (h := ?_)) | (apply AR.kSub; refine AR.sSub (h := ?_)) | (apply AR.kP; first | refine AR.sP (h := ?_) | refine AR.sPi (h := ?_)))
    | (apply AR.kNil; refine AR.sNil (h := ?_)))
  · (refine AW.ret (hD rfl ?_); (repeat' (first | apply Lx.s | apply Lx.b | apply Lx.i | apply LxL.cons | exact LxL.nil | apply Lx.tup | apply Lx.agg | apply Lx.refl)) <;> (try with_reducible rfl))
    have h : (blt (l.getD ((q : Int) + 1).toNat default).k (l.getD ((q : Int) + 1 - 1).toNat default).k || (l.getD ((q : Int) + 1).toNat default).k == (l.getD ((q : Int) + 1 - 1).toNat default).k) = true := by assumption
    rw [show ((q : Int) + 1 - 1).toNat = q by omega, show ((q : Int) + 1).toNat = q + 1 by omega] at h
    simp only [blt, le_iff] at h
    rw [hr, rise_next (by rw [hlm]; simp only [List.length_map] at *; omega), getD_map Pr.k (by simp only [List.length_map] at *; omega), getD_map Pr.k (by simp only [List.length_map] at *; omega)]
    simp_all
  · have h : (blt (l.getD ((q : Int) + 1).toNat default).k (l.getD ((q : Int) + 1 - 1).toNat default).k || (l.getD ((q : Int) + 1).toNat default).k == (l.getD ((q : Int) + 1 - 1).toNat default).k) = false := by assumption
    rw [show ((q : Int) + 1 - 1).toNat = q by omega, show ((q : Int) + 1).toNat = q + 1 by omega] at h
    simp only [blt, le_iff] at h
    refine ih (q + 1) _ ?_ (by simp only [List.length_map] at *; omega) (by (constructor <;> (repeat' (first | exact LeT.nil | exact LeB.nil | apply LeT.cons | apply LeB.cons | exact Ol.refl | apply Lx.s | apply Lx.b | apply Lx.i | exact Lx.refl)) <;> (first | rfl | assumption | omega | (simp only [List.length_map, BS_len]; done) | skip)))
    rw [hr, rise_next (by rw [hlm]; simp only [List.length_map] at *; omega), getD_map Pr.k (by simp only [List.length_map] at *; omega), getD_map Pr.k (by simp only [List.length_map] at *; omega)]
    simp_all
  · (refine AW.ret (hD rfl ?_); (repeat' (first | apply Lx.s | apply Lx.b | apply Lx.i | apply LxL.cons | exact LxL.nil | apply Lx.tup | apply Lx.agg | apply Lx.refl)) <;> (try with_reducible rfl))
    rw [hr, rise_end (by rw [hlm]; simp only [List.length_map] at *; omega)]
/-- A message of a list, gone through by the document's test. -/
theorem gMay' (n : Nd) (hs : n.small) : Good Try.prog 21 [.agg n.av] [] (.i .i64 (mayN n)) [] := by
  obtain ⟨leaf, pairs, pivots, kids, buf⟩ := n
  have hs1 : pairs.length ≤ 1000000 := hs.pairs
  have hs2 : pivots.length ≤ 1000000 := hs.pivots
  have hs3 : kids.length ≤ 1000000 := hs.kids
  have hs4 : buf.length ≤ 1000000 := hs.buf
  have l1 : (pairs.map Pr.av).length = pairs.length := by simp
  have l2 : (pivots.map sav).length = pivots.length := by simp
  have l3 : (kids.map Ed.av).length = kids.length := by simp
  have l4 : (buf.map Ms.av).length = buf.length := by simp
  clear hs
  have t13 : (16 < pairs.length ∨ 8 < kids.length ∨ 16 < buf.length) → mayN ⟨leaf, pairs, pivots, kids, buf⟩ = 13 := fun h => by simp only [mayN]; rw [if_pos h]
  have tL : ¬ (16 < pairs.length ∨ 8 < kids.length ∨ 16 < buf.length) → mayN ⟨true, pairs, pivots, kids, buf⟩ = if leafOk ⟨true, pairs, pivots, kids, buf⟩ = true then 0 else 3 := fun h => by simp only [mayN]; rw [if_neg h]; rfl
  have tI : ¬ (16 < pairs.length ∨ 8 < kids.length ∨ 16 < buf.length) → mayN ⟨false, pairs, pivots, kids, buf⟩ = if innerOk ⟨false, pairs, pivots, kids, buf⟩ = true then 0 else 3 := fun h => by simp only [mayN]; rw [if_neg h]; rfl
  have z : ∀ {α : Type} (l : List α), ¬ l.length ≤ 0 → l.isEmpty = false := fun l h => by cases l <;> simp_all
  have z' : ∀ {α : Type} (l : List α), l.length ≤ 0 → l = [] := fun l h => List.eq_nil_of_length_eq_zero (by omega)
  refine Good.w tabOk mixed Try.func21 (N := 182) (by kernel_rfl) rfl (by (repeat (first | exact LE.nil | apply LE.cons)); done) (by (repeat (first | exact LE.nil | apply LE.cons)); done) fun D hD F => ?_
  repeat' (first
    | apply AO.nil
    | (apply AO.kCall 56; refine AO.sCall (hg := (gRise _ sd)) (h := ?_))
    | (apply AO.kIx; first | refine AO.sIxN (h := ?_) | refine AO.sIx (h := ?_) | refine AO.sP (h := ?_) | refine AO.sPi (h := ?_))
    | (apply AO.kBox; refine AO.sBox (h := ?_))
    | (apply AO.kAdd; refine AO.sAdd (h := ?_))
    | (apply AO.kSub; refine AO.sSub (h := ?_))
    | (apply AO.kP; first | refine AO.sP (h := ?_) | refine AO.sPi (h := ?_) | refine AO.sLoadB (h := ?_))
    | apply AW.seq
    | (apply AW.kR; refine AW.sR (h := ?_))
    | apply AW.skip
    | apply AW.block
    | apply AW.out
    | (apply AW.kE; refine AW.sE (h := ?_))
    | apply AW.label
    | (apply AW.kRd; refine AW.sRd (h := ?_))
    | ((first | (apply AO.kG; first | refine AO.sgt (h1 := fun h => ?_) (h2 := fun h => ?_) | refine AO.sgf (h1 := fun h => ?_) (h2 := fun h => ?_) | refine AO.sgs (h := ?_)) | (apply AW.kC; refine AW.sC (h1 := fun h => ?_) (h2 := fun h => ?_)) | (apply AR.kAny; apply AR.kG; first | refine AR.sgt (h1 := fun h => ?_) (h2 := fun h => ?_) | refine AR.sgf (h1 := fun h => ?_) (h2 := fun h => ?_) | refine AR.sgs (h := ?_))) <;> (try (first | exact Bool.noConfusion h | exact absurd h (by decide) | (simp at h; done) | (rw [h]; try simp only [nrm] at h; try rw [h]; try (exfalso; omega)) | skip)))
    | (apply AR.kAny; first | (apply AR.kCall 56; refine AR.sCall (hg := (gRise _ sd)) (h := ?_)) | (apply AR.kIx; first | refine AR.sIxN (h := ?_) | refine AR.sIx (h := ?_) | refine AR.sP (h := ?_) | refine AR.sPi (h := ?_)) | (apply AR.kBox; refine AR.sBox (h := ?_)) | (apply AR.kAdd; refine AR.sAdd (h := ?_)) | (apply AR.kSub; refine AR.sSub (h := ?_)) | (apply AR.kP; first | refine AR.sP (h := ?_) | refine AR.sPi (h := ?_)))
    | (apply AR.kNil; refine AR.sNil (h := ?_)))
  · refine AW.ret (hD rfl (Lx.i ?_)); rw [t13 (by omega)]; rfl
  · refine AW.ret (hD rfl (Lx.i ?_))
    subst leaf
    have h : rise (pairs.map Pr.k) = false := by assumption
    rw [tL (by omega), if_neg (by simp [leafOk, h])]; rfl
  · subst leaf
    have hri : rise (pairs.map Pr.k) = true := by assumption
    obtain rfl := z' pivots (by omega)
    obtain rfl := z' kids (by omega)
    obtain rfl := z' buf (by omega)
    have h0 : leafOk ⟨true, pairs, [], [], []⟩ = pairs.all prLen := by simp [leafOk, hri]
    refine AW.loopI (fun q : Nat => q ≤ pairs.length ∧ (pairs.take q).all prLen = true) (fun q => ⟨[(1, .ptr 1 0), (49, .i .i64 pairs.length), (50, .i .i64 q)], [(1, .bx (Nd.av ⟨true, pairs, [], [], []⟩))]⟩) (fun q => pairs.length - q) 0 (by simp) (by (constructor <;> (repeat' (first | exact LeT.nil | exact LeB.nil | apply LeT.cons | apply LeB.cons | exact Ol.refl | apply Lx.s | apply Lx.b | apply Lx.i | exact Lx.refl)) <;> (first | rfl | assumption | omega | (simp only [List.length_map, BS_len]; done) | skip))) fun m q ⟨hn, hc⟩ ih => ?_
    repeat' (first
    | apply AO.nil
    | (apply AO.kIx; first | refine AO.sIxN (h := ?_) | refine AO.sIx (h := ?_) | refine AO.sP (h := ?_) | refine AO.sPi (h := ?_))
    | (apply AO.kBox; refine AO.sBox (h := ?_))
    | (apply AO.kAdd; refine AO.sAdd (h := ?_))
    | (apply AO.kSub; refine AO.sSub (h := ?_))
    | (apply AO.kP; first | refine AO.sP (h := ?_) | refine AO.sPi (h := ?_) | refine AO.sLoadB (h := ?_))
    | apply AW.seq
    | (apply AW.kR; refine AW.sR (h := ?_))
    | apply AW.skip
    | apply AW.block
    | apply AW.out
    | (apply AW.kE; refine AW.sE (h := ?_))
    | apply AW.label
    | (apply AW.kRd; refine AW.sRd (h := ?_))
    | ((first | (apply AO.kG; first | refine AO.sgt (h1 := fun h => ?_) (h2 := fun h => ?_) | refine AO.sgf (h1 := fun h => ?_) (h2 := fun h => ?_) | refine AO.sgs (h := ?_)) | (apply AW.kC; refine AW.sC (h1 := fun h => ?_) (h2 := fun h => ?_)) | (apply AR.kAny; apply AR.kG; first | refine AR.sgt (h1 := fun h => ?_) (h2 := fun h => ?_) | refine AR.sgf (h1 := fun h => ?_) (h2 := fun h => ?_) | refine AR.sgs (h := ?_))) <;> (try (first | exact Bool.noConfusion h | exact absurd h (by decide) | (simp at h; done) | (rw [h]; try simp only [nrm] at h; try rw [h]; try (exfalso; omega)) | skip)))
    | (apply AR.kAny; first | (apply AR.kIx; first | refine AR.sIxN (h := ?_) | refine AR.sIx (h := ?_) | refine AR.sP (h := ?_) | refine AR.sPi (h := ?_)) | (apply AR.kBox; refine AR.sBox (h := ?_)) | (apply AR.kAdd; refine AR.sAdd (h := ?_)) | (apply AR.kSub; refine AR.sSub (h := ?_)) | (apply AR.kP; first | refine AR.sP (h := ?_) | refine AR.sPi (h := ?_)))
    | (apply AR.kNil; refine AR.sNil (h := ?_)))
    · refine AW.ret (hD rfl (Lx.i ?_))
      have hp : prLen (pairs.getD q default) = false := by simp only [prLen, Bool.and_eq_false_iff, decide_eq_false_iff_not]; omega
      rw [tL (by omega), h0, all_fail (by omega : q < pairs.length) hp]; rfl
    · exact ih (q + 1) _ ⟨by omega, all_step (by omega) hc (by simp only [prLen, Bool.and_eq_true, decide_eq_true_eq]; omega)⟩ (by omega) (by (constructor <;> (repeat' (first | exact LeT.nil | exact LeB.nil | apply LeT.cons | apply LeB.cons | exact Ol.refl | apply Lx.s | apply Lx.b | apply Lx.i | exact Lx.refl)) <;> (first | rfl | assumption | omega | (simp only [List.length_map, BS_len]; done) | skip)))
    · refine AW.ret (hD rfl (Lx.i ?_))
      have hp : prLen (pairs.getD q default) = false := by simp only [prLen, Bool.and_eq_false_iff, decide_eq_false_iff_not]; omega
      rw [tL (by omega), h0, all_fail (by omega : q < pairs.length) hp]; rfl
    · refine AW.ret (hD rfl (Lx.i ?_))
      rw [tL (by omega), h0, all_done (by omega) hc]; rfl
  · refine AW.ret (hD rfl (Lx.i ?_))
    subst leaf
    rw [tL (by omega), if_neg (by simp [leafOk, z buf (by omega)])]; rfl
  · refine AW.ret (hD rfl (Lx.i ?_))
    subst leaf
    rw [tL (by omega), if_neg (by simp [leafOk, z kids (by omega)])]; rfl
  · refine AW.ret (hD rfl (Lx.i ?_))
    subst leaf
    rw [tL (by omega), if_neg (by simp [leafOk, z pivots (by omega)])]; rfl
  · refine AW.ret (hD rfl (Lx.i ?_))
    subst leaf
    have h : ((((pivots.map sav).length : Nat) : Int) + 1 != ((kids.map Ed.av).length : Int)) = true := by assumption
    rw [bne_iff_ne] at h
    rw [tI (by omega), if_neg (by simp [innerOk, show ¬ pivots.length + 1 = kids.length by omega])]; rfl
  · subst leaf
    have h : ((((pivots.map sav).length : Nat) : Int) + 1 != ((kids.map Ed.av).length : Int)) = false := by assumption
    rw [bne_eq_false_iff_eq] at h
    have hpk : pivots.length + 1 = kids.length := by omega
    obtain rfl := z' pairs (by omega)
    have h0 : innerOk ⟨false, [], pivots, kids, buf⟩ = (kids.all edOk && (rise ([] :: pivots) && pivots.all fun p => decide (p.length ≤ 16)) && buf.all msMay) := by
      simp [innerOk, hpk, z kids (by omega)]
    refine AW.loopI (fun q : Nat => q ≤ kids.length ∧ (kids.take q).all edOk = true) (fun q => ⟨[(1, .ptr 1 0), (94, .i .i64 kids.length), (95, .i .i64 q)], [(1, .bx (Nd.av ⟨false, [], pivots, kids, buf⟩))]⟩) (fun q => kids.length - q) 0 (by simp) (by (constructor <;> (repeat' (first | exact LeT.nil | exact LeB.nil | apply LeT.cons | apply LeB.cons | exact Ol.refl | apply Lx.s | apply Lx.b | apply Lx.i | exact Lx.refl)) <;> (first | rfl | assumption | omega | (simp only [List.length_map, BS_len]; done) | skip))) fun m q ⟨hn, hc⟩ ih => ?_
    repeat' (first
    | apply AO.nil
    | (apply AO.kIx; first | refine AO.sIxN (h := ?_) | refine AO.sIx (h := ?_) | refine AO.sP (h := ?_) | refine AO.sPi (h := ?_))
    | (apply AO.kBox; refine AO.sBox (h := ?_))
    | (apply AO.kAdd; refine AO.sAdd (h := ?_))
    | (apply AO.kSub; refine AO.sSub (h := ?_))
    | (apply AO.kP; first | refine AO.sP (h := ?_) | refine AO.sPi (h := ?_) | refine AO.sLoadB (h := ?_))
    | apply AW.seq
    | (apply AW.kR; refine AW.sR (h := ?_))
    | apply AW.skip
    | apply AW.block
    | apply AW.out
    | (apply AW.kE; refine AW.sE (h := ?_))
    | apply AW.label
    | (apply AW.kRd; refine AW.sRd (h := ?_))
    | ((first | (apply AO.kG; first | refine AO.sgt (h1 := fun h => ?_) (h2 := fun h => ?_) | refine AO.sgf (h1 := fun h => ?_) (h2 := fun h => ?_) | refine AO.sgs (h := ?_)) | (apply AW.kC; refine AW.sC (h1 := fun h => ?_) (h2 := fun h => ?_)) | (apply AR.kAny; apply AR.kG; first | refine AR.sgt (h1 := fun h => ?_) (h2 := fun h => ?_) | refine AR.sgf (h1 := fun h => ?_) (h2 := fun h => ?_) | refine AR.sgs (h := ?_))) <;> (try (first | exact Bool.noConfusion h | exact absurd h (by decide) | (simp at h; done) | (rw [h]; try simp only [nrm] at h; try rw [h]; try (exfalso; omega)) | skip)))
    | (apply AR.kAny; first | (apply AR.kIx; first | refine AR.sIxN (h := ?_) | refine AR.sIx (h := ?_) | refine AR.sP (h := ?_) | refine AR.sPi (h := ?_)) | (apply AR.kBox; refine AR.sBox (h := ?_)) | (apply AR.kAdd; refine AR.sAdd (h := ?_)) | (apply AR.kSub; refine AR.sSub (h := ?_)) | (apply AR.kP; first | refine AR.sP (h := ?_) | refine AR.sPi (h := ?_)))
    | (apply AR.kNil; refine AR.sNil (h := ?_)))
    · refine AW.ret (hD rfl (Lx.i ?_))
      have h : ¬ (kids.getD q default).add.length ≤ 16 := by omega
      rw [tI (by omega), h0, all_fail (by omega : q < kids.length) (by rw [edOk_iff, decide_eq_false h]; simp)]; rfl
    · have h : 1 ≤ (((kids.getD q default).deep.toNat : Nat) : Int) := by assumption
      have h' : ((kids.getD q default).deep == 0) = false := by
        rw [beq_eq_false_iff_ne]
        intro e
        rw [e] at h; simp at h
      refine ih (q + 1) _ ⟨by omega, all_step (by omega) hc (by rw [edOk_iff, h', decide_eq_true (by omega), decide_eq_true (by omega)]; rfl)⟩ (by omega) (by (constructor <;> (repeat' (first | exact LeT.nil | exact LeB.nil | apply LeT.cons | apply LeB.cons | exact Ol.refl | apply Lx.s | apply Lx.b | apply Lx.i | exact Lx.refl)) <;> (first | rfl | assumption | omega | (simp only [List.length_map, BS_len]; done) | skip)))
    · refine AW.ret (hD rfl (Lx.i ?_))
      have h : ¬ (kids.getD q default).strip.length ≤ 16 := by omega
      rw [tI (by omega), h0, all_fail (by omega : q < kids.length) (by rw [edOk_iff, decide_eq_false h]; simp)]; rfl
    · refine AW.ret (hD rfl (Lx.i ?_))
      have h' : ((kids.getD q default).deep == 0) = true := by
        rw [beq_iff_eq, ← bvn0]; omega
      rw [tI (by omega), h0, all_fail (by omega : q < kids.length) (by rw [edOk_iff, h']; rfl)]; rfl
    · have hk : kids.all edOk = true := all_done (by omega) hc
      rw [hk, Bool.true_and] at h0
      refine AW.loopI (fun q : Nat => q ≤ pivots.length ∧ (pivots.take q).all (fun p => decide (p.length ≤ 16)) = true ∧ rise ([] :: pivots) = rise (([] :: pivots).drop q)) (fun q => ⟨[(1, .ptr 1 0), (130, .i .i64 pivots.length), (131, .i .i64 q)], [(1, .bx (Nd.av ⟨false, [], pivots, kids, buf⟩))]⟩) (fun q => pivots.length - q) 0 (by simp) (by (constructor <;> (repeat' (first | exact LeT.nil | exact LeB.nil | apply LeT.cons | apply LeB.cons | exact Ol.refl | apply Lx.s | apply Lx.b | apply Lx.i | exact Lx.refl)) <;> (first | rfl | assumption | omega | (simp only [List.length_map, BS_len]; done) | skip))) fun m2 q2 ⟨hn2, hc2, hr2⟩ ih2 => ?_
      have hgs : ([] :: pivots).getD (q2 + 1) default = pivots.getD q2 default := rfl
      repeat' (first
    | apply AO.nil
    | (apply AO.kIx; first | refine AO.sIxN (h := ?_) | refine AO.sIx (h := ?_) | refine AO.sP (h := ?_) | refine AO.sPi (h := ?_))
    | (apply AO.kBox; refine AO.sBox (h := ?_))
    | (apply AO.kAdd; refine AO.sAdd (h := ?_))
    | (apply AO.kSub; refine AO.sSub (h := ?_))
    | (apply AO.kP; first | refine AO.sP (h := ?_) | refine AO.sPi (h := ?_) | refine AO.sLoadB (h := ?_))
    | apply AW.seq
    | (apply AW.kR; refine AW.sR (h := ?_))
    | apply AW.skip
    | apply AW.block
    | apply AW.out
    | (apply AW.kE; refine AW.sE (h := ?_))
    | apply AW.label
    | (apply AW.kRd; refine AW.sRd (h := ?_))
    | ((first | (apply AO.kG; first | refine AO.sgt (h1 := fun h => ?_) (h2 := fun h => ?_) | refine AO.sgf (h1 := fun h => ?_) (h2 := fun h => ?_) | refine AO.sgs (h := ?_)) | (apply AW.kC; refine AW.sC (h1 := fun h => ?_) (h2 := fun h => ?_)) | (apply AR.kAny; apply AR.kG; first | refine AR.sgt (h1 := fun h => ?_) (h2 := fun h => ?_) | refine AR.sgf (h1 := fun h => ?_) (h2 := fun h => ?_) | refine AR.sgs (h := ?_))) <;> (try (first | exact Bool.noConfusion h | exact absurd h (by decide) | (simp at h; done) | (rw [h]; try simp only [nrm] at h; try rw [h]; try (exfalso; omega)) | skip)))
    | (apply AR.kAny; first | (apply AR.kIx; first | refine AR.sIxN (h := ?_) | refine AR.sIx (h := ?_) | refine AR.sP (h := ?_) | refine AR.sPi (h := ?_)) | (apply AR.kBox; refine AR.sBox (h := ?_)) | (apply AR.kAdd; refine AR.sAdd (h := ?_)) | (apply AR.kSub; refine AR.sSub (h := ?_)) | (apply AR.kP; first | refine AR.sP (h := ?_) | refine AR.sPi (h := ?_)))
    | (apply AR.kNil; refine AR.sNil (h := ?_)))
      all_goals (try (have hlt : q2 < pivots.length := by omega))
      · refine AW.ret (hD rfl (Lx.i ?_))
        have h : (blt (pivots.getD q2 default) (pivots.getD ((q2 : Int) - 1).toNat default) || pivots.getD q2 default == pivots.getD ((q2 : Int) - 1).toNat default) = true := by assumption
        simp only [blt, le_iff] at h
        have hr : rise ([] :: pivots) = false := by
          rw [hr2, rise_next (by simp only [List.length_cons]; omega), hgs, cons_getD _ _ (by omega), show q2 - 1 = ((q2 : Int) - 1).toNat by omega]
          simp_all
        rw [tI (by omega), h0, hr]; rfl
      · have h : (blt (pivots.getD q2 default) (pivots.getD ((q2 : Int) - 1).toNat default) || pivots.getD q2 default == pivots.getD ((q2 : Int) - 1).toNat default) = false := by assumption
        simp only [blt, le_iff] at h
        have h16 : (pivots.getD q2 default).length ≤ 16 := by omega
        refine ih2 (q2 + 1) _ ⟨by omega, all_step hlt hc2 (decide_eq_true h16), ?_⟩ (by omega) (by (constructor <;> (repeat' (first | exact LeT.nil | exact LeB.nil | apply LeT.cons | apply LeB.cons | exact Ol.refl | apply Lx.s | apply Lx.b | apply Lx.i | exact Lx.refl)) <;> (first | rfl | assumption | omega | (simp only [List.length_map, BS_len]; done) | skip)))
        rw [hr2, rise_next (by simp only [List.length_cons]; omega), hgs, cons_getD _ _ (by omega), show q2 - 1 = ((q2 : Int) - 1).toNat by omega]
        simp_all
      · have hz : q2 = 0 := by omega
        subst hz
        have hne : ¬ pivots.getD 0 default = [] := by assumption
        have h16 : (pivots.getD 0 default).length ≤ 16 := by omega
        refine ih2 1 _ ⟨by omega, all_step hlt hc2 (decide_eq_true h16), ?_⟩ (by omega) (by (constructor <;> (repeat' (first | exact LeT.nil | exact LeB.nil | apply LeT.cons | apply LeB.cons | exact Ol.refl | apply Lx.s | apply Lx.b | apply Lx.i | exact Lx.refl)) <;> (first | rfl | assumption | omega | (simp only [List.length_map, BS_len]; done) | skip)))
        rw [hr2, rise_next (by simp only [List.length_cons]; omega), hgs]
        have : lt (([] :: pivots).getD 0 default) (pivots.getD 0 default) = true := by
          show lt [] _ = true
          rw [lt_nil_iff]; simp only [Bool.not_eq_true', beq_eq_false_iff_ne]; exact hne
        rw [this, Bool.true_and]
      · refine AW.ret (hD rfl (Lx.i ?_))
        have h : ¬ (pivots.getD q2 default).length ≤ 16 := by omega
        rw [tI (by omega), h0, all_fail (l := pivots) hlt (decide_eq_false h), Bool.and_false]; rfl
      · refine AW.ret (hD rfl (Lx.i ?_))
        have h : pivots.getD q2 default = [] := by assumption
        have hr : rise ([] :: pivots) = false := by
          rw [hr2, rise_next (by simp only [List.length_cons]; omega), hgs, h, lt_nil]; rfl
        rw [tI (by omega), h0, hr]; rfl
      · have hr : rise ([] :: pivots) = true := by rw [hr2, rise_end (by simp only [List.length_cons]; omega)]
        rw [hr, all_done (by omega) hc2] at h0
        simp only [Bool.true_and, Bool.and_true] at h0
        refine AW.loopI (fun q : Nat => q ≤ buf.length ∧ (buf.take q).all msMay = true) (fun q => ⟨[(1, .ptr 1 0), (170, .i .i64 buf.length), (171, .i .i64 q)], [(1, .bx (Nd.av ⟨false, [], pivots, kids, buf⟩))]⟩) (fun q => buf.length - q) 0 (by simp) (by (constructor <;> (repeat' (first | exact LeT.nil | exact LeB.nil | apply LeT.cons | apply LeB.cons | exact Ol.refl | apply Lx.s | apply Lx.b | apply Lx.i | exact Lx.refl)) <;> (first | rfl | assumption | omega | (simp only [List.length_map, BS_len]; done) | skip))) fun m3 q3 ⟨hn3, hc3⟩ ih3 => ?_
        repeat' (first
    | apply AO.nil
    | (apply AO.kCall 57; refine AO.sCall (hg := (gMsMay' _)) (h := ?_))
    | (apply AO.kIx; first | refine AO.sIxN (h := ?_) | refine AO.sIx (h := ?_) | refine AO.sP (h := ?_) | refine AO.sPi (h := ?_))
    | (apply AO.kBox; refine AO.sBox (h := ?_))
    | (apply AO.kAdd; refine AO.sAdd (h := ?_))
    | (apply AO.kSub; refine AO.sSub (h := ?_))
    | (apply AO.kP; first | refine AO.sP (h := ?_) | refine AO.sPi (h := ?_) | refine AO.sLoadB (h := ?_))
    | apply AW.seq
    | (apply AW.kR; refine AW.sR (h := ?_))
    | apply AW.skip
    | apply AW.block
    | apply AW.out
    | (apply AW.kE; refine AW.sE (h := ?_))
    | apply AW.label
    | (apply AW.kRd; refine AW.sRd (h := ?_))
    | ((first | (apply AO.kG; first | refine AO.sgt (h1 := fun h => ?_) (h2 := fun h => ?_) | refine AO.sgf (h1 := fun h => ?_) (h2 := fun h => ?_) | refine AO.sgs (h := ?_)) | (apply AW.kC; refine AW.sC (h1 := fun h => ?_) (h2 := fun h => ?_)) | (apply AR.kAny; apply AR.kG; first | refine AR.sgt (h1 := fun h => ?_) (h2 := fun h => ?_) | refine AR.sgf (h1 := fun h => ?_) (h2 := fun h => ?_) | refine AR.sgs (h := ?_))) <;> (try (first | exact Bool.noConfusion h | exact absurd h (by decide) | (simp at h; done) | (rw [h]; try simp only [nrm] at h; try rw [h]; try (exfalso; omega)) | skip)))
    | (apply AR.kAny; first | (apply AR.kCall 57; refine AR.sCall (hg := (gMsMay' _)) (h := ?_)) | (apply AR.kIx; first | refine AR.sIxN (h := ?_) | refine AR.sIx (h := ?_) | refine AR.sP (h := ?_) | refine AR.sPi (h := ?_)) | (apply AR.kBox; refine AR.sBox (h := ?_)) | (apply AR.kAdd; refine AR.sAdd (h := ?_)) | (apply AR.kSub; refine AR.sSub (h := ?_)) | (apply AR.kP; first | refine AR.sP (h := ?_) | refine AR.sPi (h := ?_)))
    | (apply AR.kNil; refine AR.sNil (h := ?_)))
        · refine AW.ret (hD rfl (Lx.i ?_))
          rw [tI (by omega), h0, all_fail (by omega : q3 < buf.length) (by assumption)]; rfl
        · exact ih3 (q3 + 1) _ ⟨by omega, all_step (by omega) hc3 (by assumption)⟩ (by omega) (by (constructor <;> (repeat' (first | exact LeT.nil | exact LeB.nil | apply LeT.cons | apply LeB.cons | exact Ol.refl | apply Lx.s | apply Lx.b | apply Lx.i | exact Lx.refl)) <;> (first | rfl | assumption | omega | (simp only [List.length_map, BS_len]; done) | skip)))
        · refine AW.ret (hD rfl (Lx.i ?_))
          rw [tI (by omega), h0, all_done (by omega) hc3]; rfl
  · refine AW.ret (hD rfl (Lx.i ?_))
    subst leaf
    obtain rfl := z' kids (by omega)
    rw [tI (by omega), if_neg (by simp [innerOk])]; rfl
  · refine AW.ret (hD rfl (Lx.i ?_))
    subst leaf
    rw [tI (by omega), if_neg (by simp [innerOk, z pairs (by omega)])]; rfl
  · refine AW.ret (hD rfl (Lx.i ?_)); rw [t13 (by omega)]; rfl
  · refine AW.ret (hD rfl (Lx.i ?_)); rw [t13 (by omega)]; rfl
end Go.Proofs.Ytmfonbehcfjjgaa.Mv

/- Nodes: the same ones, and those that are not gone through. Under no condition. -/
namespace Go.Proofs.Ytmfonbehcfjjgaa.Mv
open Go Go.Proofs
set_option linter.unusedSimpArgs false
set_option linter.unusedVariables false
set_option maxRecDepth 10000
set_option maxHeartbeats 4000000
attribute [local irreducible] AW AO AR

theorem take_step {α : Type} [Inhabited α] {a b : List α} {q : Nat} (ha : q < a.length) (hb : q < b.length) (h : a.take q = b.take q) (he : a.getD q default = b.getD q default) : a.take (q + 1) = b.take (q + 1) := by
  rw [takeD ha, takeD hb, h, he]
theorem take_all {α : Type} {a b : List α} {q : Nat} (ha : a.length ≤ q) (hb : b.length ≤ q) (h : a.take q = b.take q) : a = b := by
  rwa [List.take_of_length_le ha, List.take_of_length_le hb] at h
theorem ne_at {α : Type} [Inhabited α] {a b : List α} {q : Nat} (h : a.getD q default ≠ b.getD q default) : a ≠ b := fun e => h (by rw [e])
theorem pr_eq (a b : Pr) : (a.k == b.k && (a.v == b.v && true)) = decide (a = b) := by
  cases a; cases b
  rw [Bool.eq_iff_iff]; simp
theorem ed_eq (a b : Ed) : (((a.block.toNat : Int) == (b.block.toNat : Int)) && (((a.deep.toNat : Int) == (b.deep.toNat : Int)) && ((a.strip == b.strip && (a.add == b.add && true)) && true))) = decide (a = b) := by
  rw [bvb, bvb]
  cases a; cases b
  rw [Bool.eq_iff_iff]; simp
theorem ms_eq (a b : Ms) : (((a.kind.toNat : Int) == (b.kind.toNat : Int)) && (a.key == b.key && (a.val == b.val && (((a.block.toNat : Int) == (b.block.toNat : Int)) && (((a.deep.toNat : Int) == (b.deep.toNat : Int)) && (a.add == b.add && true)))))) = decide (a = b) := by
  rw [bvb, bvb, kb]
  cases a; cases b
  rw [Bool.eq_iff_iff]; simp
theorem gAlikeP (a b : List Pr) (hl : a.length ≤ 1000000) (hl2 : b.length ≤ 1000000) : Good Try.prog 65 [.sh 2 (a.map Pr.av), .sh 2 (b.map Pr.av)] [] (.b (decide (a = b))) [] := by
  have la : (a.map Pr.av).length = a.length := by simp
  have lb : (b.map Pr.av).length = b.length := by simp
  refine Good.w tabOk mixed Try.func65 (N := 26) (by kernel_rfl) rfl (by (repeat (first | exact LE.nil | apply LE.cons)); done) (by (repeat (first | exact LE.nil | apply LE.cons)); done) fun D hD F => ?_
  repeat' (first
    | apply AO.nil
    | (apply AO.kIx; first | refine AO.sIxN (h := ?_) | refine AO.sIx (h := ?_) | refine AO.sP (h := ?_) | refine AO.sPi (h := ?_))
    | (apply AO.kAdd; refine AO.sAdd (h := ?_))
    | (apply AO.kP; first | refine AO.sP (h := ?_) | refine AO.sPi (h := ?_) | refine AO.sLoadB (h := ?_))
    | apply AW.seq
    | (apply AW.kR; refine AW.sR (h := ?_))
    | apply AW.skip
    | apply AW.block
    | apply AW.out
    | (apply AW.kE; refine AW.sE (h := ?_))
    | apply AW.label
    | (apply AW.kRd; refine AW.sRd (h := ?_))
    | ((first | (apply AW.kC; refine AW.sC (h1 := fun h => ?_) (h2 := fun h => ?_))) <;> (try (first | exact Bool.noConfusion h | exact absurd h (by decide) | (simp at h; done) | (rw [h]; try simp only [nrm] at h; try rw [h]; try (exfalso; omega)) | skip)))
    | (apply AR.kAny; first | (apply AR.kIx; first | refine AR.sIxN (h := ?_) | refine AR.sIx (h := ?_) | refine AR.sP (h := ?_) | refine AR.sPi (h := ?_)) | (apply AR.kAdd; refine AR.sAdd (h := ?_)) | (apply AR.kP; first | refine AR.sP (h := ?_) | refine AR.sPi (h := ?_)))
    | (apply AR.kNil; refine AR.sNil (h := ?_)))
  · (refine AW.ret (hD rfl ?_); (repeat' (first | apply Lx.s | apply Lx.b | apply Lx.i | apply LxL.cons | exact LxL.nil | apply Lx.tup | apply Lx.agg | apply Lx.refl)) <;> (try with_reducible rfl))
    have h : ((((a.map Pr.av).length : Nat) : Int) != (((b.map Pr.av).length : Nat) : Int)) = true := by assumption
    rw [bne_iff_ne] at h
    exact (decide_eq_false fun e => h (by rw [e])).symm
  · have h : ((((a.map Pr.av).length : Nat) : Int) != (((b.map Pr.av).length : Nat) : Int)) = false := by assumption
    rw [bne_eq_false_iff_eq] at h
    refine AW.loopI (fun q : Nat => q ≤ a.length ∧ a.take q = b.take q) (fun q => ⟨[(0, .sh 2 (a.map Pr.av)), (1, .sh 2 (b.map Pr.av)), (12, .i .i64 a.length), (13, .i .i64 q)], []⟩) (fun q => a.length - q) 0 (by simp) (by (constructor <;> (repeat' (first | exact LeT.nil | exact LeB.nil | apply LeT.cons | apply LeB.cons | exact Ol.refl | apply Lx.s | apply Lx.b | apply Lx.i | exact Lx.refl)) <;> (first | rfl | assumption | omega | (simp only [List.length_map, BS_len]; done) | skip))) fun m q ⟨hn, hc⟩ ih => ?_
    repeat' (first
    | apply AO.nil
    | (apply AO.kIx; first | refine AO.sIxN (h := ?_) | refine AO.sIx (h := ?_) | refine AO.sP (h := ?_) | refine AO.sPi (h := ?_))
    | (apply AO.kAdd; refine AO.sAdd (h := ?_))
    | (apply AO.kP; first | refine AO.sP (h := ?_) | refine AO.sPi (h := ?_) | refine AO.sLoadB (h := ?_))
    | apply AW.seq
    | (apply AW.kR; refine AW.sR (h := ?_))
    | apply AW.skip
    | apply AW.block
    | apply AW.out
    | (apply AW.kE; refine AW.sE (h := ?_))
    | apply AW.label
    | (apply AW.kRd; refine AW.sRd (h := ?_))
    | ((first | (apply AW.kC; refine AW.sC (h1 := fun h => ?_) (h2 := fun h => ?_))) <;> (try (first | exact Bool.noConfusion h | exact absurd h (by decide) | (simp at h; done) | (rw [h]; try simp only [nrm] at h; try rw [h]; try (exfalso; omega)) | skip)))
    | (apply AR.kAny; first | (apply AR.kIx; first | refine AR.sIxN (h := ?_) | refine AR.sIx (h := ?_) | refine AR.sP (h := ?_) | refine AR.sPi (h := ?_)) | (apply AR.kAdd; refine AR.sAdd (h := ?_)) | (apply AR.kP; first | refine AR.sP (h := ?_) | refine AR.sPi (h := ?_)))
    | (apply AR.kNil; refine AR.sNil (h := ?_)))
    · (refine AW.ret (hD rfl ?_); (repeat' (first | apply Lx.s | apply Lx.b | apply Lx.i | apply LxL.cons | exact LxL.nil | apply Lx.tup | apply Lx.agg | apply Lx.refl)) <;> (try with_reducible rfl))
      exact (decide_eq_false (ne_at fun e => by rw [pr_eq, decide_eq_true e] at h; cases h)).symm
    · have e : a.getD q default = b.getD q default := by rw [pr_eq] at h; exact of_decide_eq_true h
      exact ih (q + 1) _ ⟨by omega, take_step (by omega) (by omega) hc e⟩ (by omega) (by (constructor <;> (repeat' (first | exact LeT.nil | exact LeB.nil | apply LeT.cons | apply LeB.cons | exact Ol.refl | apply Lx.s | apply Lx.b | apply Lx.i | exact Lx.refl)) <;> (first | rfl | assumption | omega | (simp only [List.length_map, BS_len]; done) | skip)))
    · (refine AW.ret (hD rfl ?_); (repeat' (first | apply Lx.s | apply Lx.b | apply Lx.i | apply LxL.cons | exact LxL.nil | apply Lx.tup | apply Lx.agg | apply Lx.refl)) <;> (try with_reducible rfl))
      exact (decide_eq_true (take_all (by omega) (by omega) hc)).symm
theorem gAlikeS (a b : List L) (hl : a.length ≤ 1000000) (hl2 : b.length ≤ 1000000) : Good Try.prog 66 [.sh 1 (a.map sav), .sh 1 (b.map sav)] [] (.b (decide (a = b))) [] := by
  have la : (a.map sav).length = a.length := by simp
  have lb : (b.map sav).length = b.length := by simp
  refine Good.w tabOk mixed Try.func66 (N := 26) (by kernel_rfl) rfl (by (repeat (first | exact LE.nil | apply LE.cons)); done) (by (repeat (first | exact LE.nil | apply LE.cons)); done) fun D hD F => ?_
  repeat' (first
    | apply AO.nil
    | (apply AO.kIx; first | refine AO.sIxN (h := ?_) | refine AO.sIx (h := ?_) | refine AO.sP (h := ?_) | refine AO.sPi (h := ?_))
    | (apply AO.kAdd; refine AO.sAdd (h := ?_))
    | (apply AO.kP; first | refine AO.sP (h := ?_) | refine AO.sPi (h := ?_) | refine AO.sLoadB (h := ?_))
    | apply AW.seq
    | (apply AW.kR; refine AW.sR (h := ?_))
    | apply AW.skip
    | apply AW.block
    | apply AW.out
    | (apply AW.kE; refine AW.sE (h := ?_))
    | apply AW.label
    | (apply AW.kRd; refine AW.sRd (h := ?_))
    | ((first | (apply AW.kC; refine AW.sC (h1 := fun h => ?_) (h2 := fun h => ?_))) <;> (try (first | exact Bool.noConfusion h | exact absurd h (by decide) | (simp at h; done) | (rw [h]; try simp only [nrm] at h; try rw [h]; try (exfalso; omega)) | skip)))
    | (apply AR.kAny; first | (apply AR.kIx; first | refine AR.sIxN (h := ?_) | refine AR.sIx (h := ?_) | refine AR.sP (h := ?_) | refine AR.sPi (h := ?_)) | (apply AR.kAdd; refine AR.sAdd (h := ?_)) | (apply AR.kP; first | refine AR.sP (h := ?_) | refine AR.sPi (h := ?_)))
    | (apply AR.kNil; refine AR.sNil (h := ?_)))
  · (refine AW.ret (hD rfl ?_); (repeat' (first | apply Lx.s | apply Lx.b | apply Lx.i | apply LxL.cons | exact LxL.nil | apply Lx.tup | apply Lx.agg | apply Lx.refl)) <;> (try with_reducible rfl))
    have h : ((((a.map sav).length : Nat) : Int) != (((b.map sav).length : Nat) : Int)) = true := by assumption
    rw [bne_iff_ne] at h
    exact (decide_eq_false fun e => h (by rw [e])).symm
  · have h : ((((a.map sav).length : Nat) : Int) != (((b.map sav).length : Nat) : Int)) = false := by assumption
    rw [bne_eq_false_iff_eq] at h
    refine AW.loopI (fun q : Nat => q ≤ a.length ∧ a.take q = b.take q) (fun q => ⟨[(0, .sh 1 (a.map sav)), (1, .sh 1 (b.map sav)), (12, .i .i64 a.length), (13, .i .i64 q)], []⟩) (fun q => a.length - q) 0 (by simp) (by (constructor <;> (repeat' (first | exact LeT.nil | exact LeB.nil | apply LeT.cons | apply LeB.cons | exact Ol.refl | apply Lx.s | apply Lx.b | apply Lx.i | exact Lx.refl)) <;> (first | rfl | assumption | omega | (simp only [List.length_map, BS_len]; done) | skip))) fun m q ⟨hn, hc⟩ ih => ?_
    repeat' (first
    | apply AO.nil
    | (apply AO.kIx; first | refine AO.sIxN (h := ?_) | refine AO.sIx (h := ?_) | refine AO.sP (h := ?_) | refine AO.sPi (h := ?_))
    | (apply AO.kAdd; refine AO.sAdd (h := ?_))
    | (apply AO.kP; first | refine AO.sP (h := ?_) | refine AO.sPi (h := ?_) | refine AO.sLoadB (h := ?_))
    | apply AW.seq
    | (apply AW.kR; refine AW.sR (h := ?_))
    | apply AW.skip
    | apply AW.block
    | apply AW.out
    | (apply AW.kE; refine AW.sE (h := ?_))
    | apply AW.label
    | (apply AW.kRd; refine AW.sRd (h := ?_))
    | ((first | (apply AW.kC; refine AW.sC (h1 := fun h => ?_) (h2 := fun h => ?_))) <;> (try (first | exact Bool.noConfusion h | exact absurd h (by decide) | (simp at h; done) | (rw [h]; try simp only [nrm] at h; try rw [h]; try (exfalso; omega)) | skip)))
    | (apply AR.kAny; first | (apply AR.kIx; first | refine AR.sIxN (h := ?_) | refine AR.sIx (h := ?_) | refine AR.sP (h := ?_) | refine AR.sPi (h := ?_)) | (apply AR.kAdd; refine AR.sAdd (h := ?_)) | (apply AR.kP; first | refine AR.sP (h := ?_) | refine AR.sPi (h := ?_)))
    | (apply AR.kNil; refine AR.sNil (h := ?_)))
    · (refine AW.ret (hD rfl ?_); (repeat' (first | apply Lx.s | apply Lx.b | apply Lx.i | apply LxL.cons | exact LxL.nil | apply Lx.tup | apply Lx.agg | apply Lx.refl)) <;> (try with_reducible rfl))
      exact (decide_eq_false (ne_at h)).symm
    · exact ih (q + 1) _ ⟨by omega, take_step (by omega) (by omega) hc h⟩ (by omega) (by (constructor <;> (repeat' (first | exact LeT.nil | exact LeB.nil | apply LeT.cons | apply LeB.cons | exact Ol.refl | apply Lx.s | apply Lx.b | apply Lx.i | exact Lx.refl)) <;> (first | rfl | assumption | omega | (simp only [List.length_map, BS_len]; done) | skip)))
    · (refine AW.ret (hD rfl ?_); (repeat' (first | apply Lx.s | apply Lx.b | apply Lx.i | apply LxL.cons | exact LxL.nil | apply Lx.tup | apply Lx.agg | apply Lx.refl)) <;> (try with_reducible rfl))
      exact (decide_eq_true (take_all (by omega) (by omega) hc)).symm
theorem gAlikeE (a b : List Ed) (hl : a.length ≤ 1000000) (hl2 : b.length ≤ 1000000) : Good Try.prog 67 [.sh 4 (a.map Ed.av), .sh 4 (b.map Ed.av)] [] (.b (decide (a = b))) [] := by
  have la : (a.map Ed.av).length = a.length := by simp
  have lb : (b.map Ed.av).length = b.length := by simp
  refine Good.w tabOk mixed Try.func67 (N := 26) (by kernel_rfl) rfl (by (repeat (first | exact LE.nil | apply LE.cons)); done) (by (repeat (first | exact LE.nil | apply LE.cons)); done) fun D hD F => ?_
  repeat' (first
    | apply AO.nil
    | (apply AO.kIx; first | refine AO.sIxN (h := ?_) | refine AO.sIx (h := ?_) | refine AO.sP (h := ?_) | refine AO.sPi (h := ?_))
    | (apply AO.kAdd; refine AO.sAdd (h := ?_))
    | (apply AO.kP; first | refine AO.sP (h := ?_) | refine AO.sPi (h := ?_) | refine AO.sLoadB (h := ?_))
    | apply AW.seq
    | (apply AW.kR; refine AW.sR (h := ?_))
    | apply AW.skip
    | apply AW.block
    | apply AW.out
    | (apply AW.kE; refine AW.sE (h := ?_))
    | apply AW.label
    | (apply AW.kRd; refine AW.sRd (h := ?_))
    | ((first | (apply AW.kC; refine AW.sC (h1 := fun h => ?_) (h2 := fun h => ?_))) <;> (try (first | exact Bool.noConfusion h | exact absurd h (by decide) | (simp at h; done) | (rw [h]; try simp only [nrm] at h; try rw [h]; try (exfalso; omega)) | skip)))
    | (apply AR.kAny; first | (apply AR.kIx; first | refine AR.sIxN (h := ?_) | refine AR.sIx (h := ?_) | refine AR.sP (h := ?_) | refine AR.sPi (h := ?_)) | (apply AR.kAdd; refine AR.sAdd (h := ?_)) | (apply AR.kP; first | refine AR.sP (h := ?_) | refine AR.sPi (h := ?_)))
    | (apply AR.kNil; refine AR.sNil (h := ?_)))
  · (refine AW.ret (hD rfl ?_); (repeat' (first | apply Lx.s | apply Lx.b | apply Lx.i | apply LxL.cons | exact LxL.nil | apply Lx.tup | apply Lx.agg | apply Lx.refl)) <;> (try with_reducible rfl))
    have h : ((((a.map Ed.av).length : Nat) : Int) != (((b.map Ed.av).length : Nat) : Int)) = true := by assumption
    rw [bne_iff_ne] at h
    exact (decide_eq_false fun e => h (by rw [e])).symm
  · have h : ((((a.map Ed.av).length : Nat) : Int) != (((b.map Ed.av).length : Nat) : Int)) = false := by assumption
    rw [bne_eq_false_iff_eq] at h
    refine AW.loopI (fun q : Nat => q ≤ a.length ∧ a.take q = b.take q) (fun q => ⟨[(0, .sh 4 (a.map Ed.av)), (1, .sh 4 (b.map Ed.av)), (12, .i .i64 a.length), (13, .i .i64 q)], []⟩) (fun q => a.length - q) 0 (by simp) (by (constructor <;> (repeat' (first | exact LeT.nil | exact LeB.nil | apply LeT.cons | apply LeB.cons | exact Ol.refl | apply Lx.s | apply Lx.b | apply Lx.i | exact Lx.refl)) <;> (first | rfl | assumption | omega | (simp only [List.length_map, BS_len]; done) | skip))) fun m q ⟨hn, hc⟩ ih => ?_
    repeat' (first
    | apply AO.nil
    | (apply AO.kIx; first | refine AO.sIxN (h := ?_) | refine AO.sIx (h := ?_) | refine AO.sP (h := ?_) | refine AO.sPi (h := ?_))
    | (apply AO.kAdd; refine AO.sAdd (h := ?_))
    | (apply AO.kP; first | refine AO.sP (h := ?_) | refine AO.sPi (h := ?_) | refine AO.sLoadB (h := ?_))
    | apply AW.seq
    | (apply AW.kR; refine AW.sR (h := ?_))
    | apply AW.skip
    | apply AW.block
    | apply AW.out
    | (apply AW.kE; refine AW.sE (h := ?_))
    | apply AW.label
    | (apply AW.kRd; refine AW.sRd (h := ?_))
    | ((first | (apply AW.kC; refine AW.sC (h1 := fun h => ?_) (h2 := fun h => ?_))) <;> (try (first | exact Bool.noConfusion h | exact absurd h (by decide) | (simp at h; done) | (rw [h]; try simp only [nrm] at h; try rw [h]; try (exfalso; omega)) | skip)))
    | (apply AR.kAny; first | (apply AR.kIx; first | refine AR.sIxN (h := ?_) | refine AR.sIx (h := ?_) | refine AR.sP (h := ?_) | refine AR.sPi (h := ?_)) | (apply AR.kAdd; refine AR.sAdd (h := ?_)) | (apply AR.kP; first | refine AR.sP (h := ?_) | refine AR.sPi (h := ?_)))
    | (apply AR.kNil; refine AR.sNil (h := ?_)))
    · (refine AW.ret (hD rfl ?_); (repeat' (first | apply Lx.s | apply Lx.b | apply Lx.i | apply LxL.cons | exact LxL.nil | apply Lx.tup | apply Lx.agg | apply Lx.refl)) <;> (try with_reducible rfl))
      exact (decide_eq_false (ne_at fun e => by rw [ed_eq, decide_eq_true e] at h; cases h)).symm
    · have e : a.getD q default = b.getD q default := by rw [ed_eq] at h; exact of_decide_eq_true h
      exact ih (q + 1) _ ⟨by omega, take_step (by omega) (by omega) hc e⟩ (by omega) (by (constructor <;> (repeat' (first | exact LeT.nil | exact LeB.nil | apply LeT.cons | apply LeB.cons | exact Ol.refl | apply Lx.s | apply Lx.b | apply Lx.i | exact Lx.refl)) <;> (first | rfl | assumption | omega | (simp only [List.length_map, BS_len]; done) | skip)))
    · (refine AW.ret (hD rfl ?_); (repeat' (first | apply Lx.s | apply Lx.b | apply Lx.i | apply LxL.cons | exact LxL.nil | apply Lx.tup | apply Lx.agg | apply Lx.refl)) <;> (try with_reducible rfl))
      exact (decide_eq_true (take_all (by omega) (by omega) hc)).symm
theorem gAlikeM (a b : List Ms) (hl : a.length ≤ 1000000) (hl2 : b.length ≤ 1000000) : Good Try.prog 68 [.sh 6 (a.map Ms.av), .sh 6 (b.map Ms.av)] [] (.b (decide (a = b))) [] := by
  have la : (a.map Ms.av).length = a.length := by simp
  have lb : (b.map Ms.av).length = b.length := by simp
  refine Good.w tabOk mixed Try.func68 (N := 26) (by kernel_rfl) rfl (by (repeat (first | exact LE.nil | apply LE.cons)); done) (by (repeat (first | exact LE.nil | apply LE.cons)); done) fun D hD F => ?_
  repeat' (first
    | apply AO.nil
    | (apply AO.kIx; first | refine AO.sIxN (h := ?_) | refine AO.sIx (h := ?_) | refine AO.sP (h := ?_) | refine AO.sPi (h := ?_))
    | (apply AO.kAdd; refine AO.sAdd (h := ?_))
    | (apply AO.kP; first | refine AO.sP (h := ?_) | refine AO.sPi (h := ?_) | refine AO.sLoadB (h := ?_))
    | apply AW.seq
    | (apply AW.kR; refine AW.sR (h := ?_))
    | apply AW.skip
    | apply AW.block
    | apply AW.out
    | (apply AW.kE; refine AW.sE (h := ?_))
    | apply AW.label
    | (apply AW.kRd; refine AW.sRd (h := ?_))
    | ((first | (apply AW.kC; refine AW.sC (h1 := fun h => ?_) (h2 := fun h => ?_))) <;> (try (first | exact Bool.noConfusion h | exact absurd h (by decide) | (simp at h; done) | (rw [h]; try simp only [nrm] at h; try rw [h]; try (exfalso; omega)) | skip)))
    | (apply AR.kAny; first | (apply AR.kIx; first | refine AR.sIxN (h := ?_) | refine AR.sIx (h := ?_) | refine AR.sP (h := ?_) | refine AR.sPi (h := ?_)) | (apply AR.kAdd; refine AR.sAdd (h := ?_)) | (apply AR.kP; first | refine AR.sP (h := ?_) | refine AR.sPi (h := ?_)))
    | (apply AR.kNil; refine AR.sNil (h := ?_)))
  · (refine AW.ret (hD rfl ?_); (repeat' (first | apply Lx.s | apply Lx.b | apply Lx.i | apply LxL.cons | exact LxL.nil | apply Lx.tup | apply Lx.agg | apply Lx.refl)) <;> (try with_reducible rfl))
    have h : ((((a.map Ms.av).length : Nat) : Int) != (((b.map Ms.av).length : Nat) : Int)) = true := by assumption
    rw [bne_iff_ne] at h
    exact (decide_eq_false fun e => h (by rw [e])).symm
  · have h : ((((a.map Ms.av).length : Nat) : Int) != (((b.map Ms.av).length : Nat) : Int)) = false := by assumption
    rw [bne_eq_false_iff_eq] at h
    refine AW.loopI (fun q : Nat => q ≤ a.length ∧ a.take q = b.take q) (fun q => ⟨[(0, .sh 6 (a.map Ms.av)), (1, .sh 6 (b.map Ms.av)), (12, .i .i64 a.length), (13, .i .i64 q)], []⟩) (fun q => a.length - q) 0 (by simp) (by (constructor <;> (repeat' (first | exact LeT.nil | exact LeB.nil | apply LeT.cons | apply LeB.cons | exact Ol.refl | apply Lx.s | apply Lx.b | apply Lx.i | exact Lx.refl)) <;> (first | rfl | assumption | omega | (simp only [List.length_map, BS_len]; done) | skip))) fun m q ⟨hn, hc⟩ ih => ?_
    repeat' (first
    | apply AO.nil
    | (apply AO.kIx; first | refine AO.sIxN (h := ?_) | refine AO.sIx (h := ?_) | refine AO.sP (h := ?_) | refine AO.sPi (h := ?_))
    | (apply AO.kAdd; refine AO.sAdd (h := ?_))
    | (apply AO.kP; first | refine AO.sP (h := ?_) | refine AO.sPi (h := ?_) | refine AO.sLoadB (h := ?_))
    | apply AW.seq
    | (apply AW.kR; refine AW.sR (h := ?_))
    | apply AW.skip
    | apply AW.block
    | apply AW.out
    | (apply AW.kE; refine AW.sE (h := ?_))
    | apply AW.label
    | (apply AW.kRd; refine AW.sRd (h := ?_))
    | ((first | (apply AW.kC; refine AW.sC (h1 := fun h => ?_) (h2 := fun h => ?_))) <;> (try (first | exact Bool.noConfusion h | exact absurd h (by decide) | (simp at h; done) | (rw [h]; try simp only [nrm] at h; try rw [h]; try (exfalso; omega)) | skip)))
    | (apply AR.kAny; first | (apply AR.kIx; first | refine AR.sIxN (h := ?_) | refine AR.sIx (h := ?_) | refine AR.sP (h := ?_) | refine AR.sPi (h := ?_)) | (apply AR.kAdd; refine AR.sAdd (h := ?_)) | (apply AR.kP; first | refine AR.sP (h := ?_) | refine AR.sPi (h := ?_)))
    | (apply AR.kNil; refine AR.sNil (h := ?_)))
    · (refine AW.ret (hD rfl ?_); (repeat' (first | apply Lx.s | apply Lx.b | apply Lx.i | apply LxL.cons | exact LxL.nil | apply Lx.tup | apply Lx.agg | apply Lx.refl)) <;> (try with_reducible rfl))
      exact (decide_eq_false (ne_at fun e => by rw [ms_eq, decide_eq_true e] at h; cases h)).symm
    · have e : a.getD q default = b.getD q default := by rw [ms_eq] at h; exact of_decide_eq_true h
      exact ih (q + 1) _ ⟨by omega, take_step (by omega) (by omega) hc e⟩ (by omega) (by (constructor <;> (repeat' (first | exact LeT.nil | exact LeB.nil | apply LeT.cons | apply LeB.cons | exact Ol.refl | apply Lx.s | apply Lx.b | apply Lx.i | exact Lx.refl)) <;> (first | rfl | assumption | omega | (simp only [List.length_map, BS_len]; done) | skip)))
    · (refine AW.ret (hD rfl ?_); (repeat' (first | apply Lx.s | apply Lx.b | apply Lx.i | apply LxL.cons | exact LxL.nil | apply Lx.tup | apply Lx.agg | apply Lx.refl)) <;> (try with_reducible rfl))
      exact (decide_eq_true (take_all (by omega) (by omega) hc)).symm
theorem gSameP (a b : List Pr) (hl : a.length ≤ 1000000) (hl2 : b.length ≤ 1000000) : Good Try.prog 52 [.sh 2 (a.map Pr.av), .sh 2 (b.map Pr.av)] [] (.b (decide (a = b))) [] := by
  have la : (a.map Pr.av).length = a.length := by simp
  have lb : (b.map Pr.av).length = b.length := by simp
  refine Good.w tabOk mixed Try.func52 (N := 26) (by kernel_rfl) rfl (by (repeat (first | exact LE.nil | apply LE.cons)); done) (by (repeat (first | exact LE.nil | apply LE.cons)); done) fun D hD F => ?_
  repeat' (first
    | apply AO.nil
    | (apply AO.kIx; first | refine AO.sIxN (h := ?_) | refine AO.sIx (h := ?_) | refine AO.sP (h := ?_) | refine AO.sPi (h := ?_))
    | (apply AO.kAdd; refine AO.sAdd (h := ?_))
    | (apply AO.kP; first | refine AO.sP (h := ?_) | refine AO.sPi (h := ?_) | refine AO.sLoadB (h := ?_))
    | apply AW.seq
    | (apply AW.kR; refine AW.sR (h := ?_))
    | apply AW.skip
    | apply AW.block
    | apply AW.out
    | (apply AW.kE; refine AW.sE (h := ?_))
    | apply AW.label
    | (apply AW.kRd; refine AW.sRd (h := ?_))
    | ((first | (apply AW.kC; refine AW.sC (h1 := fun h => ?_) (h2 := fun h => ?_))) <;> (try (first | exact Bool.noConfusion h | exact absurd h (by decide) | (simp at h; done) | (rw [h]; try simp only [nrm] at h; try rw [h]; try (exfalso; omega)) | skip)))
    | (apply AR.kAny; first | (apply AR.kIx; first | refine AR.sIxN (h := ?_) | refine AR.sIx (h := ?_) | refine AR.sP (h := ?_) | refine AR.sPi (h := ?_)) | (apply AR.kAdd; refine AR.sAdd (h := ?_)) | (apply AR.kP; first | refine AR.sP (h := ?_) | refine AR.sPi (h := ?_)))
    | (apply AR.kNil; refine AR.sNil (h := ?_)))
  · (refine AW.ret (hD rfl ?_); (repeat' (first | apply Lx.s | apply Lx.b | apply Lx.i | apply LxL.cons | exact LxL.nil | apply Lx.tup | apply Lx.agg | apply Lx.refl)) <;> (try with_reducible rfl))
    have h : ((((a.map Pr.av).length : Nat) : Int) != (((b.map Pr.av).length : Nat) : Int)) = true := by assumption
    rw [bne_iff_ne] at h
    exact (decide_eq_false fun e => h (by rw [e])).symm
  · have h : ((((a.map Pr.av).length : Nat) : Int) != (((b.map Pr.av).length : Nat) : Int)) = false := by assumption
    rw [bne_eq_false_iff_eq] at h
    refine AW.loopI (fun q : Nat => q ≤ a.length ∧ a.take q = b.take q) (fun q => ⟨[(0, .sh 2 (a.map Pr.av)), (1, .sh 2 (b.map Pr.av)), (12, .i .i64 a.length), (13, .i .i64 q)], []⟩) (fun q => a.length - q) 0 (by simp) (by (constructor <;> (repeat' (first | exact LeT.nil | exact LeB.nil | apply LeT.cons | apply LeB.cons | exact Ol.refl | apply Lx.s | apply Lx.b | apply Lx.i | exact Lx.refl)) <;> (first | rfl | assumption | omega | (simp only [List.length_map, BS_len]; done) | skip))) fun m q ⟨hn, hc⟩ ih => ?_
    repeat' (first
    | apply AO.nil
    | (apply AO.kIx; first | refine AO.sIxN (h := ?_) | refine AO.sIx (h := ?_) | refine AO.sP (h := ?_) | refine AO.sPi (h := ?_))
    | (apply AO.kAdd; refine AO.sAdd (h := ?_))
    | (apply AO.kP; first | refine AO.sP (h := ?_) | refine AO.sPi (h := ?_) | refine AO.sLoadB (h := ?_))
    | apply AW.seq
    | (apply AW.kR; refine AW.sR (h := ?_))
    | apply AW.skip
    | apply AW.block
    | apply AW.out
    | (apply AW.kE; refine AW.sE (h := ?_))
    | apply AW.label
    | (apply AW.kRd; refine AW.sRd (h := ?_))
    | ((first | (apply AW.kC; refine AW.sC (h1 := fun h => ?_) (h2 := fun h => ?_))) <;> (try (first | exact Bool.noConfusion h | exact absurd h (by decide) | (simp at h; done) | (rw [h]; try simp only [nrm] at h; try rw [h]; try (exfalso; omega)) | skip)))
    | (apply AR.kAny; first | (apply AR.kIx; first | refine AR.sIxN (h := ?_) | refine AR.sIx (h := ?_) | refine AR.sP (h := ?_) | refine AR.sPi (h := ?_)) | (apply AR.kAdd; refine AR.sAdd (h := ?_)) | (apply AR.kP; first | refine AR.sP (h := ?_) | refine AR.sPi (h := ?_)))
    | (apply AR.kNil; refine AR.sNil (h := ?_)))
    · (refine AW.ret (hD rfl ?_); (repeat' (first | apply Lx.s | apply Lx.b | apply Lx.i | apply LxL.cons | exact LxL.nil | apply Lx.tup | apply Lx.agg | apply Lx.refl)) <;> (try with_reducible rfl))
      exact (decide_eq_false (ne_at fun e => by rw [pr_eq, decide_eq_true e] at h; cases h)).symm
    · have e : a.getD q default = b.getD q default := by rw [pr_eq] at h; exact of_decide_eq_true h
      exact ih (q + 1) _ ⟨by omega, take_step (by omega) (by omega) hc e⟩ (by omega) (by (constructor <;> (repeat' (first | exact LeT.nil | exact LeB.nil | apply LeT.cons | apply LeB.cons | exact Ol.refl | apply Lx.s | apply Lx.b | apply Lx.i | exact Lx.refl)) <;> (first | rfl | assumption | omega | (simp only [List.length_map, BS_len]; done) | skip)))
    · (refine AW.ret (hD rfl ?_); (repeat' (first | apply Lx.s | apply Lx.b | apply Lx.i | apply LxL.cons | exact LxL.nil | apply Lx.tup | apply Lx.agg | apply Lx.refl)) <;> (try with_reducible rfl))
      exact (decide_eq_true (take_all (by omega) (by omega) hc)).symm
theorem gSameM (a b : List Ms) (hl : a.length ≤ 1000000) (hl2 : b.length ≤ 1000000) : Good Try.prog 53 [.sh 6 (a.map Ms.av), .sh 6 (b.map Ms.av)] [] (.b (decide (a = b))) [] := by
  have la : (a.map Ms.av).length = a.length := by simp
  have lb : (b.map Ms.av).length = b.length := by simp
  refine Good.w tabOk mixed Try.func53 (N := 26) (by kernel_rfl) rfl (by (repeat (first | exact LE.nil | apply LE.cons)); done) (by (repeat (first | exact LE.nil | apply LE.cons)); done) fun D hD F => ?_
  repeat' (first
    | apply AO.nil
    | (apply AO.kIx; first | refine AO.sIxN (h := ?_) | refine AO.sIx (h := ?_) | refine AO.sP (h := ?_) | refine AO.sPi (h := ?_))
    | (apply AO.kAdd; refine AO.sAdd (h := ?_))
    | (apply AO.kP; first | refine AO.sP (h := ?_) | refine AO.sPi (h := ?_) | refine AO.sLoadB (h := ?_))
    | apply AW.seq
    | (apply AW.kR; refine AW.sR (h := ?_))
    | apply AW.skip
    | apply AW.block
    | apply AW.out
    | (apply AW.kE; refine AW.sE (h := ?_))
    | apply AW.label
    | (apply AW.kRd; refine AW.sRd (h := ?_))
    | ((first | (apply AW.kC; refine AW.sC (h1 := fun h => ?_) (h2 := fun h => ?_))) <;> (try (first | exact Bool.noConfusion h | exact absurd h (by decide) | (simp at h; done) | (rw [h]; try simp only [nrm] at h; try rw [h]; try (exfalso; omega)) | skip)))
    | (apply AR.kAny; first | (apply AR.kIx; first | refine AR.sIxN (h := ?_) | refine AR.sIx (h := ?_) | refine AR.sP (h := ?_) | refine AR.sPi (h := ?_)) | (apply AR.kAdd; refine AR.sAdd (h := ?_)) | (apply AR.kP; first | refine AR.sP (h := ?_) | refine AR.sPi (h := ?_)))
    | (apply AR.kNil; refine AR.sNil (h := ?_)))
  · (refine AW.ret (hD rfl ?_); (repeat' (first | apply Lx.s | apply Lx.b | apply Lx.i | apply LxL.cons | exact LxL.nil | apply Lx.tup | apply Lx.agg | apply Lx.refl)) <;> (try with_reducible rfl))
    have h : ((((a.map Ms.av).length : Nat) : Int) != (((b.map Ms.av).length : Nat) : Int)) = true := by assumption
    rw [bne_iff_ne] at h
    exact (decide_eq_false fun e => h (by rw [e])).symm
  · have h : ((((a.map Ms.av).length : Nat) : Int) != (((b.map Ms.av).length : Nat) : Int)) = false := by assumption
    rw [bne_eq_false_iff_eq] at h
    refine AW.loopI (fun q : Nat => q ≤ a.length ∧ a.take q = b.take q) (fun q => ⟨[(0, .sh 6 (a.map Ms.av)), (1, .sh 6 (b.map Ms.av)), (12, .i .i64 a.length), (13, .i .i64 q)], []⟩) (fun q => a.length - q) 0 (by simp) (by (constructor <;> (repeat' (first | exact LeT.nil | exact LeB.nil | apply LeT.cons | apply LeB.cons | exact Ol.refl | apply Lx.s | apply Lx.b | apply Lx.i | exact Lx.refl)) <;> (first | rfl | assumption | omega | (simp only [List.length_map, BS_len]; done) | skip))) fun m q ⟨hn, hc⟩ ih => ?_
    repeat' (first
    | apply AO.nil
    | (apply AO.kIx; first | refine AO.sIxN (h := ?_) | refine AO.sIx (h := ?_) | refine AO.sP (h := ?_) | refine AO.sPi (h := ?_))
    | (apply AO.kAdd; refine AO.sAdd (h := ?_))
    | (apply AO.kP; first | refine AO.sP (h := ?_) | refine AO.sPi (h := ?_) | refine AO.sLoadB (h := ?_))
    | apply AW.seq
    | (apply AW.kR; refine AW.sR (h := ?_))
    | apply AW.skip
    | apply AW.block
    | apply AW.out
    | (apply AW.kE; refine AW.sE (h := ?_))
    | apply AW.label
    | (apply AW.kRd; refine AW.sRd (h := ?_))
    | ((first | (apply AW.kC; refine AW.sC (h1 := fun h => ?_) (h2 := fun h => ?_))) <;> (try (first | exact Bool.noConfusion h | exact absurd h (by decide) | (simp at h; done) | (rw [h]; try simp only [nrm] at h; try rw [h]; try (exfalso; omega)) | skip)))
    | (apply AR.kAny; first | (apply AR.kIx; first | refine AR.sIxN (h := ?_) | refine AR.sIx (h := ?_) | refine AR.sP (h := ?_) | refine AR.sPi (h := ?_)) | (apply AR.kAdd; refine AR.sAdd (h := ?_)) | (apply AR.kP; first | refine AR.sP (h := ?_) | refine AR.sPi (h := ?_)))
    | (apply AR.kNil; refine AR.sNil (h := ?_)))
    · (refine AW.ret (hD rfl ?_); (repeat' (first | apply Lx.s | apply Lx.b | apply Lx.i | apply LxL.cons | exact LxL.nil | apply Lx.tup | apply Lx.agg | apply Lx.refl)) <;> (try with_reducible rfl))
      exact (decide_eq_false (ne_at fun e => by rw [ms_eq, decide_eq_true e] at h; cases h)).symm
    · have e : a.getD q default = b.getD q default := by rw [ms_eq] at h; exact of_decide_eq_true h
      exact ih (q + 1) _ ⟨by omega, take_step (by omega) (by omega) hc e⟩ (by omega) (by (constructor <;> (repeat' (first | exact LeT.nil | exact LeB.nil | apply LeT.cons | apply LeB.cons | exact Ol.refl | apply Lx.s | apply Lx.b | apply Lx.i | exact Lx.refl)) <;> (first | rfl | assumption | omega | (simp only [List.length_map, BS_len]; done) | skip)))
    · (refine AW.ret (hD rfl ?_); (repeat' (first | apply Lx.s | apply Lx.b | apply Lx.i | apply LxL.cons | exact LxL.nil | apply Lx.tup | apply Lx.agg | apply Lx.refl)) <;> (try with_reducible rfl))
      exact (decide_eq_true (take_all (by omega) (by omega) hc)).symm
theorem gGreatP (l : List Pr) (hl : l.length ≤ 9223372036854775807) : Good Try.prog 42 [.sh 2 (l.map Pr.av)] [] (.b (greatP l)) [] := by
  have ll : (l.map Pr.av).length = l.length := by simp
  refine Good.w tabOk mixed Try.func42 (N := 29) (by kernel_rfl) rfl (by (repeat (first | exact LE.nil | apply LE.cons)); done) (by (repeat (first | exact LE.nil | apply LE.cons)); done) fun D hD F => ?_
  repeat' (first
    | apply AO.nil
    | (apply AO.kIx; first | refine AO.sIxN (h := ?_) | refine AO.sIx (h := ?_) | refine AO.sP (h := ?_) | refine AO.sPi (h := ?_))
    | (apply AO.kAdd; refine AO.sAdd (h := ?_))
    | (apply AO.kP; first | refine AO.sP (h := ?_) | refine AO.sPi (h := ?_) | refine AO.sLoadB (h := ?_))
    | apply AW.seq
    | (apply AW.kR; refine AW.sR (h := ?_))
    | apply AW.skip
    | apply AW.block
    | apply AW.out
    | (apply AW.kE; refine AW.sE (h := ?_))
    | apply AW.label
    | ((first | (apply AO.kG; first | refine AO.sgt (h1 := fun h => ?_) (h2 := fun h => ?_) | refine AO.sgf (h1 := fun h => ?_) (h2 := fun h => ?_) | refine AO.sgs (h := ?_)) | (apply AW.kC; refine AW.sC (h1 := fun h => ?_) (h2 := fun h => ?_))) <;> (try (first | exact Bool.noConfusion h | exact absurd h (by decide) | (simp at h; done) | (rw [h]; try simp only [nrm] at h; try rw [h]; try (exfalso; omega)) | skip))))
  · (refine AW.ret (hD rfl ?_); (repeat' (first | apply Lx.s | apply Lx.b | apply Lx.i | apply LxL.cons | exact LxL.nil | apply Lx.tup | apply Lx.agg | apply Lx.refl)) <;> (try with_reducible rfl))
    simp [greatP, show 60 < l.length by omega]
  · have h0 : greatP l = !l.all prG := by simp [greatP, show ¬ 60 < l.length by omega]
    refine AW.loopI (fun q : Nat => q ≤ l.length ∧ (l.take q).all prG = true) (fun q => ⟨[(0, .sh 2 (l.map Pr.av)), (8, .i .i64 l.length), (9, .i .i64 q)], []⟩) (fun q => l.length - q) 0 (by simp) (by (constructor <;> (repeat' (first | exact LeT.nil | exact LeB.nil | apply LeT.cons | apply LeB.cons | exact Ol.refl | apply Lx.s | apply Lx.b | apply Lx.i | exact Lx.refl)) <;> (first | rfl | assumption | omega | (simp only [List.length_map, BS_len]; done) | skip))) fun m q ⟨hn, hc⟩ ih => ?_
    repeat' (first
    | apply AO.nil
    | (apply AO.kIx; first | refine AO.sIxN (h := ?_) | refine AO.sIx (h := ?_) | refine AO.sP (h := ?_) | refine AO.sPi (h := ?_))
    | (apply AO.kAdd; refine AO.sAdd (h := ?_))
    | (apply AO.kP; first | refine AO.sP (h := ?_) | refine AO.sPi (h := ?_) | refine AO.sLoadB (h := ?_))
    | apply AW.seq
    | (apply AW.kR; refine AW.sR (h := ?_))
    | apply AW.skip
    | apply AW.block
    | apply AW.out
    | (apply AW.kE; refine AW.sE (h := ?_))
    | apply AW.label
    | ((first | (apply AO.kG; first | refine AO.sgt (h1 := fun h => ?_) (h2 := fun h => ?_) | refine AO.sgf (h1 := fun h => ?_) (h2 := fun h => ?_) | refine AO.sgs (h := ?_)) | (apply AW.kC; refine AW.sC (h1 := fun h => ?_) (h2 := fun h => ?_))) <;> (try (first | exact Bool.noConfusion h | exact absurd h (by decide) | (simp at h; done) | (rw [h]; try simp only [nrm] at h; try rw [h]; try (exfalso; omega)) | skip))))
    · (refine AW.ret (hD rfl ?_); (repeat' (first | apply Lx.s | apply Lx.b | apply Lx.i | apply LxL.cons | exact LxL.nil | apply Lx.tup | apply Lx.agg | apply Lx.refl)) <;> (try with_reducible rfl))
      rw [h0, all_fail (by omega : q < l.length) (by simp only [prG, Bool.and_eq_false_iff, Bool.not_eq_false', decide_eq_true_eq]; omega)]; rfl
    · exact ih (q + 1) _ ⟨by omega, all_step (by omega) hc (by simp only [prG, Bool.and_eq_true, Bool.not_eq_true', decide_eq_false_iff_not]; omega)⟩ (by omega) (by (constructor <;> (repeat' (first | exact LeT.nil | exact LeB.nil | apply LeT.cons | apply LeB.cons | exact Ol.refl | apply Lx.s | apply Lx.b | apply Lx.i | exact Lx.refl)) <;> (first | rfl | assumption | omega | (simp only [List.length_map, BS_len]; done) | skip)))
    · (refine AW.ret (hD rfl ?_); (repeat' (first | apply Lx.s | apply Lx.b | apply Lx.i | apply LxL.cons | exact LxL.nil | apply Lx.tup | apply Lx.agg | apply Lx.refl)) <;> (try with_reducible rfl))
      rw [h0, all_fail (by omega : q < l.length) (by simp only [prG, Bool.and_eq_false_iff, Bool.not_eq_false', decide_eq_true_eq]; omega)]; rfl
    · (refine AW.ret (hD rfl ?_); (repeat' (first | apply Lx.s | apply Lx.b | apply Lx.i | apply LxL.cons | exact LxL.nil | apply Lx.tup | apply Lx.agg | apply Lx.refl)) <;> (try with_reducible rfl))
      rw [h0, all_done (by omega) hc]; rfl
theorem gGreatM (l : List Ms) (hl : l.length ≤ 9223372036854775807) : Good Try.prog 43 [.sh 6 (l.map Ms.av)] [] (.b (greatM l)) [] := by
  have ll : (l.map Ms.av).length = l.length := by simp
  refine Good.w tabOk mixed Try.func43 (N := 38) (by kernel_rfl) rfl (by (repeat (first | exact LE.nil | apply LE.cons)); done) (by (repeat (first | exact LE.nil | apply LE.cons)); done) fun D hD F => ?_
  repeat' (first
    | apply AO.nil
    | (apply AO.kIx; first | refine AO.sIxN (h := ?_) | refine AO.sIx (h := ?_) | refine AO.sP (h := ?_) | refine AO.sPi (h := ?_))
    | (apply AO.kAdd; refine AO.sAdd (h := ?_))
    | (apply AO.kP; first | refine AO.sP (h := ?_) | refine AO.sPi (h := ?_) | refine AO.sLoadB (h := ?_))
    | apply AW.seq
    | (apply AW.kR; refine AW.sR (h := ?_))
    | apply AW.skip
    | apply AW.block
    | apply AW.out
    | (apply AW.kE; refine AW.sE (h := ?_))
    | apply AW.label
    | ((first | (apply AO.kG; first | refine AO.sgt (h1 := fun h => ?_) (h2 := fun h => ?_) | refine AO.sgf (h1 := fun h => ?_) (h2 := fun h => ?_) | refine AO.sgs (h := ?_)) | (apply AW.kC; refine AW.sC (h1 := fun h => ?_) (h2 := fun h => ?_))) <;> (try (first | exact Bool.noConfusion h | exact absurd h (by decide) | (simp at h; done) | (rw [h]; try simp only [nrm] at h; try rw [h]; try (exfalso; omega)) | skip))))
  · (refine AW.ret (hD rfl ?_); (repeat' (first | apply Lx.s | apply Lx.b | apply Lx.i | apply LxL.cons | exact LxL.nil | apply Lx.tup | apply Lx.agg | apply Lx.refl)) <;> (try with_reducible rfl))
    simp [greatM, show 60 < l.length by omega]
  · have h0 : greatM l = !l.all msG := by simp [greatM, show ¬ 60 < l.length by omega]
    refine AW.loopI (fun q : Nat => q ≤ l.length ∧ (l.take q).all msG = true) (fun q => ⟨[(0, .sh 6 (l.map Ms.av)), (8, .i .i64 l.length), (9, .i .i64 q)], []⟩) (fun q => l.length - q) 0 (by simp) (by (constructor <;> (repeat' (first | exact LeT.nil | exact LeB.nil | apply LeT.cons | apply LeB.cons | exact Ol.refl | apply Lx.s | apply Lx.b | apply Lx.i | exact Lx.refl)) <;> (first | rfl | assumption | omega | (simp only [List.length_map, BS_len]; done) | skip))) fun m q ⟨hn, hc⟩ ih => ?_
    repeat' (first
    | apply AO.nil
    | (apply AO.kIx; first | refine AO.sIxN (h := ?_) | refine AO.sIx (h := ?_) | refine AO.sP (h := ?_) | refine AO.sPi (h := ?_))
    | (apply AO.kAdd; refine AO.sAdd (h := ?_))
    | (apply AO.kP; first | refine AO.sP (h := ?_) | refine AO.sPi (h := ?_) | refine AO.sLoadB (h := ?_))
    | apply AW.seq
    | (apply AW.kR; refine AW.sR (h := ?_))
    | apply AW.skip
    | apply AW.block
    | apply AW.out
    | (apply AW.kE; refine AW.sE (h := ?_))
    | apply AW.label
    | ((first | (apply AO.kG; first | refine AO.sgt (h1 := fun h => ?_) (h2 := fun h => ?_) | refine AO.sgf (h1 := fun h => ?_) (h2 := fun h => ?_) | refine AO.sgs (h := ?_)) | (apply AW.kC; refine AW.sC (h1 := fun h => ?_) (h2 := fun h => ?_))) <;> (try (first | exact Bool.noConfusion h | exact absurd h (by decide) | (simp at h; done) | (rw [h]; try simp only [nrm] at h; try rw [h]; try (exfalso; omega)) | skip))))
    · (refine AW.ret (hD rfl ?_); (repeat' (first | apply Lx.s | apply Lx.b | apply Lx.i | apply LxL.cons | exact LxL.nil | apply Lx.tup | apply Lx.agg | apply Lx.refl)) <;> (try with_reducible rfl))
      rw [h0, all_fail (by omega : q < l.length) (by simp only [msG, Bool.and_eq_false_iff, Bool.not_eq_false', decide_eq_true_eq]; omega)]; rfl
    · exact ih (q + 1) _ ⟨by omega, all_step (by omega) hc (by simp only [msG, Bool.and_eq_true, Bool.not_eq_true', decide_eq_false_iff_not]; omega)⟩ (by omega) (by (constructor <;> (repeat' (first | exact LeT.nil | exact LeB.nil | apply LeT.cons | apply LeB.cons | exact Ol.refl | apply Lx.s | apply Lx.b | apply Lx.i | exact Lx.refl)) <;> (first | rfl | assumption | omega | (simp only [List.length_map, BS_len]; done) | skip)))
    · (refine AW.ret (hD rfl ?_); (repeat' (first | apply Lx.s | apply Lx.b | apply Lx.i | apply LxL.cons | exact LxL.nil | apply Lx.tup | apply Lx.agg | apply Lx.refl)) <;> (try with_reducible rfl))
      rw [h0, all_fail (by omega : q < l.length) (by simp only [msG, Bool.and_eq_false_iff, Bool.not_eq_false', decide_eq_true_eq]; omega)]; rfl
    · (refine AW.ret (hD rfl ?_); (repeat' (first | apply Lx.s | apply Lx.b | apply Lx.i | apply LxL.cons | exact LxL.nil | apply Lx.tup | apply Lx.agg | apply Lx.refl)) <;> (try with_reducible rfl))
      rw [h0, all_fail (by omega : q < l.length) (by simp only [msG, Bool.and_eq_false_iff, Bool.not_eq_false', decide_eq_true_eq]; omega)]; rfl
    · (refine AW.ret (hD rfl ?_); (repeat' (first | apply Lx.s | apply Lx.b | apply Lx.i | apply LxL.cons | exact LxL.nil | apply Lx.tup | apply Lx.agg | apply Lx.refl)) <;> (try with_reducible rfl))
      rw [h0, all_done (by omega) hc]; rfl
theorem gGreat (n : Nd) (hs : n.fits) : Good Try.prog 14 [.agg n.av] [] (.b (great n)) [] := by
  obtain ⟨leaf, pairs, pivots, kids, buf⟩ := n
  have hs1 : pairs.length ≤ 9223372036854775807 := hs.pairs
  have hs2 : pivots.length ≤ 9223372036854775807 := hs.pivots
  have hs3 : kids.length ≤ 9223372036854775807 := hs.kids
  have hs4 : buf.length ≤ 9223372036854775807 := hs.buf
  have l1 : (pairs.map Pr.av).length = pairs.length := by simp
  have l2 : (pivots.map sav).length = pivots.length := by simp
  have l3 : (kids.map Ed.av).length = kids.length := by simp
  have l4 : (buf.map Ms.av).length = buf.length := by simp
  clear hs
  refine Good.w tabOk mixed Try.func14 (N := 66) (by kernel_rfl) rfl (by (repeat (first | exact LE.nil | apply LE.cons)); done) (by (repeat (first | exact LE.nil | apply LE.cons)); done) fun D hD F => ?_
  repeat' (first
    | apply AO.nil
    | (apply AO.kCall 42; refine AO.sCall (hg := (gGreatP _ sd)) (h := ?_))
    | (apply AO.kCall 43; refine AO.sCall (hg := (gGreatM _ sd)) (h := ?_))
    | (apply AO.kIx; first | refine AO.sIxN (h := ?_) | refine AO.sIx (h := ?_) | refine AO.sP (h := ?_) | refine AO.sPi (h := ?_))
    | (apply AO.kBox; refine AO.sBox (h := ?_))
    | (apply AO.kAdd; refine AO.sAdd (h := ?_))
    | (apply AO.kP; first | refine AO.sP (h := ?_) | refine AO.sPi (h := ?_) | refine AO.sLoadB (h := ?_))
    | apply AW.seq
    | (apply AW.kR; refine AW.sR (h := ?_))
    | apply AW.skip
    | apply AW.block
    | apply AW.out
    | (apply AW.kE; refine AW.sE (h := ?_))
    | apply AW.label
    | ((first | (apply AO.kG; first | refine AO.sgt (h1 := fun h => ?_) (h2 := fun h => ?_) | refine AO.sgf (h1 := fun h => ?_) (h2 := fun h => ?_) | refine AO.sgs (h := ?_)) | (apply AW.kC; refine AW.sC (h1 := fun h => ?_) (h2 := fun h => ?_))) <;> (try (first | exact Bool.noConfusion h | exact absurd h (by decide) | (simp at h; done) | (rw [h]; try simp only [nrm] at h; try rw [h]; try (exfalso; omega)) | skip))))
  · (refine AW.ret (hD rfl ?_); (repeat' (first | apply Lx.s | apply Lx.b | apply Lx.i | apply LxL.cons | exact LxL.nil | apply Lx.tup | apply Lx.agg | apply Lx.refl)) <;> (try with_reducible rfl))
    rename_i h
    simp [great, h]
  · have hg1 : greatP pairs = false := by assumption
    have hg2 : greatM buf = false := by assumption
    have h0 : great ⟨leaf, pairs, pivots, kids, buf⟩ = (!pivots.all svG || !kids.all edG) := by
      simp [great, hg1, hg2, show ¬ 60 < pivots.length by omega, show ¬ 60 < kids.length by omega]
    refine AW.loopI (fun q : Nat => q ≤ pivots.length ∧ (pivots.take q).all svG = true) (fun q => ⟨[(1, .ptr 1 0), (27, .i .i64 pivots.length), (28, .i .i64 q)], [(1, .bx (Nd.av ⟨leaf, pairs, pivots, kids, buf⟩))]⟩) (fun q => pivots.length - q) 0 (by simp) (by (constructor <;> (repeat' (first | exact LeT.nil | exact LeB.nil | apply LeT.cons | apply LeB.cons | exact Ol.refl | apply Lx.s | apply Lx.b | apply Lx.i | exact Lx.refl)) <;> (first | rfl | assumption | omega | (simp only [List.length_map, BS_len]; done) | skip))) fun m q ⟨hn, hc⟩ ih => ?_
    repeat' (first
    | apply AO.nil
    | (apply AO.kIx; first | refine AO.sIxN (h := ?_) | refine AO.sIx (h := ?_) | refine AO.sP (h := ?_) | refine AO.sPi (h := ?_))
    | (apply AO.kBox; refine AO.sBox (h := ?_))
    | (apply AO.kAdd; refine AO.sAdd (h := ?_))
    | (apply AO.kP; first | refine AO.sP (h := ?_) | refine AO.sPi (h := ?_) | refine AO.sLoadB (h := ?_))
    | apply AW.seq
    | (apply AW.kR; refine AW.sR (h := ?_))
    | apply AW.skip
    | apply AW.block
    | apply AW.out
    | (apply AW.kE; refine AW.sE (h := ?_))
    | apply AW.label
    | ((first | (apply AO.kG; first | refine AO.sgt (h1 := fun h => ?_) (h2 := fun h => ?_) | refine AO.sgf (h1 := fun h => ?_) (h2 := fun h => ?_) | refine AO.sgs (h := ?_)) | (apply AW.kC; refine AW.sC (h1 := fun h => ?_) (h2 := fun h => ?_))) <;> (try (first | exact Bool.noConfusion h | exact absurd h (by decide) | (simp at h; done) | (rw [h]; try simp only [nrm] at h; try rw [h]; try (exfalso; omega)) | skip))))
    · (refine AW.ret (hD rfl ?_); (repeat' (first | apply Lx.s | apply Lx.b | apply Lx.i | apply LxL.cons | exact LxL.nil | apply Lx.tup | apply Lx.agg | apply Lx.refl)) <;> (try with_reducible rfl))
      rw [h0, all_fail (by omega : q < pivots.length) (by simp only [svG, Bool.not_eq_false', decide_eq_true_eq]; omega)]; rfl
    · exact ih (q + 1) _ ⟨by omega, all_step (by omega) hc (by simp only [svG, Bool.not_eq_true', decide_eq_false_iff_not]; omega)⟩ (by omega) (by (constructor <;> (repeat' (first | exact LeT.nil | exact LeB.nil | apply LeT.cons | apply LeB.cons | exact Ol.refl | apply Lx.s | apply Lx.b | apply Lx.i | exact Lx.refl)) <;> (first | rfl | assumption | omega | (simp only [List.length_map, BS_len]; done) | skip)))
    · rw [all_done (by omega) hc] at h0
      refine AW.loopI (fun q : Nat => q ≤ kids.length ∧ (kids.take q).all edG = true) (fun q => ⟨[(1, .ptr 1 0), (41, .i .i64 kids.length), (42, .i .i64 q)], [(1, .bx (Nd.av ⟨leaf, pairs, pivots, kids, buf⟩))]⟩) (fun q => kids.length - q) 0 (by simp) (by (constructor <;> (repeat' (first | exact LeT.nil | exact LeB.nil | apply LeT.cons | apply LeB.cons | exact Ol.refl | apply Lx.s | apply Lx.b | apply Lx.i | exact Lx.refl)) <;> (first | rfl | assumption | omega | (simp only [List.length_map, BS_len]; done) | skip))) fun m2 q2 ⟨hn2, hc2⟩ ih2 => ?_
      repeat' (first
    | apply AO.nil
    | (apply AO.kIx; first | refine AO.sIxN (h := ?_) | refine AO.sIx (h := ?_) | refine AO.sP (h := ?_) | refine AO.sPi (h := ?_))
    | (apply AO.kBox; refine AO.sBox (h := ?_))
    | (apply AO.kAdd; refine AO.sAdd (h := ?_))
    | (apply AO.kP; first | refine AO.sP (h := ?_) | refine AO.sPi (h := ?_) | refine AO.sLoadB (h := ?_))
    | apply AW.seq
    | (apply AW.kR; refine AW.sR (h := ?_))
    | apply AW.skip
    | apply AW.block
    | apply AW.out
    | (apply AW.kE; refine AW.sE (h := ?_))
    | apply AW.label
    | ((first | (apply AO.kG; first | refine AO.sgt (h1 := fun h => ?_) (h2 := fun h => ?_) | refine AO.sgf (h1 := fun h => ?_) (h2 := fun h => ?_) | refine AO.sgs (h := ?_)) | (apply AW.kC; refine AW.sC (h1 := fun h => ?_) (h2 := fun h => ?_))) <;> (try (first | exact Bool.noConfusion h | exact absurd h (by decide) | (simp at h; done) | (rw [h]; try simp only [nrm] at h; try rw [h]; try (exfalso; omega)) | skip))))
      · (refine AW.ret (hD rfl ?_); (repeat' (first | apply Lx.s | apply Lx.b | apply Lx.i | apply LxL.cons | exact LxL.nil | apply Lx.tup | apply Lx.agg | apply Lx.refl)) <;> (try with_reducible rfl))
        rw [h0, all_fail (by omega : q2 < kids.length) (by simp only [edG, Bool.and_eq_false_iff, Bool.not_eq_false', decide_eq_true_eq]; omega)]; rfl
      · exact ih2 (q2 + 1) _ ⟨by omega, all_step (by omega) hc2 (by simp only [edG, Bool.and_eq_true, Bool.not_eq_true', decide_eq_false_iff_not]; omega)⟩ (by omega) (by (constructor <;> (repeat' (first | exact LeT.nil | exact LeB.nil | apply LeT.cons | apply LeB.cons | exact Ol.refl | apply Lx.s | apply Lx.b | apply Lx.i | exact Lx.refl)) <;> (first | rfl | assumption | omega | (simp only [List.length_map, BS_len]; done) | skip)))
      · (refine AW.ret (hD rfl ?_); (repeat' (first | apply Lx.s | apply Lx.b | apply Lx.i | apply LxL.cons | exact LxL.nil | apply Lx.tup | apply Lx.agg | apply Lx.refl)) <;> (try with_reducible rfl))
        rw [h0, all_fail (by omega : q2 < kids.length) (by simp only [edG, Bool.and_eq_false_iff, Bool.not_eq_false', decide_eq_true_eq]; omega)]; rfl
      · (refine AW.ret (hD rfl ?_); (repeat' (first | apply Lx.s | apply Lx.b | apply Lx.i | apply LxL.cons | exact LxL.nil | apply Lx.tup | apply Lx.agg | apply Lx.refl)) <;> (try with_reducible rfl))
        rw [h0, all_done (by omega) hc2]; rfl
  · (refine AW.ret (hD rfl ?_); (repeat' (first | apply Lx.s | apply Lx.b | apply Lx.i | apply LxL.cons | exact LxL.nil | apply Lx.tup | apply Lx.agg | apply Lx.refl)) <;> (try with_reducible rfl))
    have hg1 : greatP pairs = true := by assumption
    simp [great, hg1]
  · (refine AW.ret (hD rfl ?_); (repeat' (first | apply Lx.s | apply Lx.b | apply Lx.i | apply LxL.cons | exact LxL.nil | apply Lx.tup | apply Lx.agg | apply Lx.refl)) <;> (try with_reducible rfl))
    simp [great, show 60 < kids.length by omega]
  · (refine AW.ret (hD rfl ?_); (repeat' (first | apply Lx.s | apply Lx.b | apply Lx.i | apply LxL.cons | exact LxL.nil | apply Lx.tup | apply Lx.agg | apply Lx.refl)) <;> (try with_reducible rfl))
    simp [great, show 60 < pivots.length by omega]
theorem gSame (a b : Nd) (ha : a.small) (hb : b.small) : Good Try.prog 30 [.agg a.av, .agg b.av] [] (.b (decide (a = b))) [] := by
  have ha1 := ha.pairs; have ha2 := ha.pivots; have ha3 := ha.kids; have ha4 := ha.buf
  have hb1 := hb.pairs; have hb2 := hb.pivots; have hb3 := hb.kids; have hb4 := hb.buf
  refine Good.w tabOk mixed Try.func30 (N := 38) (by kernel_rfl) rfl (by (repeat (first | exact LE.nil | apply LE.cons)); done) (by (repeat (first | exact LE.nil | apply LE.cons)); done) fun D hD F => ?_
  repeat' (first
    | apply AO.nil
    | (apply AO.kCall 65; refine AO.sCall (hg := (gAlikeP _ _ sd sd)) (h := ?_))
    | (apply AO.kCall 66; refine AO.sCall (hg := (gAlikeS _ _ sd sd)) (h := ?_))
    | (apply AO.kCall 67; refine AO.sCall (hg := (gAlikeE _ _ sd sd)) (h := ?_))
    | (apply AO.kCall 68; refine AO.sCall (hg := (gAlikeM _ _ sd sd)) (h := ?_))
    | (apply AO.kBox; refine AO.sBox (h := ?_))
    | (apply AO.kP; first | refine AO.sP (h := ?_) | refine AO.sPi (h := ?_) | refine AO.sLoadB (h := ?_))
    | apply AW.seq
    | (apply AW.kR; refine AW.sR (h := ?_))
    | apply AW.skip
    | apply AW.block
    | apply AW.out
    | (apply AW.kE; refine AW.sE (h := ?_))
    | apply AW.label
    | ((first | (apply AO.kG; first | refine AO.sgt (h1 := fun h => ?_) (h2 := fun h => ?_) | refine AO.sgf (h1 := fun h => ?_) (h2 := fun h => ?_) | refine AO.sgs (h := ?_))) <;> (try (first | exact Bool.noConfusion h | exact absurd h (by decide) | (simp at h; done) | (rw [h]; try simp only [nrm] at h; try rw [h]; try (exfalso; omega)) | skip))))
  all_goals (refine AW.ret (hD rfl ?_); (repeat' (first | apply Lx.s | apply Lx.b | apply Lx.i | apply LxL.cons | exact LxL.nil | apply Lx.tup | apply Lx.agg | apply Lx.refl)) <;> (try with_reducible rfl))
  all_goals (cases a; cases b; simp_all)
theorem gSame' (a b : Nd) (ha : a.small) (hb : b.small) : Good Try.prog 18 [.agg a.av, .agg b.av] [] (.b (decide (a = b))) [] := by
  have ha1 := ha.pairs; have ha2 := ha.pivots; have ha3 := ha.kids; have ha4 := ha.buf
  have hb1 := hb.pairs; have hb2 := hb.pivots; have hb3 := hb.kids; have hb4 := hb.buf
  refine Good.w tabOk mixed Try.func18 (N := 78) (by kernel_rfl) rfl (by (repeat (first | exact LE.nil | apply LE.cons)); done) (by (repeat (first | exact LE.nil | apply LE.cons)); done) fun D hD F => ?_
  repeat' (first
    | apply AO.nil
    | (apply AO.kCall 52; refine AO.sCall (hg := (gSameP _ _ sd sd)) (h := ?_))
    | (apply AO.kCall 53; refine AO.sCall (hg := (gSameM _ _ sd sd)) (h := ?_))
    | (apply AO.kIx; first | refine AO.sIxN (h := ?_) | refine AO.sIx (h := ?_) | refine AO.sP (h := ?_) | refine AO.sPi (h := ?_))
    | (apply AO.kBox; refine AO.sBox (h := ?_))
    | (apply AO.kAdd; refine AO.sAdd (h := ?_))
    | (apply AO.kP; first | refine AO.sP (h := ?_) | refine AO.sPi (h := ?_) | refine AO.sLoadB (h := ?_))
    | apply AW.seq
    | (apply AW.kR; refine AW.sR (h := ?_))
    | apply AW.skip
    | apply AW.block
    | apply AW.out
    | (apply AW.kE; refine AW.sE (h := ?_))
    | apply AW.label
    | (apply AW.kRd; refine AW.sRd (h := ?_))
    | ((first | (apply AO.kG; first | refine AO.sgt (h1 := fun h => ?_) (h2 := fun h => ?_) | refine AO.sgf (h1 := fun h => ?_) (h2 := fun h => ?_) | refine AO.sgs (h := ?_)) | (apply AW.kC; refine AW.sC (h1 := fun h => ?_) (h2 := fun h => ?_)) | (apply AR.kAny; apply AR.kG; first | refine AR.sgt (h1 := fun h => ?_) (h2 := fun h => ?_) | refine AR.sgf (h1 := fun h => ?_) (h2 := fun h => ?_) | refine AR.sgs (h := ?_))) <;> (try (first | exact Bool.noConfusion h | exact absurd h (by decide) | (simp at h; done) | (rw [h]; try simp only [nrm] at h; try rw [h]; try (exfalso; omega)) | skip)))
    | (apply AR.kAny; first | (apply AR.kCall 52; refine AR.sCall (hg := (gSameP _ _ sd sd)) (h := ?_)) | (apply AR.kCall 53; refine AR.sCall (hg := (gSameM _ _ sd sd)) (h := ?_)) | (apply AR.kIx; first | refine AR.sIxN (h := ?_) | refine AR.sIx (h := ?_) | refine AR.sP (h := ?_) | refine AR.sPi (h := ?_)) | (apply AR.kBox; refine AR.sBox (h := ?_)) | (apply AR.kAdd; refine AR.sAdd (h := ?_)) | (apply AR.kP; first | refine AR.sP (h := ?_) | refine AR.sPi (h := ?_)))
    | (apply AR.kNil; refine AR.sNil (h := ?_)))
  · (refine AW.ret (hD rfl ?_); (repeat' (first | apply Lx.s | apply Lx.b | apply Lx.i | apply LxL.cons | exact LxL.nil | apply Lx.tup | apply Lx.agg | apply Lx.refl)) <;> (try with_reducible rfl))
    have h : ((((a.kids.map Ed.av).length : Nat) : Int) != (((b.kids.map Ed.av).length : Nat) : Int)) = true := by assumption
    rw [bne_iff_ne] at h
    exact (decide_eq_false fun e => h (by rw [e])).symm
  · have h1 : ((((a.pivots.map sav).length : Nat) : Int) != (((b.pivots.map sav).length : Nat) : Int)) = false := by assumption
    have h2 : ((((a.kids.map Ed.av).length : Nat) : Int) != (((b.kids.map Ed.av).length : Nat) : Int)) = false := by assumption
    have hlf : a.leaf = b.leaf := by assumption
    rw [bne_eq_false_iff_eq] at h1 h2
    have l1 : a.pivots.length = b.pivots.length := by simp only [List.length_map] at h1; omega
    have l2 : a.kids.length = b.kids.length := by simp only [List.length_map] at h2; omega
    obtain ⟨al, ap, av', ak, ab⟩ := a
    obtain ⟨bl, bp, bv, bk, bb⟩ := b
    simp only at *
    subst hlf
    refine AW.loopI (fun q : Nat => q ≤ av'.length ∧ av'.take q = bv.take q) (fun q => ⟨[(2, .ptr 2 0), (3, .ptr 3 0), (32, .i .i64 av'.length), (33, .i .i64 q)], [(2, .bx (Nd.av ⟨al, ap, av', ak, ab⟩)), (3, .bx (Nd.av ⟨al, bp, bv, bk, bb⟩))]⟩) (fun q => av'.length - q) 0 (by simp) (by (constructor <;> (repeat' (first | exact LeT.nil | exact LeB.nil | apply LeT.cons | apply LeB.cons | exact Ol.refl | apply Lx.s | apply Lx.b | apply Lx.i | exact Lx.refl)) <;> (first | rfl | assumption | omega | (simp only [List.length_map, BS_len]; done) | skip))) fun m q ⟨hn, hc⟩ ih => ?_
    repeat' (first
    | apply AO.nil
    | (apply AO.kIx; first | refine AO.sIxN (h := ?_) | refine AO.sIx (h := ?_) | refine AO.sP (h := ?_) | refine AO.sPi (h := ?_))
    | (apply AO.kBox; refine AO.sBox (h := ?_))
    | (apply AO.kAdd; refine AO.sAdd (h := ?_))
    | (apply AO.kP; first | refine AO.sP (h := ?_) | refine AO.sPi (h := ?_) | refine AO.sLoadB (h := ?_))
    | apply AW.seq
    | (apply AW.kR; refine AW.sR (h := ?_))
    | apply AW.skip
    | apply AW.block
    | apply AW.out
    | (apply AW.kE; refine AW.sE (h := ?_))
    | apply AW.label
    | (apply AW.kRd; refine AW.sRd (h := ?_))
    | ((first | (apply AO.kG; first | refine AO.sgt (h1 := fun h => ?_) (h2 := fun h => ?_) | refine AO.sgf (h1 := fun h => ?_) (h2 := fun h => ?_) | refine AO.sgs (h := ?_)) | (apply AW.kC; refine AW.sC (h1 := fun h => ?_) (h2 := fun h => ?_)) | (apply AR.kAny; apply AR.kG; first | refine AR.sgt (h1 := fun h => ?_) (h2 := fun h => ?_) | refine AR.sgf (h1 := fun h => ?_) (h2 := fun h => ?_) | refine AR.sgs (h := ?_))) <;> (try (first | exact Bool.noConfusion h | exact absurd h (by decide) | (simp at h; done) | (rw [h]; try simp only [nrm] at h; try rw [h]; try (exfalso; omega)) | skip)))
    | (apply AR.kAny; first | (apply AR.kIx; first | refine AR.sIxN (h := ?_) | refine AR.sIx (h := ?_) | refine AR.sP (h := ?_) | refine AR.sPi (h := ?_)) | (apply AR.kBox; refine AR.sBox (h := ?_)) | (apply AR.kAdd; refine AR.sAdd (h := ?_)) | (apply AR.kP; first | refine AR.sP (h := ?_) | refine AR.sPi (h := ?_)))
    | (apply AR.kNil; refine AR.sNil (h := ?_)))
    · (refine AW.ret (hD rfl ?_); (repeat' (first | apply Lx.s | apply Lx.b | apply Lx.i | apply LxL.cons | exact LxL.nil | apply Lx.tup | apply Lx.agg | apply Lx.refl)) <;> (try with_reducible rfl))
      rename_i h
      exact (decide_eq_false fun e => h (by injection e with e1 e2 e3 e4 e5; rw [e3])).symm
    · rename_i h
      exact ih (q + 1) _ ⟨by omega, take_step (by omega) (by omega) hc h⟩ (by omega) (by (constructor <;> (repeat' (first | exact LeT.nil | exact LeB.nil | apply LeT.cons | apply LeB.cons | exact Ol.refl | apply Lx.s | apply Lx.b | apply Lx.i | exact Lx.refl)) <;> (first | rfl | assumption | omega | (simp only [List.length_map, BS_len]; done) | skip)))
    · have hv : av' = bv := take_all (by omega) (by omega) hc
      subst hv
      refine AW.loopI (fun q : Nat => q ≤ ak.length ∧ ak.take q = bk.take q) (fun q => ⟨[(2, .ptr 2 0), (3, .ptr 3 0), (50, .i .i64 ak.length), (51, .i .i64 q)], [(2, .bx (Nd.av ⟨al, ap, av', ak, ab⟩)), (3, .bx (Nd.av ⟨al, bp, av', bk, bb⟩))]⟩) (fun q => ak.length - q) 0 (by simp) (by (constructor <;> (repeat' (first | exact LeT.nil | exact LeB.nil | apply LeT.cons | apply LeB.cons | exact Ol.refl | apply Lx.s | apply Lx.b | apply Lx.i | exact Lx.refl)) <;> (first | rfl | assumption | omega | (simp only [List.length_map, BS_len]; done) | skip))) fun m2 q2 ⟨hn2, hc2⟩ ih2 => ?_
      repeat' (first
    | apply AO.nil
    | (apply AO.kCall 52; refine AO.sCall (hg := (gSameP _ _ sd sd)) (h := ?_))
    | (apply AO.kCall 53; refine AO.sCall (hg := (gSameM _ _ sd sd)) (h := ?_))
    | (apply AO.kIx; first | refine AO.sIxN (h := ?_) | refine AO.sIx (h := ?_) | refine AO.sP (h := ?_) | refine AO.sPi (h := ?_))
    | (apply AO.kBox; refine AO.sBox (h := ?_))
    | (apply AO.kAdd; refine AO.sAdd (h := ?_))
    | (apply AO.kP; first | refine AO.sP (h := ?_) | refine AO.sPi (h := ?_) | refine AO.sLoadB (h := ?_))
    | apply AW.seq
    | (apply AW.kR; refine AW.sR (h := ?_))
    | apply AW.skip
    | apply AW.block
    | apply AW.out
    | (apply AW.kE; refine AW.sE (h := ?_))
    | apply AW.label
    | (apply AW.kRd; refine AW.sRd (h := ?_))
    | ((first | (apply AO.kG; first | refine AO.sgt (h1 := fun h => ?_) (h2 := fun h => ?_) | refine AO.sgf (h1 := fun h => ?_) (h2 := fun h => ?_) | refine AO.sgs (h := ?_)) | (apply AW.kC; refine AW.sC (h1 := fun h => ?_) (h2 := fun h => ?_)) | (apply AR.kAny; apply AR.kG; first | refine AR.sgt (h1 := fun h => ?_) (h2 := fun h => ?_) | refine AR.sgf (h1 := fun h => ?_) (h2 := fun h => ?_) | refine AR.sgs (h := ?_))) <;> (try (first | exact Bool.noConfusion h | exact absurd h (by decide) | (simp at h; done) | (rw [h]; try simp only [nrm] at h; try rw [h]; try (exfalso; omega)) | skip)))
    | (apply AR.kAny; first | (apply AR.kCall 52; refine AR.sCall (hg := (gSameP _ _ sd sd)) (h := ?_)) | (apply AR.kCall 53; refine AR.sCall (hg := (gSameM _ _ sd sd)) (h := ?_)) | (apply AR.kIx; first | refine AR.sIxN (h := ?_) | refine AR.sIx (h := ?_) | refine AR.sP (h := ?_) | refine AR.sPi (h := ?_)) | (apply AR.kBox; refine AR.sBox (h := ?_)) | (apply AR.kAdd; refine AR.sAdd (h := ?_)) | (apply AR.kP; first | refine AR.sP (h := ?_) | refine AR.sPi (h := ?_)))
    | (apply AR.kNil; refine AR.sNil (h := ?_)))
      · (refine AW.ret (hD rfl ?_); (repeat' (first | apply Lx.s | apply Lx.b | apply Lx.i | apply LxL.cons | exact LxL.nil | apply Lx.tup | apply Lx.agg | apply Lx.refl)) <;> (try with_reducible rfl))
        have h : (((((ak.getD q2 default).block.toNat : Nat) : Int) == (((bk.getD q2 default).block.toNat : Nat) : Int)) && (((((ak.getD q2 default).deep.toNat : Nat) : Int) == (((bk.getD q2 default).deep.toNat : Nat) : Int)) && (((ak.getD q2 default).strip == (bk.getD q2 default).strip && ((ak.getD q2 default).add == (bk.getD q2 default).add && true)) && true))) = false := by assumption
        rw [ed_eq] at h
        exact (decide_eq_false fun e => of_decide_eq_false h (by injection e with e1 e2 e3 e4 e5; rw [e4])).symm
      · have h : (((((ak.getD q2 default).block.toNat : Nat) : Int) == (((bk.getD q2 default).block.toNat : Nat) : Int)) && (((((ak.getD q2 default).deep.toNat : Nat) : Int) == (((bk.getD q2 default).deep.toNat : Nat) : Int)) && (((ak.getD q2 default).strip == (bk.getD q2 default).strip && ((ak.getD q2 default).add == (bk.getD q2 default).add && true)) && true))) = true := by assumption
        rw [ed_eq] at h
        exact ih2 (q2 + 1) _ ⟨by omega, take_step (by omega) (by omega) hc2 (of_decide_eq_true h)⟩ (by omega) (by (constructor <;> (repeat' (first | exact LeT.nil | exact LeB.nil | apply LeT.cons | apply LeB.cons | exact Ol.refl | apply Lx.s | apply Lx.b | apply Lx.i | exact Lx.refl)) <;> (first | rfl | assumption | omega | (simp only [List.length_map, BS_len]; done) | skip)))
      · have hk : ak = bk := take_all (by omega) (by omega) hc2
        subst hk
        have hp : ap = bp := by assumption
        subst hp
        (refine AW.ret (hD rfl ?_); (repeat' (first | apply Lx.s | apply Lx.b | apply Lx.i | apply LxL.cons | exact LxL.nil | apply Lx.tup | apply Lx.agg | apply Lx.refl)) <;> (try with_reducible rfl))
        simp
      · have hp : ¬ ap = bp := by assumption
        (refine AW.ret (hD rfl ?_); (repeat' (first | apply Lx.s | apply Lx.b | apply Lx.i | apply LxL.cons | exact LxL.nil | apply Lx.tup | apply Lx.agg | apply Lx.refl)) <;> (try with_reducible rfl))
        exact (decide_eq_false fun e => hp (by injection e)).symm
  · (refine AW.ret (hD rfl ?_); (repeat' (first | apply Lx.s | apply Lx.b | apply Lx.i | apply LxL.cons | exact LxL.nil | apply Lx.tup | apply Lx.agg | apply Lx.refl)) <;> (try with_reducible rfl))
    have h : ((((a.pivots.map sav).length : Nat) : Int) != (((b.pivots.map sav).length : Nat) : Int)) = true := by assumption
    rw [bne_iff_ne] at h
    exact (decide_eq_false fun e => h (by rw [e])).symm
  · (refine AW.ret (hD rfl ?_); (repeat' (first | apply Lx.s | apply Lx.b | apply Lx.i | apply LxL.cons | exact LxL.nil | apply Lx.tup | apply Lx.agg | apply Lx.refl)) <;> (try with_reducible rfl))
    have h : ¬ a.leaf = b.leaf := by assumption
    exact (decide_eq_false fun e => h (by rw [e])).symm
end Go.Proofs.Ytmfonbehcfjjgaa.Mv


/- Nodes: ranges, the kid of a key. Under no condition. -/
namespace Go.Proofs.Ytmfonbehcfjjgaa.Mv
open Go Go.Proofs
set_option linter.unusedSimpArgs false
set_option linter.unusedVariables false
set_option maxRecDepth 10000
set_option maxHeartbeats 4000000
attribute [local irreducible] AW AO AR

/-- A kid's range. -/
def rgN (n : Nd) (i : Int) : L × L × Bool :=
  if i < 0 ∨ (n.kids.length : Int) ≤ i then ([], [], true)
  else ((if 0 < i ∧ i ≤ n.pivots.length then n.pivots.getD (i - 1).toNat default else []), (if i < n.pivots.length then n.pivots.getD i.toNat default else []), decide (i < n.pivots.length))
theorem gRange (n : Nd) (i : Int) (hs : n.small) (hi : -9223372036854775808 ≤ i ∧ i ≤ 9223372036854775807) : Good Try.prog 26 [.agg n.av, .i .i64 i] [] (.agg [.s (rgN n i).1, .s (rgN n i).2.1, .b (rgN n i).2.2]) [] := by
  have hs2 := hs.pivots; have hs3 := hs.kids
  have l2 : (n.pivots.map sav).length = n.pivots.length := by simp
  have l3 : (n.kids.map Ed.av).length = n.kids.length := by simp
  refine Good.w tabOk mixed Try.func26 (N := 45) (by kernel_rfl) rfl (by (repeat (first | exact LE.nil | apply LE.cons)); done) (by (repeat (first | exact LE.nil | apply LE.cons)); done) fun D hD F => ?_
  repeat' (first
    | apply AO.nil
    | (apply AO.kIx; first | refine AO.sIxN (h := ?_) | refine AO.sIx (h := ?_) | refine AO.sP (h := ?_) | refine AO.sPi (h := ?_))
    | (apply AO.kBox; refine AO.sBox (h := ?_))
    | (apply AO.kAlloc; refine AO.sAlloc (h := ?_))
    | (apply AO.kStore; first | refine AO.sStore (h := ?_) | refine AO.sStB (h := ?_))
    | (apply AO.kSub; refine AO.sSub (h := ?_))
    | (apply AO.kP; first | refine AO.sP (h := ?_) | refine AO.sPi (h := ?_) | refine AO.sLoadB (h := ?_))
    | apply AW.seq
    | (apply AW.kR; refine AW.sR (h := ?_))
    | apply AW.skip
    | apply AW.block
    | apply AW.out
    | (apply AW.kE; refine AW.sE (h := ?_))
    | apply AW.label
    | ((first | (apply AO.kG; first | refine AO.sgt (h1 := fun h => ?_) (h2 := fun h => ?_) | refine AO.sgf (h1 := fun h => ?_) (h2 := fun h => ?_) | refine AO.sgs (h := ?_)) | (apply AW.kC; refine AW.sC (h1 := fun h => ?_) (h2 := fun h => ?_))) <;> (try (first | exact Bool.noConfusion h | exact absurd h (by decide) | (simp at h; done) | (rw [h]; try simp only [nrm] at h; try rw [h]; try (exfalso; omega)) | skip))))
  all_goals (refine AW.ret (hD rfl ?_); (repeat' (first | apply Lx.s | apply Lx.b | apply Lx.i | apply LxL.cons | exact LxL.nil | apply Lx.tup | apply Lx.agg | apply Lx.refl)) <;> (try with_reducible rfl))
  all_goals (simp only [rgN]; repeat' split)
  all_goals (first | rfl | (exfalso; omega) | (symm; apply decide_eq_true; omega) | (symm; apply decide_eq_false; omega))
theorem gRange' (n : Nd) (i : Int) (hs : n.small) (hi : -9223372036854775808 ≤ i ∧ i ≤ 9223372036854775807) : Good Try.prog 27 [.agg n.av, .i .i64 i] [] (.agg [.s (rgN n i).1, .s (rgN n i).2.1, .b (rgN n i).2.2]) [] := by
  have hs2 := hs.pivots; have hs3 := hs.kids
  have l2 : (n.pivots.map sav).length = n.pivots.length := by simp
  have l3 : (n.kids.map Ed.av).length = n.kids.length := by simp
  refine Good.w tabOk mixed Try.func27 (N := 47) (by kernel_rfl) rfl (by (repeat (first | exact LE.nil | apply LE.cons)); done) (by (repeat (first | exact LE.nil | apply LE.cons)); done) fun D hD F => ?_
  repeat' (first
    | apply AO.nil
    | (apply AO.kIx; first | refine AO.sIxN (h := ?_) | refine AO.sIx (h := ?_) | refine AO.sP (h := ?_) | refine AO.sPi (h := ?_))
    | (apply AO.kBox; refine AO.sBox (h := ?_))
    | (apply AO.kAlloc; refine AO.sAlloc (h := ?_))
    | (apply AO.kStore; first | refine AO.sStore (h := ?_) | refine AO.sStB (h := ?_))
    | (apply AO.kSub; refine AO.sSub (h := ?_))
    | (apply AO.kP; first | refine AO.sP (h := ?_) | refine AO.sPi (h := ?_) | refine AO.sLoadB (h := ?_))
    | apply AW.seq
    | (apply AW.kR; refine AW.sR (h := ?_))
    | apply AW.skip
    | apply AW.block
    | apply AW.out
    | (apply AW.kE; refine AW.sE (h := ?_))
    | apply AW.label
    | ((first | (apply AO.kG; first | refine AO.sgt (h1 := fun h => ?_) (h2 := fun h => ?_) | refine AO.sgf (h1 := fun h => ?_) (h2 := fun h => ?_) | refine AO.sgs (h := ?_)) | (apply AW.kC; refine AW.sC (h1 := fun h => ?_) (h2 := fun h => ?_))) <;> (try (first | exact Bool.noConfusion h | exact absurd h (by decide) | (simp at h; done) | (rw [h]; try simp only [nrm] at h; try rw [h]; try (exfalso; omega)) | skip))))
  all_goals (refine AW.ret (hD rfl ?_); (repeat' (first | apply Lx.s | apply Lx.b | apply Lx.i | apply LxL.cons | exact LxL.nil | apply Lx.tup | apply Lx.agg | apply Lx.refl)) <;> (try with_reducible rfl))
  all_goals (simp only [rgN]; repeat' split)
  all_goals (first | rfl | (exfalso; omega) | (symm; apply decide_eq_true; omega) | (symm; apply decide_eq_false; omega))

/-- Halving. -/
def bsr (f : Nat → Bool) : Nat → Nat → Nat → Nat
  | 0, i, _ => i
  | u + 1, i, j => if i < j then (if f ((i + j) / 2) = true then bsr f u i ((i + j) / 2) else bsr f u ((i + j) / 2 + 1) j) else i
theorem bsr_more (f : Nat → Bool) : ∀ (u v i j : Nat), j - i ≤ u → j - i ≤ v → bsr f u i j = bsr f v i j
  | 0, 0, _, _, _, _ => rfl
  | 0, v + 1, i, j, h, _ => by simp only [bsr]; rw [if_neg (by omega)]
  | u + 1, 0, i, j, _, h => by simp only [bsr]; rw [if_neg (by omega)]
  | u + 1, v + 1, i, j, h, h' => by
    simp only [bsr]
    split
    · split
      · exact bsr_more f u v _ _ (by omega) (by omega)
      · exact bsr_more f u v _ _ (by omega) (by omega)
    · rfl
def bs (f : Nat → Bool) (i j : Nat) : Nat := bsr f (j - i) i j
theorem bs_lo {f : Nat → Bool} {i j : Nat} (h : i < j) (hf : f ((i + j) / 2) = true) : bs f i j = bs f i ((i + j) / 2) := by
  obtain ⟨u, hu⟩ : ∃ u, j - i = u + 1 := ⟨j - i - 1, by omega⟩
  unfold bs
  rw [hu, bsr, if_pos h, if_pos hf]
  exact bsr_more f _ _ _ _ (by omega) (by omega)
theorem bs_hi {f : Nat → Bool} {i j : Nat} (h : i < j) (hf : f ((i + j) / 2) = false) : bs f i j = bs f ((i + j) / 2 + 1) j := by
  obtain ⟨u, hu⟩ : ∃ u, j - i = u + 1 := ⟨j - i - 1, by omega⟩
  unfold bs
  rw [hu, bsr, if_pos h, if_neg (by rw [hf]; simp)]
  exact bsr_more f _ _ _ _ (by omega) (by omega)
theorem bs_end {f : Nat → Bool} {i j : Nat} (h : ¬ i < j) : bs f i j = i := by
  have : j - i = 0 := by omega
  simp [bs, this, bsr]
theorem bs_ind {f : Nat → Bool} {P : Nat → Nat → Nat → Prop} (h1 : ∀ i j, ¬ i < j → P i j i) (h2 : ∀ i j r, i < j → f ((i + j) / 2) = true → P i ((i + j) / 2) r → P i j r) (h3 : ∀ i j r, i < j → f ((i + j) / 2) = false → P ((i + j) / 2 + 1) j r → P i j r) : ∀ n i j, j - i ≤ n → P i j (bs f i j) := by
  intro n
  induction n with
  | zero => intro i j h; rw [bs_end (by omega)]; exact h1 _ _ (by omega)
  | succ n ih =>
    intro i j h
    by_cases hij : i < j
    · cases hf : f ((i + j) / 2) with
      | true => rw [bs_lo hij hf]; exact h2 _ _ _ hij hf (ih _ _ (by omega))
      | false => rw [bs_hi hij hf]; exact h3 _ _ _ hij hf (ih _ _ (by omega))
    · rw [bs_end hij]; exact h1 _ _ hij
/-- What is found where it holds from some place on. -/
theorem bs_spec {f : Nat → Bool} (hm : ∀ a b, a ≤ b → f a = true → f b = true) (n : Nat) : bs f 0 n ≤ n ∧ (∀ i, i < bs f 0 n → f i = false) ∧ (bs f 0 n < n → f (bs f 0 n) = true) := by
  have key := bs_ind (f := f) (P := fun i j r => (∀ a, a < i → f a = false) → i ≤ j → r ≤ j ∧ (∀ a, a < r → f a = false) ∧ (r < j → f r = true))
    (fun i j h hlo hij => ⟨by omega, hlo, fun h' => by omega⟩)
    (fun i j r hij hf h hlo _ => by
      obtain ⟨q1, q2, q3⟩ := h hlo (by omega)
      refine ⟨by omega, q2, fun hr => ?_⟩
      by_cases e : r < (i + j) / 2
      · exact q3 e
      · have : r = (i + j) / 2 := by omega
        rw [this]; exact hf)
    (fun i j r hij hf h hlo _ => by
      obtain ⟨q1, q2, q3⟩ := h (fun a ha => by
        cases hfa : f a with
        | false => rfl
        | true => rw [hm a ((i + j) / 2) (by omega) hfa] at hf; cases hf) (by omega)
      exact ⟨q1, q2, q3⟩) n 0 n (by omega)
  exact key (fun a ha => by omega) (by omega)
theorem half_wrap {i j : Nat} (h : i + j ≤ 4000000) : IntKind.wrap .i64 (IntKind.wrap .u64 ((i : Int) + (j : Int)) / (2 : Int) ^ Int.toNat 1) = (((i + j) / 2 : Nat) : Int) := by
  have e1 : IntKind.wrap .u64 ((i : Int) + (j : Int)) = (i : Int) + (j : Int) := by
    simp only [IntKind.wrap, IntKind.bits, IntKind.signed, Bool.false_and, Bool.false_eq_true, if_false]; omega
  rw [e1, show (2 : Int) ^ Int.toNat 1 = 2 from rfl, wrap64 (by omega)]
  omega
def kidF (n : Nd) (k : L) (i : Nat) : Bool := lt k (n.pivots.getD i default)
theorem gKid1 (n : Nd) (k : L) (x : Int) (h : Nat) (e : x = (h : Int)) (hh : h < n.pivots.length) : Good Try.prog 64 [.i .i64 x, .pel n.av, .pel [.s k]] [] (.b (kidF n k h)) [] := by
  subst e
  refine Good.w tabOk mixed Try.func64 (N := 12) (by kernel_rfl) rfl (by (repeat (first | exact LE.nil | apply LE.cons)); done) (by (repeat (first | exact LE.nil | apply LE.cons)); done) fun D hD F => ?_
  repeat' (first
    | apply AO.nil
    | (apply AO.kIx; first | refine AO.sIxN (h := ?_) | refine AO.sIx (h := ?_) | refine AO.sP (h := ?_) | refine AO.sPi (h := ?_))
    | (apply AO.kP; first | refine AO.sP (h := ?_) | refine AO.sPi (h := ?_) | refine AO.sLoadB (h := ?_))
    | apply AW.seq
    | (apply AW.kR; refine AW.sR (h := ?_))
    | apply AW.skip
    | apply AW.block
    | apply AW.out
    | (apply AW.kE; refine AW.sE (h := ?_))
    | apply AW.label
    | (apply AW.kRd; refine AW.sRd (h := ?_))
    | (apply AR.kAny; first | (apply AR.kIx; first | refine AR.sIxN (h := ?_) | refine AR.sIx (h := ?_) | refine AR.sP (h := ?_) | refine AR.sPi (h := ?_)) | (apply AR.kP; first | refine AR.sP (h := ?_) | refine AR.sPi (h := ?_)))
    | (apply AR.kNil; refine AR.sNil (h := ?_)))
  all_goals (refine AW.ret (hD rfl ?_); (repeat' (first | apply Lx.s | apply Lx.b | apply Lx.i | apply LxL.cons | exact LxL.nil | apply Lx.tup | apply Lx.agg | apply Lx.refl)) <;> (try with_reducible rfl))
  all_goals simp [kidF, blt, le_iff]
theorem gSearch (n : Nd) (k : L) (hs : n.small) : Good Try.prog 63 [.i .i64 n.pivots.length, .clo 64 [.pel n.av, .pel [.s k]]] [] (.i .i64 (bs (kidF n k) 0 n.pivots.length)) [] := by
  have hs2 := hs.pivots
  refine Good.w tabOk mixed Try.func63 (N := 26) (by kernel_rfl) rfl (by (repeat (first | exact LE.nil | apply LE.cons)); done) (by (repeat (first | exact LE.nil | apply LE.cons)); done) fun D hD F => ?_
  repeat' (first
    | apply AO.nil
    | (apply AO.kAdd; refine AO.sAdd (h := ?_))
    | (apply AO.kCv; first | refine AO.sBytes (h := ?_) | refine AO.sStr (h := ?_) | refine AO.sStrR (h := ?_))
    | (apply AO.kP; first | refine AO.sP (h := ?_) | refine AO.sPi (h := ?_))
    | apply AW.seq
    | (apply AW.kR; refine AW.sR (h := ?_))
    | apply AW.skip
    | apply AW.block
    | apply AW.out
    | (apply AW.kE; refine AW.sE (h := ?_))
    | apply AW.label
    | ((first | (apply AW.kC; refine AW.sC (h1 := fun h => ?_) (h2 := fun h => ?_))) <;> (try (first | exact Bool.noConfusion h | exact absurd h (by decide) | (simp at h; done) | (rw [h]; try simp only [nrm] at h; try rw [h]; try (exfalso; omega)) | skip))))
  refine AW.loopI (fun x : Nat × Nat => x.1 ≤ x.2 ∧ x.2 ≤ n.pivots.length ∧ bs (kidF n k) x.1 x.2 = bs (kidF n k) 0 n.pivots.length) (fun x => ⟨[(1, .clo 64 [.pel n.av, .pel [.s k]]), (5, .i .i64 x.1), (6, .i .i64 x.2)], []⟩) (fun x => x.2 - x.1) (0, n.pivots.length) ⟨by simp, by simp, rfl⟩ (by (constructor <;> (repeat' (first | exact LeT.nil | exact LeB.nil | apply LeT.cons | apply LeB.cons | exact Ol.refl | apply Lx.s | apply Lx.b | apply Lx.i | exact Lx.refl)) <;> (first | rfl | assumption | omega | (simp only [List.length_map, BS_len]; done) | skip))) fun m ⟨i, j⟩ ⟨hij, hj, hc⟩ ih => ?_
  simp only at hij hj hc
  have e := half_wrap (i := i) (j := j) (by omega)
  repeat' (first
    | apply AO.nil
    | (apply AO.kCallV; refine AO.sCall (hg := (gKid1 _ _ _ _ e sd)) (h := ?_))
    | (apply AO.kAdd; refine AO.sAdd (h := ?_))
    | (apply AO.kCv; first | refine AO.sBytes (h := ?_) | refine AO.sStr (h := ?_) | refine AO.sStrR (h := ?_))
    | (apply AO.kP; first | refine AO.sP (h := ?_) | refine AO.sPi (h := ?_))
    | apply AW.seq
    | (apply AW.kR; refine AW.sR (h := ?_))
    | apply AW.skip
    | apply AW.block
    | apply AW.out
    | (apply AW.kE; refine AW.sE (h := ?_))
    | apply AW.label
    | ((first | (apply AW.kC; refine AW.sC (h1 := fun h => ?_) (h2 := fun h => ?_))) <;> (try (first | exact Bool.noConfusion h | exact absurd h (by decide) | (simp at h; done) | (rw [h]; try simp only [nrm] at h; try rw [h]; try (exfalso; omega)) | skip))))
  · have h' : kidF n k ((i + j) / 2) = false := by assumption
    have hlt : i < j := by omega
    have e' : IntKind.wrap .i64 (IntKind.wrap .u64 ((i : Int) + (j : Int)) / (2 : Int) ^ Int.toNat 1) + 1 = (((i + j) / 2 + 1 : Nat) : Int) := by rw [e]; omega
    exact ih ((i + j) / 2 + 1, j) _ ⟨by simp only; omega, by simp only; omega, by simp only; rw [← hc, bs_hi hlt h']⟩ (by simp only; omega) (by (constructor <;> (repeat' (first | exact LeT.nil | exact LeB.nil | apply LeT.cons | apply LeB.cons | exact Ol.refl | apply Lx.s | apply Lx.b | apply Lx.i | exact Lx.refl)) <;> (first | rfl | assumption | omega | (simp only [List.length_map, BS_len]; done) | skip)))
  · have h' : kidF n k ((i + j) / 2) = true := by assumption
    have hlt : i < j := by omega
    exact ih (i, (i + j) / 2) _ ⟨by simp only; omega, by simp only; omega, by simp only; rw [← hc, bs_lo hlt h']⟩ (by simp only; omega) (by (constructor <;> (repeat' (first | exact LeT.nil | exact LeB.nil | apply LeT.cons | apply LeB.cons | exact Ol.refl | apply Lx.s | apply Lx.b | apply Lx.i | exact Lx.refl)) <;> (first | rfl | assumption | omega | (simp only [List.length_map, BS_len]; done) | skip)))
  · refine AW.ret (hD rfl (Lx.i ?_))
    rw [← hc, bs_end (by omega)]
theorem gSearch' (n : Nd) (k : L) (hs : n.small) : Good Try.prog 63 [.i .i64 ((n.pivots.map sav).length : Nat), .clo 64 [.pel n.av, .pel [.s k]]] [] (.i .i64 (bs (kidF n k) 0 n.pivots.length)) [] := by
  rw [List.length_map]; exact gSearch n k hs
/-- The number of the kid of a key. -/
def kidN (n : Nd) (k : L) : Int := if (n.kids.length : Int) - 1 < ((bs (kidF n k) 0 n.pivots.length : Nat) : Int) then (n.kids.length : Int) - 1 else ((bs (kidF n k) 0 n.pivots.length : Nat) : Int)
theorem gKid (n : Nd) (k : L) (hs : n.small) : Good Try.prog 28 [.agg n.av, .s k] [] (.i .i64 (kidN n k)) [] := by
  have hs2 := hs.pivots; have hs3 := hs.kids
  have l2 : (n.pivots.map sav).length = n.pivots.length := by simp
  have l3 : (n.kids.map Ed.av).length = n.kids.length := by simp
  refine Good.w tabOk mixed Try.func28 (N := 17) (by kernel_rfl) rfl (by (repeat (first | exact LE.nil | apply LE.cons)); done) (by (repeat (first | exact LE.nil | apply LE.cons)); done) fun D hD F => ?_
  (repeat (first | apply AW.seq | apply AW.block)); apply AW.kR; refine AW.sR (h := ?_); repeat' (first
    | apply AO.nil
    | (apply AO.kBox; refine AO.sBox (h := ?_))
    | (apply AO.kSub; refine AO.sSub (h := ?_))
    | (apply AO.kP; first | refine AO.sP (h := ?_) | refine AO.sPi (h := ?_) | refine AO.sLoadB (h := ?_) | refine AO.sMk0 (h := ?_)))
  refine AW.freeze 2 (cs := n.av) (st' := ⟨[(2, .pel n.av), (3, .ptr 3 0)], [(3, .bx [.s k])]⟩) rfl rfl ⟨.cons Lx.fz (.cons .refl .nil), .cons .refl .nil⟩ ?_
  refine AW.freeze 3 (cs := [.s k]) (st' := ⟨[(2, .pel n.av), (3, .pel [.s k])], []⟩) rfl rfl ⟨.cons .refl (.cons Lx.fz .nil), .nil⟩ ?_
  repeat' (first
    | apply AO.nil
    | (apply AO.kCall 63; refine AO.sCall (hg := (gSearch' n k hs)) (h := ?_))
    | (apply AO.kBox; refine AO.sBox (h := ?_))
    | (apply AO.kSub; refine AO.sSub (h := ?_))
    | (apply AO.kP; first | refine AO.sP (h := ?_) | refine AO.sPi (h := ?_) | refine AO.sLoadB (h := ?_) | refine AO.sMk0 (h := ?_))
    | apply AW.seq
    | (apply AW.kR; refine AW.sR (h := ?_))
    | apply AW.skip
    | apply AW.block
    | apply AW.out
    | (apply AW.kE; refine AW.sE (h := ?_))
    | apply AW.label)
  (refine AW.ret (hD rfl ?_); (repeat' (first | apply Lx.s | apply Lx.b | apply Lx.i | apply LxL.cons | exact LxL.nil | apply Lx.tup | apply Lx.agg | apply Lx.refl)) <;> (try with_reducible rfl))
  rw [l3]; rfl
/-- The last kid in whose range a key is. -/
def kidL (n : Nd) (k : L) : Nat → Int
  | 0 => -1
  | q + 1 => if inR (rgN n q).1 (rgN n q).2.1 (rgN n q).2.2 k = true then (q : Int) else kidL n k q
theorem gKid' (n : Nd) (k : L) (hs : n.small) : Good Try.prog 105 [.agg n.av, .s k] [] (.i .i64 (kidL n k n.kids.length)) [] := by
  have hs2 := hs.pivots; have hs3 := hs.kids
  have l3 : (n.kids.map Ed.av).length = n.kids.length := by simp
  refine Good.w tabOk mixed Try.func105 (N := 21) (by kernel_rfl) rfl (by (repeat (first | exact LE.nil | apply LE.cons)); done) (by (repeat (first | exact LE.nil | apply LE.cons)); done) fun D hD F => ?_
  repeat' (first
    | apply AO.nil
    | (apply AO.kBox; refine AO.sBox (h := ?_))
    | (apply AO.kAdd; refine AO.sAdd (h := ?_))
    | (apply AO.kP; first | refine AO.sP (h := ?_) | refine AO.sPi (h := ?_) | refine AO.sLoadB (h := ?_))
    | apply AW.seq
    | (apply AW.kR; refine AW.sR (h := ?_))
    | apply AW.skip
    | apply AW.block
    | apply AW.out
    | (apply AW.kE; refine AW.sE (h := ?_))
    | apply AW.label
    | ((first | (apply AW.kC; refine AW.sC (h1 := fun h => ?_) (h2 := fun h => ?_))) <;> (try (first | exact Bool.noConfusion h | exact absurd h (by decide) | (simp at h; done) | (rw [h]; try simp only [nrm] at h; try rw [h]; try (exfalso; omega)) | skip))))
  refine AW.loopI (fun q : Nat => q ≤ n.kids.length) (fun q => ⟨[(1, .s k), (2, .ptr 2 0), (5, .i .i64 (kidL n k q)), (9, .i .i64 n.kids.length), (10, .i .i64 q)], [(2, .bx n.av)]⟩) (fun q => n.kids.length - q) 0 (by simp) (by (constructor <;> (repeat' (first | exact LeT.nil | exact LeB.nil | apply LeT.cons | apply LeB.cons | exact Ol.refl | apply Lx.s | apply Lx.b | apply Lx.i | exact Lx.refl)) <;> (first | rfl | assumption | omega | (simp only [List.length_map, BS_len]; done) | skip))) fun m q hn ih => ?_
  repeat' (first
    | apply AO.nil
    | (apply AO.kCall 27; refine AO.sCall (hg := (gRange' n _ hs sd)) (h := ?_))
    | (apply AO.kCall 29; refine AO.sCall (hg := (gIn' _ _ _ _)) (h := ?_))
    | (apply AO.kBox; refine AO.sBox (h := ?_))
    | (apply AO.kAdd; refine AO.sAdd (h := ?_))
    | (apply AO.kP; first | refine AO.sP (h := ?_) | refine AO.sPi (h := ?_) | refine AO.sLoadB (h := ?_))
    | apply AW.seq
    | (apply AW.kR; refine AW.sR (h := ?_))
    | apply AW.skip
    | apply AW.block
    | apply AW.out
    | (apply AW.kE; refine AW.sE (h := ?_))
    | apply AW.label
    | ((first | (apply AW.kC; refine AW.sC (h1 := fun h => ?_) (h2 := fun h => ?_))) <;> (try (first | exact Bool.noConfusion h | exact absurd h (by decide) | (simp at h; done) | (rw [h]; try simp only [nrm] at h; try rw [h]; try (exfalso; omega)) | skip))))
  · have h : inR (rgN n q).1 (rgN n q).2.1 (rgN n q).2.2 k = true := by assumption
    have e : (q : Int) = kidL n k (q + 1) := by simp [kidL, h]
    exact ih (q + 1) _ (by omega) (by omega) (by (constructor <;> (repeat' (first | exact LeT.nil | exact LeB.nil | apply LeT.cons | apply LeB.cons | exact Ol.refl | apply Lx.s | apply Lx.b | apply Lx.i | exact Lx.refl)) <;> (first | rfl | assumption | omega | (simp only [List.length_map, BS_len]; done) | skip)))
  · have h : inR (rgN n q).1 (rgN n q).2.1 (rgN n q).2.2 k = false := by assumption
    have e : kidL n k q = kidL n k (q + 1) := by simp [kidL, h]
    exact ih (q + 1) _ (by omega) (by omega) (by (constructor <;> (repeat' (first | exact LeT.nil | exact LeB.nil | apply LeT.cons | apply LeB.cons | exact Ol.refl | apply Lx.s | apply Lx.b | apply Lx.i | exact Lx.refl)) <;> (first | rfl | assumption | omega | (simp only [List.length_map, BS_len]; done) | skip)))
  · (refine AW.ret (hD rfl ?_); (repeat' (first | apply Lx.s | apply Lx.b | apply Lx.i | apply LxL.cons | exact LxL.nil | apply Lx.tup | apply Lx.agg | apply Lx.refl)) <;> (try with_reducible rfl))
    rw [show q = n.kids.length by omega]

/-! ### a leaf's pair -/
def cmpS (a k : L) : Int := if lt a k = true then -1 else if lt k a = true then 1 else 0
theorem gCmp (p : Pr) (k : L) : Good Try.prog 59 [.agg p.av, .s k] [] (.i .i64 (cmpS p.k k)) [] := by
  refine Good.w tabOk mixed Try.func59 (N := 15) (by kernel_rfl) rfl (by (repeat (first | exact LE.nil | apply LE.cons)); done) (by (repeat (first | exact LE.nil | apply LE.cons)); done) fun D hD F => ?_
  repeat' (first
    | apply AO.nil
    | (apply AO.kBox; refine AO.sBox (h := ?_))
    | (apply AO.kP; first | refine AO.sP (h := ?_) | refine AO.sPi (h := ?_) | refine AO.sLoadB (h := ?_))
    | apply AW.seq
    | (apply AW.kR; refine AW.sR (h := ?_))
    | apply AW.skip
    | apply AW.block
    | apply AW.out
    | (apply AW.kE; refine AW.sE (h := ?_))
    | apply AW.label
    | ((first | (apply AW.kC; refine AW.sC (h1 := fun h => ?_) (h2 := fun h => ?_))) <;> (try (first | exact Bool.noConfusion h | exact absurd h (by decide) | (simp at h; done) | (rw [h]; try simp only [nrm] at h; try rw [h]; try (exfalso; omega)) | skip))))
  all_goals (refine AW.ret (hD rfl ?_); (repeat' (first | apply Lx.s | apply Lx.b | apply Lx.i | apply LxL.cons | exact LxL.nil | apply Lx.tup | apply Lx.agg | apply Lx.refl)) <;> (try with_reducible rfl))
  all_goals (rcases lt_total p.k k with h9 | h9 | h9)
  all_goals (first | (have h8 := lt_asymm h9; simp only [lt] at h9 h8; simp_all [cmpS, blt, le_iff, lt]; done) | (subst h9; have h8 := lt_irrefl p.k; simp only [lt] at h8; simp_all [cmpS, blt, le_iff, lt]; done) | (have h8 := lt_asymm h9; have h7 : ¬ p.k = k := fun e => by (rw [e, lt_irrefl] at h9; cases h9); simp only [lt] at h9 h8; simp_all [cmpS, blt, le_iff, lt]; done))
theorem cmp_lt (a k : L) : (cmpS a k < 0) ↔ lt a k = true := by
  unfold cmpS; split
  · rename_i h; simp [h]
  · rename_i h; split <;> simp [h]
theorem cmp_eq (a k : L) : (cmpS a k == 0) = (a == k) := by
  rcases lt_total a k with h | h | h
  · have : ¬ a = k := fun e => by rw [e, lt_irrefl] at h; cases h
    simp [cmpS, h, this]
  · subst h; simp [cmpS, lt_irrefl]
  · have : ¬ a = k := fun e => by rw [e, lt_irrefl] at h; cases h
    simp [cmpS, h, lt_asymm h, this]
def prF (l : List Pr) (k : L) (i : Nat) : Bool := !lt (l.getD i default).k k
theorem gFindP (l : List Pr) (k : L) (hl : l.length ≤ 1000000) : Good Try.prog 58 [.sh 2 (l.map Pr.av), .s k, .clo 59 []] [] (.tup [.i .i64 (bs (prF l k) 0 l.length), .b (decide (bs (prF l k) 0 l.length < l.length) && ((l.getD (bs (prF l k) 0 l.length) default).k == k))]) [] := by
  have ll : (l.map Pr.av).length = l.length := by simp
  refine Good.w tabOk mixed Try.func58 (N := 49) (by kernel_rfl) rfl (by (repeat (first | exact LE.nil | apply LE.cons)); done) (by (repeat (first | exact LE.nil | apply LE.cons)); done) fun D hD F => ?_
  repeat' (first
    | apply AO.nil
    | (apply AO.kIx; first | refine AO.sIxN (h := ?_) | refine AO.sIx (h := ?_) | refine AO.sP (h := ?_) | refine AO.sPi (h := ?_))
    | (apply AO.kAdd; refine AO.sAdd (h := ?_))
    | (apply AO.kCv; first | refine AO.sBytes (h := ?_) | refine AO.sStr (h := ?_) | refine AO.sStrR (h := ?_))
    | (apply AO.kP; first | refine AO.sP (h := ?_) | refine AO.sPi (h := ?_) | refine AO.sLoadB (h := ?_))
    | apply AW.seq
    | (apply AW.kR; refine AW.sR (h := ?_))
    | apply AW.skip
    | apply AW.block
    | apply AW.out
    | (apply AW.kE; refine AW.sE (h := ?_))
    | apply AW.label
    | ((first | (apply AO.kG; first | refine AO.sgt (h1 := fun h => ?_) (h2 := fun h => ?_) | refine AO.sgf (h1 := fun h => ?_) (h2 := fun h => ?_) | refine AO.sgs (h := ?_)) | (apply AW.kC; refine AW.sC (h1 := fun h => ?_) (h2 := fun h => ?_))) <;> (try (first | exact Bool.noConfusion h | exact absurd h (by decide) | (simp at h; done) | (rw [h]; try simp only [nrm] at h; try rw [h]; try (exfalso; omega)) | skip))))
  refine AW.loopI (fun x : Nat × Nat => x.1 ≤ x.2 ∧ x.2 ≤ l.length ∧ bs (prF l k) x.1 x.2 = bs (prF l k) 0 l.length) (fun x => ⟨[(0, .sh 2 (l.map Pr.av)), (1, .s k), (2, .clo 59 []), (8, .i .i64 l.length), (9, .i .i64 x.1), (10, .i .i64 x.2)], []⟩) (fun x => x.2 - x.1) (0, l.length) ⟨by simp, by simp, rfl⟩ (by (constructor <;> (repeat' (first | exact LeT.nil | exact LeB.nil | apply LeT.cons | apply LeB.cons | exact Ol.refl | apply Lx.s | apply Lx.b | apply Lx.i | exact Lx.refl)) <;> (first | rfl | assumption | omega | (simp only [List.length_map, BS_len]; done) | skip))) fun m ⟨i, j⟩ ⟨hij, hj, hc⟩ ih => ?_
  simp only at hij hj hc
  have e := half_wrap (i := i) (j := j) (by omega)
  repeat' (first
    | apply AO.nil
    | (apply AO.kCallV; refine AO.sCall (hg := (gCmp _ _)) (h := ?_))
    | (apply AO.kIx; first | refine AO.sIxN (hm := by first | decide | omega | (rw [e]; omega) | (exact ⟨by rw [e]; omega, by rw [e]; omega⟩)) (h := ?_) | refine AO.sIx (hm := by first | decide | omega | (rw [e]; omega) | (exact ⟨by rw [e]; omega, by rw [e]; omega⟩)) (h := ?_) | refine AO.sP (h := ?_) | refine AO.sPi (hq := by first | decide | omega | (rw [e]; omega) | (exact ⟨by rw [e]; omega, by rw [e]; omega⟩)) (h := ?_))
    | (apply AO.kAdd; refine AO.sAdd (hr := by first | decide | omega | (rw [e]; omega) | (exact ⟨by rw [e]; omega, by rw [e]; omega⟩)) (h := ?_))
    | (apply AO.kCv; first | refine AO.sBytes (h := ?_) | refine AO.sStr (h := ?_) | refine AO.sStrR (h := ?_))
    | (apply AO.kP; first | refine AO.sP (h := ?_) | refine AO.sPi (hq := by first | decide | omega | (rw [e]; omega) | (exact ⟨by rw [e]; omega, by rw [e]; omega⟩)) (h := ?_) | refine AO.sLoadB (ho := by first | decide | omega | (rw [e]; omega) | (exact ⟨by rw [e]; omega, by rw [e]; omega⟩)) (h := ?_))
    | apply AW.seq
    | (apply AW.kR; refine AW.sR (h := ?_))
    | apply AW.skip
    | apply AW.block
    | apply AW.out
    | (apply AW.kE; refine AW.sE (h := ?_))
    | apply AW.label
    | ((first | (apply AO.kG; first | refine AO.sgt (h1 := fun h => ?_) (h2 := fun h => ?_) | refine AO.sgf (h1 := fun h => ?_) (h2 := fun h => ?_) | refine AO.sgs (h := ?_)) | (apply AW.kC; refine AW.sC (h1 := fun h => ?_) (h2 := fun h => ?_))) <;> (try (first | exact Bool.noConfusion h | exact absurd h (by decide) | (simp at h; done) | (rw [h]; try simp only [nrm] at h; try rw [h]; try (exfalso; omega)) | skip))))
  · have h : cmpS (l.getD (IntKind.wrap .i64 (IntKind.wrap .u64 ((i : Int) + (j : Int)) / (2 : Int) ^ Int.toNat 1)).toNat default).k k < 0 := by assumption
    rw [cmp_lt, e] at h
    have h' : prF l k ((i + j) / 2) = false := by simp only [prF, Bool.not_eq_false']; exact h
    have hlt : i < j := by omega
    have e' : IntKind.wrap .i64 (IntKind.wrap .u64 ((i : Int) + (j : Int)) / (2 : Int) ^ Int.toNat 1) + 1 = (((i + j) / 2 + 1 : Nat) : Int) := by rw [e]; omega
    exact ih ((i + j) / 2 + 1, j) _ ⟨by simp only; omega, by simp only; omega, by simp only; rw [← hc, bs_hi hlt h']⟩ (by simp only; omega) (by (constructor <;> (repeat' (first | exact LeT.nil | exact LeB.nil | apply LeT.cons | apply LeB.cons | exact Ol.refl | apply Lx.s | apply Lx.b | apply Lx.i | exact Lx.refl)) <;> (first | rfl | assumption | omega | (simp only [List.length_map, BS_len]; done) | skip)))
  · have h : ¬ cmpS (l.getD (IntKind.wrap .i64 (IntKind.wrap .u64 ((i : Int) + (j : Int)) / (2 : Int) ^ Int.toNat 1)).toNat default).k k < 0 := by omega
    rw [cmp_lt, e] at h
    have h' : prF l k ((i + j) / 2) = true := by
      have h2 := Bool.eq_false_iff.2 h
      simp only [prF]
      exact congrArg (!·) h2
    have hlt : i < j := by omega
    exact ih (i, (i + j) / 2) _ ⟨by simp only; omega, by simp only; omega, by simp only; rw [← hc, bs_lo hlt h']⟩ (by simp only; omega) (by (constructor <;> (repeat' (first | exact LeT.nil | exact LeB.nil | apply LeT.cons | apply LeB.cons | exact Ol.refl | apply Lx.s | apply Lx.b | apply Lx.i | exact Lx.refl)) <;> (first | rfl | assumption | omega | (simp only [List.length_map, BS_len]; done) | skip)))
  · rw [bs_end (by omega)] at hc
    refine AW.ret (hD rfl (Lx.tup (.cons (Lx.i ?_) (.cons (Lx.b ?_) .nil))))
    · rw [← hc]
    · rw [← hc]
      have hi : i < l.length := by omega
      simp only [hi, decide_true, Bool.true_and]
      exact cmp_eq _ _
  · rw [bs_end (by omega)] at hc
    refine AW.ret (hD rfl (Lx.tup (.cons (Lx.i ?_) (.cons (Lx.b ?_) .nil))))
    · rw [← hc]
    · rw [← hc]
      have hi : ¬ i < l.length := by omega
      simp [hi]
/-- A step in a leaf. -/
def wayL (l : List Pr) (k : L) : Option L := if (decide (bs (prF l k) 0 l.length < l.length) && ((l.getD (bs (prF l k) 0 l.length) default).k == k)) = true then some (l.getD (bs (prF l k) 0 l.length) default).v else none
end Go.Proofs.Ytmfonbehcfjjgaa.Mv

/- A machine for proofs: a row that a call answers, asL a box. Under no condition. -/
namespace Go.Proofs.Ytmfonbehcfjjgaa.Mv
open Go
set_option linter.unusedSimpArgs false
set_option linter.unusedVariables false

/-- Values that lead nowhere. -/
def AV.flat : AV → Bool
  | .i .. | .b _ | .s _ => true
  | _ => false
theorem Rep.flat {Γ Γ' m m' v c} (h : Rep Γ m v c) (hc : c.flat = true) : Rep Γ' m' v c := by
  cases h <;> first | exact .i | exact .b | exact .s | (simp [AV.flat] at hc)
theorem flatB (l : List UInt8) : (BS l).flatten.all AV.flat = true := by
  rw [BS_flat]
  simp [cellsB, AV.flat]
theorem close_flat {c : AV} (h : c.flat = true) : c.close = c := by cases c <;> simp [AV.flat] at h <;> rfl
theorem closeL_flat {cs : List AV} (h : cs.all AV.flat = true) : cs.map AV.close = cs := by
  induction cs with
  | nil => rfl
  | cons c cs ih =>
    simp only [List.all_cons, Bool.and_eq_true] at h
    rw [List.map_cons, close_flat h.1, ih h.2]
theorem flat_shut {cs : List AV} (h : cs.all AV.flat = true) : cs.all AV.shut = true := by
  rw [List.all_eq_true] at *
  intro c hc
  have := h c hc
  cases c <;> simp [AV.flat] at this <;> rfl
/-- A box's rows, once it is written no more. -/
theorem Lx.fzR {t sz : Nat} {rows : List (List AV)} (hfl : rows.flatten.all AV.flat = true) (hrl : ∀ r ∈ rows, r.length = sz) : Lx (FzG t rows.flatten) (.bsl t 0 rows.length sz) (.sh sz rows) := fun Γ m v hh hr => by
  cases hr with
  | bsl hth hn =>
    have := hh _ hth 0
    rw [List.drop_zero, closeL_flat hfl] at this
    cases this with
    | pel vs h1 h2 h3 h4 => exact .sh vs hn.1 hn.2 rfl hrl h1 h2 h3 h4
theorem Lx.fzB {t : Nat} {l : List UInt8} : Lx (FzG t (cellsB l)) (.bsl t 0 l.length 1) (.sh 1 (BS l)) := by
  have := Lx.fzR (t := t) (sz := 1) (rows := BS l) (flatB l) (fun r hr => by
    simp only [BS, List.mem_map] at hr
    obtain ⟨b, _, rfl⟩ := hr; rfl)
  rwa [BS_len, BS_flat] at this
theorem cellsB_shut (l : List UInt8) : (cellsB l).all AV.shut = true := by simp [cellsB, AV.shut]
/-- A row that may grow, handed out asL a box. -/
theorem Good.box {P : Program} {f : FuncId} {args : List AV} {t e sz : Nat} {rows : List (List AV)} (hg : Good P f args [] (.gr t e sz rows) [(t, .gw rows.length)]) (h0 : 0 < rows.length) (hfl : rows.flatten.all AV.flat = true) :
    Good P f args [] (.bsl t 0 rows.length sz) [(t, .bx rows.flatten)] :=
  ⟨hg.fn, fun w Γ m vals h1 h2 h3 h4 => (hg.calls w Γ m vals h1 h2 h3 h4).mono fun e' w' ⟨v, Γ', m', q, hp⟩ => by
    have hob := hp.obs (t, .gw rows.length) (by simp)
    obtain ⟨v0, e0, sz0, xs, k1, k2, k3, k4⟩ := hob
    have hrep := hp.rep
    cases hrep with
    | gr hsh hka =>
      rw [hka] at k1; cases k1
      rcases k3.2 with ⟨_, hz⟩ | ⟨gb, cap, cur, rfl, _, hheap, hnc, hcm, hcs, htake⟩
      · omega
      · have hblk : (Ob.gw rows.length).blk m' t = some gb := by simp [Ob.blk, hka, Value.ownBlock]
        have hnew : w.heap.size ≤ gb := by
          rcases hp.own gb ⟨(t, .gw rows.length), by simp, hblk⟩ with h | ⟨p, hp', _⟩
          · exact h
          · simp at hp'
        obtain ⟨r1, r2, r3⟩ := own_rep k3 hsh (fun g hg => (k4 g hg).1)
        let Γ'' : Gam := fun ad => if ad.block = gb then none else Γ' ad
        let m'' : Nm := m'.set t (some gb) fun _ => none
        refine ⟨_, Γ'', m'', q, fun ad y hy => ?_, fun ad y hy => ?_, .bsl (by simp [m'', Nm.set]) ⟨hnc, hcm⟩, fun p hp' => ?_, fun p hp' q' hq' g _ _ => by simp at hp' hq'; rw [hp', hq'], fun g hg' => ?_, fun p hp' => by simp at hp', hp.frame, fun ad h0 h1 => ?_⟩
        · have := block_lt_of_cell (h1 ad y hy)
          simp only [Γ'']
          rw [if_neg (by omega)]
          exact hp.sub ad y hy
        · simp only [Γ''] at hy
          split at hy
          · cases hy
          · exact hp.gok ad y hy
        · simp at hp'; subst hp'
          have hlen : rows.flatten.length = xs.length := r1.1.symm
          refine ⟨gb, cur, (e, 0, 0), by simp [m'', Nm.set], hheap, ⟨.inl (Nat.le_refl _), ?_⟩, fun j y z hy hz => ?_, fun j y hj hy => ?_, fun ad had => by simp [Γ'', had]⟩
          · rw [hlen, k3.1, hcs]; exact Nat.mul_le_mul_right _ hnc
          · have hj : j < xs.length := by rw [← hlen]; exact (List.getElem?_eq_some_iff.1 hz).1
            have hx : xs[j]? = some y := by
              rw [← htake, List.getElem?_take, if_pos (by rw [k3.1] at hj; exact hj)]; simpa using hy
            exact (r1.2 j y z hx hz).flat (List.all_eq_true.1 hfl z (List.mem_of_getElem? hz))
          · rw [hlen] at hj
            have hx : xs[j]? = some y := by
              rw [← htake, List.getElem?_take, if_pos (by rw [k3.1] at hj; exact hj)]; simpa using hy
            exact r3 y (List.mem_of_getElem? hx)
        · obtain ⟨p, hp', hg'⟩ := hg'
          simp at hp'; subst hp'
          simp only [Ob.blk, m'', Nm.set, if_true] at hg'
          cases hg'; exact .inl hnew
        · simp only [Γ''] at h1
          split at h1
          · exact absurd rfl h1
          · exact (hp.fresh ad h0 h1).imp id fun ⟨p, hp', _⟩ => by simp at hp'⟩
/-- A row of bytes, handed out asL a box. -/
theorem Good.boxB {P : Program} {f : FuncId} {args : List AV} {t e : Nat} {l : List UInt8} (hg : Good P f args [] (.gr t e 1 (BS l)) [(t, .gw (BS l).length)]) (h0 : 0 < l.length) : Good P f args [] (.bsl t 0 l.length 1) [(t, .bx (cellsB l))] := by
  have := hg.box (by rw [BS_len]; exact h0) (flatB l)
  rwa [BS_len, BS_flat] at this
end Go.Proofs.Ytmfonbehcfjjgaa.Mv

/- Nodes: where a key leads from a leaf. Under no condition. -/
namespace Go.Proofs.Ytmfonbehcfjjgaa.Mv
open Go Go.Proofs
set_option linter.unusedSimpArgs false
set_option linter.unusedVariables false
set_option maxRecDepth 10000
set_option maxHeartbeats 4000000
attribute [local irreducible] AW AO AR

theorem by_u16 {n : Int} (h : (Lit.int .u16 n).wf = true) : ∃ b : BitVec 16, n = (b.toNat : Int) := by
  have h' := wf_u16 h
  exact ⟨BitVec.ofNat 16 n.toNat, by rw [BitVec.toNat_ofNat]; omega⟩
/-- A way. -/
structure Wy where
  kind : UInt8
  val : L
  block : B32
  deep : W16
  key : L
  deriving DecidableEq, Inhabited
def Wy.av (w : Wy) : List AV := [.i .u8 (w.kind.toNat : Int), .s w.val, .i .u32 (w.block.toNat : Int), .i .u16 (w.deep.toNat : Int), .s w.key]
def wayZ : Wy := ⟨0, [], 0, 0, []⟩
def wayV (v : L) : Wy := ⟨1, v, 0, 0, []⟩
theorem gFind (l : List Pr) (k : L) (hl : l.length ≤ 1000000) : Good Try.prog 58 [.sh 2 (l.map Pr.av), .s k, .clo 59 []] [] (.tup [.i .i64 (bs (prF l k) 0 l.length), .b (decide (bs (prF l k) 0 l.length < l.length) && ((l.getD (bs (prF l k) 0 l.length) default).k == k))]) [] := gFindP l k hl
def leafWay (l : List Pr) (k : L) : Wy := match wayL l k with | some v => wayV v | none => wayZ
theorem ne0 {n : Nat} (h : ((n : Int) != 0) = true) : n ≠ 0 := fun e => by subst e; cases h
theorem eq0 {n : Nat} (h : ((n : Int) != 0) = false) : n = 0 := by
  simp only [bne_eq_false_iff_eq] at h; exact_mod_cast h
theorem leafWay0 {l : List Pr} {k : L} (h : (decide (bs (prF l k) 0 l.length < l.length) && ((l.getD (bs (prF l k) 0 l.length) default).k == k)) = false) : leafWay l k = wayZ := by rw [leafWay, wayL, if_neg (by rw [h]; decide)]
theorem leafWay1 {l : List Pr} {k : L} (h : (decide (bs (prF l k) 0 l.length < l.length) && ((l.getD (bs (prF l k) 0 l.length) default).k == k)) = true) : leafWay l k = wayV (l.getD (bs (prF l k) 0 l.length) default).v ∧ bs (prF l k) 0 l.length < l.length := by
  refine ⟨by rw [leafWay, wayL, if_pos h], ?_⟩
  cases h8 : decide (bs (prF l k) 0 l.length < l.length) with
  | true => exact of_decide_eq_true h8
  | false => rw [h8] at h; cases h
theorem gStepLeaf (n : Nd) (k : L) (hs : n.small) (hl : n.leaf = true) (w : Wy) (hw : w = if mayN n = 0 then leafWay n.pairs k else wayZ) : Good Try.prog 24 [.agg n.av, .s k] [] (.agg w.av) [] := by
  have hs2 := hs.pairs
  have l2 : (n.pairs.map Pr.av).length = n.pairs.length := by simp
  refine Good.w tabOk mixed Try.func24 (N := 74) (by kernel_rfl) rfl (by (repeat (first | exact LE.nil | apply LE.cons)); done) (by (repeat (first | exact LE.nil | apply LE.cons)); done) fun D hD F => ?_
  repeat' (first
    | apply AO.nil
    | (apply AO.kCall 39; refine AO.sCall (hg := (gMay _ hs)) (h := ?_))
    | (apply AO.kCall 58; refine AO.sCall (hg := (gFind _ _ hs2)) (h := ?_))
    | (apply AO.kIx; first | refine AO.sIxN (h := ?_) | refine AO.sIx (h := ?_) | refine AO.sP (h := ?_) | refine AO.sPi (h := ?_))
    | (apply AO.kBox; refine AO.sBox (h := ?_))
    | (apply AO.kAlloc; refine AO.sAlloc (h := ?_))
    | (apply AO.kStore; first | refine AO.sStore (h := ?_) | refine AO.sStB (h := ?_))
    | (apply AO.kP; first | refine AO.sP (h := ?_) | refine AO.sPi (h := ?_) | refine AO.sLoadB (h := ?_))
    | apply AW.seq
    | (apply AW.kR; refine AW.sR (h := ?_))
    | apply AW.skip
    | apply AW.block
    | apply AW.out
    | (apply AW.kE; refine AW.sE (h := ?_))
    | apply AW.label
    | (apply AW.kRd; refine AW.sRd (h := ?_))
    | ((first | (apply AW.kC; refine AW.sC (h1 := fun h => ?_) (h2 := fun h => ?_))) <;> (try (first | exact Bool.noConfusion h | exact absurd h (by decide) | (simp at h; done) | (rw [h]; try simp only [nrm] at h; try rw [h]; try (exfalso; omega)) | skip)))
    | (apply AR.kAny; first | (apply AR.kCall 39; refine AR.sCall (hg := (gMay _ hs)) (h := ?_)) | (apply AR.kCall 58; refine AR.sCall (hg := (gFind _ _ hs2)) (h := ?_)) | (apply AR.kIx; first | refine AR.sIxN (h := ?_) | refine AR.sIx (h := ?_) | refine AR.sP (h := ?_) | refine AR.sPi (h := ?_)) | (apply AR.kBox; refine AR.sBox (h := ?_)) | (apply AR.kAlloc; refine AR.sAlloc (h := ?_)) | (apply AR.kStore; refine AR.sStore (h := ?_)) | (apply AR.kP; first | refine AR.sP (h := ?_) | refine AR.sPi (h := ?_)))
    | (apply AR.kNil; refine AR.sNil (h := ?_)))
  · obtain rfl : w = wayZ := by rw [hw, if_neg (ne0 h)]
    (refine AW.ret (hD rfl ?_); (repeat' (first | apply Lx.s | apply Lx.b | apply Lx.i | apply LxL.cons | exact LxL.nil | apply Lx.tup | apply Lx.agg | apply Lx.refl)) <;> (try with_reducible rfl))
    all_goals rfl
  · have h8 := eq0 ‹((mayN n : Int) != 0) = false›
    obtain rfl : w = wayZ := by rw [hw, if_pos h8, leafWay0 h]
    (refine AW.ret (hD rfl ?_); (repeat' (first | apply Lx.s | apply Lx.b | apply Lx.i | apply LxL.cons | exact LxL.nil | apply Lx.tup | apply Lx.agg | apply Lx.refl)) <;> (try with_reducible rfl))
    all_goals rfl
  · have h8 := eq0 ‹((mayN n : Int) != 0) = false›
    obtain ⟨h7, h6⟩ := leafWay1 h
    obtain rfl : w = wayV (n.pairs.getD (bs (prF n.pairs k) 0 n.pairs.length) default).v := by rw [hw, if_pos h8, h7]
    repeat' (first
    | apply AO.nil
    | (apply AO.kIx; first | refine AO.sIxN (h := ?_) | refine AO.sIx (h := ?_) | refine AO.sP (h := ?_) | refine AO.sPi (h := ?_))
    | (apply AO.kBox; refine AO.sBox (h := ?_))
    | (apply AO.kAlloc; refine AO.sAlloc (h := ?_))
    | (apply AO.kStore; first | refine AO.sStore (h := ?_) | refine AO.sStB (h := ?_))
    | (apply AO.kP; first | refine AO.sP (h := ?_) | refine AO.sPi (h := ?_) | refine AO.sLoadB (h := ?_))
    | apply AW.seq
    | (apply AW.kR; refine AW.sR (h := ?_))
    | apply AW.skip
    | apply AW.block
    | apply AW.out
    | (apply AW.kE; refine AW.sE (h := ?_))
    | apply AW.label
    | (apply AW.kRd; refine AW.sRd (h := ?_))
    | ((first | (apply AW.kC; refine AW.sC (h1 := fun h => ?_) (h2 := fun h => ?_))) <;> (try (first | exact Bool.noConfusion h | exact absurd h (by decide) | (simp at h; done) | (rw [h]; try simp only [nrm] at h; try rw [h]; try (exfalso; omega)) | skip)))
    | (apply AR.kAny; first | (apply AR.kIx; first | refine AR.sIxN (h := ?_) | refine AR.sIx (h := ?_) | refine AR.sP (h := ?_) | refine AR.sPi (h := ?_)) | (apply AR.kBox; refine AR.sBox (h := ?_)) | (apply AR.kAlloc; refine AR.sAlloc (h := ?_)) | (apply AR.kStore; refine AR.sStore (h := ?_)) | (apply AR.kP; first | refine AR.sP (h := ?_) | refine AR.sPi (h := ?_)))
    | (apply AR.kNil; refine AR.sNil (h := ?_)))
    (refine AW.ret (hD rfl ?_); (repeat' (first | apply Lx.s | apply Lx.b | apply Lx.i | apply LxL.cons | exact LxL.nil | apply Lx.tup | apply Lx.agg | apply Lx.refl)) <;> (try with_reducible rfl))
    all_goals rfl
  · rw [hl] at h; cases h

/-! ### the document's examples -/
def nA : Nd := ⟨true, [⟨[97], [49]⟩], [], [], []⟩
def nB : Nd := ⟨false, [], [[109]], [⟨0, 1, [], []⟩, ⟨0, 1, [], []⟩], []⟩
theorem nAs : nA.small := ⟨by decide, by decide, by decide, by decide⟩
theorem nBs : nB.small := ⟨by decide, by decide, by decide, by decide⟩
theorem wA1 : wayV [49] = if mayN nA = 0 then leafWay nA.pairs [97] else wayZ := by decide
theorem wA2 : wayZ = if mayN nA = 0 then leafWay nA.pairs [98] else wayZ := by decide
theorem kB1 : kidN nB [108, 122] = 0 := by decide
theorem kB2 : kidN nB [109] = 1 := by decide
theorem gAwake : Good Try.prog 23 [] [] (.b true) [] := by
  refine Good.w tabOk mixed Try.func23 (N := 31) (by kernel_rfl) rfl (by (repeat (first | exact LE.nil | apply LE.cons)); done) (by (repeat (first | exact LE.nil | apply LE.cons)); done) fun D hD F => ?_
  (repeat (first | apply AW.seq | apply AW.block)); apply AW.kR; refine AW.sR (h := ?_); repeat' (first
    | apply AO.nil
    | (apply AO.kBuildS; first | refine AO.sBuildT (h := ?_) | refine AO.sBuildS (h := ?_))
    | (apply AO.kAlloc; refine AO.sAlloc (h := ?_))
    | (apply AO.kStore; first | refine AO.sStore (h := ?_) | refine AO.sStB (h := ?_))
    | (apply AO.kP; first | refine AO.sP (h := ?_) | refine AO.sPi (h := ?_) | refine AO.sLoadB (h := ?_)))
  (repeat (first | apply AW.seq | apply AW.block)); apply AW.kR; refine AW.sR (h := ?_); repeat' (first
    | apply AO.nil
    | (apply AO.kBuildS; first | refine AO.sBuildT (h := ?_) | refine AO.sBuildS (h := ?_))
    | (apply AO.kAlloc; refine AO.sAlloc (h := ?_))
    | (apply AO.kStore; first | refine AO.sStore (h := ?_) | refine AO.sStB (h := ?_))
    | (apply AO.kP; first | refine AO.sP (h := ?_) | refine AO.sPi (h := ?_) | refine AO.sLoadB (h := ?_)))
  (repeat (first | apply AW.seq | apply AW.block)); apply AW.kR; refine AW.sR (h := ?_); repeat' (first
    | apply AO.nil
    | (apply AO.kBuildS; first | refine AO.sBuildT (h := ?_) | refine AO.sBuildS (h := ?_))
    | (apply AO.kAlloc; refine AO.sAlloc (h := ?_))
    | (apply AO.kStore; first | refine AO.sStore (h := ?_) | refine AO.sStB (h := ?_))
    | (apply AO.kP; first | refine AO.sP (h := ?_) | refine AO.sPi (h := ?_) | refine AO.sLoadB (h := ?_)))
  refine AW.less (st' := ⟨[(1, .ptr 1 0), (2, .ptr 2 0)], [(1, .bx nA.av), (2, .bx nB.av)]⟩) ⟨.cons .refl (.cons .refl .nil), .cons (.bx (.cons .refl (.cons .gr (.cons .nil (.cons .nil (.cons .nil .nil)))))) (.cons (.bx (.cons .refl (.cons .nil (.cons .gr (.cons .gr (.cons .nil .nil)))))) .nil)⟩ ?_
  repeat' (first
    | apply AO.nil
    | (apply AO.kCall 24; refine AO.sCall (hg := (gStepLeaf nA _ nAs rfl _ rfl)) (h := ?_))
    | (apply AO.kCall 28; refine AO.sCall (hg := (gKid nB _ nBs)) (h := ?_))
    | (apply AO.kBuildS; first | refine AO.sBuildT (h := ?_) | refine AO.sBuildS (h := ?_))
    | (apply AO.kAlloc; refine AO.sAlloc (h := ?_))
    | (apply AO.kStore; first | refine AO.sStore (h := ?_) | refine AO.sStB (h := ?_))
    | (apply AO.kP; first | refine AO.sP (h := ?_) | refine AO.sPi (h := ?_) | refine AO.sLoadB (h := ?_))
    | apply AW.seq
    | (apply AW.kR; refine AW.sR (h := ?_))
    | apply AW.skip
    | apply AW.block
    | apply AW.out
    | (apply AW.kE; refine AW.sE (h := ?_))
    | apply AW.label
    | ((first | (apply AO.kG; first | refine AO.sgt (h1 := fun h => ?_) (h2 := fun h => ?_) | refine AO.sgf (h1 := fun h => ?_) (h2 := fun h => ?_) | refine AO.sgs (h := ?_))) <;> (try (first | exact Bool.noConfusion h | exact absurd h (by decide) | (simp at h; done) | (rw [h]; try simp only [nrm] at h; try rw [h]; try (exfalso; omega)) | skip))))
  refine AW.ret (hD rfl (Lx.b (by decide)))
/-! ### the statement of Same -/
theorem gLawSame (a b : Nd) (ha : a.fits) (hb : b.fits) : Good Try.prog 8 [.agg a.av, .agg b.av] [] (.b true) [] := by
  refine Good.w tabOk mixed Try.func8 (N := 32) (by kernel_rfl) rfl (by (repeat (first | exact LE.nil | apply LE.cons)); done) (by (repeat (first | exact LE.nil | apply LE.cons)); done) fun D hD F => ?_
  repeat' (first
    | apply AO.nil
    | (apply AO.kCall 14; refine AO.sCall (hg := (gGreat _ (by first | assumption | (apply great_small; assumption)))) (h := ?_))
    | (apply AO.kCall 23; refine AO.sCall (hg := gAwake) (h := ?_))
    | (apply AO.kCall 30; refine AO.sCall (hg := (gSame _ _ (by first | assumption | (apply great_small; assumption)) (by first | assumption | (apply great_small; assumption)))) (h := ?_))
    | (apply AO.kCall 18; refine AO.sCall (hg := (gSame' _ _ (by first | assumption | (apply great_small; assumption)) (by first | assumption | (apply great_small; assumption)))) (h := ?_))
    | (apply AO.kBox; refine AO.sBox (h := ?_))
    | (apply AO.kP; first | refine AO.sP (h := ?_) | refine AO.sPi (hq := by first | assumption | (apply great_small; assumption)) (h := ?_) | refine AO.sLoadB (ho := by first | assumption | (apply great_small; assumption)) (h := ?_))
    | apply AW.seq
    | (apply AW.kR; refine AW.sR (h := ?_))
    | apply AW.skip
    | apply AW.block
    | apply AW.out
    | (apply AW.kE; refine AW.sE (h := ?_))
    | apply AW.label
    | (apply AW.kRd; refine AW.sRd (h := ?_))
    | ((first | (apply AO.kG; first | refine AO.sgt (h1 := fun h => ?_) (h2 := fun h => ?_) | refine AO.sgf (h1 := fun h => ?_) (h2 := fun h => ?_) | refine AO.sgs (h := ?_)) | (apply AW.kC; refine AW.sC (h1 := fun h => ?_) (h2 := fun h => ?_)) | (apply AR.kAny; apply AR.kG; first | refine AR.sgt (h1 := fun h => ?_) (h2 := fun h => ?_) | refine AR.sgf (h1 := fun h => ?_) (h2 := fun h => ?_) | refine AR.sgs (h := ?_))) <;> (try (first | exact Bool.noConfusion h | exact absurd h (by decide) | (simp at h; done) | (rw [h]; try simp only [nrm] at h; try rw [h]; try (exfalso; omega)) | skip)))
    | (apply AR.kAny; first | (apply AR.kCall 14; refine AR.sCall (hg := (gGreat _ (by first | assumption | (apply great_small; assumption)))) (h := ?_)) | (apply AR.kCall 23; refine AR.sCall (hg := gAwake) (h := ?_)) | (apply AR.kCall 30; refine AR.sCall (hg := (gSame _ _ (by first | assumption | (apply great_small; assumption)) (by first | assumption | (apply great_small; assumption)))) (h := ?_)) | (apply AR.kCall 18; refine AR.sCall (hg := (gSame' _ _ (by first | assumption | (apply great_small; assumption)) (by first | assumption | (apply great_small; assumption)))) (h := ?_)) | (apply AR.kBox; refine AR.sBox (h := ?_)) | (apply AR.kP; first | refine AR.sP (h := ?_) | refine AR.sPi (hq := by first | assumption | (apply great_small; assumption)) (h := ?_)))
    | (apply AR.kNil; refine AR.sNil (h := ?_)))
  all_goals exact AW.ret (hD rfl (Lx.b rfl))
end Go.Proofs.Ytmfonbehcfjjgaa.Mv

/- Messages: of what they speak; trimmed. Under no condition. -/
namespace Go.Proofs.Ytmfonbehcfjjgaa.Mv
open Go Go.Proofs
set_option linter.unusedSimpArgs false
set_option linter.unusedVariables false
set_option maxRecDepth 10000
set_option maxHeartbeats 4000000
attribute [local irreducible] AW AO AR

/-- Of what a message speaks. -/
def abS (m : Ms) : L × L × Bool :=
  if m.kind = 1 then (m.key, m.key ++ [0], true) else if m.kind = 2 then (m.key, m.key ++ [0], true)
  else if m.kind = 3 then (m.key, succS m.key, succOk m.key) else ([], [], true)
theorem gAbout (m : Ms) (h : m.key.length ≤ 1000000) : Good Try.prog 44 [.agg m.av] [] (.agg [.s (abS m).1, .s (abS m).2.1, .b (abS m).2.2]) [] := by
  refine Good.w tabOk mixed Try.func44 (N := 20) (by kernel_rfl) rfl (by (repeat (first | exact LE.nil | apply LE.cons)); done) (by (repeat (first | exact LE.nil | apply LE.cons)); done) fun D hD F => ?_
  repeat' (first
    | apply AO.nil
    | (apply AO.kCall 95; refine AO.sCall (hg := (gNext _ sd)) (h := ?_))
    | (apply AO.kCall 96; refine AO.sCall (hg := (gOf _ sd)) (h := ?_))
    | (apply AO.kBox; refine AO.sBox (h := ?_))
    | (apply AO.kAlloc; refine AO.sAlloc (h := ?_))
    | (apply AO.kStore; first | refine AO.sStore (h := ?_) | refine AO.sStB (h := ?_))
    | (apply AO.kP; first | refine AO.sP (h := ?_) | refine AO.sPi (h := ?_) | refine AO.sLoadB (h := ?_))
    | apply AW.seq
    | (apply AW.kR; refine AW.sR (h := ?_))
    | apply AW.skip
    | apply AW.block
    | apply AW.out
    | (apply AW.kE; refine AW.sE (h := ?_))
    | apply AW.label
    | (apply AW.kRd; refine AW.sRd (h := ?_))
    | ((first | (apply AW.kC; refine AW.sC (h1 := fun h => ?_) (h2 := fun h => ?_))) <;> (try (first | exact Bool.noConfusion h | exact absurd h (by decide) | (simp at h; done) | (rw [h]; try simp only [nrm] at h; try rw [h]; try (exfalso; omega)) | skip)))
    | (apply AR.kAny; first | (apply AR.kCall 95; refine AR.sCall (hg := (gNext _ sd)) (h := ?_)) | (apply AR.kCall 96; refine AR.sCall (hg := (gOf _ sd)) (h := ?_)) | (apply AR.kBox; refine AR.sBox (h := ?_)) | (apply AR.kAlloc; refine AR.sAlloc (h := ?_)) | (apply AR.kStore; refine AR.sStore (h := ?_)) | (apply AR.kP; first | refine AR.sP (h := ?_) | refine AR.sPi (h := ?_)))
    | (apply AR.kNil; refine AR.sNil (h := ?_)))
  all_goals (refine AW.ret (hD rfl ?_); (repeat' (first | apply Lx.s | apply Lx.b | apply Lx.i | apply LxL.cons | exact LxL.nil | apply Lx.tup | apply Lx.agg | apply Lx.refl)) <;> (try with_reducible rfl))
  all_goals (simp only [k1, k2, k3] at *; simp_all [abS])
theorem gAbout' (m : Ms) (h : m.key.length ≤ 1000000) : Good Try.prog 51 [.agg m.av] [] (.agg [.s (abS m).1, .s (abS m).2.1, .b (abS m).2.2]) [] := by
  refine Good.w tabOk mixed Try.func51 (N := 24) (by kernel_rfl) rfl (by (repeat (first | exact LE.nil | apply LE.cons)); done) (by (repeat (first | exact LE.nil | apply LE.cons)); done) fun D hD F => ?_
  repeat' (first
    | apply AO.nil
    | (apply AO.kCall 99; refine AO.sCall (hg := (gOf' _ sd)) (h := ?_))
    | (apply AO.kBox; refine AO.sBox (h := ?_))
    | (apply AO.kAlloc; refine AO.sAlloc (h := ?_))
    | (apply AO.kStore; first | refine AO.sStore (h := ?_) | refine AO.sStB (h := ?_))
    | (apply AO.kAdd; refine AO.sAdd (h := ?_))
    | (apply AO.kP; first | refine AO.sP (h := ?_) | refine AO.sPi (h := ?_) | refine AO.sLoadB (h := ?_))
    | apply AW.seq
    | (apply AW.kR; refine AW.sR (h := ?_))
    | apply AW.skip
    | apply AW.block
    | apply AW.out
    | (apply AW.kE; refine AW.sE (h := ?_))
    | apply AW.label
    | ((first | (apply AO.kG; first | refine AO.sgt (h1 := fun h => ?_) (h2 := fun h => ?_) | refine AO.sgf (h1 := fun h => ?_) (h2 := fun h => ?_) | refine AO.sgs (h := ?_)) | (apply AW.kC; refine AW.sC (h1 := fun h => ?_) (h2 := fun h => ?_))) <;> (try (first | exact Bool.noConfusion h | exact absurd h (by decide) | (simp at h; done) | (rw [h]; try simp only [nrm] at h; try rw [h]; try (exfalso; omega)) | skip))))
  all_goals (refine AW.ret (hD rfl ?_); (repeat' (first | apply Lx.s | apply Lx.b | apply Lx.i | apply LxL.cons | exact LxL.nil | apply Lx.tup | apply Lx.agg | apply Lx.refl)) <;> (try with_reducible rfl))
  all_goals (simp only [k1, k2, k3] at *; simp_all [abS])
/-- A message with a beginning taken away. -/
def mvR (m : Ms) (a : L) : Ms × Bool :=
  if hp m.key a then (⟨m.kind, cutS m.key a, m.val, m.block, m.deep, m.add⟩, true)
  else if m.kind = 3 ∧ hp a m.key = true ∧ m.add.length + (cutS a m.key).length ≤ 16 then (⟨m.kind, [], m.val, m.block, m.deep, m.add ++ cutS a m.key⟩, true)
  else (m, false)
theorem mv1 {m : Ms} {a : L} (h : hp m.key a = true) : mvR m a = (⟨m.kind, cutS m.key a, m.val, m.block, m.deep, m.add⟩, true) := by rw [mvR, if_pos h]
theorem k3b {u : UInt8} (h : ((u.toNat : Int) != 3) = false) : u = 3 := by
  rw [bne_eq_false_iff_eq, k3] at h; exact h
theorem k3c {u : UInt8} (h : ((u.toNat : Int) != 3) = true) : u ≠ 3 := by
  rw [bne_iff_ne] at h; exact fun e => h (by rw [e]; rfl)
theorem mv2 {m : Ms} {a : L} (h : hp m.key a = false) (h3 : m.kind = 3) (h4 : hp a m.key = true) (h5 : (m.add.length : Int) + ((cutS a m.key).length : Int) ≤ 16) : mvR m a = (⟨m.kind, [], m.val, m.block, m.deep, m.add ++ cutS a m.key⟩, true) := by
  rw [mvR, if_neg (by rw [h]; decide), if_pos ⟨h3, h4, by omega⟩]
theorem mv3 {m : Ms} {a : L} (h : hp m.key a = false) (h3 : ¬ (m.kind = 3 ∧ hp a m.key = true ∧ m.add.length + (cutS a m.key).length ≤ 16)) : mvR m a = (m, false) := by
  rw [mvR, if_neg (by rw [h]; decide), if_neg h3]
/-! ### messages trimmed -/
theorem filt_yes {α : Type} [Inhabited α] {l : List α} {p : α → Bool} {n : Nat} (h : n < l.length) (hp : p (l.getD n default) = true) : (l.take (n + 1)).filter p = (l.take n).filter p ++ [l.getD n default] := by
  rw [takeD h, List.filter_append]; rw [List.filter_cons_of_pos hp, List.filter_nil]
theorem filt_no {α : Type} [Inhabited α] {l : List α} {p : α → Bool} {n : Nat} (h : n < l.length) (hp : p (l.getD n default) = false) : (l.take (n + 1)).filter p = (l.take n).filter p := by
  rw [takeD h, List.filter_append, List.filter_cons_of_neg (by rw [hp]; decide), List.filter_nil, List.append_nil]
/-- Nothing of a range is in another one. -/
def emC (x r : L × L × Bool) : Bool := emR (cS x.1 x.2.1 x.2.2 r.1 r.2.1 r.2.2).1 (cS x.1 x.2.1 x.2.2 r.1 r.2.1 r.2.2).2.1 (cS x.1 x.2.1 x.2.2 r.1 r.2.1 r.2.2).2.2
def msKeep (r : L × L × Bool) (m : Ms) : Bool := !emC (abS m) r
def trMsR (l : List Ms) (r : L × L × Bool) (a : L) : List Ms := (l.filter (msKeep r)).map fun m => (mvR m a).1
def trMsOk (l : List Ms) (r : L × L × Bool) (a : L) : Bool := (l.filter (msKeep r)).all fun m => (mvR m a).2
theorem trMsR_len (l : List Ms) (r : L × L × Bool) (a : L) : (trMsR l r a).length ≤ l.length := by
  rw [trMsR, List.length_map]; exact List.length_filter_le _ _
def msSm (m : Ms) : Bool := decide (m.key.length ≤ 1000000) && decide (m.add.length ≤ 1000000)
theorem sm_at {l : List Ms} (h : l.all msSm = true) {q : Nat} (hq : q < l.length) : (l.getD q default).key.length ≤ 1000000 ∧ (l.getD q default).add.length ≤ 1000000 := by
  have := List.all_eq_true.1 h (l.getD q default) (by rw [List.getD_eq_getElem?_getD, List.getElem?_eq_getElem hq]; exact List.getElem_mem hq)
  simp only [msSm, Bool.and_eq_true, decide_eq_true_eq] at this; exact this
end Go.Proofs.Ytmfonbehcfjjgaa.Mv

/- Messages trimmed, by the document. Under no condition. -/
namespace Go.Proofs.Ytmfonbehcfjjgaa.Mv
open Go Go.Proofs
set_option linter.unusedSimpArgs false
set_option linter.unusedVariables false
set_option maxRecDepth 10000
set_option maxHeartbeats 4000000
attribute [local irreducible] AW AO AR

theorem cutS_hp {k p : L} (h : hp k p = true) : cutS k p = k.drop p.length := by rw [cutS, if_pos h]
theorem trMs_bad {l : List Ms} {r : L × L × Bool} {a : L} {q : Nat} (hq : q < l.length) (g : msKeep r (l.getD q default) = true) (h : (mvR (l.getD q default) a).2 = false) : trMsOk l r a = false := by
  refine List.all_eq_false.2 ⟨l.getD q default, ?_, by rw [h]; decide⟩
  rw [List.mem_filter]; refine ⟨?_, g⟩
  rw [List.getD_eq_getElem?_getD, List.getElem?_eq_getElem hq]; exact List.getElem_mem hq
end Go.Proofs.Ytmfonbehcfjjgaa.Mv

/- A node trimmed: walks of the code. Under no condition. -/
namespace Go.Proofs.Ytmfonbehcfjjgaa.Mv
open Go Go.Proofs
set_option linter.unusedSimpArgs false
set_option linter.unusedVariables false
set_option maxRecDepth 10000
set_option maxHeartbeats 4000000
attribute [local irreducible] AW AO AR

/-! ### a leaf -/
def prKeep (r : L × L × Bool) (p : Pr) : Bool := inR r.1 r.2.1 r.2.2 p.k
def prCut (a : L) (p : Pr) : Pr := ⟨cutS p.k a, p.v⟩
def trPr (l : List Pr) (r : L × L × Bool) (a : L) : List Pr := (l.filter (prKeep r)).map (prCut a)
theorem trPr_len (l : List Pr) (r : L × L × Bool) (a : L) : (trPr l r a).length ≤ l.length := by
  rw [trPr, List.length_map]; exact List.length_filter_le _ _
/-! ### kids -/
def kidOk (n : Nd) (a : L) (i : Nat) : Bool :=
  joinOk [] a (n.kids.getD i default).strip (n.kids.getD i default).add && (decide ((joinS [] a (n.kids.getD i default).strip (n.kids.getD i default).add).length ≤ 16) && decide ((joinA [] a (n.kids.getD i default).strip (n.kids.getD i default).add).length ≤ 16))
def trKid (n : Nd) (a : L) (i : Nat) : Ed := ⟨(n.kids.getD i default).block, (n.kids.getD i default).deep, joinS [] a (n.kids.getD i default).strip (n.kids.getD i default).add, joinA [] a (n.kids.getD i default).strip (n.kids.getD i default).add⟩
def kRun (n : Nd) (r : L × L × Bool) (a : L) : Nat → Nat → List L → List Ed → (List L × List Ed) × Bool
  | 0, _, ps, ks => ((ps, ks), true)
  | u + 1, q, ps, ks =>
    if emC (rgN n q) r = true then kRun n r a u (q + 1) ps ks
    else if kidOk n a q = false then ((ps, ks), false)
    else kRun n r a u (q + 1) (if 0 < ks.length then ps ++ [cutS (rgN n q).1 a] else ps) (ks ++ [trKid n a q])
theorem kRun_skip {n : Nd} {r : L × L × Bool} {a : L} {q : Nat} {ps : List L} {ks : List Ed} (hq : q < n.kids.length) (h : emC (rgN n q) r = true) : kRun n r a (n.kids.length - q) q ps ks = kRun n r a (n.kids.length - (q + 1)) (q + 1) ps ks := by
  rw [show n.kids.length - q = (n.kids.length - (q + 1)) + 1 by omega, kRun, if_pos h]
theorem kRun_bad {n : Nd} {r : L × L × Bool} {a : L} {q : Nat} {ps : List L} {ks : List Ed} (hq : q < n.kids.length) (h : emC (rgN n q) r = false) (h2 : kidOk n a q = false) : kRun n r a (n.kids.length - q) q ps ks = ((ps, ks), false) := by
  rw [show n.kids.length - q = (n.kids.length - (q + 1)) + 1 by omega, kRun, if_neg (by rw [h]; decide), if_pos h2]
theorem kRun_more {n : Nd} {r : L × L × Bool} {a : L} {q : Nat} {ps : List L} {ks : List Ed} (hq : q < n.kids.length) (h : emC (rgN n q) r = false) (h2 : kidOk n a q = true) : kRun n r a (n.kids.length - q) q ps ks = kRun n r a (n.kids.length - (q + 1)) (q + 1) (if 0 < ks.length then ps ++ [cutS (rgN n q).1 a] else ps) (ks ++ [trKid n a q]) := by
  rw [show n.kids.length - q = (n.kids.length - (q + 1)) + 1 by omega, kRun, if_neg (by rw [h]; decide), if_neg (by rw [h2]; decide)]
/-! ### the whole -/
def ndZ : Nd := ⟨false, [], [], [], []⟩
def trE (n : Nd) (r : L × L × Bool) (a : L) : Nat :=
  if mayN n ≠ 0 then 3 else if (emR r.1 r.2.1 r.2.2 || !hp (undS r.1 r.2.1 r.2.2) a) = true then 1 else if n.leaf = true then 0
  else if (kRun n r a n.kids.length 0 [] []).2 = false then 1 else if trMsOk n.buf r a = false then 1 else 0
def trN (n : Nd) (r : L × L × Bool) (a : L) : Nd :=
  if trE n r a ≠ 0 then ndZ else if n.leaf = true then ⟨true, trPr n.pairs r a, [], [], []⟩
  else ⟨false, [], (kRun n r a n.kids.length 0 [] []).1.1, (kRun n r a n.kids.length 0 [] []).1.2, trMsR n.buf r a⟩
/-- Texts that a machine can hold. -/
structure Nd.strs (n : Nd) : Prop where
  kids : ∀ i, i < n.kids.length → (n.kids.getD i default).strip.length ≤ 1000000 ∧ (n.kids.getD i default).add.length ≤ 1000000
  buf : n.buf.all msSm = true
theorem tr3 {n r a} (h : mayN n ≠ 0) : trE n r a = 3 ∧ trN n r a = ndZ := by
  have e : trE n r a = 3 := by rw [trE, if_pos h]
  exact ⟨e, by rw [trN, e, if_pos (by decide)]⟩
theorem tr1 {n : Nd} {r a} (h : mayN n = 0) (h2 : (emR r.1 r.2.1 r.2.2 || !hp (undS r.1 r.2.1 r.2.2) a) = true) : trE n r a = 1 ∧ trN n r a = ndZ := by
  have e : trE n r a = 1 := by rw [trE, if_neg (by omega), if_pos h2]
  exact ⟨e, by rw [trN, e, if_pos (by decide)]⟩
theorem trL {n : Nd} {r a} (h : mayN n = 0) (h2 : (emR r.1 r.2.1 r.2.2 || !hp (undS r.1 r.2.1 r.2.2) a) = false) (h3 : n.leaf = true) : trE n r a = 0 ∧ trN n r a = ⟨true, trPr n.pairs r a, [], [], []⟩ := by
  have e : trE n r a = 0 := by rw [trE, if_neg (by omega), if_neg (by rw [h2]; decide), if_pos h3]
  exact ⟨e, by rw [trN, e, if_neg (by decide), if_pos h3]⟩
theorem trK1 {n : Nd} {r a} (h : mayN n = 0) (h2 : (emR r.1 r.2.1 r.2.2 || !hp (undS r.1 r.2.1 r.2.2) a) = false) (h3 : n.leaf = false) (h4 : (kRun n r a n.kids.length 0 [] []).2 = false) : trE n r a = 1 ∧ trN n r a = ndZ := by
  have e : trE n r a = 1 := by rw [trE, if_neg (by omega), if_neg (by rw [h2]; decide), if_neg (by rw [h3]; decide), if_pos h4]
  exact ⟨e, by rw [trN, e, if_pos (by decide)]⟩
theorem trK2 {n : Nd} {r a} (h : mayN n = 0) (h2 : (emR r.1 r.2.1 r.2.2 || !hp (undS r.1 r.2.1 r.2.2) a) = false) (h3 : n.leaf = false) (h4 : (kRun n r a n.kids.length 0 [] []).2 = true) (h5 : trMsOk n.buf r a = false) : trE n r a = 1 ∧ trN n r a = ndZ := by
  have e : trE n r a = 1 := by rw [trE, if_neg (by omega), if_neg (by rw [h2]; decide), if_neg (by rw [h3]; decide), if_neg (by rw [h4]; decide), if_pos h5]
  exact ⟨e, by rw [trN, e, if_pos (by decide)]⟩
theorem trK3 {n : Nd} {r a} (h : mayN n = 0) (h2 : (emR r.1 r.2.1 r.2.2 || !hp (undS r.1 r.2.1 r.2.2) a) = false) (h3 : n.leaf = false) (h4 : (kRun n r a n.kids.length 0 [] []).2 = true) (h5 : trMsOk n.buf r a = true) : trE n r a = 0 ∧ trN n r a = ⟨false, [], (kRun n r a n.kids.length 0 [] []).1.1, (kRun n r a n.kids.length 0 [] []).1.2, trMsR n.buf r a⟩ := by
  have e : trE n r a = 0 := by rw [trE, if_neg (by omega), if_neg (by rw [h2]; decide), if_neg (by rw [h3]; decide), if_neg (by rw [h4]; decide), if_neg (by rw [h5]; decide)]
  exact ⟨e, by rw [trN, e, if_neg (by decide), if_neg (by rw [h3]; decide)]⟩
end Go.Proofs.Ytmfonbehcfjjgaa.Mv

/- Nodes: the kid in whose range a key is. Under no condition. -/
namespace Go.Proofs.Ytmfonbehcfjjgaa.Mv
open Go Go.Proofs
set_option linter.unusedSimpArgs false
set_option linter.unusedVariables false
set_option maxRecDepth 10000
set_option maxHeartbeats 4000000
attribute [local irreducible] AW AO AR

theorem rise_dropA {ks : List L} (h : rise ks = true) : ∀ q, rise (ks.drop q) = true
  | 0 => by simpa using h
  | q + 1 => by
    by_cases hq : q + 1 < ks.length
    · have := rise_dropA h q
      rw [rise_next hq, Bool.and_eq_true] at this
      exact this.2
    · by_cases hq' : q + 1 = ks.length
      · rw [List.drop_of_length_le (by omega)]; rfl
      · rw [List.drop_of_length_le (by omega)]; rfl
theorem rise_one {ks : List L} (h : rise ks = true) {q : Nat} (hq : q + 1 < ks.length) : lt (ks.getD q default) (ks.getD (q + 1) default) = true := by
  have := rise_dropA h q
  rw [rise_next hq, Bool.and_eq_true] at this
  exact this.1
theorem rise_lt {ks : List L} (h : rise ks = true) {i : Nat} : ∀ j, i < j → j < ks.length → lt (ks.getD i default) (ks.getD j default) = true
  | 0, hij, _ => by omega
  | j + 1, hij, hj => by
    by_cases e : i = j
    · subst e; exact rise_one h hj
    · exact lt_trans (rise_lt h j (by omega) (by omega)) (rise_one h hj)
/-- What is found where it holds from some place on. -/
theorem bs_spec' {f : Nat → Bool} (n : Nat) (hm : ∀ a b, a ≤ b → b < n → f a = true → f b = true) : bs f 0 n ≤ n ∧ (∀ i, i < bs f 0 n → f i = false) ∧ (bs f 0 n < n → f (bs f 0 n) = true) := by
  have key := bs_ind (f := f) (P := fun i j r => (∀ a, a < i → f a = false) → i ≤ j → j ≤ n → r ≤ j ∧ (∀ a, a < r → f a = false) ∧ (r < j → f r = true))
    (fun i j h hlo hij _ => ⟨by omega, hlo, fun h' => by omega⟩)
    (fun i j r hij hf h hlo _ hn => by
      obtain ⟨q1, q2, q3⟩ := h hlo (by omega) (by omega)
      refine ⟨by omega, q2, fun hr => ?_⟩
      by_cases e : r < (i + j) / 2
      · exact q3 e
      · have : r = (i + j) / 2 := by omega
        rw [this]; exact hf)
    (fun i j r hij hf h hlo _ hn => by
      obtain ⟨q1, q2, q3⟩ := h (fun a ha => by
        cases hfa : f a with
        | false => rfl
        | true => rw [hm a ((i + j) / 2) (by omega) (by omega) hfa] at hf; cases hf) (by omega) hn
      exact ⟨q1, q2, q3⟩) n 0 n (by omega)
  exact key (fun a ha => by omega) (by omega) (by omega)
theorem kid_mono {n : Nd} {k : L} (hr : rise n.pivots = true) : ∀ a b, a ≤ b → b < n.pivots.length → kidF n k a = true → kidF n k b = true := fun a b h1 h2 h3 => by
  unfold kidF at *
  by_cases e : a = b
  · subst e; exact h3
  · exact lt_trans h3 (rise_lt hr b (by omega) h2)
/-- Where a node that may be with kids leads. -/
theorem may_inner {n : Nd} (h : mayN n = 0) (hl : n.leaf = false) : innerOk n = true ∧ n.kids.length ≤ 8 ∧ n.buf.length ≤ 16 := by
  unfold mayN at h
  split at h
  · cases h
  · rw [hl] at h
    simp only [Bool.false_eq_true, if_false] at h
    split at h
    · rename_i h1 h2; exact ⟨h2, by omega, by omega⟩
    · cases h
theorem may_leaf {n : Nd} (h : mayN n = 0) (hl : n.leaf = true) : leafOk n = true := by
  unfold mayN at h
  split at h
  · cases h
  · split at h
    · assumption
    · cases h
theorem inner_len {n : Nd} (h : innerOk n = true) : n.pivots.length + 1 = n.kids.length ∧ rise n.pivots = true ∧ n.pairs = [] := by
  simp only [innerOk, Bool.and_eq_true, decide_eq_true_eq, List.isEmpty_iff] at h
  exact ⟨h.1.1.1.2, rise_tail h.1.2.1, h.1.1.1.1.1⟩
theorem leaf_len {n : Nd} (h : leafOk n = true) : n.pivots = [] ∧ n.kids = [] ∧ n.buf = [] := by
  simp only [leafOk, Bool.and_eq_true, List.isEmpty_iff] at h
  exact ⟨h.1.1.1.1, h.1.1.1.2, h.1.1.2⟩
theorem kid_none {n : Nd} {k : L} (h : n.kids = []) : kidN n k = -1 := by
  have : n.kids.length = 0 := by rw [h]; rfl
  unfold kidN
  split <;> omega
theorem kid_at {n : Nd} {k : L} (hl : n.pivots.length + 1 = n.kids.length) (hr : rise n.pivots = true) : kidN n k = ((bs (kidF n k) 0 n.pivots.length : Nat) : Int) ∧ bs (kidF n k) 0 n.pivots.length ≤ n.pivots.length := by
  have h := (bs_spec' _ (kid_mono (n := n) (k := k) hr)).1
  unfold kidN
  split
  · exact ⟨by omega, h⟩
  · exact ⟨rfl, h⟩
theorem kid_in {n : Nd} {k : L} (hl : n.pivots.length + 1 = n.kids.length) (hr : rise n.pivots = true) {j : Nat} (hj : j < n.kids.length) : inR (rgN n j).1 (rgN n j).2.1 (rgN n j).2.2 k = ((j : Int) == kidN n k) := by
  obtain ⟨e, hb⟩ := kid_at (k := k) hl hr
  obtain ⟨h1, h2, h3⟩ := bs_spec' _ (kid_mono (n := n) (k := k) hr)
  rw [e]
  generalize bs (kidF n k) 0 n.pivots.length = b at *
  have e1 : rgN n j = ((if 0 < (j : Int) ∧ (j : Int) ≤ n.pivots.length then n.pivots.getD ((j : Int) - 1).toNat default else []), (if (j : Int) < n.pivots.length then n.pivots.getD (j : Int).toNat default else []), decide ((j : Int) < n.pivots.length)) := by
    unfold rgN; rw [if_neg (by omega)]
  rw [e1]
  simp only [inR]
  by_cases c : j = b
  · subst c
    have g1 : lt k (if 0 < (j : Int) ∧ (j : Int) ≤ n.pivots.length then n.pivots.getD ((j : Int) - 1).toNat default else []) = false := by
      split
      · have := h2 (j - 1) (by omega)
        unfold kidF at this
        rw [show ((j : Int) - 1).toNat = j - 1 by omega]; exact this
      · exact lt_nil _
    rw [g1]
    by_cases d : (j : Int) < n.pivots.length
    · have g2 := h3 (by omega)
      unfold kidF at g2
      rw [if_pos d, show (j : Int).toNat = j by omega, g2, decide_eq_true d]; simp
    · rw [decide_eq_false d]; simp
  · have e2 : ((j : Int) == (b : Int)) = false := by rw [beq_eq_false_iff_ne]; omega
    rw [e2]
    by_cases d : j < b
    · have g := h2 j d
      unfold kidF at g
      rw [if_pos (show (j : Int) < n.pivots.length by omega), show (j : Int).toNat = j by omega, g, decide_eq_true (show (j : Int) < n.pivots.length by omega)]; simp
    · have g := kid_mono (k := k) hr b (j - 1) (by omega) (by omega) (h3 (by omega))
      unfold kidF at g
      rw [if_pos (by omega), show ((j : Int) - 1).toNat = j - 1 by omega, g]; rfl

/-! ### the statement of ranges -/
theorem gLawRanges (n : Nd) (i : Int) (k : L) (hf : n.fits) (hi : -9223372036854775808 ≤ i ∧ i ≤ 9223372036854775807) : Good Try.prog 7 [.agg n.av, .i .i64 i, .s k] [] (.b true) [] := by
  by_cases hg : great n = true
  · refine Good.w tabOk mixed Try.func7 (N := 69) (by kernel_rfl) rfl (by (repeat (first | exact LE.nil | apply LE.cons)); done) (by (repeat (first | exact LE.nil | apply LE.cons)); done) fun D hD F => ?_
    repeat' (first
    | apply AO.nil
    | (apply AO.kCall 14; refine AO.sCall (hg := (gGreat _ sd)) (h := ?_))
    | (apply AO.kCall 23; refine AO.sCall (hg := gAwake) (h := ?_))
    | (apply AO.kBox; refine AO.sBox (h := ?_))
    | (apply AO.kAdd; refine AO.sAdd (h := ?_))
    | (apply AO.kP; first | refine AO.sP (h := ?_) | refine AO.sPi (h := ?_) | refine AO.sLoadB (h := ?_))
    | apply AW.seq
    | (apply AW.kR; refine AW.sR (h := ?_))
    | apply AW.skip
    | apply AW.block
    | apply AW.out
    | (apply AW.kE; refine AW.sE (h := ?_))
    | apply AW.label
    | (apply AW.kRd; refine AW.sRd (h := ?_))
    | ((first | (apply AO.kG; first | refine AO.sgt (h1 := fun h => ?_) (h2 := fun h => ?_) | refine AO.sgf (h1 := fun h => ?_) (h2 := fun h => ?_) | refine AO.sgs (h := ?_)) | (apply AW.kC; refine AW.sC (h1 := fun h => ?_) (h2 := fun h => ?_)) | (apply AR.kAny; apply AR.kG; first | refine AR.sgt (h1 := fun h => ?_) (h2 := fun h => ?_) | refine AR.sgf (h1 := fun h => ?_) (h2 := fun h => ?_) | refine AR.sgs (h := ?_))) <;> (try (first | exact Bool.noConfusion h | exact absurd h (by decide) | (simp at h; done) | (rw [h]; try simp only [nrm] at h; try rw [h]; try (exfalso; omega)) | skip)))
    | (apply AR.kAny; first | (apply AR.kCall 14; refine AR.sCall (hg := (gGreat _ sd)) (h := ?_)) | (apply AR.kCall 23; refine AR.sCall (hg := gAwake) (h := ?_)) | (apply AR.kBox; refine AR.sBox (h := ?_)) | (apply AR.kAdd; refine AR.sAdd (h := ?_)) | (apply AR.kP; first | refine AR.sP (h := ?_) | refine AR.sPi (h := ?_)))
    | (apply AR.kNil; refine AR.sNil (h := ?_)))
    all_goals first | exact AW.ret (hD rfl (Lx.b rfl)) | (exfalso; simp_all; done)
  · have hg' : great n = false := by cases h : great n <;> simp_all
    have hs := great_small hg'
    have hs2 := hs.pivots; have hs3 := hs.kids
    have l2 : (n.pivots.map sav).length = n.pivots.length := by simp
    have l3 : (n.kids.map Ed.av).length = n.kids.length := by simp
    refine Good.w tabOk mixed Try.func7 (N := 69) (by kernel_rfl) rfl (by (repeat (first | exact LE.nil | apply LE.cons)); done) (by (repeat (first | exact LE.nil | apply LE.cons)); done) fun D hD F => ?_
    repeat' (first
    | apply AO.nil
    | (apply AO.kCall 14; refine AO.sCall (hg := (gGreat _ sd)) (h := ?_))
    | (apply AO.kCall 23; refine AO.sCall (hg := gAwake) (h := ?_))
    | (apply AO.kCall 26; refine AO.sCall (hg := (gRange _ _ sd sd)) (h := ?_))
    | (apply AO.kCall 27; refine AO.sCall (hg := (gRange' _ _ sd sd)) (h := ?_))
    | (apply AO.kCall 21; refine AO.sCall (hg := (gMay' _ sd)) (h := ?_))
    | (apply AO.kCall 28; refine AO.sCall (hg := (gKid _ _ sd)) (h := ?_))
    | (apply AO.kBox; refine AO.sBox (h := ?_))
    | (apply AO.kAdd; refine AO.sAdd (h := ?_))
    | (apply AO.kP; first | refine AO.sP (h := ?_) | refine AO.sPi (h := ?_) | refine AO.sLoadB (h := ?_))
    | apply AW.seq
    | (apply AW.kR; refine AW.sR (h := ?_))
    | apply AW.skip
    | apply AW.block
    | apply AW.out
    | (apply AW.kE; refine AW.sE (h := ?_))
    | apply AW.label
    | (apply AW.kRd; refine AW.sRd (h := ?_))
    | ((first | (apply AO.kG; first | refine AO.sgt (h1 := fun h => ?_) (h2 := fun h => ?_) | refine AO.sgf (h1 := fun h => ?_) (h2 := fun h => ?_) | refine AO.sgs (h := ?_)) | (apply AW.kC; refine AW.sC (h1 := fun h => ?_) (h2 := fun h => ?_)) | (apply AR.kAny; apply AR.kG; first | refine AR.sgt (h1 := fun h => ?_) (h2 := fun h => ?_) | refine AR.sgf (h1 := fun h => ?_) (h2 := fun h => ?_) | refine AR.sgs (h := ?_))) <;> (try (first | exact Bool.noConfusion h | exact absurd h (by decide) | (simp at h; done) | (rw [h]; try simp only [nrm] at h; try rw [h]; try (exfalso; omega)) | skip)))
    | (apply AR.kAny; first | (apply AR.kCall 14; refine AR.sCall (hg := (gGreat _ sd)) (h := ?_)) | (apply AR.kCall 23; refine AR.sCall (hg := gAwake) (h := ?_)) | (apply AR.kCall 26; refine AR.sCall (hg := (gRange _ _ sd sd)) (h := ?_)) | (apply AR.kCall 27; refine AR.sCall (hg := (gRange' _ _ sd sd)) (h := ?_)) | (apply AR.kCall 21; refine AR.sCall (hg := (gMay' _ sd)) (h := ?_)) | (apply AR.kCall 28; refine AR.sCall (hg := (gKid _ _ sd)) (h := ?_)) | (apply AR.kBox; refine AR.sBox (h := ?_)) | (apply AR.kAdd; refine AR.sAdd (h := ?_)) | (apply AR.kP; first | refine AR.sP (h := ?_) | refine AR.sPi (h := ?_)))
    | (apply AR.kNil; refine AR.sNil (h := ?_)))
    · exact AW.ret (hD rfl (Lx.b rfl))
    · exact AW.ret (hD rfl (Lx.b rfl))
    · have h9 : n.kids = [] := List.eq_nil_of_length_eq_zero (by omega)
      exact absurd (kid_none h9) ‹_›
    · exact AW.ret (hD rfl (Lx.b rfl))
    · have h8 := eq0 ‹((mayN n : Int) != 0) = false›
      rcases (by cases n.leaf <;> simp : n.leaf = true ∨ n.leaf = false) with hl | hl
      · have h7 := (leaf_len (may_leaf h8 hl)).2.1
        have e0 : kidN n k = -1 := kid_none h7
        have e1 : n.kids.length = 0 := by rw [h7]; rfl
        refine AW.loopI (fun j : Nat => j = 0) (fun j => ⟨[(2, .s k), (3, .ptr 3 0), (7, .i .i64 (-1)), (8, .i .i64 0)], [(3, .bx n.av)]⟩) (fun j => 0) 0 rfl (by rw [e0]; (constructor <;> (repeat' (first | exact LeT.nil | exact LeB.nil | apply LeT.cons | apply LeB.cons | exact Ol.refl | apply Lx.s | apply Lx.b | apply Lx.i | exact Lx.refl)) <;> (first | rfl | assumption | omega | (simp only [List.length_map, BS_len]; done) | skip))) fun m j hj ih => ?_
        repeat' (first
    | apply AO.nil
    | (apply AO.kCall 23; refine AO.sCall (hg := gAwake) (h := ?_))
    | (apply AO.kBox; refine AO.sBox (h := ?_))
    | (apply AO.kAdd; refine AO.sAdd (h := ?_))
    | (apply AO.kP; first | refine AO.sP (h := ?_) | refine AO.sPi (h := ?_) | refine AO.sLoadB (h := ?_))
    | apply AW.seq
    | (apply AW.kR; refine AW.sR (h := ?_))
    | apply AW.skip
    | apply AW.block
    | apply AW.out
    | (apply AW.kE; refine AW.sE (h := ?_))
    | apply AW.label
    | (apply AW.kRd; refine AW.sRd (h := ?_))
    | ((first | (apply AO.kG; first | refine AO.sgt (h1 := fun h => ?_) (h2 := fun h => ?_) | refine AO.sgf (h1 := fun h => ?_) (h2 := fun h => ?_) | refine AO.sgs (h := ?_)) | (apply AW.kC; refine AW.sC (h1 := fun h => ?_) (h2 := fun h => ?_)) | (apply AR.kAny; apply AR.kG; first | refine AR.sgt (h1 := fun h => ?_) (h2 := fun h => ?_) | refine AR.sgf (h1 := fun h => ?_) (h2 := fun h => ?_) | refine AR.sgs (h := ?_))) <;> (try (first | exact Bool.noConfusion h | exact absurd h (by decide) | (simp at h; done) | (rw [h]; try simp only [nrm] at h; try rw [h]; try (exfalso; omega)) | skip)))
    | (apply AR.kAny; first | (apply AR.kCall 23; refine AR.sCall (hg := gAwake) (h := ?_)) | (apply AR.kBox; refine AR.sBox (h := ?_)) | (apply AR.kAdd; refine AR.sAdd (h := ?_)) | (apply AR.kP; first | refine AR.sP (h := ?_) | refine AR.sPi (h := ?_)))
    | (apply AR.kNil; refine AR.sNil (h := ?_)))
        · exfalso; omega
        · exact AW.ret (hD rfl (Lx.b rfl))
        · exact AW.ret (hD rfl (Lx.b rfl))
      · obtain ⟨l4, hr, _⟩ := inner_len (may_inner h8 hl).1
        refine AW.loopI (fun j : Nat => j ≤ n.kids.length) (fun j => ⟨[(2, .s k), (3, .ptr 3 0), (7, .i .i64 (kidN n k)), (8, .i .i64 j)], [(3, .bx n.av)]⟩) (fun j => n.kids.length - j) 0 (by simp) (by (constructor <;> (repeat' (first | exact LeT.nil | exact LeB.nil | apply LeT.cons | apply LeB.cons | exact Ol.refl | apply Lx.s | apply Lx.b | apply Lx.i | exact Lx.refl)) <;> (first | rfl | assumption | omega | (simp only [List.length_map, BS_len]; done) | skip))) fun m j hj ih => ?_
        repeat' (first
    | apply AO.nil
    | (apply AO.kCall 23; refine AO.sCall (hg := gAwake) (h := ?_))
    | (apply AO.kCall 26; refine AO.sCall (hg := (gRange _ _ sd sd)) (h := ?_))
    | (apply AO.kCall 29; refine AO.sCall (hg := (gIn' _ _ _ _)) (h := ?_))
    | (apply AO.kBox; refine AO.sBox (h := ?_))
    | (apply AO.kAdd; refine AO.sAdd (h := ?_))
    | (apply AO.kP; first | refine AO.sP (h := ?_) | refine AO.sPi (h := ?_) | refine AO.sLoadB (h := ?_))
    | apply AW.seq
    | (apply AW.kR; refine AW.sR (h := ?_))
    | apply AW.skip
    | apply AW.block
    | apply AW.out
    | (apply AW.kE; refine AW.sE (h := ?_))
    | apply AW.label
    | (apply AW.kRd; refine AW.sRd (h := ?_))
    | ((first | (apply AO.kG; first | refine AO.sgt (h1 := fun h => ?_) (h2 := fun h => ?_) | refine AO.sgf (h1 := fun h => ?_) (h2 := fun h => ?_) | refine AO.sgs (h := ?_)) | (apply AW.kC; refine AW.sC (h1 := fun h => ?_) (h2 := fun h => ?_)) | (apply AR.kAny; apply AR.kG; first | refine AR.sgt (h1 := fun h => ?_) (h2 := fun h => ?_) | refine AR.sgf (h1 := fun h => ?_) (h2 := fun h => ?_) | refine AR.sgs (h := ?_))) <;> (try (first | exact Bool.noConfusion h | exact absurd h (by decide) | (simp at h; done) | (rw [h]; try simp only [nrm] at h; try rw [h]; try (exfalso; omega)) | skip)))
    | (apply AR.kAny; first | (apply AR.kCall 23; refine AR.sCall (hg := gAwake) (h := ?_)) | (apply AR.kCall 26; refine AR.sCall (hg := (gRange _ _ sd sd)) (h := ?_)) | (apply AR.kCall 29; refine AR.sCall (hg := (gIn' _ _ _ _)) (h := ?_)) | (apply AR.kBox; refine AR.sBox (h := ?_)) | (apply AR.kAdd; refine AR.sAdd (h := ?_)) | (apply AR.kP; first | refine AR.sP (h := ?_) | refine AR.sPi (h := ?_)))
    | (apply AR.kNil; refine AR.sNil (h := ?_)))
        · exact absurd (kid_in (k := k) l4 hr (j := j) (by omega)) ‹_›
        · exact ih (j + 1) _ (by omega) (by omega) (by (constructor <;> (repeat' (first | exact LeT.nil | exact LeB.nil | apply LeT.cons | apply LeB.cons | exact Ol.refl | apply Lx.s | apply Lx.b | apply Lx.i | exact Lx.refl)) <;> (first | rfl | assumption | omega | (simp only [List.length_map, BS_len]; done) | skip)))
        all_goals first | (rw [hl] at *; contradiction) | exact AW.ret (hD rfl (Lx.b rfl))
    · exact AW.ret (hD rfl (Lx.b rfl))
end Go.Proofs.Ytmfonbehcfjjgaa.Mv

/- A node trimmed by the document. Under no condition. -/
namespace Go.Proofs.Ytmfonbehcfjjgaa.Mv
open Go Go.Proofs
set_option linter.unusedSimpArgs false
set_option linter.unusedVariables false
set_option maxRecDepth 10000
set_option maxHeartbeats 4000000
attribute [local irreducible] AW AO AR

theorem lt_of_le_lt {a b c : L} (h1 : lt b a = false) (h2 : lt b c = true) : lt a c = true := by
  rcases lt_total a b with h | h | h
  · exact lt_trans h h2
  · subst h; exact h2
  · rw [h] at h1; cases h1
/-- A range stands in that of a beginning just if all its keys begin so. -/
theorem ins_und {lo hi : L} {e : Bool} {a : L} (h : emR lo hi e = false) : insS lo hi e a (succS a) (succOk a) = hp (undS lo hi e) a := by
  rw [Bool.eq_iff_iff]
  constructor
  · intro q
    simp only [insS, h, Bool.false_or, Bool.and_eq_true, Bool.or_eq_true, Bool.not_eq_true'] at q
    obtain ⟨q1, q2⟩ := q
    have q3 : hp lo a = true := by
      cases q4 : hp lo a with
      | true => rfl
      | false =>
        obtain ⟨q5, q6⟩ := (succ_facts a lo).2.1 q1 q4
        rcases q2 with q2 | q2
        · rw [q5] at q2; cases q2
        · have q7 := le_trans' q2.2 q6
          simp only [emR, q2.1, Bool.true_and, Bool.not_eq_false'] at h
          rw [h] at q7; cases q7
    have w : wiS lo hi e a = true := by
      simp only [wiS, q3, Bool.true_and, Bool.or_eq_true, Bool.not_eq_true', Bool.and_eq_true]
      exact q2
    have l := hp_len q3
    have t := hp_iff.1 q3
    have u : undS lo hi e = lo.take (undN lo hi e lo.length) := by simp [undS, h]
    obtain ⟨w1, w2⟩ := undN_spec lo hi e lo.length
    have le : a.length ≤ undN lo hi e lo.length := by
      cases Nat.lt_or_ge (undN lo hi e lo.length) a.length with
      | inl g =>
        have := w2 _ g l
        rw [t, w] at this; cases this
      | inr g => exact g
    rw [u, hp_iff, List.take_take, Nat.min_eq_left le, t]
  · intro q
    have all : ∀ k, inR lo hi e k = true → hp k a = true := fun k hk => hp_trans ((und_facts lo hi e k).2.2.1 hk) q
    have q3 := all lo (in_lo h)
    obtain ⟨s1, s2⟩ := (succ_facts a lo).1 q3
    simp only [insS, h, Bool.false_or, Bool.and_eq_true, Bool.or_eq_true, Bool.not_eq_true']
    refine ⟨s1, ?_⟩
    cases ok : succOk a with
    | false => exact .inl rfl
    | true =>
      right
      have bad : inR lo hi e (succS a) = false := by
        cases g : inR lo hi e (succS a) with
        | false => rfl
        | true =>
          have g2 := ((succ_facts a (succS a)).1 (all _ g)).2 ok
          rw [lt_irrefl] at g2; cases g2
      have s3 := lt_asymm (s2 ok)
      simp only [inR, s3, Bool.not_false, Bool.true_and, Bool.or_eq_false_iff, Bool.not_eq_false'] at bad
      exact ⟨bad.1, bad.2⟩
theorem emC_in {x r : L × L × Bool} (h : emC x r = false) : ∃ k, inR x.1 x.2.1 x.2.2 k = true ∧ inR r.1 r.2.1 r.2.2 k = true := by
  obtain ⟨l1, h1, e1⟩ := x
  obtain ⟨l2, h2, e2⟩ := r
  simp only [emC] at h
  have hc : cutEm l1 h1 e1 l2 h2 e2 = false := by
    cases g : cutEm l1 h1 e1 l2 h2 e2 with
    | false => rfl
    | true => simp [cS, g, emR, lt_irrefl] at h
  refine ⟨mxS l1 l2, ?_⟩
  have := in_lo (lo := mxS l1 l2) (hi := cutHi l1 h1 e1 l2 h2 e2) (e := e1 || e2) hc
  rw [cut_in, Bool.and_eq_true] at this
  exact this
theorem le_rise {ks : List L} (h : rise ks = true) {i j : Nat} (hij : i ≤ j) (hj : j < ks.length) : lt (ks.getD j default) (ks.getD i default) = false := by
  by_cases e : i = j
  · subst e; exact lt_irrefl _
  · exact lt_asymm (rise_lt h j (by omega) hj)
/-- The beginning of a kid's range that is not the first in a range stands in it. -/
theorem piv_in {n : Nd} {r : L × L × Bool} (hl : n.pivots.length + 1 = n.kids.length) (hr : rise n.pivots = true) {j q : Nat} (hjq : j < q) (hq : q < n.kids.length) (h1 : emC (rgN n j) r = false) (h2 : emC (rgN n q) r = false) : inR r.1 r.2.1 r.2.2 (rgN n q).1 = true := by
  obtain ⟨k1, a1, b1⟩ := emC_in h1
  obtain ⟨k2, a2, b2⟩ := emC_in h2
  have e1 : (rgN n j).2.1 = n.pivots.getD j default ∧ (rgN n j).2.2 = true := by
    unfold rgN; rw [if_neg (by omega)]
    simp only
    rw [if_pos (by omega), show ((j : Nat) : Int).toNat = j by omega]
    exact ⟨rfl, decide_eq_true (by omega)⟩
  have e2 : (rgN n q).1 = n.pivots.getD (q - 1) default := by
    unfold rgN; rw [if_neg (by omega)]
    simp only
    rw [if_pos (by omega), show (((q : Nat) : Int) - 1).toNat = q - 1 by omega]
  have f1 : lt k1 (n.pivots.getD j default) = true := by
    simp only [inR, e1.1, e1.2, Bool.and_eq_true, Bool.not_true, Bool.false_or] at a1; exact a1.2
  have f2 := lt_of_lt_le f1 (le_rise hr (show j ≤ q - 1 by omega) (by omega))
  rw [← e2] at f2
  simp only [inR, Bool.and_eq_true, Bool.not_eq_true', Bool.or_eq_true] at a2 b1 b2 ⊢
  refine ⟨lt_asymm (lt_of_le_lt b1.1 f2), ?_⟩
  rcases b2.2 with b | b
  · exact .inl b
  · exact .inr (lt_of_le_lt a2.1 b)
end Go.Proofs.Ytmfonbehcfjjgaa.Mv

/- The document's example of trimming; the statement of Shifts. Under no condition. -/
namespace Go.Proofs.Ytmfonbehcfjjgaa.Mv
open Go Go.Proofs
set_option linter.unusedSimpArgs false
set_option linter.unusedVariables false
set_option maxRecDepth 10000
set_option maxHeartbeats 4000000
attribute [local irreducible] AW AO AR

theorem Good.le {P : Program} {f : FuncId} {args args' : List AV} {res : AV} {outs : List (Nat × Ob)} (h : Good P f args [] res outs) (hl : LeL args' args) : Good P f args' [] res outs :=
  ⟨h.fn, fun w Γ m vals gok hv hobs hinj => h.calls w Γ m vals gok (hl.rep hv) hobs hinj⟩
def nT : Nd := ⟨true, [⟨[97, 98], []⟩, ⟨[97, 99], []⟩, ⟨[98], []⟩], [], [], []⟩
def nT2 : Nd := ⟨true, [⟨[98], []⟩, ⟨[99], []⟩], [], [], []⟩
theorem nTs : nT.small := ⟨by decide, by decide, by decide, by decide⟩
theorem nT2s : nT2.small := ⟨by decide, by decide, by decide, by decide⟩
theorem nTx : nT.strs := ⟨fun i hi => by simp [nT] at hi, rfl⟩
theorem nTn : trN nT ([97], succS [97], succOk [97]) [97] = nT2 := by decide +kernel
theorem nTe : trE nT ([97], succS [97], succOk [97]) [97] = 0 := by decide +kernel
theorem gSameA : Good Try.prog 18 [.agg nT2.av, .agg [.b true, .gr 21 87 2 [[.s [98], .s []], [.s [99], .s []]], .nil, .nil, .nil]] [] (.b true) [] := by
  have h := gSame' nT2 nT2 nT2s nT2s
  rw [decide_eq_true rfl] at h
  exact h.le (.cons (.refl _) (.cons (.aggL (.cons (.refl _) (.cons .gr (.cons .nil (.cons .nil (.cons .nil .nil)))))) .nil))
/-! ### the statement of Shifts */ -/
theorem shift_law (s2 a2 a k : L) (h : joinOk [] a s2 a2 = true) : upS (joinS [] a s2 a2) (joinA [] a s2 a2) k = upS s2 a2 (a ++ k) ∧ hp k (joinS [] a s2 a2) = hp (a ++ k) s2 := by
  have q := (join_law [] a s2 a2 k).2 h
  have u : upS [] a k = a ++ k := by simp [upS, hp_nil]
  rw [u, hp_nil, Bool.true_and, if_pos rfl] at q
  exact ⟨q.2, q.1⟩
end Go.Proofs.Ytmfonbehcfjjgaa.Mv

/- What is trimmed may be. Plain. -/
namespace Go.Proofs.Ytmfonbehcfjjgaa.Mv
open Go Go.Proofs
set_option linter.unusedSimpArgs false
set_option linter.unusedVariables false
set_option maxRecDepth 10000
set_option maxHeartbeats 4000000

theorem rise_pw : ∀ {ks : List L}, rise ks = true ↔ ks.Pairwise (fun x y => lt x y = true)
  | [] => by simp [rise]
  | [a] => by simp [rise]
  | a :: b :: r => by
    rw [rise_cons, Bool.and_eq_true, rise_pw (ks := b :: r)]
    constructor
    · rintro ⟨h1, h2⟩
      refine List.pairwise_cons.2 ⟨fun x hx => ?_, h2⟩
      rcases List.mem_cons.1 hx with rfl | hx
      · exact h1
      · exact lt_trans h1 ((List.pairwise_cons.1 h2).1 x hx)
    · intro h
      obtain ⟨h1, h2⟩ := List.pairwise_cons.1 h
      exact ⟨h1 b (by simp), h2⟩
theorem lt_cut {x y a : L} (hx : hp x a = true) (hy : hp y a = true) : lt (cutS x a) (cutS y a) = lt x y := by
  obtain ⟨s, rfl⟩ := hp_pre.1 hx
  obtain ⟨t, rfl⟩ := hp_pre.1 hy
  rw [cutS_hp hx, cutS_hp hy, List.drop_left', List.drop_left', lt_app] <;> rfl
theorem in_em {lo hi : L} {e : Bool} {k : L} (h : inR lo hi e k = true) : emR lo hi e = false := by
  simp only [inR, Bool.and_eq_true, Bool.not_eq_true', Bool.or_eq_true] at h
  rcases h.2 with g | g
  · rw [emR, g]; rfl
  · rw [emR, lt_of_le_lt h.1 g]; simp
theorem emC_some {x r : L × L × Bool} {k : L} (h1 : inR x.1 x.2.1 x.2.2 k = true) (h2 : inR r.1 r.2.1 r.2.2 k = true) : emC x r = false := by
  refine in_em (k := k) ?_
  rw [cS_in, h1, h2]; rfl
/-! ### a leaf -/
theorem leaf_parts {n : Nd} (h : leafOk n = true) : rise (n.pairs.map Pr.k) = true ∧ n.pairs.all prLen = true := by
  simp only [leafOk, Bool.and_eq_true] at h
  exact ⟨h.1.2, h.2⟩
theorem trPr_rise {l : List Pr} {r : L × L × Bool} {a : L} (hr : rise (l.map Pr.k) = true) (hu : hp (undS r.1 r.2.1 r.2.2) a = true) : rise ((trPr l r a).map Pr.k) = true := by
  rw [rise_pw, List.pairwise_map] at hr
  rw [rise_pw, trPr, List.pairwise_map, List.pairwise_map]
  have h := hr.filter (prKeep r)
  refine List.Pairwise.imp_of_mem ?_ h
  intro x y hx hy hxy
  have kx := (List.mem_filter.1 hx).2
  have ky := (List.mem_filter.1 hy).2
  have px := hp_trans ((und_facts _ _ _ _).2.2.1 kx) hu
  have py := hp_trans ((und_facts _ _ _ _).2.2.1 ky) hu
  show lt (cutS x.k a) (cutS y.k a) = true
  rw [lt_cut px py]; exact hxy
theorem trPr_all {l : List Pr} {r : L × L × Bool} {a : L} (h : l.all prLen = true) : (trPr l r a).all prLen = true := by
  rw [List.all_eq_true] at h ⊢
  intro x hx
  obtain ⟨y, hy, rfl⟩ := List.mem_map.1 hx
  have q := h y (List.mem_filter.1 hy).1
  have := cutS_len y.k a
  simp only [prLen, Bool.and_eq_true, decide_eq_true_eq] at q
  show (decide ((cutS y.k a).length ≤ 16) && decide (y.v.length ≤ 32)) = true
  rw [Bool.and_eq_true, decide_eq_true_eq, decide_eq_true_eq]; exact ⟨by omega, q.2⟩
/-! ### messages -/
theorem mv_may {m : Ms} {a : L} (h : msMay m = true) (h2 : (mvR m a).2 = true) : msMay (mvR m a).1 = true := by
  unfold mvR at h2 ⊢
  by_cases c : hp m.key a = true
  · rw [if_pos c]
    have l := cutS_len m.key a
    simp only [msMay, Bool.and_eq_true, decide_eq_true_eq] at h ⊢
    exact ⟨by omega, h.2⟩
  · rw [if_neg c] at h2 ⊢
    by_cases d : m.kind = 3 ∧ hp a m.key = true ∧ m.add.length + (cutS a m.key).length ≤ 16
    · rw [if_pos d]
      simp only [msMay, Bool.and_eq_true, decide_eq_true_eq] at h ⊢
      refine ⟨by simp, ?_⟩
      have h3 := h.2
      rw [d.1] at h3 ⊢
      simp only [show ¬ ((3 : UInt8) = 1) by decide, show ¬ ((3 : UInt8) = 2) by decide, if_false, if_true, Bool.and_eq_true, decide_eq_true_eq] at h3 ⊢
      exact ⟨⟨by rw [List.length_append]; exact d.2.2, h3.1.2⟩, h3.2⟩
    · rw [if_neg d] at h2; cases h2
theorem trMs_may {l : List Ms} {r : L × L × Bool} {a : L} (h : l.all msMay = true) (h2 : trMsOk l r a = true) : (trMsR l r a).all msMay = true := by
  rw [trMsOk, List.all_eq_true] at h2
  rw [List.all_eq_true] at h ⊢
  intro x hx
  obtain ⟨y, hy, rfl⟩ := List.mem_map.1 hx
  exact mv_may (h y (List.mem_filter.1 hy).1) (h2 y hy)
/-! ### kids -/
theorem rg_lo {n : Nd} {q : Nat} (h0 : 0 < q) (hl : n.pivots.length + 1 = n.kids.length) (hq : q < n.kids.length) : (rgN n q).1 = n.pivots.getD (q - 1) default := by
  unfold rgN; rw [if_neg (by omega)]
  simp only
  rw [if_pos (by omega), show (((q : Nat) : Int) - 1).toNat = q - 1 by omega]
theorem rg_hi {n : Nd} {j : Nat} (hl : n.pivots.length + 1 = n.kids.length) (hj : j < n.pivots.length) : (rgN n j).2.1 = n.pivots.getD j default ∧ (rgN n j).2.2 = true := by
  unfold rgN; rw [if_neg (by omega)]
  simp only
  rw [if_pos (by omega), show ((j : Nat) : Int).toNat = j by omega]
  exact ⟨rfl, decide_eq_true (by omega)⟩
/-- What holds of a node's kids while they are trimmed. -/
structure KI (n : Nd) (r : L × L × Bool) (a : L) (q : Nat) (ps : List L) (ks : List Ed) : Prop where
  len : (ks = [] ∧ ps = []) ∨ ps.length + 1 = ks.length
  most : ks.length ≤ q
  ok : ks.all edOk = true
  piv : ∀ p ∈ ps, p ≠ [] ∧ p.length ≤ 16 ∧ ∃ i, 0 < i ∧ i < q ∧ p = cutS (rgN n i).1 a ∧ hp (rgN n i).1 a = true
  up : ps.Pairwise (fun x y => lt x y = true)
  some : ks ≠ [] → ∃ j, j < q ∧ emC (rgN n j) r = false
  none : ks = [] → ∀ j, j < q → emC (rgN n j) r = true
theorem KI.start (n : Nd) (r : L × L × Bool) (a : L) : KI n r a 0 [] [] :=
  ⟨.inl ⟨rfl, rfl⟩, by simp, rfl, fun p hp => by simp at hp, List.Pairwise.nil, fun h => absurd rfl h, fun _ j hj => by omega⟩
theorem KI.skip {n : Nd} {r : L × L × Bool} {a : L} {q : Nat} {ps : List L} {ks : List Ed} (h : KI n r a q ps ks) (hq : emC (rgN n q) r = true) : KI n r a (q + 1) ps ks :=
  ⟨h.len, by have := h.most; omega, h.ok, fun p hp => by obtain ⟨a1, a2, i, b1, b2, b3⟩ := h.piv p hp; exact ⟨a1, a2, i, b1, by omega, b3⟩, h.up, fun g => by obtain ⟨j, j1, j2⟩ := h.some g; exact ⟨j, by omega, j2⟩, fun g j hj => by
    by_cases e : j = q
    · subst e; exact hq
    · exact h.none g j (by omega)⟩
theorem kid_edOk {n : Nd} {a : L} {q : Nat} (hq : q < n.kids.length) (hk : n.kids.all edOk = true) (h : kidOk n a q = true) : edOk (trKid n a q) = true := by
  have g := List.all_eq_true.1 hk (n.kids.getD q default) (by rw [List.getD_eq_getElem?_getD, List.getElem?_eq_getElem hq]; exact List.getElem_mem hq)
  simp only [kidOk, Bool.and_eq_true] at h
  simp only [edOk, Bool.and_eq_true] at g ⊢
  exact ⟨⟨g.1.1, h.2.1⟩, h.2.2⟩
theorem KI.more {n : Nd} {r : L × L × Bool} {a : L} {q : Nat} {ps : List L} {ks : List Ed} (hi : innerOk n = true) (hu : hp (undS r.1 r.2.1 r.2.2) a = true) (h : KI n r a q ps ks) (hq : q < n.kids.length) (he : emC (rgN n q) r = false) (hk : kidOk n a q = true) :
    KI n r a (q + 1) (if 0 < ks.length then ps ++ [cutS (rgN n q).1 a] else ps) (ks ++ [trKid n a q]) := by
  obtain ⟨pl, pr, _⟩ := inner_len hi
  have hi2 := hi
  simp only [innerOk, Bool.and_eq_true] at hi2
  have kok := hi2.1.1.2
  have p16 := hi2.1.2.2
  have ok2 : (ks ++ [trKid n a q]).all edOk = true := by
    rw [List.all_append, h.ok, List.all_cons, kid_edOk hq kok hk]; rfl
  have most2 : (ks ++ [trKid n a q]).length ≤ q + 1 := by
    have := h.most; simp; omega
  by_cases c : 0 < ks.length
  · rw [if_pos c]
    have hne : ks ≠ [] := fun e => by rw [e] at c; simp at c
    obtain ⟨j, j1, j2⟩ := h.some hne
    have hin := piv_in pl pr j1 hq j2 he
    have hpre : hp (rgN n q).1 a = true := hp_trans ((und_facts _ _ _ _).2.2.1 hin) hu
    have lo := rg_lo (n := n) (q := q) (by omega) pl hq
    refine ⟨.inr ?_, most2, ok2, ?_, ?_, fun _ => ⟨q, by omega, he⟩, fun e => by simp at e⟩
    · rcases h.len with ⟨e, _⟩ | e
      · exact absurd e hne
      · simp; omega
    · intro p hp'
      rcases List.mem_append.1 hp' with g | g
      · obtain ⟨a1, a2, i, b1, b2, b3⟩ := h.piv p g; exact ⟨a1, a2, i, b1, by omega, b3⟩
      · obtain rfl : p = cutS (rgN n q).1 a := by simpa using g
        refine ⟨?_, ?_, q, by omega, by omega, rfl, hpre⟩
        · intro e
          obtain ⟨k, k1, k2⟩ := emC_in j2
          have kp : hp k a = true := hp_trans ((und_facts _ _ _ _).2.2.1 k2) hu
          have hj := rg_hi (n := n) pl (show j < n.pivots.length by omega)
          have f1 : lt k (n.pivots.getD j default) = true := by
            simp only [inR, hj.1, hj.2, Bool.and_eq_true, Bool.not_true, Bool.false_or] at k1; exact k1.2
          have f2 := lt_of_lt_le f1 (le_rise pr (show j ≤ q - 1 by omega) (by omega))
          rw [← lo, ← lt_cut kp hpre, e, lt_nil] at f2
          cases f2
        · have := cutS_len (rgN n q).1 a
          have g16 := List.all_eq_true.1 p16 (n.pivots.getD (q - 1) default) (by rw [List.getD_eq_getElem?_getD, List.getElem?_eq_getElem (show q - 1 < n.pivots.length by omega)]; exact List.getElem_mem _)
          rw [← lo, decide_eq_true_eq] at g16
          omega
    · rw [List.pairwise_append]
      refine ⟨h.up, by simp, fun x hx y hy => ?_⟩
      obtain rfl : y = cutS (rgN n q).1 a := by simpa using hy
      obtain ⟨_, _, i, i0, iq, rfl, ip⟩ := h.piv x hx
      rw [lt_cut ip hpre, lo, rg_lo i0 pl (by omega)]
      exact rise_lt pr _ (by omega) (by omega)
  · rw [if_neg c]
    have e : ks = [] := List.eq_nil_of_length_eq_zero (by omega)
    have e2 : ps = [] := by
      rcases h.len with ⟨_, g⟩ | g
      · exact g
      · rw [e] at g; simp at g
    subst e; subst e2
    exact ⟨.inr rfl, most2, ok2, fun p hp' => by simp at hp', List.Pairwise.nil, fun _ => ⟨q, by omega, he⟩, fun e => by simp at e⟩
theorem KI.run {n : Nd} {r : L × L × Bool} {a : L} (hi : innerOk n = true) (hu : hp (undS r.1 r.2.1 r.2.2) a = true) : ∀ (u q : Nat) (ps : List L) (ks : List Ed), q + u = n.kids.length → KI n r a q ps ks → (kRun n r a u q ps ks).2 = true → KI n r a n.kids.length (kRun n r a u q ps ks).1.1 (kRun n r a u q ps ks).1.2
  | 0, q, ps, ks, hq, h, _ => by
    obtain rfl : q = n.kids.length := by omega
    exact h
  | u + 1, q, ps, ks, hq, h, hok => by
    rw [kRun] at hok ⊢
    by_cases c : emC (rgN n q) r = true
    · rw [if_pos c] at hok ⊢
      exact KI.run hi hu u (q + 1) _ _ (by omega) (h.skip c) hok
    · rw [if_neg c] at hok ⊢
      by_cases d : kidOk n a q = false
      · rw [if_pos d] at hok; cases hok
      · rw [if_neg d] at hok ⊢
        exact KI.run hi hu u (q + 1) _ _ (by omega) (h.more hi hu (by omega) (by simpa using c) (by simpa using d)) hok
/-- What is trimmed may be. -/
theorem tr_may {n : Nd} {r : L × L × Bool} {a : L} (h : trE n r a = 0) : mayN (trN n r a) = 0 := by
  by_cases h0 : mayN n = 0
  · cases g : (emR r.1 r.2.1 r.2.2 || !hp (undS r.1 r.2.1 r.2.2) a) with
    | true => rw [(tr1 h0 g).1] at h; cases h
    | false =>
      have g' := g
      simp only [Bool.or_eq_false_iff, Bool.not_eq_false'] at g'
      obtain ⟨g1, hu⟩ := g'
      cases hl : n.leaf with
      | true =>
        rw [(trL h0 g hl).2]
        obtain ⟨p1, p2⟩ := leaf_parts (may_leaf h0 hl)
        have m16 : n.pairs.length ≤ 16 := by
          unfold mayN at h0; split at h0
          · cases h0
          · omega
        have l16 := trPr_len n.pairs r a
        unfold mayN
        rw [if_neg (by simp only [List.length_nil]; omega)]
        simp only [if_true]
        rw [if_pos]
        simp only [leafOk, List.isEmpty_nil, Bool.true_and, Bool.and_eq_true]
        exact ⟨trPr_rise p1 hu, trPr_all p2⟩
      | false =>
        obtain ⟨hi, k8, b16⟩ := may_inner h0 hl
        cases h4 : (kRun n r a n.kids.length 0 [] []).2 with
        | false => rw [(trK1 h0 g hl h4).1] at h; cases h
        | true =>
          cases h5 : trMsOk n.buf r a with
          | false => rw [(trK2 h0 g hl h4 h5).1] at h; cases h
          | true =>
            rw [(trK3 h0 g hl h4 h5).2]
            have K := KI.run hi hu _ 0 [] [] (by omega) (KI.start n r a) h4
            generalize (kRun n r a n.kids.length 0 [] []).1.1 = ps at *
            generalize (kRun n r a n.kids.length 0 [] []).1.2 = ks at *
            obtain ⟨pl, pr, _⟩ := inner_len hi
            have hne : ks ≠ [] := fun e => by
              obtain ⟨e1, e2⟩ := kid_at (n := n) (k := r.1) pl pr
              have hb : bs (kidF n r.1) 0 n.pivots.length < n.kids.length := by omega
              have i1 := kid_in (n := n) (k := r.1) pl pr hb
              rw [e1, beq_self_eq_true] at i1
              have := K.none e _ hb
              rw [emC_some i1 (in_lo g1)] at this
              cases this
            have hlen : ps.length + 1 = ks.length := by
              rcases K.len with ⟨e, _⟩ | e
              · exact absurd e hne
              · exact e
            have hml := trMsR_len n.buf r a
            have hkm := K.most
            unfold mayN
            rw [if_neg (by simp only [List.length_nil]; omega)]
            simp only [Bool.false_eq_true, if_false]
            rw [if_pos]
            have i2 := hi
            simp only [innerOk, Bool.and_eq_true] at i2
            simp only [innerOk, List.isEmpty_nil, Bool.true_and, Bool.and_eq_true, decide_eq_true_eq, Bool.not_eq_true', List.isEmpty_eq_false_iff]
            refine ⟨⟨⟨⟨hne, hlen⟩, K.ok⟩, ?_, ?_⟩, trMs_may i2.2 h5⟩
            · rw [rise_pw, List.pairwise_cons]
              refine ⟨fun p hp' => ?_, K.up⟩
              have := (K.piv p hp').1
              rw [lt_nil_iff]; simpa using this
            · rw [List.all_eq_true]; intro p hp'
              exact decide_eq_true (K.piv p hp').2.1
  · rw [(tr3 h0).1] at h; cases h
end Go.Proofs.Ytmfonbehcfjjgaa.Mv

/- The statement of trimmed parts. Under no condition. -/
namespace Go.Proofs.Ytmfonbehcfjjgaa.Mv
open Go Go.Proofs
set_option linter.unusedSimpArgs false
set_option linter.unusedVariables false
set_option maxRecDepth 10000
set_option maxHeartbeats 4000000
attribute [local irreducible] AW AO AR

theorem may_small {n : Nd} (h : mayN n = 0) : n.small := by
  have h' := h
  unfold mayN at h'
  split at h'
  · cases h'
  · rename_i c
    rcases (by cases n.leaf <;> simp : n.leaf = true ∨ n.leaf = false) with hl | hl
    · obtain ⟨e1, e2, e3⟩ := leaf_len (may_leaf h hl)
      exact ⟨by omega, by rw [e1]; simp, by omega, by omega⟩
    · obtain ⟨e1, _, _⟩ := inner_len (may_inner h hl).1
      exact ⟨by omega, by omega, by omega, by omega⟩
theorem zero_small : ndZ.small := ⟨by decide, by decide, by decide, by decide⟩
theorem trN_bad {n : Nd} {r : L × L × Bool} {a : L} (h : trE n r a ≠ 0) : trN n r a = ndZ := by rw [trN, if_pos h]
theorem trN_small (n : Nd) (r : L × L × Bool) (a : L) : (trN n r a).small := by
  by_cases h : trE n r a = 0
  · exact may_small (tr_may h)
  · rw [trN_bad h]; exact zero_small
theorem great_strs {n : Nd} (h : great n = false) : n.strs := by
  simp only [great, greatM, Bool.or_eq_false_iff, Bool.not_eq_false'] at h
  obtain ⟨⟨⟨⟨⟨_, _⟩, _⟩, _, h4⟩, _⟩, h6⟩ := h
  refine ⟨fun i hi => ?_, ?_⟩
  · have := List.all_eq_true.1 h6 (n.kids.getD i default) (by rw [List.getD_eq_getElem?_getD, List.getElem?_eq_getElem hi]; exact List.getElem_mem hi)
    simp only [edG, Bool.and_eq_true, Bool.not_eq_true', decide_eq_false_iff_not] at this
    omega
  · rw [List.all_eq_true] at h4 ⊢
    intro x hx
    have := h4 x hx
    simp only [msG, Bool.and_eq_true, Bool.not_eq_true', decide_eq_false_iff_not] at this
    simp only [msSm, Bool.and_eq_true, decide_eq_true_eq]
    omega
end Go.Proofs.Ytmfonbehcfjjgaa.Mv

/- Nodes: where a key leads, by the document. Under no condition. -/
namespace Go.Proofs.Ytmfonbehcfjjgaa.Mv
open Go Go.Proofs
set_option linter.unusedSimpArgs false
set_option linter.unusedVariables false
set_option maxRecDepth 10000
set_option maxHeartbeats 4000000
attribute [local irreducible] AW AO AR

def getP : List Pr → L → Option L
  | [], _ => none
  | p :: l, k => if p.k = k then some p.v else getP l k
theorem gGet (l : List Pr) (k : L) (hl : l.length ≤ 1000000) : Good Try.prog 103 [.sh 2 (l.map Pr.av), .s k] [] (.tup [.s ((getP l k).getD []), .b (getP l k).isSome]) [] := by
  have ll : (l.map Pr.av).length = l.length := by simp
  refine Good.w tabOk mixed Try.func103 (N := 25) (by kernel_rfl) rfl (by (repeat (first | exact LE.nil | apply LE.cons)); done) (by (repeat (first | exact LE.nil | apply LE.cons)); done) fun D hD F => ?_
  repeat' (first
    | apply AO.nil
    | (apply AO.kIx; first | refine AO.sIxN (h := ?_) | refine AO.sIx (h := ?_) | refine AO.sP (h := ?_) | refine AO.sPi (h := ?_))
    | (apply AO.kAdd; refine AO.sAdd (h := ?_))
    | (apply AO.kP; first | refine AO.sP (h := ?_) | refine AO.sPi (h := ?_) | refine AO.sLoadB (h := ?_))
    | apply AW.seq
    | (apply AW.kR; refine AW.sR (h := ?_))
    | apply AW.skip
    | apply AW.block
    | apply AW.out
    | (apply AW.kE; refine AW.sE (h := ?_))
    | apply AW.label
    | ((first | (apply AW.kC; refine AW.sC (h1 := fun h => ?_) (h2 := fun h => ?_))) <;> (try (first | exact Bool.noConfusion h | exact absurd h (by decide) | (simp at h; done) | (rw [h]; try simp only [nrm] at h; try rw [h]; try (exfalso; omega)) | skip))))
  refine AW.loopI (fun q : Nat => q ≤ l.length ∧ getP (l.drop q) k = getP l k) (fun q => ⟨[(0, .sh 2 (l.map Pr.av)), (1, .s k), (8, .i .i64 l.length), (9, .i .i64 q)], []⟩) (fun q => l.length - q) 0 ⟨by simp, by simp⟩ (by (constructor <;> (repeat' (first | exact LeT.nil | exact LeB.nil | apply LeT.cons | apply LeB.cons | exact Ol.refl | apply Lx.s | apply Lx.b | apply Lx.i | exact Lx.refl)) <;> (first | rfl | assumption | omega | (simp only [List.length_map, BS_len]; done) | skip))) fun m q ⟨hn, hc⟩ ih => ?_
  repeat' (first
    | apply AO.nil
    | (apply AO.kIx; first | refine AO.sIxN (h := ?_) | refine AO.sIx (h := ?_) | refine AO.sP (h := ?_) | refine AO.sPi (h := ?_))
    | (apply AO.kAdd; refine AO.sAdd (h := ?_))
    | (apply AO.kP; first | refine AO.sP (h := ?_) | refine AO.sPi (h := ?_) | refine AO.sLoadB (h := ?_))
    | apply AW.seq
    | (apply AW.kR; refine AW.sR (h := ?_))
    | apply AW.skip
    | apply AW.block
    | apply AW.out
    | (apply AW.kE; refine AW.sE (h := ?_))
    | apply AW.label
    | ((first | (apply AW.kC; refine AW.sC (h1 := fun h => ?_) (h2 := fun h => ?_))) <;> (try (first | exact Bool.noConfusion h | exact absurd h (by decide) | (simp at h; done) | (rw [h]; try simp only [nrm] at h; try rw [h]; try (exfalso; omega)) | skip))))
  · have hq : q < l.length := by omega
    rw [dropD hq, getP, if_pos h] at hc
    rw [← hc] at hD
    exact AW.ret (hD rfl .refl)
  · have hq : q < l.length := by omega
    rw [dropD hq, getP, if_neg h] at hc
    exact ih (q + 1) _ ⟨by omega, hc⟩ (by omega) (by (constructor <;> (repeat' (first | exact LeT.nil | exact LeB.nil | apply LeT.cons | apply LeB.cons | exact Ol.refl | apply Lx.s | apply Lx.b | apply Lx.i | exact Lx.refl)) <;> (first | rfl | assumption | omega | (simp only [List.length_map, BS_len]; done) | skip)))
  · rw [List.drop_of_length_le (by omega), getP] at hc
    rw [← hc] at hD
    exact AW.ret (hD rfl .refl)
/-- Does a message speak of a key? -/
def spk (m : Ms) (k : L) : Bool := if m.kind = 3 then hp k m.key else (m.kind == 1 || m.kind == 2) && k == m.key
theorem gSpeaks' (m : Ms) (k : L) : Good Try.prog 126 [.agg m.av, .s k] [] (.b (spk m k)) [] := by
  refine Good.w tabOk mixed Try.func126 (N := 26) (by kernel_rfl) rfl (by (repeat (first | exact LE.nil | apply LE.cons)); done) (by (repeat (first | exact LE.nil | apply LE.cons)); done) fun D hD F => ?_
  repeat' (first
    | apply AO.nil
    | (apply AO.kCall 132; refine AO.sCall (hg := (gHas' _ _)) (h := ?_))
    | (apply AO.kBox; refine AO.sBox (h := ?_))
    | (apply AO.kP; first | refine AO.sP (h := ?_) | refine AO.sPi (h := ?_) | refine AO.sLoadB (h := ?_))
    | apply AW.seq
    | (apply AW.kR; refine AW.sR (h := ?_))
    | apply AW.skip
    | apply AW.block
    | apply AW.out
    | (apply AW.kE; refine AW.sE (h := ?_))
    | apply AW.label
    | ((first | (apply AO.kG; first | refine AO.sgt (h1 := fun h => ?_) (h2 := fun h => ?_) | refine AO.sgf (h1 := fun h => ?_) (h2 := fun h => ?_) | refine AO.sgs (h := ?_)) | (apply AW.kC; refine AW.sC (h1 := fun h => ?_) (h2 := fun h => ?_))) <;> (try (first | exact Bool.noConfusion h | exact absurd h (by decide) | (simp at h; done) | (rw [h]; try simp only [nrm] at h; try rw [h]; try (exfalso; omega)) | skip))))
  all_goals (refine AW.ret (hD rfl ?_); (repeat' (first | apply Lx.s | apply Lx.b | apply Lx.i | apply LxL.cons | exact LxL.nil | apply Lx.tup | apply Lx.agg | apply Lx.refl)) <;> (try with_reducible rfl))
  all_goals (simp only [k1, k2, k3] at *; simp_all [spk])
/-- The last message that speaks of a key. -/
def lastI (l : List Ms) (k : L) : Nat → Int
  | 0 => -1
  | q + 1 => if spk (l.getD q default) k = true then (q : Int) else lastI l k q
theorem lastI_lt (l : List Ms) (k : L) : ∀ q, -1 ≤ lastI l k q ∧ lastI l k q < q
  | 0 => by simp [lastI]
  | q + 1 => by
    have := lastI_lt l k q
    rw [lastI]; split <;> omega
theorem gLast' (l : List Ms) (k : L) (hl : l.length ≤ 1000000) : Good Try.prog 104 [.sh 6 (l.map Ms.av), .s k] [] (.i .i64 (lastI l k l.length)) [] := by
  have ll : (l.map Ms.av).length = l.length := by simp
  refine Good.w tabOk mixed Try.func104 (N := 21) (by kernel_rfl) rfl (by (repeat (first | exact LE.nil | apply LE.cons)); done) (by (repeat (first | exact LE.nil | apply LE.cons)); done) fun D hD F => ?_
  repeat' (first
    | apply AO.nil
    | (apply AO.kIx; first | refine AO.sIxN (h := ?_) | refine AO.sIx (h := ?_) | refine AO.sP (h := ?_) | refine AO.sPi (h := ?_))
    | (apply AO.kAdd; refine AO.sAdd (h := ?_))
    | (apply AO.kP; first | refine AO.sP (h := ?_) | refine AO.sPi (h := ?_) | refine AO.sLoadB (h := ?_))
    | apply AW.seq
    | (apply AW.kR; refine AW.sR (h := ?_))
    | apply AW.skip
    | apply AW.block
    | apply AW.out
    | (apply AW.kE; refine AW.sE (h := ?_))
    | apply AW.label
    | ((first | (apply AW.kC; refine AW.sC (h1 := fun h => ?_) (h2 := fun h => ?_))) <;> (try (first | exact Bool.noConfusion h | exact absurd h (by decide) | (simp at h; done) | (rw [h]; try simp only [nrm] at h; try rw [h]; try (exfalso; omega)) | skip))))
  refine AW.loopI (fun q : Nat => q ≤ l.length) (fun q => ⟨[(0, .sh 6 (l.map Ms.av)), (1, .s k), (5, .i .i64 (lastI l k q)), (8, .i .i64 l.length), (9, .i .i64 q)], []⟩) (fun q => l.length - q) 0 (by simp) (by (constructor <;> (repeat' (first | exact LeT.nil | exact LeB.nil | apply LeT.cons | apply LeB.cons | exact Ol.refl | apply Lx.s | apply Lx.b | apply Lx.i | exact Lx.refl)) <;> (first | rfl | assumption | omega | (simp only [List.length_map, BS_len]; done) | skip))) fun m q hn ih => ?_
  repeat' (first
    | apply AO.nil
    | (apply AO.kCall 126; refine AO.sCall (hg := (gSpeaks' _ _)) (h := ?_))
    | (apply AO.kIx; first | refine AO.sIxN (h := ?_) | refine AO.sIx (h := ?_) | refine AO.sP (h := ?_) | refine AO.sPi (h := ?_))
    | (apply AO.kAdd; refine AO.sAdd (h := ?_))
    | (apply AO.kP; first | refine AO.sP (h := ?_) | refine AO.sPi (h := ?_) | refine AO.sLoadB (h := ?_))
    | apply AW.seq
    | (apply AW.kR; refine AW.sR (h := ?_))
    | apply AW.skip
    | apply AW.block
    | apply AW.out
    | (apply AW.kE; refine AW.sE (h := ?_))
    | apply AW.label
    | ((first | (apply AW.kC; refine AW.sC (h1 := fun h => ?_) (h2 := fun h => ?_))) <;> (try (first | exact Bool.noConfusion h | exact absurd h (by decide) | (simp at h; done) | (rw [h]; try simp only [nrm] at h; try rw [h]; try (exfalso; omega)) | skip))))
  · have e : lastI l k (q + 1) = (q : Int) := by rw [lastI, if_pos h]
    exact ih (q + 1) _ (by omega) (by omega) (by rw [e]; (constructor <;> (repeat' (first | exact LeT.nil | exact LeB.nil | apply LeT.cons | apply LeB.cons | exact Ol.refl | apply Lx.s | apply Lx.b | apply Lx.i | exact Lx.refl)) <;> (first | rfl | assumption | omega | (simp only [List.length_map, BS_len]; done) | skip)))
  · have e : lastI l k (q + 1) = lastI l k q := by rw [lastI, if_neg (by rw [h]; decide)]
    exact ih (q + 1) _ (by omega) (by omega) (by rw [e]; (constructor <;> (repeat' (first | exact LeT.nil | exact LeB.nil | apply LeT.cons | apply LeB.cons | exact Ol.refl | apply Lx.s | apply Lx.b | apply Lx.i | exact Lx.refl)) <;> (first | rfl | assumption | omega | (simp only [List.length_map, BS_len]; done) | skip)))
  all_goals (obtain rfl : q = l.length := by omega)
  all_goals exact AW.ret (hD rfl .refl)
def onW (b : B32) (d : W16) (s a k : L) : Wy := if hp k s = true then ⟨2, [], b, d, upS s a k⟩ else wayZ
theorem gOn' (b : B32) (d : W16) (s a k : L) (h1 : a.length + k.length ≤ 137438953472) : Good Try.prog 106 [.i .u32 b.toNat, .i .u16 d.toNat, .agg [.s s, .s a], .s k] [] (.agg (onW b d s a k).av) [] := by
  refine Good.w tabOk mixed Try.func106 (N := 24) (by kernel_rfl) rfl (by (repeat (first | exact LE.nil | apply LE.cons)); done) (by (repeat (first | exact LE.nil | apply LE.cons)); done) fun D hD F => ?_
  repeat' (first
    | apply AO.nil
    | (apply AO.kCall 127; refine AO.sCall (hg := (gUp' _ _ _ h1)) (h := ?_))
    | (apply AO.kBox; refine AO.sBox (h := ?_))
    | (apply AO.kAlloc; refine AO.sAlloc (h := ?_))
    | (apply AO.kStore; first | refine AO.sStore (h := ?_) | refine AO.sStB (h := ?_))
    | (apply AO.kP; first | refine AO.sP (h := ?_) | refine AO.sPi (h := ?_) | refine AO.sLoadB (h := ?_))
    | apply AW.seq
    | (apply AW.kR; refine AW.sR (h := ?_))
    | apply AW.skip
    | apply AW.block
    | apply AW.out
    | (apply AW.kE; refine AW.sE (h := ?_))
    | apply AW.label
    | ((first | (apply AW.kC; refine AW.sC (h1 := fun h => ?_) (h2 := fun h => ?_))) <;> (try (first | exact Bool.noConfusion h | exact absurd h (by decide) | (simp at h; done) | (rw [h]; try simp only [nrm] at h; try rw [h]; try (exfalso; omega)) | skip))))
  · rw [onW, if_neg (by rw [h]; decide)] at hD
    exact AW.ret (hD rfl .refl)
  · rw [onW, if_pos h] at hD
    exact AW.ret (hD rfl .refl)
/-- Where a key leads. -/
def leadN (n : Nd) (k : L) : Wy :=
  if n.leaf = true then (match getP n.pairs k with | some v => wayV v | none => wayZ)
  else if lastI n.buf k n.buf.length < 0 then
    onW (n.kids.getD (kidL n k n.kids.length).toNat default).block (n.kids.getD (kidL n k n.kids.length).toNat default).deep (n.kids.getD (kidL n k n.kids.length).toNat default).strip (n.kids.getD (kidL n k n.kids.length).toNat default).add k
  else if (n.buf.getD (lastI n.buf k n.buf.length).toNat default).kind = 1 then wayV (n.buf.getD (lastI n.buf k n.buf.length).toNat default).val
  else if (n.buf.getD (lastI n.buf k n.buf.length).toNat default).kind = 3 then
    onW (n.buf.getD (lastI n.buf k n.buf.length).toNat default).block (n.buf.getD (lastI n.buf k n.buf.length).toNat default).deep (n.buf.getD (lastI n.buf k n.buf.length).toNat default).key (n.buf.getD (lastI n.buf k n.buf.length).toNat default).add k
  else wayZ
theorem gLeadT (pairs : List Pr) (pivots : List L) (kids : List Ed) (buf : List Ms) (k : L) (hs : (⟨true, pairs, pivots, kids, buf⟩ : Nd).small) : Good Try.prog 62 [.agg (Nd.av ⟨true, pairs, pivots, kids, buf⟩), .s k] [] (.agg (leadN ⟨true, pairs, pivots, kids, buf⟩ k).av) [] := by
  have hs1 : pairs.length ≤ 1000000 := hs.pairs
  refine Good.w tabOk mixed Try.func62 (N := 70) (by kernel_rfl) rfl (by (repeat (first | exact LE.nil | apply LE.cons)); done) (by (repeat (first | exact LE.nil | apply LE.cons)); done) fun D hD F => ?_
  repeat' (first
    | apply AO.nil
    | (apply AO.kCall 103; refine AO.sCall (hg := (gGet _ _ hs1)) (h := ?_))
    | (apply AO.kIx; first | refine AO.sIxN (h := ?_) | refine AO.sIx (h := ?_) | refine AO.sP (h := ?_) | refine AO.sPi (h := ?_))
    | (apply AO.kBox; refine AO.sBox (h := ?_))
    | (apply AO.kAlloc; refine AO.sAlloc (h := ?_))
    | (apply AO.kStore; first | refine AO.sStore (h := ?_) | refine AO.sStB (h := ?_))
    | (apply AO.kP; first | refine AO.sP (h := ?_) | refine AO.sPi (h := ?_) | refine AO.sLoadB (h := ?_))
    | apply AW.seq
    | (apply AW.kR; refine AW.sR (h := ?_))
    | apply AW.skip
    | apply AW.block
    | apply AW.out
    | (apply AW.kE; refine AW.sE (h := ?_))
    | apply AW.label
    | (apply AW.kRd; refine AW.sRd (h := ?_))
    | ((first | (apply AW.kC; refine AW.sC (h1 := fun h => ?_) (h2 := fun h => ?_))) <;> (try (first | exact Bool.noConfusion h | exact absurd h (by decide) | (simp at h; done) | (rw [h]; try simp only [nrm] at h; try rw [h]; try (exfalso; omega)) | skip)))
    | (apply AR.kAny; first | (apply AR.kCall 103; refine AR.sCall (hg := (gGet _ _ hs1)) (h := ?_)) | (apply AR.kIx; first | refine AR.sIxN (h := ?_) | refine AR.sIx (h := ?_) | refine AR.sP (h := ?_) | refine AR.sPi (h := ?_)) | (apply AR.kBox; refine AR.sBox (h := ?_)) | (apply AR.kAlloc; refine AR.sAlloc (h := ?_)) | (apply AR.kStore; refine AR.sStore (h := ?_)) | (apply AR.kP; first | refine AR.sP (h := ?_) | refine AR.sPi (h := ?_)))
    | (apply AR.kNil; refine AR.sNil (h := ?_)))
  · have e : leadN ⟨true, pairs, pivots, kids, buf⟩ k = wayV ((getP pairs k).getD []) := by
      cases g : getP pairs k with
      | none => rw [g] at h; cases h
      | some v => simp [leadN, g]
    rw [e] at hD
    exact AW.ret (hD rfl .refl)
  · have e : leadN ⟨true, pairs, pivots, kids, buf⟩ k = wayZ := by
      cases g : getP pairs k with
      | some v => rw [g] at h; cases h
      | none => simp [leadN, g]
    rw [e] at hD
    exact AW.ret (hD rfl .refl)
theorem leadF1 {pairs : List Pr} {pivots : List L} {kids : List Ed} {buf : List Ms} {k : L} (h : lastI buf k buf.length < 0) : leadN ⟨false, pairs, pivots, kids, buf⟩ k = onW (kids.getD (kidL ⟨false, pairs, pivots, kids, buf⟩ k kids.length).toNat default).block (kids.getD (kidL ⟨false, pairs, pivots, kids, buf⟩ k kids.length).toNat default).deep (kids.getD (kidL ⟨false, pairs, pivots, kids, buf⟩ k kids.length).toNat default).strip (kids.getD (kidL ⟨false, pairs, pivots, kids, buf⟩ k kids.length).toNat default).add k := by
  unfold leadN; rw [if_neg Bool.false_ne_true, if_pos h]
theorem leadF2 {pairs : List Pr} {pivots : List L} {kids : List Ed} {buf : List Ms} {k : L} (h : 0 ≤ lastI buf k buf.length) (h1 : (buf.getD (lastI buf k buf.length).toNat default).kind = 1) : leadN ⟨false, pairs, pivots, kids, buf⟩ k = wayV (buf.getD (lastI buf k buf.length).toNat default).val := by
  unfold leadN; rw [if_neg Bool.false_ne_true, if_neg (by show ¬ lastI buf k buf.length < 0; omega), if_pos h1]
theorem leadF3 {pairs : List Pr} {pivots : List L} {kids : List Ed} {buf : List Ms} {k : L} (h : 0 ≤ lastI buf k buf.length) (h1 : ¬ (buf.getD (lastI buf k buf.length).toNat default).kind = 1) (h3 : (buf.getD (lastI buf k buf.length).toNat default).kind = 3) : leadN ⟨false, pairs, pivots, kids, buf⟩ k = onW (buf.getD (lastI buf k buf.length).toNat default).block (buf.getD (lastI buf k buf.length).toNat default).deep (buf.getD (lastI buf k buf.length).toNat default).key (buf.getD (lastI buf k buf.length).toNat default).add k := by
  unfold leadN; rw [if_neg Bool.false_ne_true, if_neg (by show ¬ lastI buf k buf.length < 0; omega), if_neg h1, if_pos h3]
theorem leadF4 {pairs : List Pr} {pivots : List L} {kids : List Ed} {buf : List Ms} {k : L} (h : 0 ≤ lastI buf k buf.length) (h1 : ¬ (buf.getD (lastI buf k buf.length).toNat default).kind = 1) (h3 : ¬ (buf.getD (lastI buf k buf.length).toNat default).kind = 3) : leadN ⟨false, pairs, pivots, kids, buf⟩ k = wayZ := by
  unfold leadN; rw [if_neg Bool.false_ne_true, if_neg (by show ¬ lastI buf k buf.length < 0; omega), if_neg h1, if_neg h3]
theorem sm_any {l : List Ms} (h : l.all msSm = true) (i : Nat) : (l.getD i default).key.length ≤ 1000000 ∧ (l.getD i default).add.length ≤ 1000000 := by
  by_cases hi : i < l.length
  · exact sm_at h hi
  · rw [List.getD_eq_getElem?_getD, List.getElem?_eq_none (by omega)]; decide
theorem gLeadF (pairs : List Pr) (pivots : List L) (kids : List Ed) (buf : List Ms) (k : L) (hs : (⟨false, pairs, pivots, kids, buf⟩ : Nd).small) (hx : (⟨false, pairs, pivots, kids, buf⟩ : Nd).strs) (hk : k.length ≤ 1000000)
    (hr : 0 ≤ kidL ⟨false, pairs, pivots, kids, buf⟩ k kids.length ∧ kidL ⟨false, pairs, pivots, kids, buf⟩ k kids.length < kids.length) : Good Try.prog 62 [.agg (Nd.av ⟨false, pairs, pivots, kids, buf⟩), .s k] [] (.agg (leadN ⟨false, pairs, pivots, kids, buf⟩ k).av) [] := by
  have hs3 : kids.length ≤ 1000000 := hs.kids
  have hs4 : buf.length ≤ 1000000 := hs.buf
  have l3 : (kids.map Ed.av).length = kids.length := by simp
  have l4 : (buf.map Ms.av).length = buf.length := by simp
  obtain ⟨i1, i2⟩ := lastI_lt buf k buf.length
  have sk := hx.kids (kidL ⟨false, pairs, pivots, kids, buf⟩ k kids.length).toNat (by show _ < kids.length; omega)
  have u1 : (kids.getD (kidL ⟨false, pairs, pivots, kids, buf⟩ k kids.length).toNat default).add.length + k.length ≤ 137438953472 := by have := sk.2; dsimp only at this; omega
  have u2 : (buf.getD (lastI buf k buf.length).toNat default).add.length + k.length ≤ 137438953472 := by have := (sm_any hx.buf (lastI buf k buf.length).toNat).2; dsimp only at this; omega
  refine Good.w tabOk mixed Try.func62 (N := 70) (by kernel_rfl) rfl (by (repeat (first | exact LE.nil | apply LE.cons)); done) (by (repeat (first | exact LE.nil | apply LE.cons)); done) fun D hD F => ?_
  repeat' (first
    | apply AO.nil
    | (apply AO.kCall 104; refine AO.sCall (hg := (gLast' _ _ hs4)) (h := ?_))
    | (apply AO.kCall 105; refine AO.sCall (hg := (gKid' ⟨false, pairs, pivots, kids, buf⟩ k hs)) (h := ?_))
    | (apply AO.kIx; first | refine AO.sIxN (hm := by first | decide | omega | assumption | (simp only [List.length_map]; omega) | (refine ⟨?_, ?_⟩ <;> (simp only [List.length_map]; omega))) (h := ?_) | refine AO.sIx (hm := by first | decide | omega | assumption | (simp only [List.length_map]; omega) | (refine ⟨?_, ?_⟩ <;> (simp only [List.length_map]; omega))) (h := ?_) | refine AO.sP (h := ?_) | refine AO.sPi (hq := by first | decide | omega | assumption | (simp only [List.length_map]; omega) | (refine ⟨?_, ?_⟩ <;> (simp only [List.length_map]; omega))) (h := ?_))
    | (apply AO.kBox; refine AO.sBox (h := ?_))
    | (apply AO.kAlloc; refine AO.sAlloc (h := ?_))
    | (apply AO.kStore; first | refine AO.sStore (h := ?_) | refine AO.sStB (ho := by first | decide | omega | assumption | (simp only [List.length_map]; omega) | (refine ⟨?_, ?_⟩ <;> (simp only [List.length_map]; omega))) (h := ?_))
    | (apply AO.kP; first | refine AO.sP (h := ?_) | refine AO.sPi (hq := by first | decide | omega | assumption | (simp only [List.length_map]; omega) | (refine ⟨?_, ?_⟩ <;> (simp only [List.length_map]; omega))) (h := ?_) | refine AO.sLoadB (ho := by first | decide | omega | assumption | (simp only [List.length_map]; omega) | (refine ⟨?_, ?_⟩ <;> (simp only [List.length_map]; omega))) (h := ?_))
    | apply AW.seq
    | (apply AW.kR; refine AW.sR (h := ?_))
    | apply AW.skip
    | apply AW.block
    | apply AW.out
    | (apply AW.kE; refine AW.sE (h := ?_))
    | apply AW.label
    | (apply AW.kRd; refine AW.sRd (h := ?_))
    | ((first | (apply AW.kC; refine AW.sC (h1 := fun h => ?_) (h2 := fun h => ?_))) <;> (try (first | exact Bool.noConfusion h | exact absurd h (by decide) | (simp at h; done) | (rw [h]; try simp only [nrm] at h; try rw [h]; try (exfalso; omega)) | skip)))
    | (apply AR.kAny; first | (apply AR.kCall 104; refine AR.sCall (hg := (gLast' _ _ hs4)) (h := ?_)) | (apply AR.kCall 105; refine AR.sCall (hg := (gKid' ⟨false, pairs, pivots, kids, buf⟩ k hs)) (h := ?_)) | (apply AR.kIx; first | refine AR.sIxN (hm := by first | decide | omega | assumption | (simp only [List.length_map]; omega) | (refine ⟨?_, ?_⟩ <;> (simp only [List.length_map]; omega))) (h := ?_) | refine AR.sIx (hm := by first | decide | omega | assumption | (simp only [List.length_map]; omega) | (refine ⟨?_, ?_⟩ <;> (simp only [List.length_map]; omega))) (h := ?_) | refine AR.sP (h := ?_) | refine AR.sPi (hq := by first | decide | omega | assumption | (simp only [List.length_map]; omega) | (refine ⟨?_, ?_⟩ <;> (simp only [List.length_map]; omega))) (h := ?_)) | (apply AR.kBox; refine AR.sBox (h := ?_)) | (apply AR.kAlloc; refine AR.sAlloc (h := ?_)) | (apply AR.kStore; refine AR.sStore (h := ?_)) | (apply AR.kP; first | refine AR.sP (h := ?_) | refine AR.sPi (hq := by first | decide | omega | assumption | (simp only [List.length_map]; omega) | (refine ⟨?_, ?_⟩ <;> (simp only [List.length_map]; omega))) (h := ?_)))
    | (apply AR.kNil; refine AR.sNil (h := ?_)))
  · repeat' (first
    | apply AO.nil
    | (apply AO.kCall 106; refine AO.sCall (hg := (gOn' (kids.getD (kidL ⟨false, pairs, pivots, kids, buf⟩ k kids.length).toNat default).block (kids.getD (kidL ⟨false, pairs, pivots, kids, buf⟩ k kids.length).toNat default).deep (kids.getD (kidL ⟨false, pairs, pivots, kids, buf⟩ k kids.length).toNat default).strip (kids.getD (kidL ⟨false, pairs, pivots, kids, buf⟩ k kids.length).toNat default).add k u1)) (h := ?_))
    | (apply AO.kIx; first | refine AO.sIxN (h := ?_) | refine AO.sIx (h := ?_) | refine AO.sP (h := ?_) | refine AO.sPi (h := ?_))
    | (apply AO.kBox; refine AO.sBox (h := ?_))
    | (apply AO.kAlloc; refine AO.sAlloc (h := ?_))
    | (apply AO.kStore; first | refine AO.sStore (h := ?_) | refine AO.sStB (h := ?_))
    | (apply AO.kP; first | refine AO.sP (h := ?_) | refine AO.sPi (h := ?_) | refine AO.sLoadB (h := ?_))
    | apply AW.seq
    | (apply AW.kR; refine AW.sR (h := ?_))
    | apply AW.skip
    | apply AW.block
    | apply AW.out
    | (apply AW.kE; refine AW.sE (h := ?_))
    | apply AW.label
    | (apply AW.kRd; refine AW.sRd (h := ?_))
    | ((first | (apply AW.kC; refine AW.sC (h1 := fun h => ?_) (h2 := fun h => ?_))) <;> (try (first | exact Bool.noConfusion h | exact absurd h (by decide) | (simp at h; done) | (rw [h]; try simp only [nrm] at h; try rw [h]; try (exfalso; omega)) | skip)))
    | (apply AR.kAny; first | (apply AR.kCall 106; refine AR.sCall (hg := (gOn' (kids.getD (kidL ⟨false, pairs, pivots, kids, buf⟩ k kids.length).toNat default).block (kids.getD (kidL ⟨false, pairs, pivots, kids, buf⟩ k kids.length).toNat default).deep (kids.getD (kidL ⟨false, pairs, pivots, kids, buf⟩ k kids.length).toNat default).strip (kids.getD (kidL ⟨false, pairs, pivots, kids, buf⟩ k kids.length).toNat default).add k u1)) (h := ?_)) | (apply AR.kIx; first | refine AR.sIxN (h := ?_) | refine AR.sIx (h := ?_) | refine AR.sP (h := ?_) | refine AR.sPi (h := ?_)) | (apply AR.kBox; refine AR.sBox (h := ?_)) | (apply AR.kAlloc; refine AR.sAlloc (h := ?_)) | (apply AR.kStore; refine AR.sStore (h := ?_)) | (apply AR.kP; first | refine AR.sP (h := ?_) | refine AR.sPi (h := ?_)))
    | (apply AR.kNil; refine AR.sNil (h := ?_)))
    rw [leadF1 h] at hD
    exact AW.ret (hD rfl .refl)
  · rw [leadF2 (by assumption) (by rw [← k1]; assumption)] at hD
    exact AW.ret (hD rfl .refl)
  · repeat' (first
    | apply AO.nil
    | (apply AO.kCall 106; refine AO.sCall (hg := (gOn' (buf.getD (lastI buf k buf.length).toNat default).block (buf.getD (lastI buf k buf.length).toNat default).deep (buf.getD (lastI buf k buf.length).toNat default).key (buf.getD (lastI buf k buf.length).toNat default).add k u2)) (h := ?_))
    | (apply AO.kIx; first | refine AO.sIxN (h := ?_) | refine AO.sIx (h := ?_) | refine AO.sP (h := ?_) | refine AO.sPi (h := ?_))
    | (apply AO.kBox; refine AO.sBox (h := ?_))
    | (apply AO.kAlloc; refine AO.sAlloc (h := ?_))
    | (apply AO.kStore; first | refine AO.sStore (h := ?_) | refine AO.sStB (h := ?_))
    | (apply AO.kP; first | refine AO.sP (h := ?_) | refine AO.sPi (h := ?_) | refine AO.sLoadB (h := ?_))
    | apply AW.seq
    | (apply AW.kR; refine AW.sR (h := ?_))
    | apply AW.skip
    | apply AW.block
    | apply AW.out
    | (apply AW.kE; refine AW.sE (h := ?_))
    | apply AW.label
    | (apply AW.kRd; refine AW.sRd (h := ?_))
    | ((first | (apply AW.kC; refine AW.sC (h1 := fun h => ?_) (h2 := fun h => ?_))) <;> (try (first | exact Bool.noConfusion h | exact absurd h (by decide) | (simp at h; done) | (rw [h]; try simp only [nrm] at h; try rw [h]; try (exfalso; omega)) | skip)))
    | (apply AR.kAny; first | (apply AR.kCall 106; refine AR.sCall (hg := (gOn' (buf.getD (lastI buf k buf.length).toNat default).block (buf.getD (lastI buf k buf.length).toNat default).deep (buf.getD (lastI buf k buf.length).toNat default).key (buf.getD (lastI buf k buf.length).toNat default).add k u2)) (h := ?_)) | (apply AR.kIx; first | refine AR.sIxN (h := ?_) | refine AR.sIx (h := ?_) | refine AR.sP (h := ?_) | refine AR.sPi (h := ?_)) | (apply AR.kBox; refine AR.sBox (h := ?_)) | (apply AR.kAlloc; refine AR.sAlloc (h := ?_)) | (apply AR.kStore; refine AR.sStore (h := ?_)) | (apply AR.kP; first | refine AR.sP (h := ?_) | refine AR.sPi (h := ?_)))
    | (apply AR.kNil; refine AR.sNil (h := ?_)))
    rw [leadF3 (by assumption) (by rw [← k1]; assumption) (by rw [← k3]; assumption)] at hD
    exact AW.ret (hD rfl .refl)
  · rw [leadF4 (by assumption) (by rw [← k1]; assumption) (by rw [← k3]; assumption)] at hD
    exact AW.ret (hD rfl .refl)
/-- The last kid in whose range a key is, where there is just one. -/
theorem kidL_at {n : Nd} {k : L} {b : Nat} (h : ∀ j, j < n.kids.length → inR (rgN n j).1 (rgN n j).2.1 (rgN n j).2.2 k = ((j : Int) == (b : Int))) : ∀ q, q ≤ n.kids.length → kidL n k q = if b < q then (b : Int) else -1
  | 0, _ => by simp [kidL]
  | q + 1, hq => by
    rw [kidL, h q (by omega), kidL_at h q (by omega)]
    by_cases e : q = b
    · subst e; simp
    · rw [if_neg (by rw [beq_iff_eq]; omega)]
      by_cases g : b < q
      · rw [if_pos g, if_pos (by omega)]
      · rw [if_neg g, if_neg (by omega)]
theorem kidL_may {n : Nd} {k : L} (h : innerOk n = true) : kidL n k n.kids.length = kidN n k ∧ 0 ≤ kidN n k ∧ kidN n k < n.kids.length := by
  obtain ⟨pl, pr, _⟩ := inner_len h
  obtain ⟨e1, e2⟩ := kid_at (n := n) (k := k) pl pr
  have := kidL_at (n := n) (k := k) (b := bs (kidF n k) 0 n.pivots.length) (fun j hj => by rw [kid_in pl pr hj, e1]) n.kids.length (Nat.le_refl _)
  rw [if_pos (by omega)] at this
  rw [this, e1]; omega
/-- A step by the document. -/
def stepN (n : Nd) (k : L) : Wy := if mayN n = 0 then leadN n k else wayZ
theorem gStep' (n : Nd) (k : L) (hs : n.small) (hx : n.strs) (hk : k.length ≤ 1000000) : Good Try.prog 25 [.agg n.av, .s k] [] (.agg (stepN n k).av) [] := by
  by_cases h0 : mayN n = 0
  · rw [stepN, if_pos h0]
    have hl : Good Try.prog 62 [.agg n.av, .s k] [] (.agg (leadN n k).av) [] := by
      have hn : n.leaf = false → 0 ≤ kidL n k n.kids.length ∧ kidL n k n.kids.length < n.kids.length := fun e => by
        obtain ⟨e1, e2, e3⟩ := kidL_may (k := k) (may_inner h0 e).1
        rw [e1]; exact ⟨e2, e3⟩
      obtain ⟨leaf, pairs, pivots, kids, buf⟩ := n
      cases leaf
      · exact gLeadF _ _ _ _ _ hs hx hk (hn rfl)
      · exact gLeadT _ _ _ _ _ hs
    refine Good.w tabOk mixed Try.func25 (N := 12) (by kernel_rfl) rfl (by (repeat (first | exact LE.nil | apply LE.cons)); done) (by (repeat (first | exact LE.nil | apply LE.cons)); done) fun D hD F => ?_
    repeat' (first
    | apply AO.nil
    | (apply AO.kCall 21; refine AO.sCall (hg := (gMay' n hs)) (h := ?_))
    | (apply AO.kCall 62; refine AO.sCall (hg := hl) (h := ?_))
    | (apply AO.kBox; refine AO.sBox (h := ?_))
    | (apply AO.kAlloc; refine AO.sAlloc (h := ?_))
    | (apply AO.kStore; first | refine AO.sStore (h := ?_) | refine AO.sStB (h := ?_))
    | (apply AO.kP; first | refine AO.sP (h := ?_) | refine AO.sPi (h := ?_) | refine AO.sLoadB (h := ?_))
    | apply AW.seq
    | (apply AW.kR; refine AW.sR (h := ?_))
    | apply AW.skip
    | apply AW.block
    | apply AW.out
    | (apply AW.kE; refine AW.sE (h := ?_))
    | apply AW.label
    | ((first | (apply AW.kC; refine AW.sC (h1 := fun h => ?_) (h2 := fun h => ?_))) <;> (try (first | exact Bool.noConfusion h | exact absurd h (by decide) | (simp at h; done) | (rw [h]; try simp only [nrm] at h; try rw [h]; try (exfalso; omega)) | skip))))
    · exact absurd h0 (ne0 h)
    · exact AW.ret (hD rfl .refl)
  · rw [stepN, if_neg h0]
    refine Good.w tabOk mixed Try.func25 (N := 12) (by kernel_rfl) rfl (by (repeat (first | exact LE.nil | apply LE.cons)); done) (by (repeat (first | exact LE.nil | apply LE.cons)); done) fun D hD F => ?_
    repeat' (first
    | apply AO.nil
    | (apply AO.kCall 21; refine AO.sCall (hg := (gMay' n hs)) (h := ?_))
    | (apply AO.kBox; refine AO.sBox (h := ?_))
    | (apply AO.kAlloc; refine AO.sAlloc (h := ?_))
    | (apply AO.kStore; first | refine AO.sStore (h := ?_) | refine AO.sStB (h := ?_))
    | (apply AO.kP; first | refine AO.sP (h := ?_) | refine AO.sPi (h := ?_) | refine AO.sLoadB (h := ?_))
    | apply AW.seq
    | (apply AW.kR; refine AW.sR (h := ?_))
    | apply AW.skip
    | apply AW.block
    | apply AW.out
    | (apply AW.kE; refine AW.sE (h := ?_))
    | apply AW.label
    | ((first | (apply AW.kC; refine AW.sC (h1 := fun h => ?_) (h2 := fun h => ?_))) <;> (try (first | exact Bool.noConfusion h | exact absurd h (by decide) | (simp at h; done) | (rw [h]; try simp only [nrm] at h; try rw [h]; try (exfalso; omega)) | skip))))
    · exact AW.ret (hD rfl .refl)
    · exact absurd (eq0 h) h0
end Go.Proofs.Ytmfonbehcfjjgaa.Mv
