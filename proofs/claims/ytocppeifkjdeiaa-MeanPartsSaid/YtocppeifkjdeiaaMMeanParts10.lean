/- What the statement MeanParts needs, part 10. Under no condition. -/
import Derived.Laws.Cover3
import Derived.Test.YtocppeifkjdeiaaMMeanParts9
/- A machine for proofs: boxes that are written no more; what is nil or not; calls of values. Under no condition. -/
namespace Go.Proofs.Ytocppeifkjdeiaa.Mv
open Go
set_option linter.unusedSimpArgs false
set_option linter.unusedVariables false

section
variable {P : Program} {tab : Tab} {N : Nat} {D : St → Prop} {F : Fx P tab N D} {ops : Array Oper} {k : List It} {l : List Oper} {T : List (Nat × AV)} {B : List (Nat × Ob)}
  {d ty : Nat} {pos : String} {after : Array Edge} {op : Op} {acc : List Rec} {tg : List Nat} {st st' : St}
theorem AO.kCallV {t : Nat} {dd : Option Nat} {xs : Array Operand} {ts : Array TypeId} (h : AO F ops k (⟨dd, .call { callee := .value (.tmp t), args := xs, argTypes := ts }, ty, pos, after, none⟩ :: l) st) : AO F ops k (⟨dd, .call { callee := .value (.tmp t), args := xs, argTypes := ts }, ty, pos, after, none⟩ :: l) st := h
/-- The box t is written no more: its cells are kept. -/
def FzG (t : Nat) (cs : List AV) : Gam → Nm → Prop := fun Γ m => ∀ g, m.th t = some g → ∀ off, Rep Γ m (.pointer (some ⟨g, off, none⟩)) (.pel ((cs.map AV.close).drop off))
theorem Lx.fz {t off : Nat} {cs : List AV} : Lx (FzG t cs) (.ptr t off) (.pel ((cs.map AV.close).drop off)) := fun Γ m v hh hr => by
  cases hr with | ptr h => exact hh _ h off
theorem RR.freeze {c : Ctx} (t : Nat) {cs : List AV} (hob : st.ob t = .bx cs) (hs : cs.all AV.shut = true) (hl : StLe (FzG t cs) ⟨st.T, (t, .dead) :: st.B⟩ st') {a w} (hr : RR c st a w) : RR c st' a w := by
  obtain ⟨Γ, m, hw⟩ := hr
  have hobt := hw.obs t
  rw [hob] at hobt
  obtain ⟨g, cc, E, q1, q2, q3, q4, q5, q6⟩ := hobt
  have hblk : (st.ob t).blk m t g := by rw [hob]; exact q1
  let Γ' : Gam := fun ad => if ad.block = g ∧ ad.spot = none ∧ ad.off < cs.length then cc[ad.off]? else Γ ad
  have hin : ∀ j, j < cs.length → Γ' ⟨g, j, none⟩ = cc[j]? := fun j hj => by simp [Γ', hj]
  have hout : ∀ ad : Addr, ad.block ≠ g → Γ' ad = Γ ad := fun ad had => by simp [Γ', had]
  have hsub : Sub Γ Γ' := fun ad v hv => by
    by_cases e : ad.block = g
    · rw [q6 ad e] at hv; cases hv
    · rw [hout ad e]; exact hv
  have hgok : ∀ ad v, Γ' ad = some v → w.cell? ad = some v := fun ad v hv => by
    by_cases e : ad.block = g ∧ ad.spot = none ∧ ad.off < cs.length
    · obtain ⟨e1, e2, e3⟩ := e
      obtain ⟨ab, ao, asL⟩ := ad
      simp only at e1 e2 e3; subst e1; subst e2
      rw [hin ao e3] at hv
      rw [cell_of_row w ab _ cc E.1 E.2 q2]; exact hv
    · simp only [Γ', if_neg e] at hv
      exact hw.gok ad v hv
  have hob' : ∀ s, (⟨st.T, (t, .dead) :: st.B⟩ : St).ob s = if t = s then .dead else st.ob s := fun s => ob_cons _ _ _ _ _
  have hnew : RRW c Γ' m ⟨st.T, (t, .dead) :: st.B⟩ a w := by
    refine hw.mem hsub (fun _ _ _ => ⟨fun _ h => h, fun _ _ h => h⟩) (fun _ _ => ⟨fun _ h => h, fun _ _ h => h⟩) hgok (fun s => ?_) (fun s b hb => ?_) (fun s s2 b hb hb2 => ?_) hw.frame (fun ad h0 h1 => ?_)
    · rw [hob']
      split
      · trivial
      · rename_i hne
        refine (hw.obs s).keep hsub rfl rfl rfl (Nat.le_refl _) ⟨rfl, rfl, rfl⟩ (fun _ _ => ⟨fun _ h => h, fun _ _ h => h⟩) fun b hb => ⟨rfl, fun ad had => hout ad fun e => ?_⟩
        rw [had] at e; subst e
        exact hne (hw.inj t s _ hblk hb)
    · rw [hob'] at hb
      split at hb
      · cases hb
      · exact hw.own s b hb
    · rw [hob'] at hb hb2
      split at hb
      · cases hb
      · split at hb2
        · cases hb2
        · exact hw.inj s s2 b hb hb2
    · by_cases e : ad.block = g
      · rw [e]; exact hw.own t g hblk
      · rw [hout ad e] at h1; exact absurd h0 h1
  have hr : RepL Γ' Nm.e (cc.toList.take cs.length) (cs.map AV.close) := by
    refine ⟨by have := q3.2; simp; omega, fun j v x hv hx => ?_⟩
    rw [List.getElem?_take] at hv
    split at hv
    · rw [List.getElem?_map] at hx
      obtain ⟨y, hy, rfl⟩ := Option.map_eq_some_iff.1 hx
      exact ((q4 j v y (by simpa using hv) hy).sub hsub).close (List.all_eq_true.1 hs _ (List.mem_of_getElem? hy))
    · cases hv
  have hF : FzG t cs Γ' m := fun g' hg' off => by
    rw [q1] at hg'; cases hg'
    have hr' := hr.drop off
    refine .pel _ hr'.1 (fun j v hv => ?_) (fun v hv => ?_) hr'.2
    · rw [List.getElem?_drop, List.getElem?_take] at hv
      split at hv
      · rename_i hlt
        rw [add_lit, hin _ hlt]; simpa using hv
      · cases hv
    · obtain ⟨j, hj⟩ := List.getElem?_of_mem hv
      rw [List.getElem?_drop, List.getElem?_take] at hj
      split at hj
      · rename_i hlt; exact q5 _ v hlt (by simpa using hj)
      · cases hj
  exact ⟨Γ', m, hnew.less hF hl⟩
theorem AW.freeze (t : Nat) {cs : List AV} (hob : st.ob t = .bx cs) (hs : cs.all AV.shut = true) (hl : StLe (FzG t cs) ⟨st.T, (t, .dead) :: st.B⟩ st') (h : AW F k st') : AW F k st := fun a w hr => h a w (hr.freeze t hob hs hl)
/-- A slice, and nil: it may be, if it has nothing. -/
theorem AO.eqNil {t : TypeId} {i : TyI} {e z : TypeId} {x y : Operand} {sz : Nat} {rows : List (List AV)} (hi : look tab t = some i := by exact rfl) (hd : i.d = .slice e := by exact rfl) (hx : (⟨T, B⟩ : St).val x = .sh sz rows := by exact rfl) (hy : (⟨T, B⟩ : St).val y = .nil := by exact rfl)
    (hxo : okOp N x = true := by exact rfl) (hyo : okOp N y = true := by exact rfl) (hdo : d < N := by exact of_decide_eq_true rfl)
    (h1 : rows = [] → AO F ops k l ⟨(d, .b true) :: T, B⟩) (h2 : AO F ops k l ⟨(d, .b false) :: T, B⟩) : AO F ops k (⟨some d, .binOp .eql t x y z, ty, pos, after, none⟩ :: l) ⟨T, B⟩ := fun hok hl a w ⟨Γ, m, hr⟩ => by
  obtain ⟨c, rfl, rfl, tok, mo, Z, fin⟩ := F
  simp only [List.all_cons, Bool.and_eq_true] at hl
  have hxe := hr.eval x hxo
  have hye := hr.eval y hyo
  rw [hx] at hxe
  rw [hy] at hye
  have hu := (tok.at hi).und
  rw [hd] at hu
  refine wpListIn_step fun K hK => ?_
  rw [wants_spec hr hok (show wants ops ⟨T, B⟩ ⟨some d, .binOp .eql t x y z, ty, pos, after, none⟩ = some true from rfl)]
  simp only [if_true]
  generalize hvy : a.eval y = vy at hye
  cases hye
  have hrun : ∀ p n q, a.eval x = .slice p n q → (execOp a.eval { dst := some d, op := .binOp .eql t x y z, type := ty, pos, after, guard := none }).run c.P w = .ok (.value (.bool p.isNone)) w := fun p n q hp => by
    have hg : (eqGuard .eql t x y (.slice p n q) (.slice none 0 0)).run c.P w = .ok () w := by simp [eqGuard]
    simp only [execOp, hp, hvy, Sem.run_bind, hg, Result.andThen_ok]
    simp [binOp, run_equal_slice_nil w t e p n q hu]
  rcases hxe.sh_inv with ⟨p, hp, rfl⟩ | ⟨p, cap, vs, hp, _⟩
  · apply oper_in
    unfold Oper.wp
    rw [hrun _ _ _ hp]
    cases p with
    | none => exact hK _ _ (h1 rfl hok hl.2 _ _ ⟨Γ, m, hr.put (some d) .b⟩)
    | some p => exact hK _ _ (h2 hok hl.2 _ _ ⟨Γ, m, hr.put (some d) .b⟩)
  · apply oper_in
    unfold Oper.wp
    rw [hrun _ _ _ hp]
    exact hK _ _ (h2 hok hl.2 _ _ ⟨Γ, m, hr.put (some d) .b⟩)
end
end Go.Proofs.Ytocppeifkjdeiaa.Mv

/- Nodes: what they are made of, and whether one may be. Under no condition. -/
namespace Go.Proofs.Ytocppeifkjdeiaa.Mv
open Go Go.Proofs
set_option linter.unusedSimpArgs false
set_option linter.unusedVariables false
set_option maxRecDepth 10000
set_option maxHeartbeats 4000000

abbrev W16 := BitVec 16
abbrev B32 := BitVec 32
/-- A pair, a kid, a message, a node. -/
structure Pr where
  k : L
  v : L
  deriving DecidableEq, Inhabited
structure Ed where
  block : B32
  deep : W16
  strip : L
  add : L
  deriving DecidableEq, Inhabited
structure Ms where
  kind : UInt8
  key : L
  val : L
  block : B32
  deep : W16
  add : L
  deriving DecidableEq, Inhabited
structure Nd where
  leaf : Bool
  pairs : List Pr
  pivots : List L
  kids : List Ed
  buf : List Ms
  deriving DecidableEq, Inhabited
def Pr.av (p : Pr) : List AV := [.s p.k, .s p.v]
def Ed.av (e : Ed) : List AV := [.i .u32 (e.block.toNat : Int), .i .u16 (e.deep.toNat : Int), .s e.strip, .s e.add]
def Ms.av (m : Ms) : List AV := [.i .u8 (m.kind.toNat : Int), .s m.key, .s m.val, .i .u32 (m.block.toNat : Int), .i .u16 (m.deep.toNat : Int), .s m.add]
def sav (p : L) : List AV := [.s p]
def Nd.av (n : Nd) : List AV := [.b n.leaf, .sh 2 (n.pairs.map Pr.av), .sh 1 (n.pivots.map sav), .sh 4 (n.kids.map Ed.av), .sh 6 (n.buf.map Ms.av)]
/-- No lists that a machine could not hold. -/
structure Nd.small (n : Nd) : Prop where
  pairs : n.pairs.length ≤ 1000000
  pivots : n.pivots.length ≤ 1000000
  kids : n.kids.length ≤ 1000000
  buf : n.buf.length ≤ 1000000

/-- Lists that a machine can hold. -/
structure Nd.fits (n : Nd) : Prop where
  pairs : n.pairs.length ≤ 9223372036854775807
  pivots : n.pivots.length ≤ 9223372036854775807
  kids : n.kids.length ≤ 9223372036854775807
  buf : n.buf.length ≤ 9223372036854775807

theorem dropD {α : Type} [Inhabited α] {b : List α} {n : Nat} (h : n < b.length) : b.drop n = b.getD n default :: b.drop (n + 1) := by
  rw [List.getD_eq_getElem?_getD, List.getElem?_eq_getElem h, Option.getD_some, ← List.drop_eq_getElem_cons h]
theorem takeD {α : Type} [Inhabited α] {b : List α} {n : Nat} (h : n < b.length) : b.take (n + 1) = b.take n ++ [b.getD n default] := by
  rw [List.take_add_one, List.getD_eq_getElem?_getD, List.getElem?_eq_getElem h]; rfl
theorem getD_map {α β : Type} [Inhabited α] [Inhabited β] (f : α → β) {l : List α} {n : Nat} (h : n < l.length) : (l.map f).getD n default = f (l.getD n default) := by
  rw [List.getD_eq_getElem?_getD, List.getD_eq_getElem?_getD, List.getElem?_map, List.getElem?_eq_getElem h]; rfl

/-! ### may it be? -/
def msMay (m : Ms) : Bool :=
  decide (m.key.length ≤ 16) && (
    if m.kind = 1 then decide (m.val.length ≤ 32) && (m.block == 0) && (m.deep == 0) && (m.add == [])
    else if m.kind = 2 then (m.val == []) && (m.block == 0) && (m.deep == 0) && (m.add == [])
    else if m.kind = 3 then decide (m.add.length ≤ 16) && decide (1 ≤ m.deep.toNat) && (m.val == [])
    else false)
/-- Keys that rise. -/
def rise : List L → Bool
  | a :: b :: r => lt a b && rise (b :: r)
  | _ => true
def prLen (p : Pr) : Bool := decide (p.k.length ≤ 16) && decide (p.v.length ≤ 32)
def edOk (e : Ed) : Bool := !(e.deep == 0) && decide (e.strip.length ≤ 16) && decide (e.add.length ≤ 16)
def leafOk (n : Nd) : Bool := n.pivots.isEmpty && n.kids.isEmpty && n.buf.isEmpty && rise (n.pairs.map Pr.k) && n.pairs.all prLen
def innerOk (n : Nd) : Bool := n.pairs.isEmpty && !n.kids.isEmpty && decide (n.pivots.length + 1 = n.kids.length) && n.kids.all edOk && (rise ([] :: n.pivots) && n.pivots.all fun p => decide (p.length ≤ 16)) && n.buf.all msMay
/-- The error's number. -/
def mayN (n : Nd) : Nat :=
  if 16 < n.pairs.length ∨ 8 < n.kids.length ∨ 16 < n.buf.length then 13
  else if n.leaf then (if leafOk n then 0 else 3) else (if innerOk n then 0 else 3)
def may (n : Nd) : Bool := mayN n == 0
theorem rise_cons (a b : L) (r : List L) : rise (a :: b :: r) = (lt a b && rise (b :: r)) := rfl
theorem rise_tail {a : L} {r : List L} (h : rise (a :: r) = true) : rise r = true := by
  cases r with
  | nil => rfl
  | cons b r => rw [rise_cons, Bool.and_eq_true] at h; exact h.2
/-- The rest of a list whose keys rise. -/
theorem rise_drop {ks : List L} {n : Nat} (h0 : 0 < n) (h : n < ks.length) : rise (ks.drop (n - 1)) = (lt (ks.getD (n - 1) default) (ks.getD n default) && rise (ks.drop n)) := by
  rw [dropD (by omega : n - 1 < ks.length), show n - 1 + 1 = n by omega, dropD h, rise_cons]

/-! ### numbers -/
theorem k_eq (a b : UInt8) : ((a.toNat : Int) = (b.toNat : Int)) = (a = b) := propext ⟨fun h => UInt8.toNat_inj.1 (by omega), fun h => by rw [h]⟩
theorem k1 (a : UInt8) : ((a.toNat : Int) = 1) = (a = 1) := k_eq a 1
theorem k2 (a : UInt8) : ((a.toNat : Int) = 2) = (a = 2) := k_eq a 2
theorem k3 (a : UInt8) : ((a.toNat : Int) = 3) = (a = 3) := k_eq a 3
theorem kb (a b : UInt8) : (((a.toNat : Int) == (b.toNat : Int)) : Bool) = (a == b) := by rw [Bool.eq_iff_iff]; simp only [beq_iff_eq, k_eq]
theorem bv_eq {w : Nat} (a b : BitVec w) : ((a.toNat : Int) = (b.toNat : Int)) = (a = b) := propext ⟨fun h => BitVec.eq_of_toNat_eq (by omega), fun h => by rw [h]⟩
theorem bvb {w : Nat} (a b : BitVec w) : (((a.toNat : Int) == (b.toNat : Int)) : Bool) = (a == b) := by rw [Bool.eq_iff_iff]; simp only [beq_iff_eq, bv_eq]
theorem bv0 {w : Nat} (a : BitVec w) : ((a.toNat : Int) = 0) = (a = 0) := by
  have := bv_eq a 0
  simpa using this
theorem bvn0 {w : Nat} (a : BitVec w) : (a.toNat = 0) = (a = 0) := by
  have := bv0 a
  rw [← this]; exact propext ⟨fun h => by omega, fun h => by omega⟩
theorem bvb0 {w : Nat} (a : BitVec w) : (((a.toNat : Int) == 0) : Bool) = (a == 0) := by rw [Bool.eq_iff_iff]; simp only [beq_iff_eq, bv0]
theorem le_lit (a n : Nat) : ((a : Int) ≤ no_index (OfNat.ofNat n)) = (a ≤ OfNat.ofNat n) := propext ⟨fun h => Int.ofNat_le.1 h, fun h => Int.ofNat_le.2 h⟩
theorem lt_lit (a n : Nat) : ((a : Int) < no_index (OfNat.ofNat n)) = (a < OfNat.ofNat n) := propext ⟨fun h => Int.ofNat_lt.1 h, fun h => Int.ofNat_lt.2 h⟩
theorem lit_le (a n : Nat) : ((no_index (OfNat.ofNat n) : Int) ≤ (a : Int)) = (OfNat.ofNat n ≤ a) := propext ⟨fun h => Int.ofNat_le.1 h, fun h => Int.ofNat_le.2 h⟩
theorem lit_lt (a n : Nat) : ((no_index (OfNat.ofNat n) : Int) < (a : Int)) = (OfNat.ofNat n < a) := propext ⟨fun h => Int.ofNat_lt.1 h, fun h => Int.ofNat_lt.2 h⟩
/-! ### lists that are gone through -/
theorem all_step {α : Type} [Inhabited α] {l : List α} {p : α → Bool} {n : Nat} (h : n < l.length) (ha : (l.take n).all p = true) (hp : p (l.getD n default) = true) : (l.take (n + 1)).all p = true := by
  rw [takeD h, List.all_append, ha]; simp only [List.all_cons, List.all_nil, hp, Bool.and_true]
theorem all_fail {α : Type} [Inhabited α] {l : List α} {p : α → Bool} {n : Nat} (h : n < l.length) (hp : p (l.getD n default) = false) : l.all p = false := by
  have : l = l.take n ++ l.getD n default :: l.drop (n + 1) := by rw [← dropD h, List.take_append_drop]
  rw [this, List.all_append, List.all_cons, hp]; simp
theorem all_done {α : Type} {l : List α} {p : α → Bool} {n : Nat} (hn : l.length ≤ n) (ha : (l.take n).all p = true) : l.all p = true := by
  rwa [List.take_of_length_le hn] at ha

/-! ### more than is gone through -/
def prG (p : Pr) : Bool := !decide (100 < p.k.length) && !decide (100 < p.v.length)
def msG (m : Ms) : Bool := !decide (100 < m.key.length) && !decide (100 < m.val.length) && !decide (100 < m.add.length)
def edG (e : Ed) : Bool := !decide (100 < e.strip.length) && !decide (100 < e.add.length)
def svG (p : L) : Bool := !decide (100 < p.length)
def greatP (l : List Pr) : Bool := decide (60 < l.length) || !l.all prG
def greatM (l : List Ms) : Bool := decide (60 < l.length) || !l.all msG
def great (n : Nd) : Bool := decide (60 < n.pivots.length) || decide (60 < n.kids.length) || greatP n.pairs || greatM n.buf || !n.pivots.all svG || !n.kids.all edG

/-- The first place at which it holds. -/
def findI {α : Type} (p : α → Bool) : List α → Nat → Int
  | [], _ => -1
  | a :: l, i => if p a = true then (i : Int) else findI p l (i + 1)
theorem findI_none {α : Type} {p : α → Bool} {l : List α} {i : Nat} (h : l.all (fun a => !p a) = true) : findI p l i = -1 := by
  induction l generalizing i with
  | nil => rfl
  | cons a l ih =>
    simp only [List.all_cons, Bool.and_eq_true, Bool.not_eq_true'] at h
    simp only [findI, h.1, Bool.false_eq_true, if_false]
    exact ih h.2
theorem findI_at {α : Type} [Inhabited α] {p : α → Bool} {l : List α} {i n : Nat} (hn : n < l.length) (h : (l.take n).all (fun a => !p a) = true) (hp : p (l.getD n default) = true) : findI p l i = ((i + n : Nat) : Int) := by
  induction l generalizing i n with
  | nil => simp at hn
  | cons a l ih =>
    cases n with
    | zero =>
      have hp' : p a = true := by simpa using hp
      simp [findI, hp']
    | succ n =>
      simp only [List.take_succ_cons, List.all_cons, Bool.and_eq_true, Bool.not_eq_true'] at h
      simp only [findI, h.1, Bool.false_eq_true, if_false]
      rw [ih (by simpa using hn) h.2 (by simpa using hp)]
      omega
theorem findI_ge {α : Type} {p : α → Bool} {l : List α} {i : Nat} : decide (findI p l i ≥ 0) = !l.all (fun a => !p a) := by
  induction l generalizing i with
  | nil => simp [findI]
  | cons a l ih =>
    simp only [findI, List.all_cons]
    split
    · rename_i h
      simp [h]
    · rename_i h
      rw [ih]; simp [h]
theorem rise_next {ks : List L} {q : Nat} (h : q + 1 < ks.length) : rise (ks.drop q) = (lt (ks.getD q default) (ks.getD (q + 1) default) && rise (ks.drop (q + 1))) := by
  have := rise_drop (ks := ks) (n := q + 1) (by omega) h
  simpa only [Nat.add_sub_cancel] using this
theorem rise_end {ks : List L} {q : Nat} (h : ks.length ≤ q + 1) : rise (ks.drop q) = true := by
  have : (ks.drop q).length ≤ 1 := by rw [List.length_drop]; omega
  match hd : ks.drop q, this with
  | [], _ => rfl
  | [a], _ => rfl
theorem edOk_iff (e : Ed) : edOk e = (!(e.deep == 0) && decide (e.strip.length ≤ 16) && decide (e.add.length ≤ 16)) := rfl
theorem lt_nil_iff (p : L) : lt [] p = !(p == []) := by cases p <;> rfl
theorem cons_getD (a : L) (l : List L) {q : Nat} (h : 0 < q) : (a :: l).getD q default = l.getD (q - 1) default := by
  obtain ⟨k, rfl⟩ : ∃ k, q = k + 1 := ⟨q - 1, by omega⟩
  rfl
theorem great_small {n : Nd} (h : great n = false) : n.small := by
  simp only [great, greatP, greatM, Bool.or_eq_false_iff, decide_eq_false_iff_not] at h
  obtain ⟨⟨⟨⟨⟨h1, h2⟩, h3, _⟩, h4, _⟩, _⟩, _⟩ := h
  exact ⟨by omega, by omega, by omega, by omega⟩
end Go.Proofs.Ytocppeifkjdeiaa.Mv

/- Nodes: what the small functions answer. Under no condition. -/
namespace Go.Proofs.Ytocppeifkjdeiaa.Mv
open Go Go.Proofs
set_option linter.unusedSimpArgs false
set_option linter.unusedVariables false
set_option maxRecDepth 10000
set_option maxHeartbeats 4000000
attribute [local irreducible] AW AO AR

theorem gMsMay (m : Ms) : Good Try.prog 126 [.agg m.av] [] (.b (msMay m)) [] := by
  refine Good.w tabOk mixed Try.func126 (N := 47) (by kernel_rfl) rfl (by (repeat (first | exact LE.nil | apply LE.cons)); done) (by (repeat (first | exact LE.nil | apply LE.cons)); done) fun D hD F => ?_
  repeat' (first
    | apply AO.nil
    | (apply AO.kBox; refine AO.sBox (h := ?_))
    | (apply AO.kP; first | refine AO.sP (h := ?_) | refine AO.sPi (h := ?_) | refine AO.sLoadB (h := ?_))
    | apply AW.seq
    | (apply AW.kR; refine AW.sR (h := ?_))
    | apply AW.skip
    | apply AW.block
    | apply AW.out
    | (apply AW.kE; refine AW.sE (h := ?_))
    | apply AW.label
    | ((first | (apply AO.kG; first | refine AO.sgt (h1 := fun h => ?_) (h2 := fun h => ?_) | refine AO.sgf (h1 := fun h => ?_) (h2 := fun h => ?_) | refine AO.sgs (h := ?_)) | (apply AW.kC; refine AW.sC (h1 := fun h => ?_) (h2 := fun h => ?_))) <;> (try (first | exact Bool.noConfusion h | exact absurd h (by decide) | (simp at h; done) | (rw [h]; try simp only [nrm] at h; try rw [h]; try (exfalso; omega)) | skip))))
  all_goals (refine AW.ret (hD rfl ?_); (repeat' (first | apply Lx.s | apply Lx.b | apply Lx.i | apply LxL.cons | exact LxL.nil | apply Lx.tup | apply Lx.agg | apply Lx.refl)) <;> (try with_reducible rfl))
  all_goals simp only [le_lit, lt_lit, lit_le, lit_lt, k1, k2, k3, kb, bvb, bvb0, bv0, bvn0] at *
  all_goals simp_all [msMay, bv_eq, bvn0]
  all_goals (try (rw [Bool.eq_iff_iff]; simp_all [and_assoc, bvn0]))
  all_goals (try omega)
  all_goals (try (repeat' split))
  all_goals (try (intros; simp_all; done))
  all_goals (try (intros; intro e; have := congrArg List.length e; simp only [List.length_nil] at this; omega))
  all_goals (try (intros; exfalso; omega))
theorem gMsMay' (m : Ms) : Good Try.prog 64 [.agg m.av] [] (.b (msMay m)) [] := by
  refine Good.w tabOk mixed Try.func64 (N := 58) (by kernel_rfl) rfl (by (repeat (first | exact LE.nil | apply LE.cons)); done) (by (repeat (first | exact LE.nil | apply LE.cons)); done) fun D hD F => ?_
  repeat' (first
    | apply AO.nil
    | (apply AO.kBox; refine AO.sBox (h := ?_))
    | (apply AO.kP; first | refine AO.sP (h := ?_) | refine AO.sPi (h := ?_) | refine AO.sLoadB (h := ?_))
    | apply AW.seq
    | (apply AW.kR; refine AW.sR (h := ?_))
    | apply AW.skip
    | apply AW.block
    | apply AW.out
    | (apply AW.kE; refine AW.sE (h := ?_))
    | apply AW.label
    | ((first | (apply AO.kG; first | refine AO.sgt (h1 := fun h => ?_) (h2 := fun h => ?_) | refine AO.sgf (h1 := fun h => ?_) (h2 := fun h => ?_) | refine AO.sgs (h := ?_)) | (apply AW.kC; refine AW.sC (h1 := fun h => ?_) (h2 := fun h => ?_))) <;> (try (first | exact Bool.noConfusion h | exact absurd h (by decide) | (simp at h; done) | (rw [h]; try simp only [nrm] at h; try rw [h]; try (exfalso; omega)) | skip))))
  all_goals (refine AW.ret (hD rfl ?_); (repeat' (first | apply Lx.s | apply Lx.b | apply Lx.i | apply LxL.cons | exact LxL.nil | apply Lx.tup | apply Lx.agg | apply Lx.refl)) <;> (try with_reducible rfl))
  all_goals simp only [le_lit, lt_lit, lit_le, lit_lt, k1, k2, k3, kb, bvb, bvb0, bv0, bvn0] at *
  all_goals simp_all [msMay, bv_eq, bvn0]
  all_goals (try (rw [Bool.eq_iff_iff]; simp_all [and_assoc, bvn0]))
  all_goals (try omega)
  all_goals (try (repeat' split))
  all_goals (try (intros; simp_all; done))
  all_goals (try (intros; intro e; have := congrArg List.length e; simp only [List.length_nil] at this; omega))
  all_goals (try (intros; exfalso; omega))
theorem gShort (s : L) : Good Try.prog 123 [.s s] [] (.b (decide (s.length ≤ 16))) [] := by
  refine Good.w tabOk mixed Try.func123 (N := 6) (by kernel_rfl) rfl (by (repeat (first | exact LE.nil | apply LE.cons)); done) (by (repeat (first | exact LE.nil | apply LE.cons)); done) fun D hD F => ?_
  repeat' (first
    | apply AO.nil
    | (apply AO.kP; first | refine AO.sP (h := ?_) | refine AO.sPi (h := ?_))
    | apply AW.seq
    | (apply AW.kR; refine AW.sR (h := ?_))
    | apply AW.skip
    | apply AW.block
    | apply AW.out
    | (apply AW.kE; refine AW.sE (h := ?_))
    | apply AW.label)
  all_goals (refine AW.ret (hD rfl ?_); (repeat' (first | apply Lx.s | apply Lx.b | apply Lx.i | apply LxL.cons | exact LxL.nil | apply Lx.tup | apply Lx.agg | apply Lx.refl)) <;> (try with_reducible rfl))
  all_goals simp only [le_lit]
  repeat' (first
    | apply AO.nil
    | (apply AO.kP; first | refine AO.sP (h := ?_) | refine AO.sPi (h := ?_))
    | apply AW.seq
    | (apply AW.kR; refine AW.sR (h := ?_))
    | apply AW.skip
    | apply AW.block
    | apply AW.out
    | (apply AW.kE; refine AW.sE (h := ?_))
    | apply AW.label)
  all_goals (refine AW.ret (hD rfl ?_); (repeat' (first | apply Lx.s | apply Lx.b | apply Lx.i | apply LxL.cons | exact LxL.nil | apply Lx.tup | apply Lx.agg | apply Lx.refl)) <;> (try with_reducible rfl))
  all_goals simp
theorem gBad (m : Ms) : Good Try.prog 125 [.agg m.av] [] (.b (!msMay m)) [] := by
  refine Good.w tabOk mixed Try.func125 (N := 6) (by kernel_rfl) rfl (by (repeat (first | exact LE.nil | apply LE.cons)); done) (by (repeat (first | exact LE.nil | apply LE.cons)); done) fun D hD F => ?_
  repeat' (first
    | apply AO.nil
    | (apply AO.kCall 126; refine AO.sCall (hg := (gMsMay _)) (h := ?_))
    | (apply AO.kBox; refine AO.sBox (h := ?_))
    | (apply AO.kP; first | refine AO.sP (h := ?_) | refine AO.sPi (h := ?_) | refine AO.sLoadB (h := ?_))
    | apply AW.seq
    | (apply AW.kR; refine AW.sR (h := ?_))
    | apply AW.skip
    | apply AW.block
    | apply AW.out
    | (apply AW.kE; refine AW.sE (h := ?_))
    | apply AW.label)
  all_goals (refine AW.ret (hD rfl ?_); (repeat' (first | apply Lx.s | apply Lx.b | apply Lx.i | apply LxL.cons | exact LxL.nil | apply Lx.tup | apply Lx.agg | apply Lx.refl)) <;> (try with_reducible rfl))
/-- Where the first one is that may not be. -/
theorem gIdxBad (l : List Ms) (hl : l.length ≤ 1000000) : Good Try.prog 147 [.sh 6 (l.map Ms.av), .clo 125 []] [] (.i .i64 (findI (fun m => !msMay m) l 0)) [] := by
  refine Good.w tabOk mixed Try.func147 (N := 19) (by kernel_rfl) rfl (by (repeat (first | exact LE.nil | apply LE.cons)); done) (by (repeat (first | exact LE.nil | apply LE.cons)); done) fun D hD F => ?_
  repeat' (first
    | apply AO.nil
    | (apply AO.kIx; first | refine AO.sIxN (h := ?_) | refine AO.sIx (h := ?_) | refine AO.sP (h := ?_) | refine AO.sPi (h := ?_))
    | (apply AO.kAdd; refine AO.sAdd (h := ?_))
    | (apply AO.kP; first | refine AO.sP (h := ?_) | refine AO.sPi (h := ?_) | refine AO.sLoadB (h := ?_))
    | apply AW.seq
    | (apply AW.kR; refine AW.sR (h := ?_))
    | apply AW.skip
    | apply AW.block
    | apply AW.out
    | (apply AW.kE; refine AW.sE (h := ?_))
    | apply AW.label
    | ((first | (apply AW.kC; refine AW.sC (h1 := fun h => ?_) (h2 := fun h => ?_))) <;> (try (first | exact Bool.noConfusion h | exact absurd h (by decide) | (simp at h; done) | (rw [h]; try simp only [nrm] at h; try rw [h]; try (exfalso; omega)) | skip))))
  refine AW.loopI (fun n : Nat => n ≤ l.length ∧ (l.take n).all (fun m => !!msMay m) = true) (fun n => ⟨[(0, .sh 6 (l.map Ms.av)), (1, .clo 125 []), (7, .i .i64 l.length), (8, .i .i64 n)], []⟩) (fun n => l.length - n) 0 (by simp) (by (constructor <;> (repeat' (first | exact LeT.nil | exact LeB.nil | apply LeT.cons | apply LeB.cons | exact Ol.refl | apply Lx.s | apply Lx.b | apply Lx.i | exact Lx.refl)) <;> (first | rfl | assumption | omega | (simp only [List.length_map, BS_len]; done) | skip))) fun m n ⟨hn, hc⟩ ih => ?_
  repeat' (first
    | apply AO.nil
    | (apply AO.kCallV; refine AO.sCall (hg := (gBad _)) (h := ?_))
    | (apply AO.kIx; first | refine AO.sIxN (h := ?_) | refine AO.sIx (h := ?_) | refine AO.sP (h := ?_) | refine AO.sPi (h := ?_))
    | (apply AO.kAdd; refine AO.sAdd (h := ?_))
    | (apply AO.kP; first | refine AO.sP (h := ?_) | refine AO.sPi (h := ?_) | refine AO.sLoadB (h := ?_))
    | apply AW.seq
    | (apply AW.kR; refine AW.sR (h := ?_))
    | apply AW.skip
    | apply AW.block
    | apply AW.out
    | (apply AW.kE; refine AW.sE (h := ?_))
    | apply AW.label
    | ((first | (apply AW.kC; refine AW.sC (h1 := fun h => ?_) (h2 := fun h => ?_))) <;> (try (first | exact Bool.noConfusion h | exact absurd h (by decide) | (simp at h; done) | (rw [h]; try simp only [nrm] at h; try rw [h]; try (exfalso; omega)) | skip))))
  · refine AW.ret (hD rfl (Lx.i ?_))
    rw [findI_at (by omega) hc (by rename_i h; simpa using h)]
    simp
  · exact ih (n + 1) _ ⟨by omega, all_step (by omega) hc (by rename_i h; simpa using h)⟩ (by omega) (by (constructor <;> (repeat' (first | exact LeT.nil | exact LeB.nil | apply LeT.cons | apply LeB.cons | exact Ol.refl | apply Lx.s | apply Lx.b | apply Lx.i | exact Lx.refl)) <;> (first | rfl | assumption | omega | (simp only [List.length_map, BS_len]; done) | skip)))
  · refine AW.ret (hD rfl (Lx.i ?_))
    exact (findI_none (all_done (by omega) hc)).symm
end Go.Proofs.Ytocppeifkjdeiaa.Mv

/- Nodes: may one be? Under no condition. -/
namespace Go.Proofs.Ytocppeifkjdeiaa.Mv
open Go Go.Proofs
set_option linter.unusedSimpArgs false
set_option linter.unusedVariables false
set_option maxRecDepth 10000
set_option maxHeartbeats 4000000
attribute [local irreducible] AW AO AR

theorem gConBad (l : List Ms) (hl : l.length ≤ 1000000) : Good Try.prog 124 [.sh 6 (l.map Ms.av), .clo 125 []] [] (.b (!l.all msMay)) [] := by
  have h := @findI_ge Ms (fun m => !msMay m) l 0
  simp only [Bool.not_not] at h
  refine Good.w tabOk mixed Try.func124 (N := 9) (by kernel_rfl) rfl (by (repeat (first | exact LE.nil | apply LE.cons)); done) (by (repeat (first | exact LE.nil | apply LE.cons)); done) fun D hD F => ?_
  repeat' (first
    | apply AO.nil
    | (apply AO.kCall 147; refine AO.sCall (hg := (gIdxBad _ sd)) (h := ?_))
    | (apply AO.kP; first | refine AO.sP (h := ?_) | refine AO.sPi (h := ?_))
    | apply AW.seq
    | (apply AW.kR; refine AW.sR (h := ?_))
    | apply AW.skip
    | apply AW.block
    | apply AW.out
    | (apply AW.kE; refine AW.sE (h := ?_))
    | apply AW.label)
  all_goals (refine AW.ret (hD rfl ?_); (repeat' (first | apply Lx.s | apply Lx.b | apply Lx.i | apply LxL.cons | exact LxL.nil | apply Lx.tup | apply Lx.agg | apply Lx.refl)) <;> (try with_reducible rfl))
  all_goals exact h
/-- So far, the keys rise and are short. -/
theorem gLeafForm (n : Nd) (hs : n.small) : Good Try.prog 92 [.agg n.av] [] (.b (leafOk n)) [] := by
  have hs1 := hs.pairs; have hs2 := hs.pivots; have hs3 := hs.kids; have hs4 := hs.buf
  refine Good.w tabOk mixed Try.func92 (N := 52) (by kernel_rfl) rfl (by (repeat (first | exact LE.nil | apply LE.cons)); done) (by (repeat (first | exact LE.nil | apply LE.cons)); done) fun D hD F => ?_
  repeat' (first
    | apply AO.nil
    | (apply AO.kIx; first | refine AO.sIxN (h := ?_) | refine AO.sIx (h := ?_) | refine AO.sP (h := ?_) | refine AO.sPi (h := ?_))
    | (apply AO.kBox; refine AO.sBox (h := ?_))
    | (apply AO.kAlloc; refine AO.sAlloc (h := ?_))
    | (apply AO.kStore; first | refine AO.sStore (h := ?_) | refine AO.sStB (h := ?_))
    | (apply AO.kAdd; refine AO.sAdd (h := ?_))
    | (apply AO.kSub; refine AO.sSub (h := ?_))
    | (apply AO.kP; first | refine AO.sP (h := ?_) | refine AO.sPi (h := ?_) | refine AO.sLoadB (h := ?_))
    | apply AW.seq
    | (apply AW.kR; refine AW.sR (h := ?_))
    | apply AW.skip
    | apply AW.block
    | apply AW.out
    | (apply AW.kE; refine AW.sE (h := ?_))
    | apply AW.label
    | (apply AW.kRd; refine AW.sRd (h := ?_))
    | ((first | (apply AO.kG; first | refine AO.sgt (h1 := fun h => ?_) (h2 := fun h => ?_) | refine AO.sgf (h1 := fun h => ?_) (h2 := fun h => ?_) | refine AO.sgs (h := ?_)) | (apply AW.kC; refine AW.sC (h1 := fun h => ?_) (h2 := fun h => ?_)) | (apply AR.kAny; apply AR.kG; first | refine AR.sgt (h1 := fun h => ?_) (h2 := fun h => ?_) | refine AR.sgf (h1 := fun h => ?_) (h2 := fun h => ?_) | refine AR.sgs (h := ?_))) <;> (try (first | exact Bool.noConfusion h | exact absurd h (by decide) | (simp at h; done) | (rw [h]; try simp only [nrm] at h; try rw [h]; try (exfalso; omega)) | skip)))
    | (apply AR.kAny; first | (apply AR.kIx; first | refine AR.sIxN (h := ?_) | refine AR.sIx (h := ?_) | refine AR.sP (h := ?_) | refine AR.sPi (h := ?_)) | (apply AR.kBox; refine AR.sBox (h := ?_)) | (apply AR.kAlloc; refine AR.sAlloc (h := ?_)) | (apply AR.kStore; refine AR.sStore (h := ?_)) | (apply AR.kAdd; refine AR.sAdd (h := ?_)) | (apply AR.kSub; refine AR.sSub (h := ?_)) | (apply AR.kP; first | refine AR.sP (h := ?_) | refine AR.sPi (h := ?_)))
    | (apply AR.kNil; refine AR.sNil (h := ?_)))
  · (refine AW.ret (hD rfl ?_); (repeat' (first | apply Lx.s | apply Lx.b | apply Lx.i | apply LxL.cons | exact LxL.nil | apply Lx.tup | apply Lx.agg | apply Lx.refl)) <;> (try with_reducible rfl))
    have h : ¬ ((n.pivots.map sav).length : Int) + ((n.kids.map Ed.av).length : Int) + ((n.buf.map Ms.av).length : Int) ≤ 0 := by omega
    simp only [List.length_map] at h
    cases h1 : n.pivots with
    | cons a r => simp [leafOk, h1]
    | nil => cases h2 : n.kids with
      | cons a r => simp [leafOk, h1, h2]
      | nil => cases h3 : n.buf with
        | cons a r => simp [leafOk, h1, h2, h3]
        | nil => rw [h1, h2, h3] at h; simp at h
  · have h0 : leafOk n = (rise (n.pairs.map Pr.k) && n.pairs.all prLen) := by
      have h : ((n.pivots.map sav).length : Int) + ((n.kids.map Ed.av).length : Int) + ((n.buf.map Ms.av).length : Int) ≤ 0 := by assumption
      simp only [List.length_map] at h
      have e1 : n.pivots = [] := List.eq_nil_of_length_eq_zero (by omega)
      have e2 : n.kids = [] := List.eq_nil_of_length_eq_zero (by omega)
      have e3 : n.buf = [] := List.eq_nil_of_length_eq_zero (by omega)
      simp [leafOk, e1, e2, e3]
    refine AW.loopI (fun q : Nat => q ≤ n.pairs.length ∧ (n.pairs.take q).all prLen = true ∧ (0 < q → rise (n.pairs.map Pr.k) = rise ((n.pairs.map Pr.k).drop (q - 1)))) (fun q => ⟨[(1, .ptr 1 0), (18, .sh 2 (n.pairs.map Pr.av)), (19, .i .i64 n.pairs.length), (20, .i .i64 q)], [(1, .bx n.av)]⟩) (fun q => n.pairs.length - q) 0 (by simp) (by (constructor <;> (repeat' (first | exact LeT.nil | exact LeB.nil | apply LeT.cons | apply LeB.cons | exact Ol.refl | apply Lx.s | apply Lx.b | apply Lx.i | exact Lx.refl)) <;> (first | rfl | assumption | omega | (simp only [List.length_map, BS_len]; done) | skip))) fun m q ⟨hn, hc, hr⟩ ih => ?_
    have hl : (n.pairs.map Pr.k).length = n.pairs.length := by simp
    repeat' (first
    | apply AO.nil
    | (apply AO.kIx; first | refine AO.sIxN (h := ?_) | refine AO.sIx (h := ?_) | refine AO.sP (h := ?_) | refine AO.sPi (h := ?_))
    | (apply AO.kBox; refine AO.sBox (h := ?_))
    | (apply AO.kAlloc; refine AO.sAlloc (h := ?_))
    | (apply AO.kStore; first | refine AO.sStore (h := ?_) | refine AO.sStB (h := ?_))
    | (apply AO.kAdd; refine AO.sAdd (h := ?_))
    | (apply AO.kSub; refine AO.sSub (h := ?_))
    | (apply AO.kP; first | refine AO.sP (h := ?_) | refine AO.sPi (h := ?_) | refine AO.sLoadB (h := ?_))
    | apply AW.seq
    | (apply AW.kR; refine AW.sR (h := ?_))
    | apply AW.skip
    | apply AW.block
    | apply AW.out
    | (apply AW.kE; refine AW.sE (h := ?_))
    | apply AW.label
    | (apply AW.kRd; refine AW.sRd (h := ?_))
    | ((first | (apply AO.kG; first | refine AO.sgt (h1 := fun h => ?_) (h2 := fun h => ?_) | refine AO.sgf (h1 := fun h => ?_) (h2 := fun h => ?_) | refine AO.sgs (h := ?_)) | (apply AW.kC; refine AW.sC (h1 := fun h => ?_) (h2 := fun h => ?_)) | (apply AR.kAny; apply AR.kG; first | refine AR.sgt (h1 := fun h => ?_) (h2 := fun h => ?_) | refine AR.sgf (h1 := fun h => ?_) (h2 := fun h => ?_) | refine AR.sgs (h := ?_))) <;> (try (first | exact Bool.noConfusion h | exact absurd h (by decide) | (simp at h; done) | (rw [h]; try simp only [nrm] at h; try rw [h]; try (exfalso; omega)) | skip)))
    | (apply AR.kAny; first | (apply AR.kIx; first | refine AR.sIxN (h := ?_) | refine AR.sIx (h := ?_) | refine AR.sP (h := ?_) | refine AR.sPi (h := ?_)) | (apply AR.kBox; refine AR.sBox (h := ?_)) | (apply AR.kAlloc; refine AR.sAlloc (h := ?_)) | (apply AR.kStore; refine AR.sStore (h := ?_)) | (apply AR.kAdd; refine AR.sAdd (h := ?_)) | (apply AR.kSub; refine AR.sSub (h := ?_)) | (apply AR.kP; first | refine AR.sP (h := ?_) | refine AR.sPi (h := ?_)))
    | (apply AR.kNil; refine AR.sNil (h := ?_)))
    · (refine AW.ret (hD rfl ?_); (repeat' (first | apply Lx.s | apply Lx.b | apply Lx.i | apply LxL.cons | exact LxL.nil | apply Lx.tup | apply Lx.agg | apply Lx.refl)) <;> (try with_reducible rfl))
      have hq : 0 < q := by omega
      rw [h0, hr hq, rise_drop hq (by omega), getD_map Pr.k (by omega), getD_map Pr.k (by omega)]
      have h : lt (n.pairs.getD (q - 1) default).k (n.pairs.getD q default).k = false := by
        rename_i h
        rw [show (((q : Nat) : Int) - 1).toNat = q - 1 by omega] at h
        simp only [blt, le_iff] at h
        simpa using h
      rw [h]; simp
    · have hp : prLen (n.pairs.getD q default) = true := by simp only [prLen, Bool.and_eq_true, decide_eq_true_eq]; omega
      refine ih (q + 1) _ ⟨by omega, all_step (by omega) hc hp, fun _ => ?_⟩ (by omega) (by (constructor <;> (repeat' (first | exact LeT.nil | exact LeB.nil | apply LeT.cons | apply LeB.cons | exact Ol.refl | apply Lx.s | apply Lx.b | apply Lx.i | exact Lx.refl)) <;> (first | rfl | assumption | omega | (simp only [List.length_map, BS_len]; done) | skip)))
      have hq : 0 < q := by omega
      rw [hr hq, rise_drop hq (by omega), getD_map Pr.k (by omega), getD_map Pr.k (by omega)]
      have h : lt (n.pairs.getD (q - 1) default).k (n.pairs.getD q default).k = true := by
        have h : (blt (n.pairs.getD q default).k (n.pairs.getD (((q : Nat) : Int) - 1).toNat default).k || (n.pairs.getD q default).k == (n.pairs.getD (((q : Nat) : Int) - 1).toNat default).k) = false := by assumption
        rw [show (((q : Nat) : Int) - 1).toNat = q - 1 by omega] at h
        simp only [blt, le_iff] at h
        simpa using h
      rw [h]; simp
    · have hp : prLen (n.pairs.getD q default) = true := by simp only [prLen, Bool.and_eq_true, decide_eq_true_eq]; omega
      refine ih (q + 1) _ ⟨by omega, all_step (by omega) hc hp, fun _ => ?_⟩ (by omega) (by (constructor <;> (repeat' (first | exact LeT.nil | exact LeB.nil | apply LeT.cons | apply LeB.cons | exact Ol.refl | apply Lx.s | apply Lx.b | apply Lx.i | exact Lx.refl)) <;> (first | rfl | assumption | omega | (simp only [List.length_map, BS_len]; done) | skip)))
      have : q = 0 := by omega
      subst this; simp
    · (refine AW.ret (hD rfl ?_); (repeat' (first | apply Lx.s | apply Lx.b | apply Lx.i | apply LxL.cons | exact LxL.nil | apply Lx.tup | apply Lx.agg | apply Lx.refl)) <;> (try with_reducible rfl))
      rw [h0, all_fail (by omega : q < n.pairs.length) (by simp only [prLen, Bool.and_eq_false_iff, decide_eq_false_iff_not]; omega)]
      simp
    · (refine AW.ret (hD rfl ?_); (repeat' (first | apply Lx.s | apply Lx.b | apply Lx.i | apply LxL.cons | exact LxL.nil | apply Lx.tup | apply Lx.agg | apply Lx.refl)) <;> (try with_reducible rfl))
      rw [h0, all_fail (by omega : q < n.pairs.length) (by simp only [prLen, Bool.and_eq_false_iff, decide_eq_false_iff_not]; omega)]
      simp
    · (refine AW.ret (hD rfl ?_); (repeat' (first | apply Lx.s | apply Lx.b | apply Lx.i | apply LxL.cons | exact LxL.nil | apply Lx.tup | apply Lx.agg | apply Lx.refl)) <;> (try with_reducible rfl))
      have hq : q = n.pairs.length := by omega
      rw [h0, all_done (by omega) hc]
      rcases Nat.eq_zero_or_pos q with hz | hz
      · have : n.pairs = [] := List.eq_nil_of_length_eq_zero (by omega)
        rw [this]; rfl
      · rw [hr hz]
        have : (List.map Pr.k n.pairs).drop (q - 1) = [(n.pairs.map Pr.k).getD (q - 1) default] := by
          rw [dropD (by omega : q - 1 < (n.pairs.map Pr.k).length), show q - 1 + 1 = q by omega, List.drop_eq_nil_of_le (by omega)]
        rw [this]; rfl
theorem gForm (n : Nd) (hs : n.small) : Good Try.prog 93 [.agg n.av] [] (.b (innerOk n)) [] := by
  have hs1 := hs.pairs; have hs2 := hs.pivots; have hs3 := hs.kids; have hs4 := hs.buf
  refine Good.w tabOk mixed Try.func93 (N := 74) (by kernel_rfl) rfl (by (repeat (first | exact LE.nil | apply LE.cons)); done) (by (repeat (first | exact LE.nil | apply LE.cons)); done) fun D hD F => ?_
  repeat' (first
    | apply AO.nil
    | (apply AO.kIx; first | refine AO.sIxN (h := ?_) | refine AO.sIx (h := ?_) | refine AO.sP (h := ?_) | refine AO.sPi (h := ?_))
    | (apply AO.kBox; refine AO.sBox (h := ?_))
    | (apply AO.kAlloc; refine AO.sAlloc (h := ?_))
    | (apply AO.kStore; first | refine AO.sStore (h := ?_) | refine AO.sStB (h := ?_))
    | (apply AO.kAdd; refine AO.sAdd (h := ?_))
    | (apply AO.kSub; refine AO.sSub (h := ?_))
    | (apply AO.kP; first | refine AO.sP (h := ?_) | refine AO.sPi (h := ?_) | refine AO.sLoadB (h := ?_))
    | apply AW.seq
    | (apply AW.kR; refine AW.sR (h := ?_))
    | apply AW.skip
    | apply AW.block
    | apply AW.out
    | (apply AW.kE; refine AW.sE (h := ?_))
    | apply AW.label
    | ((first | (apply AO.kG; first | refine AO.sgt (h1 := fun h => ?_) (h2 := fun h => ?_) | refine AO.sgf (h1 := fun h => ?_) (h2 := fun h => ?_) | refine AO.sgs (h := ?_)) | (apply AW.kC; refine AW.sC (h1 := fun h => ?_) (h2 := fun h => ?_))) <;> (try (first | exact Bool.noConfusion h | exact absurd h (by decide) | (simp at h; done) | (rw [h]; try simp only [nrm] at h; try rw [h]; try (exfalso; omega)) | skip))))
  · (refine AW.ret (hD rfl ?_); (repeat' (first | apply Lx.s | apply Lx.b | apply Lx.i | apply LxL.cons | exact LxL.nil | apply Lx.tup | apply Lx.agg | apply Lx.refl)) <;> (try with_reducible rfl))
    have h : ((((n.pivots.map sav).length : Nat) : Int) != ((n.kids.map Ed.av).length : Int) - 1) = true := by assumption
    have h2 : ¬ (((n.kids.map Ed.av).length : Nat) : Int) = 0 := by assumption
    simp only [List.length_map, bne_iff_ne] at h h2
    have : ¬ n.pivots.length + 1 = n.kids.length := by omega
    simp [innerOk, this]
  · have h : ((((n.pivots.map sav).length : Nat) : Int) != ((n.kids.map Ed.av).length : Int) - 1) = false := by assumption
    have h2 : ¬ (((n.kids.map Ed.av).length : Nat) : Int) = 0 := by assumption
    have h3 : (((n.pairs.map Pr.av).length : Nat) : Int) ≤ 0 := by assumption
    simp only [List.length_map, bne_eq_false_iff_eq] at h h2 h3
    have e1 : n.pairs = [] := List.eq_nil_of_length_eq_zero (by omega)
    have e2 : n.kids.isEmpty = false := by
      cases hk : n.kids with
      | nil => rw [hk] at h2; simp at h2
      | cons a r => rfl
    have e3 : n.pivots.length + 1 = n.kids.length := by omega
    have h0 : innerOk n = (n.kids.all edOk && (rise ([] :: n.pivots) && n.pivots.all fun p => decide (p.length ≤ 16)) && n.buf.all msMay) := by
      simp [innerOk, e1, e2, e3]
    refine AW.loopI (fun q : Nat => q ≤ n.kids.length ∧ (n.kids.take q).all edOk = true) (fun q => ⟨[(1, .ptr 1 0), (29, .sh 4 (n.kids.map Ed.av)), (30, .i .i64 n.kids.length), (31, .i .i64 q)], [(1, .bx n.av)]⟩) (fun q => n.kids.length - q) 0 (by simp) (by (constructor <;> (repeat' (first | exact LeT.nil | exact LeB.nil | apply LeT.cons | apply LeB.cons | exact Ol.refl | apply Lx.s | apply Lx.b | apply Lx.i | exact Lx.refl)) <;> (first | rfl | assumption | omega | (simp only [List.length_map, BS_len]; done) | skip))) fun m q ⟨hn, hc⟩ ih => ?_
    repeat' (first
    | apply AO.nil
    | (apply AO.kCall 123; refine AO.sCall (hg := (gShort _)) (h := ?_))
    | (apply AO.kIx; first | refine AO.sIxN (h := ?_) | refine AO.sIx (h := ?_) | refine AO.sP (h := ?_) | refine AO.sPi (h := ?_))
    | (apply AO.kBox; refine AO.sBox (h := ?_))
    | (apply AO.kAlloc; refine AO.sAlloc (h := ?_))
    | (apply AO.kStore; first | refine AO.sStore (h := ?_) | refine AO.sStB (h := ?_))
    | (apply AO.kAdd; refine AO.sAdd (h := ?_))
    | (apply AO.kSub; refine AO.sSub (h := ?_))
    | (apply AO.kP; first | refine AO.sP (h := ?_) | refine AO.sPi (h := ?_) | refine AO.sLoadB (h := ?_))
    | apply AW.seq
    | (apply AW.kR; refine AW.sR (h := ?_))
    | apply AW.skip
    | apply AW.block
    | apply AW.out
    | (apply AW.kE; refine AW.sE (h := ?_))
    | apply AW.label
    | ((first | (apply AO.kG; first | refine AO.sgt (h1 := fun h => ?_) (h2 := fun h => ?_) | refine AO.sgf (h1 := fun h => ?_) (h2 := fun h => ?_) | refine AO.sgs (h := ?_)) | (apply AW.kC; refine AW.sC (h1 := fun h => ?_) (h2 := fun h => ?_))) <;> (try (first | exact Bool.noConfusion h | exact absurd h (by decide) | (simp at h; done) | (rw [h]; try simp only [nrm] at h; try rw [h]; try (exfalso; omega)) | skip))))
    · (refine AW.ret (hD rfl ?_); (repeat' (first | apply Lx.s | apply Lx.b | apply Lx.i | apply LxL.cons | exact LxL.nil | apply Lx.tup | apply Lx.agg | apply Lx.refl)) <;> (try with_reducible rfl))
      have h : ¬ (n.kids.getD q default).add.length ≤ 16 := by assumption
      rw [h0, all_fail (by omega : q < n.kids.length) (by rw [edOk_iff, decide_eq_false h]; simp)]
      simp
    · refine ih (q + 1) _ ⟨by omega, all_step (by omega) hc (by simp_all [edOk, bv0, bvn0])⟩ (by omega) (by (constructor <;> (repeat' (first | exact LeT.nil | exact LeB.nil | apply LeT.cons | apply LeB.cons | exact Ol.refl | apply Lx.s | apply Lx.b | apply Lx.i | exact Lx.refl)) <;> (first | rfl | assumption | omega | (simp only [List.length_map, BS_len]; done) | skip)))
    · (refine AW.ret (hD rfl ?_); (repeat' (first | apply Lx.s | apply Lx.b | apply Lx.i | apply LxL.cons | exact LxL.nil | apply Lx.tup | apply Lx.agg | apply Lx.refl)) <;> (try with_reducible rfl))
      have h : ¬ (n.kids.getD q default).strip.length ≤ 16 := by assumption
      rw [h0, all_fail (by omega : q < n.kids.length) (by rw [edOk_iff, decide_eq_false h]; simp)]
      simp
    · (refine AW.ret (hD rfl ?_); (repeat' (first | apply Lx.s | apply Lx.b | apply Lx.i | apply LxL.cons | exact LxL.nil | apply Lx.tup | apply Lx.agg | apply Lx.refl)) <;> (try with_reducible rfl))
      have h : (((n.kids.getD q default).deep.toNat : Nat) : Int) = 0 := by assumption
      rw [bv0] at h
      rw [h0, all_fail (by omega : q < n.kids.length) (by rw [edOk_iff, h]; simp)]
      simp
    · have h1 : n.kids.all edOk = true := all_done (by omega) hc
      refine AW.loopI (fun q : Nat => q ≤ n.pivots.length ∧ (n.pivots.take q).all (fun p => decide (p.length ≤ 16)) = true ∧ rise ([] :: n.pivots) = rise (([] :: n.pivots).drop q)) (fun q => ⟨[(1, .ptr 1 0), (5, .s (([] :: n.pivots).getD q default)), (54, .sh 1 (n.pivots.map sav)), (55, .i .i64 n.pivots.length), (56, .i .i64 q)], [(1, .bx n.av)]⟩) (fun q => n.pivots.length - q) 0 (by simp) (by (constructor <;> (repeat' (first | exact LeT.nil | exact LeB.nil | apply LeT.cons | apply LeB.cons | exact Ol.refl | apply Lx.s | apply Lx.b | apply Lx.i | exact Lx.refl)) <;> (first | rfl | assumption | omega | (simp only [List.length_map, BS_len]; done) | skip))) fun m2 q2 ⟨hn2, hc2, hr2⟩ ih2 => ?_
      have hgs : ([] :: n.pivots).getD (q2 + 1) default = n.pivots.getD q2 default := rfl
      repeat' (first
    | apply AO.nil
    | (apply AO.kCall 123; refine AO.sCall (hg := (gShort _)) (h := ?_))
    | (apply AO.kCall 124; refine AO.sCall (hg := (gConBad _ sd)) (h := ?_))
    | (apply AO.kIx; first | refine AO.sIxN (h := ?_) | refine AO.sIx (h := ?_) | refine AO.sP (h := ?_) | refine AO.sPi (h := ?_))
    | (apply AO.kBox; refine AO.sBox (h := ?_))
    | (apply AO.kAlloc; refine AO.sAlloc (h := ?_))
    | (apply AO.kStore; first | refine AO.sStore (h := ?_) | refine AO.sStB (h := ?_))
    | (apply AO.kAdd; refine AO.sAdd (h := ?_))
    | (apply AO.kSub; refine AO.sSub (h := ?_))
    | (apply AO.kP; first | refine AO.sP (h := ?_) | refine AO.sPi (h := ?_) | refine AO.sLoadB (h := ?_))
    | apply AW.seq
    | (apply AW.kR; refine AW.sR (h := ?_))
    | apply AW.skip
    | apply AW.block
    | apply AW.out
    | (apply AW.kE; refine AW.sE (h := ?_))
    | apply AW.label
    | ((first | (apply AO.kG; first | refine AO.sgt (h1 := fun h => ?_) (h2 := fun h => ?_) | refine AO.sgf (h1 := fun h => ?_) (h2 := fun h => ?_) | refine AO.sgs (h := ?_)) | (apply AW.kC; refine AW.sC (h1 := fun h => ?_) (h2 := fun h => ?_))) <;> (try (first | exact Bool.noConfusion h | exact absurd h (by decide) | (simp at h; done) | (rw [h]; try simp only [nrm] at h; try rw [h]; try (exfalso; omega)) | skip))))
      all_goals (try (have hlt : q2 < n.pivots.length := by omega))
      · (refine AW.ret (hD rfl ?_); (repeat' (first | apply Lx.s | apply Lx.b | apply Lx.i | apply LxL.cons | exact LxL.nil | apply Lx.tup | apply Lx.agg | apply Lx.refl)) <;> (try with_reducible rfl))
        have h : ¬ (n.pivots.getD q2 default).length ≤ 16 := by assumption
        rw [h0, all_fail (l := n.pivots) hlt (decide_eq_false h)]
        simp
      · have h5 : lt (([] :: n.pivots).getD q2 default) (n.pivots.getD q2 default) = true := by
          have h5 : (blt (n.pivots.getD q2 default) (([] :: n.pivots).getD q2 default) || n.pivots.getD q2 default == ([] :: n.pivots).getD q2 default) = false := by assumption
          simp only [blt, le_iff] at h5
          simpa using h5
        have h : (n.pivots.getD q2 default).length ≤ 16 := by assumption
        refine ih2 (q2 + 1) _ ⟨by omega, all_step hlt hc2 (decide_eq_true h), ?_⟩ (by omega) (by (constructor <;> (repeat' (first | exact LeT.nil | exact LeB.nil | apply LeT.cons | apply LeB.cons | exact Ol.refl | apply Lx.s | apply Lx.b | apply Lx.i | exact Lx.refl)) <;> (first | rfl | assumption | omega | (simp only [List.length_map, BS_len]; done) | skip)))
        rw [hr2, rise_next (by simp only [List.length_cons]; omega), hgs, h5, Bool.true_and]
      · (refine AW.ret (hD rfl ?_); (repeat' (first | apply Lx.s | apply Lx.b | apply Lx.i | apply LxL.cons | exact LxL.nil | apply Lx.tup | apply Lx.agg | apply Lx.refl)) <;> (try with_reducible rfl))
        have h5 : lt (([] :: n.pivots).getD q2 default) (n.pivots.getD q2 default) = false := by
          have h5 : (blt (n.pivots.getD q2 default) (([] :: n.pivots).getD q2 default) || n.pivots.getD q2 default == ([] :: n.pivots).getD q2 default) = true := by assumption
          simp only [blt, le_iff] at h5
          simpa using h5
        rw [h0, hr2, rise_next (by simp only [List.length_cons]; omega), hgs, h5]
        simp
      · (refine AW.ret (hD rfl ?_); (repeat' (first | apply Lx.s | apply Lx.b | apply Lx.i | apply LxL.cons | exact LxL.nil | apply Lx.tup | apply Lx.agg | apply Lx.refl)) <;> (try with_reducible rfl))
        rw [h0, h1, all_done (by omega) hc2, hr2, rise_end (by simp only [List.length_cons]; omega)]
        simp
  · (refine AW.ret (hD rfl ?_); (repeat' (first | apply Lx.s | apply Lx.b | apply Lx.i | apply LxL.cons | exact LxL.nil | apply Lx.tup | apply Lx.agg | apply Lx.refl)) <;> (try with_reducible rfl))
    have h2 : (((n.kids.map Ed.av).length : Nat) : Int) = 0 := by assumption
    simp only [List.length_map] at h2
    have : n.kids = [] := List.eq_nil_of_length_eq_zero (by omega)
    simp [innerOk, this]
  · (refine AW.ret (hD rfl ?_); (repeat' (first | apply Lx.s | apply Lx.b | apply Lx.i | apply LxL.cons | exact LxL.nil | apply Lx.tup | apply Lx.agg | apply Lx.refl)) <;> (try with_reducible rfl))
    have h2 : 0 < (((n.pairs.map Pr.av).length : Nat) : Int) := by assumption
    simp only [List.length_map] at h2
    cases hk : n.pairs with
    | nil => rw [hk] at h2; simp at h2
    | cons a r => simp [innerOk, hk]
theorem gMay (n : Nd) (hs : n.small) : Good Try.prog 57 [.agg n.av] [] (.i .i64 (mayN n)) [] := by
  obtain ⟨leaf, pairs, pivots, kids, buf⟩ := n
  have hs1 : pairs.length ≤ 1000000 := hs.pairs
  have hs2 : pivots.length ≤ 1000000 := hs.pivots
  have hs3 : kids.length ≤ 1000000 := hs.kids
  have hs4 : buf.length ≤ 1000000 := hs.buf
  clear hs
  refine Good.w tabOk mixed Try.func57 (N := 36) (by kernel_rfl) rfl (by (repeat (first | exact LE.nil | apply LE.cons)); done) (by (repeat (first | exact LE.nil | apply LE.cons)); done) fun D hD F => ?_
  repeat' (first
    | apply AO.nil
    | (apply AO.kCall 92; refine AO.sCall (hg := (gLeafForm ⟨_, _, _, _, _⟩ ⟨hs1, hs2, hs3, hs4⟩)) (h := ?_))
    | (apply AO.kCall 93; refine AO.sCall (hg := (gForm ⟨_, _, _, _, _⟩ ⟨hs1, hs2, hs3, hs4⟩)) (h := ?_))
    | (apply AO.kBox; refine AO.sBox (h := ?_))
    | (apply AO.kP; first | refine AO.sP (h := ?_) | refine AO.sPi (h := ?_) | refine AO.sLoadB (h := ?_))
    | apply AW.seq
    | (apply AW.kR; refine AW.sR (h := ?_))
    | apply AW.skip
    | apply AW.block
    | apply AW.out
    | (apply AW.kE; refine AW.sE (h := ?_))
    | apply AW.label
    | ((first | (apply AO.kG; first | refine AO.sgt (h1 := fun h => ?_) (h2 := fun h => ?_) | refine AO.sgf (h1 := fun h => ?_) (h2 := fun h => ?_) | refine AO.sgs (h := ?_)) | (apply AW.kC; refine AW.sC (h1 := fun h => ?_) (h2 := fun h => ?_))) <;> (try (first | exact Bool.noConfusion h | exact absurd h (by decide) | (simp at h; done) | (rw [h]; try simp only [nrm] at h; try rw [h]; try (exfalso; omega)) | skip))))
  all_goals (refine AW.ret (hD rfl ?_); (repeat' (first | apply Lx.s | apply Lx.b | apply Lx.i | apply LxL.cons | exact LxL.nil | apply Lx.tup | apply Lx.agg | apply Lx.refl)) <;> (try with_reducible rfl))
  all_goals simp only [List.length_map, le_lit, lit_lt] at *
  all_goals (try subst leaf)
  all_goals simp only [mayN]
  all_goals (first | rw [if_pos (by omega)]; rfl | rw [if_neg (by omega)]; simp_all)
theorem gRise (l : List Pr) (hl : l.length ≤ 1000000) : Good Try.prog 54 [.sh 2 (l.map Pr.av)] [] (.b (rise (l.map Pr.k))) [] := by
  have hlm : (l.map Pr.k).length = l.length := by simp
  refine Good.w tabOk mixed Try.func54 (N := 22) (by kernel_rfl) rfl (by (repeat (first | exact LE.nil | apply LE.cons)); done) (by (repeat (first | exact LE.nil | apply LE.cons)); done) fun D hD F => ?_
  repeat' (first
    | apply AO.nil
    | (apply AO.kIx; first | refine AO.sIxN (h := ?_) | refine AO.sIx (h := ?_) | refine AO.sP (h := ?_) | refine AO.sPi (h := ?_))
    | (apply AO.kAdd; refine AO.sAdd (h := ?_))
    | (apply AO.kSub; refine AO.sSub (h := ?_))
    | (apply AO.kP; first | refine AO.sP (h := ?_) | refine AO.sPi (h := ?_) | refine AO.sLoadB (h := ?_))
    | apply AW.seq
    | (apply AW.kR; refine AW.sR (h := ?_))
    | apply AW.skip
    | apply AW.block
    | apply AW.out
    | (apply AW.kE; refine AW.sE (h := ?_))
    | apply AW.label
    | (apply AW.kRd; refine AW.sRd (h := ?_))
    | ((first | (apply AW.kC; refine AW.sC (h1 := fun h => ?_) (h2 := fun h => ?_))) <;> (try (first | exact Bool.noConfusion h | exact absurd h (by decide) | (simp at h; done) | (rw [h]; try simp only [nrm] at h; try rw [h]; try (exfalso; omega)) | skip)))
    | (apply AR.kAny; first | (apply AR.kIx; first | refine AR.sIxN (h := ?_) | refine AR.sIx (h := ?_) | refine AR.sP (h := ?_) | refine AR.sPi (h := ?_)) | (apply AR.kAdd; refine AR.sAdd (h := ?_)) | (apply AR.kSub; refine AR.sSub (h := ?_)) | (apply AR.kP; first | refine AR.sP (h := ?_) | refine AR.sPi (h := ?_)))
    | (apply AR.kNil; refine AR.sNil (h := ?_)))
  refine AW.loopI (fun q : Nat => rise (l.map Pr.k) = rise ((l.map Pr.k).drop q)) (fun q => ⟨[(0, .sh 2 (l.map Pr.av)), (3, .i .i64 ((q : Int) + 1))], []⟩) (fun q => l.length - q) 0 (by simp) (by (constructor <;> (repeat' (first | exact LeT.nil | exact LeB.nil | apply LeT.cons | apply LeB.cons | exact Ol.refl | apply Lx.s | apply Lx.b | apply Lx.i | exact Lx.refl)) <;> (first | rfl | assumption | omega | (simp only [List.length_map, BS_len]; done) | skip))) fun m q hr ih => ?_
  repeat' (first
    | apply AO.nil
    | (apply AO.kIx; first | refine AO.sIxN (h := ?_) | refine AO.sIx (h := ?_) | refine AO.sP (h := ?_) | refine AO.sPi (h := ?_))
    | (apply AO.kAdd; refine AO.sAdd (h := ?_))
    | (apply AO.kSub; refine AO.sSub (h := ?_))
    | (apply AO.kP; first | refine AO.sP (h := ?_) | refine AO.sPi (h := ?_) | refine AO.sLoadB (h := ?_))
    | apply AW.seq
    | (apply AW.kR; refine AW.sR (h := ?_))
    | apply AW.skip
    | apply AW.block
    | apply AW.out
    | (apply AW.kE; refine AW.sE (h := ?_))
    | apply AW.label
    | (apply AW.kRd; refine AW.sRd (h := ?_))
    | ((first | (apply AW.kC; refine AW.sC (h1 := fun h => ?_) (h2 := fun h => ?_))) <;> (try (first | exact Bool.noConfusion h | exact absurd h (by decide) | (simp at h; done) | (rw [h]; try simp only [nrm] at h; try rw [h]; try (exfalso; omega)) | skip)))
    | (apply AR.kAny; first | (apply AR.kIx; first | refine AR.sIxN (h := ?_) | refine AR.sIx (h := ?_) | refine AR.sP (h := ?_) | refine AR.sPi (h := ?_)) | (apply AR.kAdd; refine AR.sAdd (h := ?_)) | (apply AR.kSub; refine AR.sSub (h := ?_)) | (apply AR.kP; first | refine AR.sP (h := ?_) | refine AR.sPi (h := ?_)))
    | (apply AR.kNil; refine AR.sNil (h := ?_)))
  · (refine AW.ret (hD rfl ?_); (repeat' (first | apply Lx.s | apply Lx.b | apply Lx.i | apply LxL.cons | exact LxL.nil | apply Lx.tup | apply Lx.agg | apply Lx.refl)) <;> (try with_reducible rfl))
    have h : (blt (l.getD ((q : Int) + 1).toNat default).k (l.getD ((q : Int) + 1 - 1).toNat default).k || (l.getD ((q : Int) + 1).toNat default).k == (l.getD ((q : Int) + 1 - 1).toNat default).k) = true := by assumption
    rw [show ((q : Int) + 1 - 1).toNat = q by omega, show ((q : Int) + 1).toNat = q + 1 by omega] at h
    simp only [blt, le_iff] at h
    rw [hr, rise_next (by rw [hlm]; simp only [List.length_map] at *; omega), getD_map Pr.k (by simp only [List.length_map] at *; omega), getD_map Pr.k (by simp only [List.length_map] at *; omega)]
    simp_all
  · have h : (blt (l.getD ((q : Int) + 1).toNat default).k (l.getD ((q : Int) + 1 - 1).toNat default).k || (l.getD ((q : Int) + 1).toNat default).k == (l.getD ((q : Int) + 1 - 1).toNat default).k) = false := by assumption
    rw [show ((q : Int) + 1 - 1).toNat = q by omega, show ((q : Int) + 1).toNat = q + 1 by omega] at h
    simp only [blt, le_iff] at h
    refine ih (q + 1) _ ?_ (by simp only [List.length_map] at *; omega) (by (constructor <;> (repeat' (first | exact LeT.nil | exact LeB.nil | apply LeT.cons | apply LeB.cons | exact Ol.refl | apply Lx.s | apply Lx.b | apply Lx.i | exact Lx.refl)) <;> (first | rfl | assumption | omega | (simp only [List.length_map, BS_len]; done) | skip)))
    rw [hr, rise_next (by rw [hlm]; simp only [List.length_map] at *; omega), getD_map Pr.k (by simp only [List.length_map] at *; omega), getD_map Pr.k (by simp only [List.length_map] at *; omega)]
    simp_all
  · (refine AW.ret (hD rfl ?_); (repeat' (first | apply Lx.s | apply Lx.b | apply Lx.i | apply LxL.cons | exact LxL.nil | apply Lx.tup | apply Lx.agg | apply Lx.refl)) <;> (try with_reducible rfl))
    rw [hr, rise_end (by rw [hlm]; simp only [List.length_map] at *; omega)]
/-- A message of a list, gone through by the document's test. -/
theorem gMay' (n : Nd) (hs : n.small) : Good Try.prog 22 [.agg n.av] [] (.i .i64 (mayN n)) [] := by
  obtain ⟨leaf, pairs, pivots, kids, buf⟩ := n
  have hs1 : pairs.length ≤ 1000000 := hs.pairs
  have hs2 : pivots.length ≤ 1000000 := hs.pivots
  have hs3 : kids.length ≤ 1000000 := hs.kids
  have hs4 : buf.length ≤ 1000000 := hs.buf
  have l1 : (pairs.map Pr.av).length = pairs.length := by simp
  have l2 : (pivots.map sav).length = pivots.length := by simp
  have l3 : (kids.map Ed.av).length = kids.length := by simp
  have l4 : (buf.map Ms.av).length = buf.length := by simp
  clear hs
  have t13 : (16 < pairs.length ∨ 8 < kids.length ∨ 16 < buf.length) → mayN ⟨leaf, pairs, pivots, kids, buf⟩ = 13 := fun h => by simp only [mayN]; rw [if_pos h]
  have tL : ¬ (16 < pairs.length ∨ 8 < kids.length ∨ 16 < buf.length) → mayN ⟨true, pairs, pivots, kids, buf⟩ = if leafOk ⟨true, pairs, pivots, kids, buf⟩ = true then 0 else 3 := fun h => by simp only [mayN]; rw [if_neg h]; rfl
  have tI : ¬ (16 < pairs.length ∨ 8 < kids.length ∨ 16 < buf.length) → mayN ⟨false, pairs, pivots, kids, buf⟩ = if innerOk ⟨false, pairs, pivots, kids, buf⟩ = true then 0 else 3 := fun h => by simp only [mayN]; rw [if_neg h]; rfl
  have z : ∀ {α : Type} (l : List α), ¬ l.length ≤ 0 → l.isEmpty = false := fun l h => by cases l <;> simp_all
  have z' : ∀ {α : Type} (l : List α), l.length ≤ 0 → l = [] := fun l h => List.eq_nil_of_length_eq_zero (by omega)
  refine Good.w tabOk mixed Try.func22 (N := 182) (by kernel_rfl) rfl (by (repeat (first | exact LE.nil | apply LE.cons)); done) (by (repeat (first | exact LE.nil | apply LE.cons)); done) fun D hD F => ?_
  repeat' (first
    | apply AO.nil
    | (apply AO.kCall 54; refine AO.sCall (hg := (gRise _ sd)) (h := ?_))
    | (apply AO.kIx; first | refine AO.sIxN (h := ?_) | refine AO.sIx (h := ?_) | refine AO.sP (h := ?_) | refine AO.sPi (h := ?_))
    | (apply AO.kBox; refine AO.sBox (h := ?_))
    | (apply AO.kAdd; refine AO.sAdd (h := ?_))
    | (apply AO.kSub; refine AO.sSub (h := ?_))
    | (apply AO.kP; first | refine AO.sP (h := ?_) | refine AO.sPi (h := ?_) | refine AO.sLoadB (h := ?_))
    | apply AW.seq
    | (apply AW.kR; refine AW.sR (h := ?_))
    | apply AW.skip
    | apply AW.block
    | apply AW.out
    | (apply AW.kE; refine AW.sE (h := ?_))
    | apply AW.label
    | (apply AW.kRd; refine AW.sRd (h := ?_))
    | ((first | (apply AO.kG; first | refine AO.sgt (h1 := fun h => ?_) (h2 := fun h => ?_) | refine AO.sgf (h1 := fun h => ?_) (h2 := fun h => ?_) | refine AO.sgs (h := ?_)) | (apply AW.kC; refine AW.sC (h1 := fun h => ?_) (h2 := fun h => ?_)) | (apply AR.kAny; apply AR.kG; first | refine AR.sgt (h1 := fun h => ?_) (h2 := fun h => ?_) | refine AR.sgf (h1 := fun h => ?_) (h2 := fun h => ?_) | refine AR.sgs (h := ?_))) <;> (try (first | exact Bool.noConfusion h | exact absurd h (by decide) | (simp at h; done) | (rw [h]; try simp only [nrm] at h; try rw [h]; try (exfalso; omega)) | skip)))
    | (apply AR.kAny; first | (apply AR.kCall 54; refine AR.sCall (hg := (gRise _ sd)) (h := ?_)) | (apply AR.kIx; first | refine AR.sIxN (h := ?_) | refine AR.sIx (h := ?_) | refine AR.sP (h := ?_) | refine AR.sPi (h := ?_)) | (apply AR.kBox; refine AR.sBox (h := ?_)) | (apply AR.kAdd; refine AR.sAdd (h := ?_)) | (apply AR.kSub; refine AR.sSub (h := ?_)) | (apply AR.kP; first | refine AR.sP (h := ?_) | refine AR.sPi (h := ?_)))
    | (apply AR.kNil; refine AR.sNil (h := ?_)))
  · refine AW.ret (hD rfl (Lx.i ?_)); rw [t13 (by omega)]; rfl
  · refine AW.ret (hD rfl (Lx.i ?_))
    subst leaf
    have h : rise (pairs.map Pr.k) = false := by assumption
    rw [tL (by omega), if_neg (by simp [leafOk, h])]; rfl
  · subst leaf
    have hri : rise (pairs.map Pr.k) = true := by assumption
    obtain rfl := z' pivots (by omega)
    obtain rfl := z' kids (by omega)
    obtain rfl := z' buf (by omega)
    have h0 : leafOk ⟨true, pairs, [], [], []⟩ = pairs.all prLen := by simp [leafOk, hri]
    refine AW.loopI (fun q : Nat => q ≤ pairs.length ∧ (pairs.take q).all prLen = true) (fun q => ⟨[(1, .ptr 1 0), (49, .i .i64 pairs.length), (50, .i .i64 q)], [(1, .bx (Nd.av ⟨true, pairs, [], [], []⟩))]⟩) (fun q => pairs.length - q) 0 (by simp) (by (constructor <;> (repeat' (first | exact LeT.nil | exact LeB.nil | apply LeT.cons | apply LeB.cons | exact Ol.refl | apply Lx.s | apply Lx.b | apply Lx.i | exact Lx.refl)) <;> (first | rfl | assumption | omega | (simp only [List.length_map, BS_len]; done) | skip))) fun m q ⟨hn, hc⟩ ih => ?_
    repeat' (first
    | apply AO.nil
    | (apply AO.kIx; first | refine AO.sIxN (h := ?_) | refine AO.sIx (h := ?_) | refine AO.sP (h := ?_) | refine AO.sPi (h := ?_))
    | (apply AO.kBox; refine AO.sBox (h := ?_))
    | (apply AO.kAdd; refine AO.sAdd (h := ?_))
    | (apply AO.kSub; refine AO.sSub (h := ?_))
    | (apply AO.kP; first | refine AO.sP (h := ?_) | refine AO.sPi (h := ?_) | refine AO.sLoadB (h := ?_))
    | apply AW.seq
    | (apply AW.kR; refine AW.sR (h := ?_))
    | apply AW.skip
    | apply AW.block
    | apply AW.out
    | (apply AW.kE; refine AW.sE (h := ?_))
    | apply AW.label
    | (apply AW.kRd; refine AW.sRd (h := ?_))
    | ((first | (apply AO.kG; first | refine AO.sgt (h1 := fun h => ?_) (h2 := fun h => ?_) | refine AO.sgf (h1 := fun h => ?_) (h2 := fun h => ?_) | refine AO.sgs (h := ?_)) | (apply AW.kC; refine AW.sC (h1 := fun h => ?_) (h2 := fun h => ?_)) | (apply AR.kAny; apply AR.kG; first | refine AR.sgt (h1 := fun h => ?_) (h2 := fun h => ?_) | refine AR.sgf (h1 := fun h => ?_) (h2 := fun h => ?_) | refine AR.sgs (h := ?_))) <;> (try (first | exact Bool.noConfusion h | exact absurd h (by decide) | (simp at h; done) | (rw [h]; try simp only [nrm] at h; try rw [h]; try (exfalso; omega)) | skip)))
    | (apply AR.kAny; first | (apply AR.kIx; first | refine AR.sIxN (h := ?_) | refine AR.sIx (h := ?_) | refine AR.sP (h := ?_) | refine AR.sPi (h := ?_)) | (apply AR.kBox; refine AR.sBox (h := ?_)) | (apply AR.kAdd; refine AR.sAdd (h := ?_)) | (apply AR.kSub; refine AR.sSub (h := ?_)) | (apply AR.kP; first | refine AR.sP (h := ?_) | refine AR.sPi (h := ?_)))
    | (apply AR.kNil; refine AR.sNil (h := ?_)))
    · refine AW.ret (hD rfl (Lx.i ?_))
      have hp : prLen (pairs.getD q default) = false := by simp only [prLen, Bool.and_eq_false_iff, decide_eq_false_iff_not]; omega
      rw [tL (by omega), h0, all_fail (by omega : q < pairs.length) hp]; rfl
    · exact ih (q + 1) _ ⟨by omega, all_step (by omega) hc (by simp only [prLen, Bool.and_eq_true, decide_eq_true_eq]; omega)⟩ (by omega) (by (constructor <;> (repeat' (first | exact LeT.nil | exact LeB.nil | apply LeT.cons | apply LeB.cons | exact Ol.refl | apply Lx.s | apply Lx.b | apply Lx.i | exact Lx.refl)) <;> (first | rfl | assumption | omega | (simp only [List.length_map, BS_len]; done) | skip)))
    · refine AW.ret (hD rfl (Lx.i ?_))
      have hp : prLen (pairs.getD q default) = false := by simp only [prLen, Bool.and_eq_false_iff, decide_eq_false_iff_not]; omega
      rw [tL (by omega), h0, all_fail (by omega : q < pairs.length) hp]; rfl
    · refine AW.ret (hD rfl (Lx.i ?_))
      rw [tL (by omega), h0, all_done (by omega) hc]; rfl
  · refine AW.ret (hD rfl (Lx.i ?_))
    subst leaf
    rw [tL (by omega), if_neg (by simp [leafOk, z buf (by omega)])]; rfl
  · refine AW.ret (hD rfl (Lx.i ?_))
    subst leaf
    rw [tL (by omega), if_neg (by simp [leafOk, z kids (by omega)])]; rfl
  · refine AW.ret (hD rfl (Lx.i ?_))
    subst leaf
    rw [tL (by omega), if_neg (by simp [leafOk, z pivots (by omega)])]; rfl
  · refine AW.ret (hD rfl (Lx.i ?_))
    subst leaf
    have h : ((((pivots.map sav).length : Nat) : Int) + 1 != ((kids.map Ed.av).length : Int)) = true := by assumption
    rw [bne_iff_ne] at h
    rw [tI (by omega), if_neg (by simp [innerOk, show ¬ pivots.length + 1 = kids.length by omega])]; rfl
  · subst leaf
    have h : ((((pivots.map sav).length : Nat) : Int) + 1 != ((kids.map Ed.av).length : Int)) = false := by assumption
    rw [bne_eq_false_iff_eq] at h
    have hpk : pivots.length + 1 = kids.length := by omega
    obtain rfl := z' pairs (by omega)
    have h0 : innerOk ⟨false, [], pivots, kids, buf⟩ = (kids.all edOk && (rise ([] :: pivots) && pivots.all fun p => decide (p.length ≤ 16)) && buf.all msMay) := by
      simp [innerOk, hpk, z kids (by omega)]
    refine AW.loopI (fun q : Nat => q ≤ kids.length ∧ (kids.take q).all edOk = true) (fun q => ⟨[(1, .ptr 1 0), (94, .i .i64 kids.length), (95, .i .i64 q)], [(1, .bx (Nd.av ⟨false, [], pivots, kids, buf⟩))]⟩) (fun q => kids.length - q) 0 (by simp) (by (constructor <;> (repeat' (first | exact LeT.nil | exact LeB.nil | apply LeT.cons | apply LeB.cons | exact Ol.refl | apply Lx.s | apply Lx.b | apply Lx.i | exact Lx.refl)) <;> (first | rfl | assumption | omega | (simp only [List.length_map, BS_len]; done) | skip))) fun m q ⟨hn, hc⟩ ih => ?_
    repeat' (first
    | apply AO.nil
    | (apply AO.kIx; first | refine AO.sIxN (h := ?_) | refine AO.sIx (h := ?_) | refine AO.sP (h := ?_) | refine AO.sPi (h := ?_))
    | (apply AO.kBox; refine AO.sBox (h := ?_))
    | (apply AO.kAdd; refine AO.sAdd (h := ?_))
    | (apply AO.kSub; refine AO.sSub (h := ?_))
    | (apply AO.kP; first | refine AO.sP (h := ?_) | refine AO.sPi (h := ?_) | refine AO.sLoadB (h := ?_))
    | apply AW.seq
    | (apply AW.kR; refine AW.sR (h := ?_))
    | apply AW.skip
    | apply AW.block
    | apply AW.out
    | (apply AW.kE; refine AW.sE (h := ?_))
    | apply AW.label
    | (apply AW.kRd; refine AW.sRd (h := ?_))
    | ((first | (apply AO.kG; first | refine AO.sgt (h1 := fun h => ?_) (h2 := fun h => ?_) | refine AO.sgf (h1 := fun h => ?_) (h2 := fun h => ?_) | refine AO.sgs (h := ?_)) | (apply AW.kC; refine AW.sC (h1 := fun h => ?_) (h2 := fun h => ?_)) | (apply AR.kAny; apply AR.kG; first | refine AR.sgt (h1 := fun h => ?_) (h2 := fun h => ?_) | refine AR.sgf (h1 := fun h => ?_) (h2 := fun h => ?_) | refine AR.sgs (h := ?_))) <;> (try (first | exact Bool.noConfusion h | exact absurd h (by decide) | (simp at h; done) | (rw [h]; try simp only [nrm] at h; try rw [h]; try (exfalso; omega)) | skip)))
    | (apply AR.kAny; first | (apply AR.kIx; first | refine AR.sIxN (h := ?_) | refine AR.sIx (h := ?_) | refine AR.sP (h := ?_) | refine AR.sPi (h := ?_)) | (apply AR.kBox; refine AR.sBox (h := ?_)) | (apply AR.kAdd; refine AR.sAdd (h := ?_)) | (apply AR.kSub; refine AR.sSub (h := ?_)) | (apply AR.kP; first | refine AR.sP (h := ?_) | refine AR.sPi (h := ?_)))
    | (apply AR.kNil; refine AR.sNil (h := ?_)))
    · refine AW.ret (hD rfl (Lx.i ?_))
      have h : ¬ (kids.getD q default).add.length ≤ 16 := by omega
      rw [tI (by omega), h0, all_fail (by omega : q < kids.length) (by rw [edOk_iff, decide_eq_false h]; simp)]; rfl
    · have h : 1 ≤ (((kids.getD q default).deep.toNat : Nat) : Int) := by assumption
      have h' : ((kids.getD q default).deep == 0) = false := by
        rw [beq_eq_false_iff_ne]
        intro e
        rw [e] at h; simp at h
      refine ih (q + 1) _ ⟨by omega, all_step (by omega) hc (by rw [edOk_iff, h', decide_eq_true (by omega), decide_eq_true (by omega)]; rfl)⟩ (by omega) (by (constructor <;> (repeat' (first | exact LeT.nil | exact LeB.nil | apply LeT.cons | apply LeB.cons | exact Ol.refl | apply Lx.s | apply Lx.b | apply Lx.i | exact Lx.refl)) <;> (first | rfl | assumption | omega | (simp only [List.length_map, BS_len]; done) | skip)))
    · refine AW.ret (hD rfl (Lx.i ?_))
      have h : ¬ (kids.getD q default).strip.length ≤ 16 := by omega
      rw [tI (by omega), h0, all_fail (by omega : q < kids.length) (by rw [edOk_iff, decide_eq_false h]; simp)]; rfl
    · refine AW.ret (hD rfl (Lx.i ?_))
      have h' : ((kids.getD q default).deep == 0) = true := by
        rw [beq_iff_eq, ← bvn0]; omega
      rw [tI (by omega), h0, all_fail (by omega : q < kids.length) (by rw [edOk_iff, h']; rfl)]; rfl
    · have hk : kids.all edOk = true := all_done (by omega) hc
      rw [hk, Bool.true_and] at h0
      refine AW.loopI (fun q : Nat => q ≤ pivots.length ∧ (pivots.take q).all (fun p => decide (p.length ≤ 16)) = true ∧ rise ([] :: pivots) = rise (([] :: pivots).drop q)) (fun q => ⟨[(1, .ptr 1 0), (130, .i .i64 pivots.length), (131, .i .i64 q)], [(1, .bx (Nd.av ⟨false, [], pivots, kids, buf⟩))]⟩) (fun q => pivots.length - q) 0 (by simp) (by (constructor <;> (repeat' (first | exact LeT.nil | exact LeB.nil | apply LeT.cons | apply LeB.cons | exact Ol.refl | apply Lx.s | apply Lx.b | apply Lx.i | exact Lx.refl)) <;> (first | rfl | assumption | omega | (simp only [List.length_map, BS_len]; done) | skip))) fun m2 q2 ⟨hn2, hc2, hr2⟩ ih2 => ?_
      have hgs : ([] :: pivots).getD (q2 + 1) default = pivots.getD q2 default := rfl
      repeat' (first
    | apply AO.nil
    | (apply AO.kIx; first | refine AO.sIxN (h := ?_) | refine AO.sIx (h := ?_) | refine AO.sP (h := ?_) | refine AO.sPi (h := ?_))
    | (apply AO.kBox; refine AO.sBox (h := ?_))
    | (apply AO.kAdd; refine AO.sAdd (h := ?_))
    | (apply AO.kSub; refine AO.sSub (h := ?_))
    | (apply AO.kP; first | refine AO.sP (h := ?_) | refine AO.sPi (h := ?_) | refine AO.sLoadB (h := ?_))
    | apply AW.seq
    | (apply AW.kR; refine AW.sR (h := ?_))
    | apply AW.skip
    | apply AW.block
    | apply AW.out
    | (apply AW.kE; refine AW.sE (h := ?_))
    | apply AW.label
    | (apply AW.kRd; refine AW.sRd (h := ?_))
    | ((first | (apply AO.kG; first | refine AO.sgt (h1 := fun h => ?_) (h2 := fun h => ?_) | refine AO.sgf (h1 := fun h => ?_) (h2 := fun h => ?_) | refine AO.sgs (h := ?_)) | (apply AW.kC; refine AW.sC (h1 := fun h => ?_) (h2 := fun h => ?_)) | (apply AR.kAny; apply AR.kG; first | refine AR.sgt (h1 := fun h => ?_) (h2 := fun h => ?_) | refine AR.sgf (h1 := fun h => ?_) (h2 := fun h => ?_) | refine AR.sgs (h := ?_))) <;> (try (first | exact Bool.noConfusion h | exact absurd h (by decide) | (simp at h; done) | (rw [h]; try simp only [nrm] at h; try rw [h]; try (exfalso; omega)) | skip)))
    | (apply AR.kAny; first | (apply AR.kIx; first | refine AR.sIxN (h := ?_) | refine AR.sIx (h := ?_) | refine AR.sP (h := ?_) | refine AR.sPi (h := ?_)) | (apply AR.kBox; refine AR.sBox (h := ?_)) | (apply AR.kAdd; refine AR.sAdd (h := ?_)) | (apply AR.kSub; refine AR.sSub (h := ?_)) | (apply AR.kP; first | refine AR.sP (h := ?_) | refine AR.sPi (h := ?_)))
    | (apply AR.kNil; refine AR.sNil (h := ?_)))
      all_goals (try (have hlt : q2 < pivots.length := by omega))
      · refine AW.ret (hD rfl (Lx.i ?_))
        have h : (blt (pivots.getD q2 default) (pivots.getD ((q2 : Int) - 1).toNat default) || pivots.getD q2 default == pivots.getD ((q2 : Int) - 1).toNat default) = true := by assumption
        simp only [blt, le_iff] at h
        have hr : rise ([] :: pivots) = false := by
          rw [hr2, rise_next (by simp only [List.length_cons]; omega), hgs, cons_getD _ _ (by omega), show q2 - 1 = ((q2 : Int) - 1).toNat by omega]
          simp_all
        rw [tI (by omega), h0, hr]; rfl
      · have h : (blt (pivots.getD q2 default) (pivots.getD ((q2 : Int) - 1).toNat default) || pivots.getD q2 default == pivots.getD ((q2 : Int) - 1).toNat default) = false := by assumption
        simp only [blt, le_iff] at h
        have h16 : (pivots.getD q2 default).length ≤ 16 := by omega
        refine ih2 (q2 + 1) _ ⟨by omega, all_step hlt hc2 (decide_eq_true h16), ?_⟩ (by omega) (by (constructor <;> (repeat' (first | exact LeT.nil | exact LeB.nil | apply LeT.cons | apply LeB.cons | exact Ol.refl | apply Lx.s | apply Lx.b | apply Lx.i | exact Lx.refl)) <;> (first | rfl | assumption | omega | (simp only [List.length_map, BS_len]; done) | skip)))
        rw [hr2, rise_next (by simp only [List.length_cons]; omega), hgs, cons_getD _ _ (by omega), show q2 - 1 = ((q2 : Int) - 1).toNat by omega]
        simp_all
      · have hz : q2 = 0 := by omega
        subst hz
        have hne : ¬ pivots.getD 0 default = [] := by assumption
        have h16 : (pivots.getD 0 default).length ≤ 16 := by omega
        refine ih2 1 _ ⟨by omega, all_step hlt hc2 (decide_eq_true h16), ?_⟩ (by omega) (by (constructor <;> (repeat' (first | exact LeT.nil | exact LeB.nil | apply LeT.cons | apply LeB.cons | exact Ol.refl | apply Lx.s | apply Lx.b | apply Lx.i | exact Lx.refl)) <;> (first | rfl | assumption | omega | (simp only [List.length_map, BS_len]; done) | skip)))
        rw [hr2, rise_next (by simp only [List.length_cons]; omega), hgs]
        have : lt (([] :: pivots).getD 0 default) (pivots.getD 0 default) = true := by
          show lt [] _ = true
          rw [lt_nil_iff]; simp only [Bool.not_eq_true', beq_eq_false_iff_ne]; exact hne
        rw [this, Bool.true_and]
      · refine AW.ret (hD rfl (Lx.i ?_))
        have h : ¬ (pivots.getD q2 default).length ≤ 16 := by omega
        rw [tI (by omega), h0, all_fail (l := pivots) hlt (decide_eq_false h), Bool.and_false]; rfl
      · refine AW.ret (hD rfl (Lx.i ?_))
        have h : pivots.getD q2 default = [] := by assumption
        have hr : rise ([] :: pivots) = false := by
          rw [hr2, rise_next (by simp only [List.length_cons]; omega), hgs, h, lt_nil]; rfl
        rw [tI (by omega), h0, hr]; rfl
      · have hr : rise ([] :: pivots) = true := by rw [hr2, rise_end (by simp only [List.length_cons]; omega)]
        rw [hr, all_done (by omega) hc2] at h0
        simp only [Bool.true_and, Bool.and_true] at h0
        refine AW.loopI (fun q : Nat => q ≤ buf.length ∧ (buf.take q).all msMay = true) (fun q => ⟨[(1, .ptr 1 0), (170, .i .i64 buf.length), (171, .i .i64 q)], [(1, .bx (Nd.av ⟨false, [], pivots, kids, buf⟩))]⟩) (fun q => buf.length - q) 0 (by simp) (by (constructor <;> (repeat' (first | exact LeT.nil | exact LeB.nil | apply LeT.cons | apply LeB.cons | exact Ol.refl | apply Lx.s | apply Lx.b | apply Lx.i | exact Lx.refl)) <;> (first | rfl | assumption | omega | (simp only [List.length_map, BS_len]; done) | skip))) fun m3 q3 ⟨hn3, hc3⟩ ih3 => ?_
        repeat' (first
    | apply AO.nil
    | (apply AO.kCall 64; refine AO.sCall (hg := (gMsMay' _)) (h := ?_))
    | (apply AO.kIx; first | refine AO.sIxN (h := ?_) | refine AO.sIx (h := ?_) | refine AO.sP (h := ?_) | refine AO.sPi (h := ?_))
    | (apply AO.kBox; refine AO.sBox (h := ?_))
    | (apply AO.kAdd; refine AO.sAdd (h := ?_))
    | (apply AO.kSub; refine AO.sSub (h := ?_))
    | (apply AO.kP; first | refine AO.sP (h := ?_) | refine AO.sPi (h := ?_) | refine AO.sLoadB (h := ?_))
    | apply AW.seq
    | (apply AW.kR; refine AW.sR (h := ?_))
    | apply AW.skip
    | apply AW.block
    | apply AW.out
    | (apply AW.kE; refine AW.sE (h := ?_))
    | apply AW.label
    | (apply AW.kRd; refine AW.sRd (h := ?_))
    | ((first | (apply AO.kG; first | refine AO.sgt (h1 := fun h => ?_) (h2 := fun h => ?_) | refine AO.sgf (h1 := fun h => ?_) (h2 := fun h => ?_) | refine AO.sgs (h := ?_)) | (apply AW.kC; refine AW.sC (h1 := fun h => ?_) (h2 := fun h => ?_)) | (apply AR.kAny; apply AR.kG; first | refine AR.sgt (h1 := fun h => ?_) (h2 := fun h => ?_) | refine AR.sgf (h1 := fun h => ?_) (h2 := fun h => ?_) | refine AR.sgs (h := ?_))) <;> (try (first | exact Bool.noConfusion h | exact absurd h (by decide) | (simp at h; done) | (rw [h]; try simp only [nrm] at h; try rw [h]; try (exfalso; omega)) | skip)))
    | (apply AR.kAny; first | (apply AR.kCall 64; refine AR.sCall (hg := (gMsMay' _)) (h := ?_)) | (apply AR.kIx; first | refine AR.sIxN (h := ?_) | refine AR.sIx (h := ?_) | refine AR.sP (h := ?_) | refine AR.sPi (h := ?_)) | (apply AR.kBox; refine AR.sBox (h := ?_)) | (apply AR.kAdd; refine AR.sAdd (h := ?_)) | (apply AR.kSub; refine AR.sSub (h := ?_)) | (apply AR.kP; first | refine AR.sP (h := ?_) | refine AR.sPi (h := ?_)))
    | (apply AR.kNil; refine AR.sNil (h := ?_)))
        · refine AW.ret (hD rfl (Lx.i ?_))
          rw [tI (by omega), h0, all_fail (by omega : q3 < buf.length) (by assumption)]; rfl
        · exact ih3 (q3 + 1) _ ⟨by omega, all_step (by omega) hc3 (by assumption)⟩ (by omega) (by (constructor <;> (repeat' (first | exact LeT.nil | exact LeB.nil | apply LeT.cons | apply LeB.cons | exact Ol.refl | apply Lx.s | apply Lx.b | apply Lx.i | exact Lx.refl)) <;> (first | rfl | assumption | omega | (simp only [List.length_map, BS_len]; done) | skip)))
        · refine AW.ret (hD rfl (Lx.i ?_))
          rw [tI (by omega), h0, all_done (by omega) hc3]; rfl
  · refine AW.ret (hD rfl (Lx.i ?_))
    subst leaf
    obtain rfl := z' kids (by omega)
    rw [tI (by omega), if_neg (by simp [innerOk])]; rfl
  · refine AW.ret (hD rfl (Lx.i ?_))
    subst leaf
    rw [tI (by omega), if_neg (by simp [innerOk, z pairs (by omega)])]; rfl
  · refine AW.ret (hD rfl (Lx.i ?_)); rw [t13 (by omega)]; rfl
  · refine AW.ret (hD rfl (Lx.i ?_)); rw [t13 (by omega)]; rfl
end Go.Proofs.Ytocppeifkjdeiaa.Mv

/- Nodes: the same ones, and those that are not gone through. Under no condition. -/
namespace Go.Proofs.Ytocppeifkjdeiaa.Mv
open Go Go.Proofs
set_option linter.unusedSimpArgs false
set_option linter.unusedVariables false
set_option maxRecDepth 10000
set_option maxHeartbeats 4000000
attribute [local irreducible] AW AO AR

theorem take_step {α : Type} [Inhabited α] {a b : List α} {q : Nat} (ha : q < a.length) (hb : q < b.length) (h : a.take q = b.take q) (he : a.getD q default = b.getD q default) : a.take (q + 1) = b.take (q + 1) := by
  rw [takeD ha, takeD hb, h, he]
theorem take_all {α : Type} {a b : List α} {q : Nat} (ha : a.length ≤ q) (hb : b.length ≤ q) (h : a.take q = b.take q) : a = b := by
  rwa [List.take_of_length_le ha, List.take_of_length_le hb] at h
theorem ne_at {α : Type} [Inhabited α] {a b : List α} {q : Nat} (h : a.getD q default ≠ b.getD q default) : a ≠ b := fun e => h (by rw [e])
theorem pr_eq (a b : Pr) : (a.k == b.k && (a.v == b.v && true)) = decide (a = b) := by
  cases a; cases b
  rw [Bool.eq_iff_iff]; simp
theorem gSameP (a b : List Pr) (hl : a.length ≤ 1000000) (hl2 : b.length ≤ 1000000) : Good Try.prog 51 [.sh 2 (a.map Pr.av), .sh 2 (b.map Pr.av)] [] (.b (decide (a = b))) [] := by
  have la : (a.map Pr.av).length = a.length := by simp
  have lb : (b.map Pr.av).length = b.length := by simp
  refine Good.w tabOk mixed Try.func51 (N := 26) (by kernel_rfl) rfl (by (repeat (first | exact LE.nil | apply LE.cons)); done) (by (repeat (first | exact LE.nil | apply LE.cons)); done) fun D hD F => ?_
  repeat' (first
    | apply AO.nil
    | (apply AO.kIx; first | refine AO.sIxN (h := ?_) | refine AO.sIx (h := ?_) | refine AO.sP (h := ?_) | refine AO.sPi (h := ?_))
    | (apply AO.kAdd; refine AO.sAdd (h := ?_))
    | (apply AO.kP; first | refine AO.sP (h := ?_) | refine AO.sPi (h := ?_) | refine AO.sLoadB (h := ?_))
    | apply AW.seq
    | (apply AW.kR; refine AW.sR (h := ?_))
    | apply AW.skip
    | apply AW.block
    | apply AW.out
    | (apply AW.kE; refine AW.sE (h := ?_))
    | apply AW.label
    | (apply AW.kRd; refine AW.sRd (h := ?_))
    | ((first | (apply AW.kC; refine AW.sC (h1 := fun h => ?_) (h2 := fun h => ?_))) <;> (try (first | exact Bool.noConfusion h | exact absurd h (by decide) | (simp at h; done) | (rw [h]; try simp only [nrm] at h; try rw [h]; try (exfalso; omega)) | skip)))
    | (apply AR.kAny; first | (apply AR.kIx; first | refine AR.sIxN (h := ?_) | refine AR.sIx (h := ?_) | refine AR.sP (h := ?_) | refine AR.sPi (h := ?_)) | (apply AR.kAdd; refine AR.sAdd (h := ?_)) | (apply AR.kP; first | refine AR.sP (h := ?_) | refine AR.sPi (h := ?_)))
    | (apply AR.kNil; refine AR.sNil (h := ?_)))
  · (refine AW.ret (hD rfl ?_); (repeat' (first | apply Lx.s | apply Lx.b | apply Lx.i | apply LxL.cons | exact LxL.nil | apply Lx.tup | apply Lx.agg | apply Lx.refl)) <;> (try with_reducible rfl))
    have h : ((((a.map Pr.av).length : Nat) : Int) != (((b.map Pr.av).length : Nat) : Int)) = true := by assumption
    rw [bne_iff_ne] at h
    exact (decide_eq_false fun e => h (by rw [e])).symm
  · have h : ((((a.map Pr.av).length : Nat) : Int) != (((b.map Pr.av).length : Nat) : Int)) = false := by assumption
    rw [bne_eq_false_iff_eq] at h
    refine AW.loopI (fun q : Nat => q ≤ a.length ∧ a.take q = b.take q) (fun q => ⟨[(0, .sh 2 (a.map Pr.av)), (1, .sh 2 (b.map Pr.av)), (12, .i .i64 a.length), (13, .i .i64 q)], []⟩) (fun q => a.length - q) 0 (by simp) (by (constructor <;> (repeat' (first | exact LeT.nil | exact LeB.nil | apply LeT.cons | apply LeB.cons | exact Ol.refl | apply Lx.s | apply Lx.b | apply Lx.i | exact Lx.refl)) <;> (first | rfl | assumption | omega | (simp only [List.length_map, BS_len]; done) | skip))) fun m q ⟨hn, hc⟩ ih => ?_
    repeat' (first
    | apply AO.nil
    | (apply AO.kIx; first | refine AO.sIxN (h := ?_) | refine AO.sIx (h := ?_) | refine AO.sP (h := ?_) | refine AO.sPi (h := ?_))
    | (apply AO.kAdd; refine AO.sAdd (h := ?_))
    | (apply AO.kP; first | refine AO.sP (h := ?_) | refine AO.sPi (h := ?_) | refine AO.sLoadB (h := ?_))
    | apply AW.seq
    | (apply AW.kR; refine AW.sR (h := ?_))
    | apply AW.skip
    | apply AW.block
    | apply AW.out
    | (apply AW.kE; refine AW.sE (h := ?_))
    | apply AW.label
    | (apply AW.kRd; refine AW.sRd (h := ?_))
    | ((first | (apply AW.kC; refine AW.sC (h1 := fun h => ?_) (h2 := fun h => ?_))) <;> (try (first | exact Bool.noConfusion h | exact absurd h (by decide) | (simp at h; done) | (rw [h]; try simp only [nrm] at h; try rw [h]; try (exfalso; omega)) | skip)))
    | (apply AR.kAny; first | (apply AR.kIx; first | refine AR.sIxN (h := ?_) | refine AR.sIx (h := ?_) | refine AR.sP (h := ?_) | refine AR.sPi (h := ?_)) | (apply AR.kAdd; refine AR.sAdd (h := ?_)) | (apply AR.kP; first | refine AR.sP (h := ?_) | refine AR.sPi (h := ?_)))
    | (apply AR.kNil; refine AR.sNil (h := ?_)))
    · (refine AW.ret (hD rfl ?_); (repeat' (first | apply Lx.s | apply Lx.b | apply Lx.i | apply LxL.cons | exact LxL.nil | apply Lx.tup | apply Lx.agg | apply Lx.refl)) <;> (try with_reducible rfl))
      exact (decide_eq_false (ne_at fun e => by rw [pr_eq, decide_eq_true e] at h; cases h)).symm
    · have e : a.getD q default = b.getD q default := by rw [pr_eq] at h; exact of_decide_eq_true h
      exact ih (q + 1) _ ⟨by omega, take_step (by omega) (by omega) hc e⟩ (by omega) (by (constructor <;> (repeat' (first | exact LeT.nil | exact LeB.nil | apply LeT.cons | apply LeB.cons | exact Ol.refl | apply Lx.s | apply Lx.b | apply Lx.i | exact Lx.refl)) <;> (first | rfl | assumption | omega | (simp only [List.length_map, BS_len]; done) | skip)))
    · (refine AW.ret (hD rfl ?_); (repeat' (first | apply Lx.s | apply Lx.b | apply Lx.i | apply LxL.cons | exact LxL.nil | apply Lx.tup | apply Lx.agg | apply Lx.refl)) <;> (try with_reducible rfl))
      exact (decide_eq_true (take_all (by omega) (by omega) hc)).symm
theorem gGreatP (l : List Pr) (hl : l.length ≤ 9223372036854775807) : Good Try.prog 66 [.sh 2 (l.map Pr.av)] [] (.b (greatP l)) [] := by
  have ll : (l.map Pr.av).length = l.length := by simp
  refine Good.w tabOk mixed Try.func66 (N := 29) (by kernel_rfl) rfl (by (repeat (first | exact LE.nil | apply LE.cons)); done) (by (repeat (first | exact LE.nil | apply LE.cons)); done) fun D hD F => ?_
  repeat' (first
    | apply AO.nil
    | (apply AO.kIx; first | refine AO.sIxN (h := ?_) | refine AO.sIx (h := ?_) | refine AO.sP (h := ?_) | refine AO.sPi (h := ?_))
    | (apply AO.kAdd; refine AO.sAdd (h := ?_))
    | (apply AO.kP; first | refine AO.sP (h := ?_) | refine AO.sPi (h := ?_) | refine AO.sLoadB (h := ?_))
    | apply AW.seq
    | (apply AW.kR; refine AW.sR (h := ?_))
    | apply AW.skip
    | apply AW.block
    | apply AW.out
    | (apply AW.kE; refine AW.sE (h := ?_))
    | apply AW.label
    | ((first | (apply AO.kG; first | refine AO.sgt (h1 := fun h => ?_) (h2 := fun h => ?_) | refine AO.sgf (h1 := fun h => ?_) (h2 := fun h => ?_) | refine AO.sgs (h := ?_)) | (apply AW.kC; refine AW.sC (h1 := fun h => ?_) (h2 := fun h => ?_))) <;> (try (first | exact Bool.noConfusion h | exact absurd h (by decide) | (simp at h; done) | (rw [h]; try simp only [nrm] at h; try rw [h]; try (exfalso; omega)) | skip))))
  · (refine AW.ret (hD rfl ?_); (repeat' (first | apply Lx.s | apply Lx.b | apply Lx.i | apply LxL.cons | exact LxL.nil | apply Lx.tup | apply Lx.agg | apply Lx.refl)) <;> (try with_reducible rfl))
    simp [greatP, show 60 < l.length by omega]
  · have h0 : greatP l = !l.all prG := by simp [greatP, show ¬ 60 < l.length by omega]
    refine AW.loopI (fun q : Nat => q ≤ l.length ∧ (l.take q).all prG = true) (fun q => ⟨[(0, .sh 2 (l.map Pr.av)), (8, .i .i64 l.length), (9, .i .i64 q)], []⟩) (fun q => l.length - q) 0 (by simp) (by (constructor <;> (repeat' (first | exact LeT.nil | exact LeB.nil | apply LeT.cons | apply LeB.cons | exact Ol.refl | apply Lx.s | apply Lx.b | apply Lx.i | exact Lx.refl)) <;> (first | rfl | assumption | omega | (simp only [List.length_map, BS_len]; done) | skip))) fun m q ⟨hn, hc⟩ ih => ?_
    repeat' (first
    | apply AO.nil
    | (apply AO.kIx; first | refine AO.sIxN (h := ?_) | refine AO.sIx (h := ?_) | refine AO.sP (h := ?_) | refine AO.sPi (h := ?_))
    | (apply AO.kAdd; refine AO.sAdd (h := ?_))
    | (apply AO.kP; first | refine AO.sP (h := ?_) | refine AO.sPi (h := ?_) | refine AO.sLoadB (h := ?_))
    | apply AW.seq
    | (apply AW.kR; refine AW.sR (h := ?_))
    | apply AW.skip
    | apply AW.block
    | apply AW.out
    | (apply AW.kE; refine AW.sE (h := ?_))
    | apply AW.label
    | ((first | (apply AO.kG; first | refine AO.sgt (h1 := fun h => ?_) (h2 := fun h => ?_) | refine AO.sgf (h1 := fun h => ?_) (h2 := fun h => ?_) | refine AO.sgs (h := ?_)) | (apply AW.kC; refine AW.sC (h1 := fun h => ?_) (h2 := fun h => ?_))) <;> (try (first | exact Bool.noConfusion h | exact absurd h (by decide) | (simp at h; done) | (rw [h]; try simp only [nrm] at h; try rw [h]; try (exfalso; omega)) | skip))))
    · (refine AW.ret (hD rfl ?_); (repeat' (first | apply Lx.s | apply Lx.b | apply Lx.i | apply LxL.cons | exact LxL.nil | apply Lx.tup | apply Lx.agg | apply Lx.refl)) <;> (try with_reducible rfl))
      rw [h0, all_fail (by omega : q < l.length) (by simp only [prG, Bool.and_eq_false_iff, Bool.not_eq_false', decide_eq_true_eq]; omega)]; rfl
    · exact ih (q + 1) _ ⟨by omega, all_step (by omega) hc (by simp only [prG, Bool.and_eq_true, Bool.not_eq_true', decide_eq_false_iff_not]; omega)⟩ (by omega) (by (constructor <;> (repeat' (first | exact LeT.nil | exact LeB.nil | apply LeT.cons | apply LeB.cons | exact Ol.refl | apply Lx.s | apply Lx.b | apply Lx.i | exact Lx.refl)) <;> (first | rfl | assumption | omega | (simp only [List.length_map, BS_len]; done) | skip)))
    · (refine AW.ret (hD rfl ?_); (repeat' (first | apply Lx.s | apply Lx.b | apply Lx.i | apply LxL.cons | exact LxL.nil | apply Lx.tup | apply Lx.agg | apply Lx.refl)) <;> (try with_reducible rfl))
      rw [h0, all_fail (by omega : q < l.length) (by simp only [prG, Bool.and_eq_false_iff, Bool.not_eq_false', decide_eq_true_eq]; omega)]; rfl
    · (refine AW.ret (hD rfl ?_); (repeat' (first | apply Lx.s | apply Lx.b | apply Lx.i | apply LxL.cons | exact LxL.nil | apply Lx.tup | apply Lx.agg | apply Lx.refl)) <;> (try with_reducible rfl))
      rw [h0, all_done (by omega) hc]; rfl
theorem gGreatM (l : List Ms) (hl : l.length ≤ 9223372036854775807) : Good Try.prog 67 [.sh 6 (l.map Ms.av)] [] (.b (greatM l)) [] := by
  have ll : (l.map Ms.av).length = l.length := by simp
  refine Good.w tabOk mixed Try.func67 (N := 38) (by kernel_rfl) rfl (by (repeat (first | exact LE.nil | apply LE.cons)); done) (by (repeat (first | exact LE.nil | apply LE.cons)); done) fun D hD F => ?_
  repeat' (first
    | apply AO.nil
    | (apply AO.kIx; first | refine AO.sIxN (h := ?_) | refine AO.sIx (h := ?_) | refine AO.sP (h := ?_) | refine AO.sPi (h := ?_))
    | (apply AO.kAdd; refine AO.sAdd (h := ?_))
    | (apply AO.kP; first | refine AO.sP (h := ?_) | refine AO.sPi (h := ?_) | refine AO.sLoadB (h := ?_))
    | apply AW.seq
    | (apply AW.kR; refine AW.sR (h := ?_))
    | apply AW.skip
    | apply AW.block
    | apply AW.out
    | (apply AW.kE; refine AW.sE (h := ?_))
    | apply AW.label
    | ((first | (apply AO.kG; first | refine AO.sgt (h1 := fun h => ?_) (h2 := fun h => ?_) | refine AO.sgf (h1 := fun h => ?_) (h2 := fun h => ?_) | refine AO.sgs (h := ?_)) | (apply AW.kC; refine AW.sC (h1 := fun h => ?_) (h2 := fun h => ?_))) <;> (try (first | exact Bool.noConfusion h | exact absurd h (by decide) | (simp at h; done) | (rw [h]; try simp only [nrm] at h; try rw [h]; try (exfalso; omega)) | skip))))
  · (refine AW.ret (hD rfl ?_); (repeat' (first | apply Lx.s | apply Lx.b | apply Lx.i | apply LxL.cons | exact LxL.nil | apply Lx.tup | apply Lx.agg | apply Lx.refl)) <;> (try with_reducible rfl))
    simp [greatM, show 60 < l.length by omega]
  · have h0 : greatM l = !l.all msG := by simp [greatM, show ¬ 60 < l.length by omega]
    refine AW.loopI (fun q : Nat => q ≤ l.length ∧ (l.take q).all msG = true) (fun q => ⟨[(0, .sh 6 (l.map Ms.av)), (8, .i .i64 l.length), (9, .i .i64 q)], []⟩) (fun q => l.length - q) 0 (by simp) (by (constructor <;> (repeat' (first | exact LeT.nil | exact LeB.nil | apply LeT.cons | apply LeB.cons | exact Ol.refl | apply Lx.s | apply Lx.b | apply Lx.i | exact Lx.refl)) <;> (first | rfl | assumption | omega | (simp only [List.length_map, BS_len]; done) | skip))) fun m q ⟨hn, hc⟩ ih => ?_
    repeat' (first
    | apply AO.nil
    | (apply AO.kIx; first | refine AO.sIxN (h := ?_) | refine AO.sIx (h := ?_) | refine AO.sP (h := ?_) | refine AO.sPi (h := ?_))
    | (apply AO.kAdd; refine AO.sAdd (h := ?_))
    | (apply AO.kP; first | refine AO.sP (h := ?_) | refine AO.sPi (h := ?_) | refine AO.sLoadB (h := ?_))
    | apply AW.seq
    | (apply AW.kR; refine AW.sR (h := ?_))
    | apply AW.skip
    | apply AW.block
    | apply AW.out
    | (apply AW.kE; refine AW.sE (h := ?_))
    | apply AW.label
    | ((first | (apply AO.kG; first | refine AO.sgt (h1 := fun h => ?_) (h2 := fun h => ?_) | refine AO.sgf (h1 := fun h => ?_) (h2 := fun h => ?_) | refine AO.sgs (h := ?_)) | (apply AW.kC; refine AW.sC (h1 := fun h => ?_) (h2 := fun h => ?_))) <;> (try (first | exact Bool.noConfusion h | exact absurd h (by decide) | (simp at h; done) | (rw [h]; try simp only [nrm] at h; try rw [h]; try (exfalso; omega)) | skip))))
    · (refine AW.ret (hD rfl ?_); (repeat' (first | apply Lx.s | apply Lx.b | apply Lx.i | apply LxL.cons | exact LxL.nil | apply Lx.tup | apply Lx.agg | apply Lx.refl)) <;> (try with_reducible rfl))
      rw [h0, all_fail (by omega : q < l.length) (by simp only [msG, Bool.and_eq_false_iff, Bool.not_eq_false', decide_eq_true_eq]; omega)]; rfl
    · exact ih (q + 1) _ ⟨by omega, all_step (by omega) hc (by simp only [msG, Bool.and_eq_true, Bool.not_eq_true', decide_eq_false_iff_not]; omega)⟩ (by omega) (by (constructor <;> (repeat' (first | exact LeT.nil | exact LeB.nil | apply LeT.cons | apply LeB.cons | exact Ol.refl | apply Lx.s | apply Lx.b | apply Lx.i | exact Lx.refl)) <;> (first | rfl | assumption | omega | (simp only [List.length_map, BS_len]; done) | skip)))
    · (refine AW.ret (hD rfl ?_); (repeat' (first | apply Lx.s | apply Lx.b | apply Lx.i | apply LxL.cons | exact LxL.nil | apply Lx.tup | apply Lx.agg | apply Lx.refl)) <;> (try with_reducible rfl))
      rw [h0, all_fail (by omega : q < l.length) (by simp only [msG, Bool.and_eq_false_iff, Bool.not_eq_false', decide_eq_true_eq]; omega)]; rfl
    · (refine AW.ret (hD rfl ?_); (repeat' (first | apply Lx.s | apply Lx.b | apply Lx.i | apply LxL.cons | exact LxL.nil | apply Lx.tup | apply Lx.agg | apply Lx.refl)) <;> (try with_reducible rfl))
      rw [h0, all_fail (by omega : q < l.length) (by simp only [msG, Bool.and_eq_false_iff, Bool.not_eq_false', decide_eq_true_eq]; omega)]; rfl
    · (refine AW.ret (hD rfl ?_); (repeat' (first | apply Lx.s | apply Lx.b | apply Lx.i | apply LxL.cons | exact LxL.nil | apply Lx.tup | apply Lx.agg | apply Lx.refl)) <;> (try with_reducible rfl))
      rw [h0, all_done (by omega) hc]; rfl
theorem gGreat (n : Nd) (hs : n.fits) : Good Try.prog 24 [.agg n.av] [] (.b (great n)) [] := by
  obtain ⟨leaf, pairs, pivots, kids, buf⟩ := n
  have hs1 : pairs.length ≤ 9223372036854775807 := hs.pairs
  have hs2 : pivots.length ≤ 9223372036854775807 := hs.pivots
  have hs3 : kids.length ≤ 9223372036854775807 := hs.kids
  have hs4 : buf.length ≤ 9223372036854775807 := hs.buf
  have l1 : (pairs.map Pr.av).length = pairs.length := by simp
  have l2 : (pivots.map sav).length = pivots.length := by simp
  have l3 : (kids.map Ed.av).length = kids.length := by simp
  have l4 : (buf.map Ms.av).length = buf.length := by simp
  clear hs
  refine Good.w tabOk mixed Try.func24 (N := 66) (by kernel_rfl) rfl (by (repeat (first | exact LE.nil | apply LE.cons)); done) (by (repeat (first | exact LE.nil | apply LE.cons)); done) fun D hD F => ?_
  repeat' (first
    | apply AO.nil
    | (apply AO.kCall 66; refine AO.sCall (hg := (gGreatP _ sd)) (h := ?_))
    | (apply AO.kCall 67; refine AO.sCall (hg := (gGreatM _ sd)) (h := ?_))
    | (apply AO.kIx; first | refine AO.sIxN (h := ?_) | refine AO.sIx (h := ?_) | refine AO.sP (h := ?_) | refine AO.sPi (h := ?_))
    | (apply AO.kBox; refine AO.sBox (h := ?_))
    | (apply AO.kAdd; refine AO.sAdd (h := ?_))
    | (apply AO.kP; first | refine AO.sP (h := ?_) | refine AO.sPi (h := ?_) | refine AO.sLoadB (h := ?_))
    | apply AW.seq
    | (apply AW.kR; refine AW.sR (h := ?_))
    | apply AW.skip
    | apply AW.block
    | apply AW.out
    | (apply AW.kE; refine AW.sE (h := ?_))
    | apply AW.label
    | ((first | (apply AO.kG; first | refine AO.sgt (h1 := fun h => ?_) (h2 := fun h => ?_) | refine AO.sgf (h1 := fun h => ?_) (h2 := fun h => ?_) | refine AO.sgs (h := ?_)) | (apply AW.kC; refine AW.sC (h1 := fun h => ?_) (h2 := fun h => ?_))) <;> (try (first | exact Bool.noConfusion h | exact absurd h (by decide) | (simp at h; done) | (rw [h]; try simp only [nrm] at h; try rw [h]; try (exfalso; omega)) | skip))))
  · (refine AW.ret (hD rfl ?_); (repeat' (first | apply Lx.s | apply Lx.b | apply Lx.i | apply LxL.cons | exact LxL.nil | apply Lx.tup | apply Lx.agg | apply Lx.refl)) <;> (try with_reducible rfl))
    rename_i h
    simp [great, h]
  · have hg1 : greatP pairs = false := by assumption
    have hg2 : greatM buf = false := by assumption
    have h0 : great ⟨leaf, pairs, pivots, kids, buf⟩ = (!pivots.all svG || !kids.all edG) := by
      simp [great, hg1, hg2, show ¬ 60 < pivots.length by omega, show ¬ 60 < kids.length by omega]
    refine AW.loopI (fun q : Nat => q ≤ pivots.length ∧ (pivots.take q).all svG = true) (fun q => ⟨[(1, .ptr 1 0), (27, .i .i64 pivots.length), (28, .i .i64 q)], [(1, .bx (Nd.av ⟨leaf, pairs, pivots, kids, buf⟩))]⟩) (fun q => pivots.length - q) 0 (by simp) (by (constructor <;> (repeat' (first | exact LeT.nil | exact LeB.nil | apply LeT.cons | apply LeB.cons | exact Ol.refl | apply Lx.s | apply Lx.b | apply Lx.i | exact Lx.refl)) <;> (first | rfl | assumption | omega | (simp only [List.length_map, BS_len]; done) | skip))) fun m q ⟨hn, hc⟩ ih => ?_
    repeat' (first
    | apply AO.nil
    | (apply AO.kIx; first | refine AO.sIxN (h := ?_) | refine AO.sIx (h := ?_) | refine AO.sP (h := ?_) | refine AO.sPi (h := ?_))
    | (apply AO.kBox; refine AO.sBox (h := ?_))
    | (apply AO.kAdd; refine AO.sAdd (h := ?_))
    | (apply AO.kP; first | refine AO.sP (h := ?_) | refine AO.sPi (h := ?_) | refine AO.sLoadB (h := ?_))
    | apply AW.seq
    | (apply AW.kR; refine AW.sR (h := ?_))
    | apply AW.skip
    | apply AW.block
    | apply AW.out
    | (apply AW.kE; refine AW.sE (h := ?_))
    | apply AW.label
    | ((first | (apply AO.kG; first | refine AO.sgt (h1 := fun h => ?_) (h2 := fun h => ?_) | refine AO.sgf (h1 := fun h => ?_) (h2 := fun h => ?_) | refine AO.sgs (h := ?_)) | (apply AW.kC; refine AW.sC (h1 := fun h => ?_) (h2 := fun h => ?_))) <;> (try (first | exact Bool.noConfusion h | exact absurd h (by decide) | (simp at h; done) | (rw [h]; try simp only [nrm] at h; try rw [h]; try (exfalso; omega)) | skip))))
    · (refine AW.ret (hD rfl ?_); (repeat' (first | apply Lx.s | apply Lx.b | apply Lx.i | apply LxL.cons | exact LxL.nil | apply Lx.tup | apply Lx.agg | apply Lx.refl)) <;> (try with_reducible rfl))
      rw [h0, all_fail (by omega : q < pivots.length) (by simp only [svG, Bool.not_eq_false', decide_eq_true_eq]; omega)]; rfl
    · exact ih (q + 1) _ ⟨by omega, all_step (by omega) hc (by simp only [svG, Bool.not_eq_true', decide_eq_false_iff_not]; omega)⟩ (by omega) (by (constructor <;> (repeat' (first | exact LeT.nil | exact LeB.nil | apply LeT.cons | apply LeB.cons | exact Ol.refl | apply Lx.s | apply Lx.b | apply Lx.i | exact Lx.refl)) <;> (first | rfl | assumption | omega | (simp only [List.length_map, BS_len]; done) | skip)))
    · rw [all_done (by omega) hc] at h0
      refine AW.loopI (fun q : Nat => q ≤ kids.length ∧ (kids.take q).all edG = true) (fun q => ⟨[(1, .ptr 1 0), (41, .i .i64 kids.length), (42, .i .i64 q)], [(1, .bx (Nd.av ⟨leaf, pairs, pivots, kids, buf⟩))]⟩) (fun q => kids.length - q) 0 (by simp) (by (constructor <;> (repeat' (first | exact LeT.nil | exact LeB.nil | apply LeT.cons | apply LeB.cons | exact Ol.refl | apply Lx.s | apply Lx.b | apply Lx.i | exact Lx.refl)) <;> (first | rfl | assumption | omega | (simp only [List.length_map, BS_len]; done) | skip))) fun m2 q2 ⟨hn2, hc2⟩ ih2 => ?_
      repeat' (first
    | apply AO.nil
    | (apply AO.kIx; first | refine AO.sIxN (h := ?_) | refine AO.sIx (h := ?_) | refine AO.sP (h := ?_) | refine AO.sPi (h := ?_))
    | (apply AO.kBox; refine AO.sBox (h := ?_))
    | (apply AO.kAdd; refine AO.sAdd (h := ?_))
    | (apply AO.kP; first | refine AO.sP (h := ?_) | refine AO.sPi (h := ?_) | refine AO.sLoadB (h := ?_))
    | apply AW.seq
    | (apply AW.kR; refine AW.sR (h := ?_))
    | apply AW.skip
    | apply AW.block
    | apply AW.out
    | (apply AW.kE; refine AW.sE (h := ?_))
    | apply AW.label
    | ((first | (apply AO.kG; first | refine AO.sgt (h1 := fun h => ?_) (h2 := fun h => ?_) | refine AO.sgf (h1 := fun h => ?_) (h2 := fun h => ?_) | refine AO.sgs (h := ?_)) | (apply AW.kC; refine AW.sC (h1 := fun h => ?_) (h2 := fun h => ?_))) <;> (try (first | exact Bool.noConfusion h | exact absurd h (by decide) | (simp at h; done) | (rw [h]; try simp only [nrm] at h; try rw [h]; try (exfalso; omega)) | skip))))
      · (refine AW.ret (hD rfl ?_); (repeat' (first | apply Lx.s | apply Lx.b | apply Lx.i | apply LxL.cons | exact LxL.nil | apply Lx.tup | apply Lx.agg | apply Lx.refl)) <;> (try with_reducible rfl))
        rw [h0, all_fail (by omega : q2 < kids.length) (by simp only [edG, Bool.and_eq_false_iff, Bool.not_eq_false', decide_eq_true_eq]; omega)]; rfl
      · exact ih2 (q2 + 1) _ ⟨by omega, all_step (by omega) hc2 (by simp only [edG, Bool.and_eq_true, Bool.not_eq_true', decide_eq_false_iff_not]; omega)⟩ (by omega) (by (constructor <;> (repeat' (first | exact LeT.nil | exact LeB.nil | apply LeT.cons | apply LeB.cons | exact Ol.refl | apply Lx.s | apply Lx.b | apply Lx.i | exact Lx.refl)) <;> (first | rfl | assumption | omega | (simp only [List.length_map, BS_len]; done) | skip)))
      · (refine AW.ret (hD rfl ?_); (repeat' (first | apply Lx.s | apply Lx.b | apply Lx.i | apply LxL.cons | exact LxL.nil | apply Lx.tup | apply Lx.agg | apply Lx.refl)) <;> (try with_reducible rfl))
        rw [h0, all_fail (by omega : q2 < kids.length) (by simp only [edG, Bool.and_eq_false_iff, Bool.not_eq_false', decide_eq_true_eq]; omega)]; rfl
      · (refine AW.ret (hD rfl ?_); (repeat' (first | apply Lx.s | apply Lx.b | apply Lx.i | apply LxL.cons | exact LxL.nil | apply Lx.tup | apply Lx.agg | apply Lx.refl)) <;> (try with_reducible rfl))
        rw [h0, all_done (by omega) hc2]; rfl
  · (refine AW.ret (hD rfl ?_); (repeat' (first | apply Lx.s | apply Lx.b | apply Lx.i | apply LxL.cons | exact LxL.nil | apply Lx.tup | apply Lx.agg | apply Lx.refl)) <;> (try with_reducible rfl))
    have hg1 : greatP pairs = true := by assumption
    simp [great, hg1]
  · (refine AW.ret (hD rfl ?_); (repeat' (first | apply Lx.s | apply Lx.b | apply Lx.i | apply LxL.cons | exact LxL.nil | apply Lx.tup | apply Lx.agg | apply Lx.refl)) <;> (try with_reducible rfl))
    simp [great, show 60 < kids.length by omega]
  · (refine AW.ret (hD rfl ?_); (repeat' (first | apply Lx.s | apply Lx.b | apply Lx.i | apply LxL.cons | exact LxL.nil | apply Lx.tup | apply Lx.agg | apply Lx.refl)) <;> (try with_reducible rfl))
    simp [great, show 60 < pivots.length by omega]
end Go.Proofs.Ytocppeifkjdeiaa.Mv


/- Nodes: ranges, the kid of a key. Under no condition. -/
namespace Go.Proofs.Ytocppeifkjdeiaa.Mv
open Go Go.Proofs
set_option linter.unusedSimpArgs false
set_option linter.unusedVariables false
set_option maxRecDepth 10000
set_option maxHeartbeats 4000000
attribute [local irreducible] AW AO AR

/-- A kid's range. -/
def rgN (n : Nd) (i : Int) : L × L × Bool :=
  if i < 0 ∨ (n.kids.length : Int) ≤ i then ([], [], true)
  else ((if 0 < i ∧ i ≤ n.pivots.length then n.pivots.getD (i - 1).toNat default else []), (if i < n.pivots.length then n.pivots.getD i.toNat default else []), decide (i < n.pivots.length))
theorem gRange (n : Nd) (i : Int) (hs : n.small) (hi : -9223372036854775808 ≤ i ∧ i ≤ 9223372036854775807) : Good Try.prog 101 [.agg n.av, .i .i64 i] [] (.agg [.s (rgN n i).1, .s (rgN n i).2.1, .b (rgN n i).2.2]) [] := by
  have hs2 := hs.pivots; have hs3 := hs.kids
  have l2 : (n.pivots.map sav).length = n.pivots.length := by simp
  have l3 : (n.kids.map Ed.av).length = n.kids.length := by simp
  refine Good.w tabOk mixed Try.func101 (N := 45) (by kernel_rfl) rfl (by (repeat (first | exact LE.nil | apply LE.cons)); done) (by (repeat (first | exact LE.nil | apply LE.cons)); done) fun D hD F => ?_
  repeat' (first
    | apply AO.nil
    | (apply AO.kIx; first | refine AO.sIxN (h := ?_) | refine AO.sIx (h := ?_) | refine AO.sP (h := ?_) | refine AO.sPi (h := ?_))
    | (apply AO.kBox; refine AO.sBox (h := ?_))
    | (apply AO.kAlloc; refine AO.sAlloc (h := ?_))
    | (apply AO.kStore; first | refine AO.sStore (h := ?_) | refine AO.sStB (h := ?_))
    | (apply AO.kSub; refine AO.sSub (h := ?_))
    | (apply AO.kP; first | refine AO.sP (h := ?_) | refine AO.sPi (h := ?_) | refine AO.sLoadB (h := ?_))
    | apply AW.seq
    | (apply AW.kR; refine AW.sR (h := ?_))
    | apply AW.skip
    | apply AW.block
    | apply AW.out
    | (apply AW.kE; refine AW.sE (h := ?_))
    | apply AW.label
    | ((first | (apply AO.kG; first | refine AO.sgt (h1 := fun h => ?_) (h2 := fun h => ?_) | refine AO.sgf (h1 := fun h => ?_) (h2 := fun h => ?_) | refine AO.sgs (h := ?_)) | (apply AW.kC; refine AW.sC (h1 := fun h => ?_) (h2 := fun h => ?_))) <;> (try (first | exact Bool.noConfusion h | exact absurd h (by decide) | (simp at h; done) | (rw [h]; try simp only [nrm] at h; try rw [h]; try (exfalso; omega)) | skip))))
  all_goals (refine AW.ret (hD rfl ?_); (repeat' (first | apply Lx.s | apply Lx.b | apply Lx.i | apply LxL.cons | exact LxL.nil | apply Lx.tup | apply Lx.agg | apply Lx.refl)) <;> (try with_reducible rfl))
  all_goals (simp only [rgN]; repeat' split)
  all_goals (first | rfl | (exfalso; omega) | (symm; apply decide_eq_true; omega) | (symm; apply decide_eq_false; omega))
/-- Halving. -/
def bsr (f : Nat → Bool) : Nat → Nat → Nat → Nat
  | 0, i, _ => i
  | u + 1, i, j => if i < j then (if f ((i + j) / 2) = true then bsr f u i ((i + j) / 2) else bsr f u ((i + j) / 2 + 1) j) else i
theorem bsr_more (f : Nat → Bool) : ∀ (u v i j : Nat), j - i ≤ u → j - i ≤ v → bsr f u i j = bsr f v i j
  | 0, 0, _, _, _, _ => rfl
  | 0, v + 1, i, j, h, _ => by simp only [bsr]; rw [if_neg (by omega)]
  | u + 1, 0, i, j, _, h => by simp only [bsr]; rw [if_neg (by omega)]
  | u + 1, v + 1, i, j, h, h' => by
    simp only [bsr]
    split
    · split
      · exact bsr_more f u v _ _ (by omega) (by omega)
      · exact bsr_more f u v _ _ (by omega) (by omega)
    · rfl
def bs (f : Nat → Bool) (i j : Nat) : Nat := bsr f (j - i) i j
theorem bs_lo {f : Nat → Bool} {i j : Nat} (h : i < j) (hf : f ((i + j) / 2) = true) : bs f i j = bs f i ((i + j) / 2) := by
  obtain ⟨u, hu⟩ : ∃ u, j - i = u + 1 := ⟨j - i - 1, by omega⟩
  unfold bs
  rw [hu, bsr, if_pos h, if_pos hf]
  exact bsr_more f _ _ _ _ (by omega) (by omega)
theorem bs_hi {f : Nat → Bool} {i j : Nat} (h : i < j) (hf : f ((i + j) / 2) = false) : bs f i j = bs f ((i + j) / 2 + 1) j := by
  obtain ⟨u, hu⟩ : ∃ u, j - i = u + 1 := ⟨j - i - 1, by omega⟩
  unfold bs
  rw [hu, bsr, if_pos h, if_neg (by rw [hf]; simp)]
  exact bsr_more f _ _ _ _ (by omega) (by omega)
theorem bs_end {f : Nat → Bool} {i j : Nat} (h : ¬ i < j) : bs f i j = i := by
  have : j - i = 0 := by omega
  simp [bs, this, bsr]
theorem bs_ind {f : Nat → Bool} {P : Nat → Nat → Nat → Prop} (h1 : ∀ i j, ¬ i < j → P i j i) (h2 : ∀ i j r, i < j → f ((i + j) / 2) = true → P i ((i + j) / 2) r → P i j r) (h3 : ∀ i j r, i < j → f ((i + j) / 2) = false → P ((i + j) / 2 + 1) j r → P i j r) : ∀ n i j, j - i ≤ n → P i j (bs f i j) := by
  intro n
  induction n with
  | zero => intro i j h; rw [bs_end (by omega)]; exact h1 _ _ (by omega)
  | succ n ih =>
    intro i j h
    by_cases hij : i < j
    · cases hf : f ((i + j) / 2) with
      | true => rw [bs_lo hij hf]; exact h2 _ _ _ hij hf (ih _ _ (by omega))
      | false => rw [bs_hi hij hf]; exact h3 _ _ _ hij hf (ih _ _ (by omega))
    · rw [bs_end hij]; exact h1 _ _ hij
theorem half_wrap {i j : Nat} (h : i + j ≤ 4000000) : IntKind.wrap .i64 (IntKind.wrap .u64 ((i : Int) + (j : Int)) / (2 : Int) ^ Int.toNat 1) = (((i + j) / 2 : Nat) : Int) := by
  have e1 : IntKind.wrap .u64 ((i : Int) + (j : Int)) = (i : Int) + (j : Int) := by
    simp only [IntKind.wrap, IntKind.bits, IntKind.signed, Bool.false_and, Bool.false_eq_true, if_false]; omega
  rw [e1, show (2 : Int) ^ Int.toNat 1 = 2 from rfl, wrap64 (by omega)]
  omega
def kidF (n : Nd) (k : L) (i : Nat) : Bool := lt k (n.pivots.getD i default)
theorem gKid1 (n : Nd) (k : L) (x : Int) (h : Nat) (e : x = (h : Int)) (hh : h < n.pivots.length) : Good Try.prog 142 [.i .i64 x, .pel n.av, .pel [.s k]] [] (.b (kidF n k h)) [] := by
  subst e
  refine Good.w tabOk mixed Try.func142 (N := 12) (by kernel_rfl) rfl (by (repeat (first | exact LE.nil | apply LE.cons)); done) (by (repeat (first | exact LE.nil | apply LE.cons)); done) fun D hD F => ?_
  repeat' (first
    | apply AO.nil
    | (apply AO.kIx; first | refine AO.sIxN (h := ?_) | refine AO.sIx (h := ?_) | refine AO.sP (h := ?_) | refine AO.sPi (h := ?_))
    | (apply AO.kP; first | refine AO.sP (h := ?_) | refine AO.sPi (h := ?_) | refine AO.sLoadB (h := ?_))
    | apply AW.seq
    | (apply AW.kR; refine AW.sR (h := ?_))
    | apply AW.skip
    | apply AW.block
    | apply AW.out
    | (apply AW.kE; refine AW.sE (h := ?_))
    | apply AW.label
    | (apply AW.kRd; refine AW.sRd (h := ?_))
    | (apply AR.kAny; first | (apply AR.kIx; first | refine AR.sIxN (h := ?_) | refine AR.sIx (h := ?_) | refine AR.sP (h := ?_) | refine AR.sPi (h := ?_)) | (apply AR.kP; first | refine AR.sP (h := ?_) | refine AR.sPi (h := ?_)))
    | (apply AR.kNil; refine AR.sNil (h := ?_)))
  all_goals (refine AW.ret (hD rfl ?_); (repeat' (first | apply Lx.s | apply Lx.b | apply Lx.i | apply LxL.cons | exact LxL.nil | apply Lx.tup | apply Lx.agg | apply Lx.refl)) <;> (try with_reducible rfl))
  all_goals simp [kidF, blt, le_iff]
theorem gSearch (n : Nd) (k : L) (hs : n.small) : Good Try.prog 141 [.i .i64 n.pivots.length, .clo 142 [.pel n.av, .pel [.s k]]] [] (.i .i64 (bs (kidF n k) 0 n.pivots.length)) [] := by
  have hs2 := hs.pivots
  refine Good.w tabOk mixed Try.func141 (N := 26) (by kernel_rfl) rfl (by (repeat (first | exact LE.nil | apply LE.cons)); done) (by (repeat (first | exact LE.nil | apply LE.cons)); done) fun D hD F => ?_
  repeat' (first
    | apply AO.nil
    | (apply AO.kAdd; refine AO.sAdd (h := ?_))
    | (apply AO.kCv; first | refine AO.sBytes (h := ?_) | refine AO.sStr (h := ?_) | refine AO.sStrR (h := ?_))
    | (apply AO.kP; first | refine AO.sP (h := ?_) | refine AO.sPi (h := ?_))
    | apply AW.seq
    | (apply AW.kR; refine AW.sR (h := ?_))
    | apply AW.skip
    | apply AW.block
    | apply AW.out
    | (apply AW.kE; refine AW.sE (h := ?_))
    | apply AW.label
    | ((first | (apply AW.kC; refine AW.sC (h1 := fun h => ?_) (h2 := fun h => ?_))) <;> (try (first | exact Bool.noConfusion h | exact absurd h (by decide) | (simp at h; done) | (rw [h]; try simp only [nrm] at h; try rw [h]; try (exfalso; omega)) | skip))))
  refine AW.loopI (fun x : Nat × Nat => x.1 ≤ x.2 ∧ x.2 ≤ n.pivots.length ∧ bs (kidF n k) x.1 x.2 = bs (kidF n k) 0 n.pivots.length) (fun x => ⟨[(1, .clo 142 [.pel n.av, .pel [.s k]]), (5, .i .i64 x.1), (6, .i .i64 x.2)], []⟩) (fun x => x.2 - x.1) (0, n.pivots.length) ⟨by simp, by simp, rfl⟩ (by (constructor <;> (repeat' (first | exact LeT.nil | exact LeB.nil | apply LeT.cons | apply LeB.cons | exact Ol.refl | apply Lx.s | apply Lx.b | apply Lx.i | exact Lx.refl)) <;> (first | rfl | assumption | omega | (simp only [List.length_map, BS_len]; done) | skip))) fun m ⟨i, j⟩ ⟨hij, hj, hc⟩ ih => ?_
  simp only at hij hj hc
  have e := half_wrap (i := i) (j := j) (by omega)
  repeat' (first
    | apply AO.nil
    | (apply AO.kCallV; refine AO.sCall (hg := (gKid1 _ _ _ _ e sd)) (h := ?_))
    | (apply AO.kAdd; refine AO.sAdd (h := ?_))
    | (apply AO.kCv; first | refine AO.sBytes (h := ?_) | refine AO.sStr (h := ?_) | refine AO.sStrR (h := ?_))
    | (apply AO.kP; first | refine AO.sP (h := ?_) | refine AO.sPi (h := ?_))
    | apply AW.seq
    | (apply AW.kR; refine AW.sR (h := ?_))
    | apply AW.skip
    | apply AW.block
    | apply AW.out
    | (apply AW.kE; refine AW.sE (h := ?_))
    | apply AW.label
    | ((first | (apply AW.kC; refine AW.sC (h1 := fun h => ?_) (h2 := fun h => ?_))) <;> (try (first | exact Bool.noConfusion h | exact absurd h (by decide) | (simp at h; done) | (rw [h]; try simp only [nrm] at h; try rw [h]; try (exfalso; omega)) | skip))))
  · have h' : kidF n k ((i + j) / 2) = false := by assumption
    have hlt : i < j := by omega
    have e' : IntKind.wrap .i64 (IntKind.wrap .u64 ((i : Int) + (j : Int)) / (2 : Int) ^ Int.toNat 1) + 1 = (((i + j) / 2 + 1 : Nat) : Int) := by rw [e]; omega
    exact ih ((i + j) / 2 + 1, j) _ ⟨by simp only; omega, by simp only; omega, by simp only; rw [← hc, bs_hi hlt h']⟩ (by simp only; omega) (by (constructor <;> (repeat' (first | exact LeT.nil | exact LeB.nil | apply LeT.cons | apply LeB.cons | exact Ol.refl | apply Lx.s | apply Lx.b | apply Lx.i | exact Lx.refl)) <;> (first | rfl | assumption | omega | (simp only [List.length_map, BS_len]; done) | skip)))
  · have h' : kidF n k ((i + j) / 2) = true := by assumption
    have hlt : i < j := by omega
    exact ih (i, (i + j) / 2) _ ⟨by simp only; omega, by simp only; omega, by simp only; rw [← hc, bs_lo hlt h']⟩ (by simp only; omega) (by (constructor <;> (repeat' (first | exact LeT.nil | exact LeB.nil | apply LeT.cons | apply LeB.cons | exact Ol.refl | apply Lx.s | apply Lx.b | apply Lx.i | exact Lx.refl)) <;> (first | rfl | assumption | omega | (simp only [List.length_map, BS_len]; done) | skip)))
  · refine AW.ret (hD rfl (Lx.i ?_))
    rw [← hc, bs_end (by omega)]
theorem gSearch' (n : Nd) (k : L) (hs : n.small) : Good Try.prog 141 [.i .i64 ((n.pivots.map sav).length : Nat), .clo 142 [.pel n.av, .pel [.s k]]] [] (.i .i64 (bs (kidF n k) 0 n.pivots.length)) [] := by
  rw [List.length_map]; exact gSearch n k hs
/-- The number of the kid of a key. -/
def kidN (n : Nd) (k : L) : Int := if (n.kids.length : Int) - 1 < ((bs (kidF n k) 0 n.pivots.length : Nat) : Int) then (n.kids.length : Int) - 1 else ((bs (kidF n k) 0 n.pivots.length : Nat) : Int)
theorem gKid (n : Nd) (k : L) (hs : n.small) : Good Try.prog 115 [.agg n.av, .s k] [] (.i .i64 (kidN n k)) [] := by
  have hs2 := hs.pivots; have hs3 := hs.kids
  have l2 : (n.pivots.map sav).length = n.pivots.length := by simp
  have l3 : (n.kids.map Ed.av).length = n.kids.length := by simp
  refine Good.w tabOk mixed Try.func115 (N := 17) (by kernel_rfl) rfl (by (repeat (first | exact LE.nil | apply LE.cons)); done) (by (repeat (first | exact LE.nil | apply LE.cons)); done) fun D hD F => ?_
  (repeat (first | apply AW.seq | apply AW.block)); apply AW.kR; refine AW.sR (h := ?_); repeat' (first
    | apply AO.nil
    | (apply AO.kBox; refine AO.sBox (h := ?_))
    | (apply AO.kSub; refine AO.sSub (h := ?_))
    | (apply AO.kP; first | refine AO.sP (h := ?_) | refine AO.sPi (h := ?_) | refine AO.sLoadB (h := ?_) | refine AO.sMk0 (h := ?_)))
  refine AW.freeze 2 (cs := n.av) (st' := ⟨[(2, .pel n.av), (3, .ptr 3 0)], [(3, .bx [.s k])]⟩) rfl rfl ⟨.cons Lx.fz (.cons .refl .nil), .cons .refl .nil⟩ ?_
  refine AW.freeze 3 (cs := [.s k]) (st' := ⟨[(2, .pel n.av), (3, .pel [.s k])], []⟩) rfl rfl ⟨.cons .refl (.cons Lx.fz .nil), .nil⟩ ?_
  repeat' (first
    | apply AO.nil
    | (apply AO.kCall 141; refine AO.sCall (hg := (gSearch' n k hs)) (h := ?_))
    | (apply AO.kBox; refine AO.sBox (h := ?_))
    | (apply AO.kSub; refine AO.sSub (h := ?_))
    | (apply AO.kP; first | refine AO.sP (h := ?_) | refine AO.sPi (h := ?_) | refine AO.sLoadB (h := ?_) | refine AO.sMk0 (h := ?_))
    | apply AW.seq
    | (apply AW.kR; refine AW.sR (h := ?_))
    | apply AW.skip
    | apply AW.block
    | apply AW.out
    | (apply AW.kE; refine AW.sE (h := ?_))
    | apply AW.label)
  (refine AW.ret (hD rfl ?_); (repeat' (first | apply Lx.s | apply Lx.b | apply Lx.i | apply LxL.cons | exact LxL.nil | apply Lx.tup | apply Lx.agg | apply Lx.refl)) <;> (try with_reducible rfl))
  rw [l3]; rfl
/-- The last kid in whose range a key is. -/
def kidL (n : Nd) (k : L) : Nat → Int
  | 0 => -1
  | q + 1 => if inR (rgN n q).1 (rgN n q).2.1 (rgN n q).2.2 k = true then (q : Int) else kidL n k q
/-! ### a leaf's pair -/
def cmpS (a k : L) : Int := if lt a k = true then -1 else if lt k a = true then 1 else 0
theorem gCmp (p : Pr) (k : L) : Good Try.prog 112 [.agg p.av, .s k] [] (.i .i64 (cmpS p.k k)) [] := by
  refine Good.w tabOk mixed Try.func112 (N := 15) (by kernel_rfl) rfl (by (repeat (first | exact LE.nil | apply LE.cons)); done) (by (repeat (first | exact LE.nil | apply LE.cons)); done) fun D hD F => ?_
  repeat' (first
    | apply AO.nil
    | (apply AO.kBox; refine AO.sBox (h := ?_))
    | (apply AO.kP; first | refine AO.sP (h := ?_) | refine AO.sPi (h := ?_) | refine AO.sLoadB (h := ?_))
    | apply AW.seq
    | (apply AW.kR; refine AW.sR (h := ?_))
    | apply AW.skip
    | apply AW.block
    | apply AW.out
    | (apply AW.kE; refine AW.sE (h := ?_))
    | apply AW.label
    | ((first | (apply AW.kC; refine AW.sC (h1 := fun h => ?_) (h2 := fun h => ?_))) <;> (try (first | exact Bool.noConfusion h | exact absurd h (by decide) | (simp at h; done) | (rw [h]; try simp only [nrm] at h; try rw [h]; try (exfalso; omega)) | skip))))
  all_goals (refine AW.ret (hD rfl ?_); (repeat' (first | apply Lx.s | apply Lx.b | apply Lx.i | apply LxL.cons | exact LxL.nil | apply Lx.tup | apply Lx.agg | apply Lx.refl)) <;> (try with_reducible rfl))
  all_goals (rcases lt_total p.k k with h9 | h9 | h9)
  all_goals (first | (have h8 := lt_asymm h9; simp only [lt] at h9 h8; simp_all [cmpS, blt, le_iff, lt]; done) | (subst h9; have h8 := lt_irrefl p.k; simp only [lt] at h8; simp_all [cmpS, blt, le_iff, lt]; done) | (have h8 := lt_asymm h9; have h7 : ¬ p.k = k := fun e => by (rw [e, lt_irrefl] at h9; cases h9); simp only [lt] at h9 h8; simp_all [cmpS, blt, le_iff, lt]; done))
theorem cmp_lt (a k : L) : (cmpS a k < 0) ↔ lt a k = true := by
  unfold cmpS; split
  · rename_i h; simp [h]
  · rename_i h; split <;> simp [h]
theorem cmp_eq (a k : L) : (cmpS a k == 0) = (a == k) := by
  rcases lt_total a k with h | h | h
  · have : ¬ a = k := fun e => by rw [e, lt_irrefl] at h; cases h
    simp [cmpS, h, this]
  · subst h; simp [cmpS, lt_irrefl]
  · have : ¬ a = k := fun e => by rw [e, lt_irrefl] at h; cases h
    simp [cmpS, h, lt_asymm h, this]
def prF (l : List Pr) (k : L) (i : Nat) : Bool := !lt (l.getD i default).k k
theorem gFindP (l : List Pr) (k : L) (hl : l.length ≤ 1000000) : Good Try.prog 111 [.sh 2 (l.map Pr.av), .s k, .clo 112 []] [] (.tup [.i .i64 (bs (prF l k) 0 l.length), .b (decide (bs (prF l k) 0 l.length < l.length) && ((l.getD (bs (prF l k) 0 l.length) default).k == k))]) [] := by
  have ll : (l.map Pr.av).length = l.length := by simp
  refine Good.w tabOk mixed Try.func111 (N := 49) (by kernel_rfl) rfl (by (repeat (first | exact LE.nil | apply LE.cons)); done) (by (repeat (first | exact LE.nil | apply LE.cons)); done) fun D hD F => ?_
  repeat' (first
    | apply AO.nil
    | (apply AO.kIx; first | refine AO.sIxN (h := ?_) | refine AO.sIx (h := ?_) | refine AO.sP (h := ?_) | refine AO.sPi (h := ?_))
    | (apply AO.kAdd; refine AO.sAdd (h := ?_))
    | (apply AO.kCv; first | refine AO.sBytes (h := ?_) | refine AO.sStr (h := ?_) | refine AO.sStrR (h := ?_))
    | (apply AO.kP; first | refine AO.sP (h := ?_) | refine AO.sPi (h := ?_) | refine AO.sLoadB (h := ?_))
    | apply AW.seq
    | (apply AW.kR; refine AW.sR (h := ?_))
    | apply AW.skip
    | apply AW.block
    | apply AW.out
    | (apply AW.kE; refine AW.sE (h := ?_))
    | apply AW.label
    | ((first | (apply AO.kG; first | refine AO.sgt (h1 := fun h => ?_) (h2 := fun h => ?_) | refine AO.sgf (h1 := fun h => ?_) (h2 := fun h => ?_) | refine AO.sgs (h := ?_)) | (apply AW.kC; refine AW.sC (h1 := fun h => ?_) (h2 := fun h => ?_))) <;> (try (first | exact Bool.noConfusion h | exact absurd h (by decide) | (simp at h; done) | (rw [h]; try simp only [nrm] at h; try rw [h]; try (exfalso; omega)) | skip))))
  refine AW.loopI (fun x : Nat × Nat => x.1 ≤ x.2 ∧ x.2 ≤ l.length ∧ bs (prF l k) x.1 x.2 = bs (prF l k) 0 l.length) (fun x => ⟨[(0, .sh 2 (l.map Pr.av)), (1, .s k), (2, .clo 112 []), (8, .i .i64 l.length), (9, .i .i64 x.1), (10, .i .i64 x.2)], []⟩) (fun x => x.2 - x.1) (0, l.length) ⟨by simp, by simp, rfl⟩ (by (constructor <;> (repeat' (first | exact LeT.nil | exact LeB.nil | apply LeT.cons | apply LeB.cons | exact Ol.refl | apply Lx.s | apply Lx.b | apply Lx.i | exact Lx.refl)) <;> (first | rfl | assumption | omega | (simp only [List.length_map, BS_len]; done) | skip))) fun m ⟨i, j⟩ ⟨hij, hj, hc⟩ ih => ?_
  simp only at hij hj hc
  have e := half_wrap (i := i) (j := j) (by omega)
  repeat' (first
    | apply AO.nil
    | (apply AO.kCallV; refine AO.sCall (hg := (gCmp _ _)) (h := ?_))
    | (apply AO.kIx; first | refine AO.sIxN (hm := by first | decide | omega | (rw [e]; omega) | (exact ⟨by rw [e]; omega, by rw [e]; omega⟩)) (h := ?_) | refine AO.sIx (hm := by first | decide | omega | (rw [e]; omega) | (exact ⟨by rw [e]; omega, by rw [e]; omega⟩)) (h := ?_) | refine AO.sP (h := ?_) | refine AO.sPi (hq := by first | decide | omega | (rw [e]; omega) | (exact ⟨by rw [e]; omega, by rw [e]; omega⟩)) (h := ?_))
    | (apply AO.kAdd; refine AO.sAdd (hr := by first | decide | omega | (rw [e]; omega) | (exact ⟨by rw [e]; omega, by rw [e]; omega⟩)) (h := ?_))
    | (apply AO.kCv; first | refine AO.sBytes (h := ?_) | refine AO.sStr (h := ?_) | refine AO.sStrR (h := ?_))
    | (apply AO.kP; first | refine AO.sP (h := ?_) | refine AO.sPi (hq := by first | decide | omega | (rw [e]; omega) | (exact ⟨by rw [e]; omega, by rw [e]; omega⟩)) (h := ?_) | refine AO.sLoadB (ho := by first | decide | omega | (rw [e]; omega) | (exact ⟨by rw [e]; omega, by rw [e]; omega⟩)) (h := ?_))
    | apply AW.seq
    | (apply AW.kR; refine AW.sR (h := ?_))
    | apply AW.skip
    | apply AW.block
    | apply AW.out
    | (apply AW.kE; refine AW.sE (h := ?_))
    | apply AW.label
    | ((first | (apply AO.kG; first | refine AO.sgt (h1 := fun h => ?_) (h2 := fun h => ?_) | refine AO.sgf (h1 := fun h => ?_) (h2 := fun h => ?_) | refine AO.sgs (h := ?_)) | (apply AW.kC; refine AW.sC (h1 := fun h => ?_) (h2 := fun h => ?_))) <;> (try (first | exact Bool.noConfusion h | exact absurd h (by decide) | (simp at h; done) | (rw [h]; try simp only [nrm] at h; try rw [h]; try (exfalso; omega)) | skip))))
  · have h : cmpS (l.getD (IntKind.wrap .i64 (IntKind.wrap .u64 ((i : Int) + (j : Int)) / (2 : Int) ^ Int.toNat 1)).toNat default).k k < 0 := by assumption
    rw [cmp_lt, e] at h
    have h' : prF l k ((i + j) / 2) = false := by simp only [prF, Bool.not_eq_false']; exact h
    have hlt : i < j := by omega
    have e' : IntKind.wrap .i64 (IntKind.wrap .u64 ((i : Int) + (j : Int)) / (2 : Int) ^ Int.toNat 1) + 1 = (((i + j) / 2 + 1 : Nat) : Int) := by rw [e]; omega
    exact ih ((i + j) / 2 + 1, j) _ ⟨by simp only; omega, by simp only; omega, by simp only; rw [← hc, bs_hi hlt h']⟩ (by simp only; omega) (by (constructor <;> (repeat' (first | exact LeT.nil | exact LeB.nil | apply LeT.cons | apply LeB.cons | exact Ol.refl | apply Lx.s | apply Lx.b | apply Lx.i | exact Lx.refl)) <;> (first | rfl | assumption | omega | (simp only [List.length_map, BS_len]; done) | skip)))
  · have h : ¬ cmpS (l.getD (IntKind.wrap .i64 (IntKind.wrap .u64 ((i : Int) + (j : Int)) / (2 : Int) ^ Int.toNat 1)).toNat default).k k < 0 := by omega
    rw [cmp_lt, e] at h
    have h' : prF l k ((i + j) / 2) = true := by
      have h2 := Bool.eq_false_iff.2 h
      simp only [prF]
      exact congrArg (!·) h2
    have hlt : i < j := by omega
    exact ih (i, (i + j) / 2) _ ⟨by simp only; omega, by simp only; omega, by simp only; rw [← hc, bs_lo hlt h']⟩ (by simp only; omega) (by (constructor <;> (repeat' (first | exact LeT.nil | exact LeB.nil | apply LeT.cons | apply LeB.cons | exact Ol.refl | apply Lx.s | apply Lx.b | apply Lx.i | exact Lx.refl)) <;> (first | rfl | assumption | omega | (simp only [List.length_map, BS_len]; done) | skip)))
  · rw [bs_end (by omega)] at hc
    refine AW.ret (hD rfl (Lx.tup (.cons (Lx.i ?_) (.cons (Lx.b ?_) .nil))))
    · rw [← hc]
    · rw [← hc]
      have hi : i < l.length := by omega
      simp only [hi, decide_true, Bool.true_and]
      exact cmp_eq _ _
  · rw [bs_end (by omega)] at hc
    refine AW.ret (hD rfl (Lx.tup (.cons (Lx.i ?_) (.cons (Lx.b ?_) .nil))))
    · rw [← hc]
    · rw [← hc]
      have hi : ¬ i < l.length := by omega
      simp [hi]
/-- A step in a leaf. -/
def wayL (l : List Pr) (k : L) : Option L := if (decide (bs (prF l k) 0 l.length < l.length) && ((l.getD (bs (prF l k) 0 l.length) default).k == k)) = true then some (l.getD (bs (prF l k) 0 l.length) default).v else none
end Go.Proofs.Ytocppeifkjdeiaa.Mv

/- A machine for proofs: a row that a call answers, asL a box. Under no condition. -/
namespace Go.Proofs.Ytocppeifkjdeiaa.Mv
open Go
set_option linter.unusedSimpArgs false
set_option linter.unusedVariables false

/-- Values that lead nowhere. -/
def AV.flat : AV → Bool
  | .i .. | .b _ | .s _ => true
  | _ => false
end Go.Proofs.Ytocppeifkjdeiaa.Mv

/- Nodes: where a key leads from a leaf. Under no condition. -/
namespace Go.Proofs.Ytocppeifkjdeiaa.Mv
open Go Go.Proofs
set_option linter.unusedSimpArgs false
set_option linter.unusedVariables false
set_option maxRecDepth 10000
set_option maxHeartbeats 4000000
attribute [local irreducible] AW AO AR

theorem by_u16 {n : Int} (h : (Lit.int .u16 n).wf = true) : ∃ b : BitVec 16, n = (b.toNat : Int) := by
  have h' := wf_u16 h
  exact ⟨BitVec.ofNat 16 n.toNat, by rw [BitVec.toNat_ofNat]; omega⟩
/-- A way. -/
structure Wy where
  kind : UInt8
  val : L
  block : B32
  deep : W16
  key : L
  deriving DecidableEq, Inhabited
def Wy.av (w : Wy) : List AV := [.i .u8 (w.kind.toNat : Int), .s w.val, .i .u32 (w.block.toNat : Int), .i .u16 (w.deep.toNat : Int), .s w.key]
def wayZ : Wy := ⟨0, [], 0, 0, []⟩
def wayV (v : L) : Wy := ⟨1, v, 0, 0, []⟩
theorem gFind (l : List Pr) (k : L) (hl : l.length ≤ 1000000) : Good Try.prog 111 [.sh 2 (l.map Pr.av), .s k, .clo 112 []] [] (.tup [.i .i64 (bs (prF l k) 0 l.length), .b (decide (bs (prF l k) 0 l.length < l.length) && ((l.getD (bs (prF l k) 0 l.length) default).k == k))]) [] := gFindP l k hl
def leafWay (l : List Pr) (k : L) : Wy := match wayL l k with | some v => wayV v | none => wayZ
theorem ne0 {n : Nat} (h : ((n : Int) != 0) = true) : n ≠ 0 := fun e => by subst e; cases h
theorem eq0 {n : Nat} (h : ((n : Int) != 0) = false) : n = 0 := by
  simp only [bne_eq_false_iff_eq] at h; exact_mod_cast h
theorem leafWay0 {l : List Pr} {k : L} (h : (decide (bs (prF l k) 0 l.length < l.length) && ((l.getD (bs (prF l k) 0 l.length) default).k == k)) = false) : leafWay l k = wayZ := by rw [leafWay, wayL, if_neg (by rw [h]; decide)]
theorem leafWay1 {l : List Pr} {k : L} (h : (decide (bs (prF l k) 0 l.length < l.length) && ((l.getD (bs (prF l k) 0 l.length) default).k == k)) = true) : leafWay l k = wayV (l.getD (bs (prF l k) 0 l.length) default).v ∧ bs (prF l k) 0 l.length < l.length := by
  refine ⟨by rw [leafWay, wayL, if_pos h], ?_⟩
  cases h8 : decide (bs (prF l k) 0 l.length < l.length) with
  | true => exact of_decide_eq_true h8
  | false => rw [h8] at h; cases h
theorem gStepLeaf (n : Nd) (k : L) (hs : n.small) (hl : n.leaf = true) (w : Wy) (hw : w = if mayN n = 0 then leafWay n.pairs k else wayZ) : Good Try.prog 83 [.agg n.av, .s k] [] (.agg w.av) [] := by
  have hs2 := hs.pairs
  have l2 : (n.pairs.map Pr.av).length = n.pairs.length := by simp
  refine Good.w tabOk mixed Try.func83 (N := 74) (by kernel_rfl) rfl (by (repeat (first | exact LE.nil | apply LE.cons)); done) (by (repeat (first | exact LE.nil | apply LE.cons)); done) fun D hD F => ?_
  repeat' (first
    | apply AO.nil
    | (apply AO.kCall 57; refine AO.sCall (hg := (gMay _ hs)) (h := ?_))
    | (apply AO.kCall 111; refine AO.sCall (hg := (gFind _ _ hs2)) (h := ?_))
    | (apply AO.kIx; first | refine AO.sIxN (h := ?_) | refine AO.sIx (h := ?_) | refine AO.sP (h := ?_) | refine AO.sPi (h := ?_))
    | (apply AO.kBox; refine AO.sBox (h := ?_))
    | (apply AO.kAlloc; refine AO.sAlloc (h := ?_))
    | (apply AO.kStore; first | refine AO.sStore (h := ?_) | refine AO.sStB (h := ?_))
    | (apply AO.kP; first | refine AO.sP (h := ?_) | refine AO.sPi (h := ?_) | refine AO.sLoadB (h := ?_))
    | apply AW.seq
    | (apply AW.kR; refine AW.sR (h := ?_))
    | apply AW.skip
    | apply AW.block
    | apply AW.out
    | (apply AW.kE; refine AW.sE (h := ?_))
    | apply AW.label
    | (apply AW.kRd; refine AW.sRd (h := ?_))
    | ((first | (apply AW.kC; refine AW.sC (h1 := fun h => ?_) (h2 := fun h => ?_))) <;> (try (first | exact Bool.noConfusion h | exact absurd h (by decide) | (simp at h; done) | (rw [h]; try simp only [nrm] at h; try rw [h]; try (exfalso; omega)) | skip)))
    | (apply AR.kAny; first | (apply AR.kCall 57; refine AR.sCall (hg := (gMay _ hs)) (h := ?_)) | (apply AR.kCall 111; refine AR.sCall (hg := (gFind _ _ hs2)) (h := ?_)) | (apply AR.kIx; first | refine AR.sIxN (h := ?_) | refine AR.sIx (h := ?_) | refine AR.sP (h := ?_) | refine AR.sPi (h := ?_)) | (apply AR.kBox; refine AR.sBox (h := ?_)) | (apply AR.kAlloc; refine AR.sAlloc (h := ?_)) | (apply AR.kStore; refine AR.sStore (h := ?_)) | (apply AR.kP; first | refine AR.sP (h := ?_) | refine AR.sPi (h := ?_)))
    | (apply AR.kNil; refine AR.sNil (h := ?_)))
  · obtain rfl : w = wayZ := by rw [hw, if_neg (ne0 h)]
    (refine AW.ret (hD rfl ?_); (repeat' (first | apply Lx.s | apply Lx.b | apply Lx.i | apply LxL.cons | exact LxL.nil | apply Lx.tup | apply Lx.agg | apply Lx.refl)) <;> (try with_reducible rfl))
    all_goals rfl
  · have h8 := eq0 ‹((mayN n : Int) != 0) = false›
    obtain rfl : w = wayZ := by rw [hw, if_pos h8, leafWay0 h]
    (refine AW.ret (hD rfl ?_); (repeat' (first | apply Lx.s | apply Lx.b | apply Lx.i | apply LxL.cons | exact LxL.nil | apply Lx.tup | apply Lx.agg | apply Lx.refl)) <;> (try with_reducible rfl))
    all_goals rfl
  · have h8 := eq0 ‹((mayN n : Int) != 0) = false›
    obtain ⟨h7, h6⟩ := leafWay1 h
    obtain rfl : w = wayV (n.pairs.getD (bs (prF n.pairs k) 0 n.pairs.length) default).v := by rw [hw, if_pos h8, h7]
    repeat' (first
    | apply AO.nil
    | (apply AO.kIx; first | refine AO.sIxN (h := ?_) | refine AO.sIx (h := ?_) | refine AO.sP (h := ?_) | refine AO.sPi (h := ?_))
    | (apply AO.kBox; refine AO.sBox (h := ?_))
    | (apply AO.kAlloc; refine AO.sAlloc (h := ?_))
    | (apply AO.kStore; first | refine AO.sStore (h := ?_) | refine AO.sStB (h := ?_))
    | (apply AO.kP; first | refine AO.sP (h := ?_) | refine AO.sPi (h := ?_) | refine AO.sLoadB (h := ?_))
    | apply AW.seq
    | (apply AW.kR; refine AW.sR (h := ?_))
    | apply AW.skip
    | apply AW.block
    | apply AW.out
    | (apply AW.kE; refine AW.sE (h := ?_))
    | apply AW.label
    | (apply AW.kRd; refine AW.sRd (h := ?_))
    | ((first | (apply AW.kC; refine AW.sC (h1 := fun h => ?_) (h2 := fun h => ?_))) <;> (try (first | exact Bool.noConfusion h | exact absurd h (by decide) | (simp at h; done) | (rw [h]; try simp only [nrm] at h; try rw [h]; try (exfalso; omega)) | skip)))
    | (apply AR.kAny; first | (apply AR.kIx; first | refine AR.sIxN (h := ?_) | refine AR.sIx (h := ?_) | refine AR.sP (h := ?_) | refine AR.sPi (h := ?_)) | (apply AR.kBox; refine AR.sBox (h := ?_)) | (apply AR.kAlloc; refine AR.sAlloc (h := ?_)) | (apply AR.kStore; refine AR.sStore (h := ?_)) | (apply AR.kP; first | refine AR.sP (h := ?_) | refine AR.sPi (h := ?_)))
    | (apply AR.kNil; refine AR.sNil (h := ?_)))
    (refine AW.ret (hD rfl ?_); (repeat' (first | apply Lx.s | apply Lx.b | apply Lx.i | apply LxL.cons | exact LxL.nil | apply Lx.tup | apply Lx.agg | apply Lx.refl)) <;> (try with_reducible rfl))
    all_goals rfl
  · rw [hl] at h; cases h

/-! ### the document's examples -/
def nA : Nd := ⟨true, [⟨[97], [49]⟩], [], [], []⟩
def nB : Nd := ⟨false, [], [[109]], [⟨0, 1, [], []⟩, ⟨0, 1, [], []⟩], []⟩
/-! ### the statement of Same -/
end Go.Proofs.Ytocppeifkjdeiaa.Mv

/- Messages: of what they speak; trimmed. Under no condition. -/
namespace Go.Proofs.Ytocppeifkjdeiaa.Mv
open Go Go.Proofs
set_option linter.unusedSimpArgs false
set_option linter.unusedVariables false
set_option maxRecDepth 10000
set_option maxHeartbeats 4000000
attribute [local irreducible] AW AO AR

/-- Of what a message speaks. -/
def abS (m : Ms) : L × L × Bool :=
  if m.kind = 1 then (m.key, m.key ++ [0], true) else if m.kind = 2 then (m.key, m.key ++ [0], true)
  else if m.kind = 3 then (m.key, succS m.key, succOk m.key) else ([], [], true)
theorem gAbout (m : Ms) (h : m.key.length ≤ 1000000) : Good Try.prog 103 [.agg m.av] [] (.agg [.s (abS m).1, .s (abS m).2.1, .b (abS m).2.2]) [] := by
  refine Good.w tabOk mixed Try.func103 (N := 20) (by kernel_rfl) rfl (by (repeat (first | exact LE.nil | apply LE.cons)); done) (by (repeat (first | exact LE.nil | apply LE.cons)); done) fun D hD F => ?_
  repeat' (first
    | apply AO.nil
    | (apply AO.kCall 132; refine AO.sCall (hg := (gNext _ sd)) (h := ?_))
    | (apply AO.kCall 133; refine AO.sCall (hg := (gOf _ sd)) (h := ?_))
    | (apply AO.kBox; refine AO.sBox (h := ?_))
    | (apply AO.kAlloc; refine AO.sAlloc (h := ?_))
    | (apply AO.kStore; first | refine AO.sStore (h := ?_) | refine AO.sStB (h := ?_))
    | (apply AO.kP; first | refine AO.sP (h := ?_) | refine AO.sPi (h := ?_) | refine AO.sLoadB (h := ?_))
    | apply AW.seq
    | (apply AW.kR; refine AW.sR (h := ?_))
    | apply AW.skip
    | apply AW.block
    | apply AW.out
    | (apply AW.kE; refine AW.sE (h := ?_))
    | apply AW.label
    | (apply AW.kRd; refine AW.sRd (h := ?_))
    | ((first | (apply AW.kC; refine AW.sC (h1 := fun h => ?_) (h2 := fun h => ?_))) <;> (try (first | exact Bool.noConfusion h | exact absurd h (by decide) | (simp at h; done) | (rw [h]; try simp only [nrm] at h; try rw [h]; try (exfalso; omega)) | skip)))
    | (apply AR.kAny; first | (apply AR.kCall 132; refine AR.sCall (hg := (gNext _ sd)) (h := ?_)) | (apply AR.kCall 133; refine AR.sCall (hg := (gOf _ sd)) (h := ?_)) | (apply AR.kBox; refine AR.sBox (h := ?_)) | (apply AR.kAlloc; refine AR.sAlloc (h := ?_)) | (apply AR.kStore; refine AR.sStore (h := ?_)) | (apply AR.kP; first | refine AR.sP (h := ?_) | refine AR.sPi (h := ?_)))
    | (apply AR.kNil; refine AR.sNil (h := ?_)))
  all_goals (refine AW.ret (hD rfl ?_); (repeat' (first | apply Lx.s | apply Lx.b | apply Lx.i | apply LxL.cons | exact LxL.nil | apply Lx.tup | apply Lx.agg | apply Lx.refl)) <;> (try with_reducible rfl))
  all_goals (simp only [k1, k2, k3] at *; simp_all [abS])
/-- A message with a beginning taken away. -/
def mvR (m : Ms) (a : L) : Ms × Bool :=
  if hp m.key a then (⟨m.kind, cutS m.key a, m.val, m.block, m.deep, m.add⟩, true)
  else if m.kind = 3 ∧ hp a m.key = true ∧ m.add.length + (cutS a m.key).length ≤ 16 then (⟨m.kind, [], m.val, m.block, m.deep, m.add ++ cutS a m.key⟩, true)
  else (m, false)
/-! ### messages trimmed -/
/-- Nothing of a range is in another one. -/
def emC (x r : L × L × Bool) : Bool := emR (cS x.1 x.2.1 x.2.2 r.1 r.2.1 r.2.2).1 (cS x.1 x.2.1 x.2.2 r.1 r.2.1 r.2.2).2.1 (cS x.1 x.2.1 x.2.2 r.1 r.2.1 r.2.2).2.2
def msKeep (r : L × L × Bool) (m : Ms) : Bool := !emC (abS m) r
def trMsR (l : List Ms) (r : L × L × Bool) (a : L) : List Ms := (l.filter (msKeep r)).map fun m => (mvR m a).1
def trMsOk (l : List Ms) (r : L × L × Bool) (a : L) : Bool := (l.filter (msKeep r)).all fun m => (mvR m a).2
def msSm (m : Ms) : Bool := decide (m.key.length ≤ 1000000) && decide (m.add.length ≤ 1000000)
theorem sm_at {l : List Ms} (h : l.all msSm = true) {q : Nat} (hq : q < l.length) : (l.getD q default).key.length ≤ 1000000 ∧ (l.getD q default).add.length ≤ 1000000 := by
  have := List.all_eq_true.1 h (l.getD q default) (by rw [List.getD_eq_getElem?_getD, List.getElem?_eq_getElem hq]; exact List.getElem_mem hq)
  simp only [msSm, Bool.and_eq_true, decide_eq_true_eq] at this; exact this
end Go.Proofs.Ytocppeifkjdeiaa.Mv

/- Messages trimmed, by the document. Under no condition. -/
namespace Go.Proofs.Ytocppeifkjdeiaa.Mv
open Go Go.Proofs
set_option linter.unusedSimpArgs false
set_option linter.unusedVariables false
set_option maxRecDepth 10000
set_option maxHeartbeats 4000000
attribute [local irreducible] AW AO AR

end Go.Proofs.Ytocppeifkjdeiaa.Mv

/- A node trimmed: walks of the code. Under no condition. -/
namespace Go.Proofs.Ytocppeifkjdeiaa.Mv
open Go Go.Proofs
set_option linter.unusedSimpArgs false
set_option linter.unusedVariables false
set_option maxRecDepth 10000
set_option maxHeartbeats 4000000
attribute [local irreducible] AW AO AR

/-! ### a leaf -/
def prKeep (r : L × L × Bool) (p : Pr) : Bool := inR r.1 r.2.1 r.2.2 p.k
def prCut (a : L) (p : Pr) : Pr := ⟨cutS p.k a, p.v⟩
def trPr (l : List Pr) (r : L × L × Bool) (a : L) : List Pr := (l.filter (prKeep r)).map (prCut a)
/-! ### kids -/
def kidOk (n : Nd) (a : L) (i : Nat) : Bool :=
  joinOk [] a (n.kids.getD i default).strip (n.kids.getD i default).add && (decide ((joinS [] a (n.kids.getD i default).strip (n.kids.getD i default).add).length ≤ 16) && decide ((joinA [] a (n.kids.getD i default).strip (n.kids.getD i default).add).length ≤ 16))
def trKid (n : Nd) (a : L) (i : Nat) : Ed := ⟨(n.kids.getD i default).block, (n.kids.getD i default).deep, joinS [] a (n.kids.getD i default).strip (n.kids.getD i default).add, joinA [] a (n.kids.getD i default).strip (n.kids.getD i default).add⟩
def kRun (n : Nd) (r : L × L × Bool) (a : L) : Nat → Nat → List L → List Ed → (List L × List Ed) × Bool
  | 0, _, ps, ks => ((ps, ks), true)
  | u + 1, q, ps, ks =>
    if emC (rgN n q) r = true then kRun n r a u (q + 1) ps ks
    else if kidOk n a q = false then ((ps, ks), false)
    else kRun n r a u (q + 1) (if 0 < ks.length then ps ++ [cutS (rgN n q).1 a] else ps) (ks ++ [trKid n a q])
/-! ### the whole -/
def ndZ : Nd := ⟨false, [], [], [], []⟩
def trE (n : Nd) (r : L × L × Bool) (a : L) : Nat :=
  if mayN n ≠ 0 then 3 else if (emR r.1 r.2.1 r.2.2 || !hp (undS r.1 r.2.1 r.2.2) a) = true then 1 else if n.leaf = true then 0
  else if (kRun n r a n.kids.length 0 [] []).2 = false then 1 else if trMsOk n.buf r a = false then 1 else 0
def trN (n : Nd) (r : L × L × Bool) (a : L) : Nd :=
  if trE n r a ≠ 0 then ndZ else if n.leaf = true then ⟨true, trPr n.pairs r a, [], [], []⟩
  else ⟨false, [], (kRun n r a n.kids.length 0 [] []).1.1, (kRun n r a n.kids.length 0 [] []).1.2, trMsR n.buf r a⟩
/-- Texts that a machine can hold. -/
structure Nd.strs (n : Nd) : Prop where
  kids : ∀ i, i < n.kids.length → (n.kids.getD i default).strip.length ≤ 1000000 ∧ (n.kids.getD i default).add.length ≤ 1000000
  buf : n.buf.all msSm = true
end Go.Proofs.Ytocppeifkjdeiaa.Mv

/- Nodes: the kid in whose range a key is. Under no condition. -/
namespace Go.Proofs.Ytocppeifkjdeiaa.Mv
open Go Go.Proofs
set_option linter.unusedSimpArgs false
set_option linter.unusedVariables false
set_option maxRecDepth 10000
set_option maxHeartbeats 4000000
attribute [local irreducible] AW AO AR

theorem rise_dropA {ks : List L} (h : rise ks = true) : ∀ q, rise (ks.drop q) = true
  | 0 => by simpa using h
  | q + 1 => by
    by_cases hq : q + 1 < ks.length
    · have := rise_dropA h q
      rw [rise_next hq, Bool.and_eq_true] at this
      exact this.2
    · by_cases hq' : q + 1 = ks.length
      · rw [List.drop_of_length_le (by omega)]; rfl
      · rw [List.drop_of_length_le (by omega)]; rfl
theorem rise_one {ks : List L} (h : rise ks = true) {q : Nat} (hq : q + 1 < ks.length) : lt (ks.getD q default) (ks.getD (q + 1) default) = true := by
  have := rise_dropA h q
  rw [rise_next hq, Bool.and_eq_true] at this
  exact this.1
theorem rise_lt {ks : List L} (h : rise ks = true) {i : Nat} : ∀ j, i < j → j < ks.length → lt (ks.getD i default) (ks.getD j default) = true
  | 0, hij, _ => by omega
  | j + 1, hij, hj => by
    by_cases e : i = j
    · subst e; exact rise_one h hj
    · exact lt_trans (rise_lt h j (by omega) (by omega)) (rise_one h hj)
/-- What is found where it holds from some place on. -/
theorem bs_spec' {f : Nat → Bool} (n : Nat) (hm : ∀ a b, a ≤ b → b < n → f a = true → f b = true) : bs f 0 n ≤ n ∧ (∀ i, i < bs f 0 n → f i = false) ∧ (bs f 0 n < n → f (bs f 0 n) = true) := by
  have key := bs_ind (f := f) (P := fun i j r => (∀ a, a < i → f a = false) → i ≤ j → j ≤ n → r ≤ j ∧ (∀ a, a < r → f a = false) ∧ (r < j → f r = true))
    (fun i j h hlo hij _ => ⟨by omega, hlo, fun h' => by omega⟩)
    (fun i j r hij hf h hlo _ hn => by
      obtain ⟨q1, q2, q3⟩ := h hlo (by omega) (by omega)
      refine ⟨by omega, q2, fun hr => ?_⟩
      by_cases e : r < (i + j) / 2
      · exact q3 e
      · have : r = (i + j) / 2 := by omega
        rw [this]; exact hf)
    (fun i j r hij hf h hlo _ hn => by
      obtain ⟨q1, q2, q3⟩ := h (fun a ha => by
        cases hfa : f a with
        | false => rfl
        | true => rw [hm a ((i + j) / 2) (by omega) (by omega) hfa] at hf; cases hf) (by omega) hn
      exact ⟨q1, q2, q3⟩) n 0 n (by omega)
  exact key (fun a ha => by omega) (by omega) (by omega)
theorem kid_mono {n : Nd} {k : L} (hr : rise n.pivots = true) : ∀ a b, a ≤ b → b < n.pivots.length → kidF n k a = true → kidF n k b = true := fun a b h1 h2 h3 => by
  unfold kidF at *
  by_cases e : a = b
  · subst e; exact h3
  · exact lt_trans h3 (rise_lt hr b (by omega) h2)
/-- Where a node that may be with kids leads. -/
theorem may_inner {n : Nd} (h : mayN n = 0) (hl : n.leaf = false) : innerOk n = true ∧ n.kids.length ≤ 8 ∧ n.buf.length ≤ 16 := by
  unfold mayN at h
  split at h
  · cases h
  · rw [hl] at h
    simp only [Bool.false_eq_true, if_false] at h
    split at h
    · rename_i h1 h2; exact ⟨h2, by omega, by omega⟩
    · cases h
theorem may_leaf {n : Nd} (h : mayN n = 0) (hl : n.leaf = true) : leafOk n = true := by
  unfold mayN at h
  split at h
  · cases h
  · split at h
    · assumption
    · cases h
theorem inner_len {n : Nd} (h : innerOk n = true) : n.pivots.length + 1 = n.kids.length ∧ rise n.pivots = true ∧ n.pairs = [] := by
  simp only [innerOk, Bool.and_eq_true, decide_eq_true_eq, List.isEmpty_iff] at h
  exact ⟨h.1.1.1.2, rise_tail h.1.2.1, h.1.1.1.1.1⟩
theorem leaf_len {n : Nd} (h : leafOk n = true) : n.pivots = [] ∧ n.kids = [] ∧ n.buf = [] := by
  simp only [leafOk, Bool.and_eq_true, List.isEmpty_iff] at h
  exact ⟨h.1.1.1.1, h.1.1.1.2, h.1.1.2⟩
theorem kid_at {n : Nd} {k : L} (hl : n.pivots.length + 1 = n.kids.length) (hr : rise n.pivots = true) : kidN n k = ((bs (kidF n k) 0 n.pivots.length : Nat) : Int) ∧ bs (kidF n k) 0 n.pivots.length ≤ n.pivots.length := by
  have h := (bs_spec' _ (kid_mono (n := n) (k := k) hr)).1
  unfold kidN
  split
  · exact ⟨by omega, h⟩
  · exact ⟨rfl, h⟩
theorem kid_in {n : Nd} {k : L} (hl : n.pivots.length + 1 = n.kids.length) (hr : rise n.pivots = true) {j : Nat} (hj : j < n.kids.length) : inR (rgN n j).1 (rgN n j).2.1 (rgN n j).2.2 k = ((j : Int) == kidN n k) := by
  obtain ⟨e, hb⟩ := kid_at (k := k) hl hr
  obtain ⟨h1, h2, h3⟩ := bs_spec' _ (kid_mono (n := n) (k := k) hr)
  rw [e]
  generalize bs (kidF n k) 0 n.pivots.length = b at *
  have e1 : rgN n j = ((if 0 < (j : Int) ∧ (j : Int) ≤ n.pivots.length then n.pivots.getD ((j : Int) - 1).toNat default else []), (if (j : Int) < n.pivots.length then n.pivots.getD (j : Int).toNat default else []), decide ((j : Int) < n.pivots.length)) := by
    unfold rgN; rw [if_neg (by omega)]
  rw [e1]
  simp only [inR]
  by_cases c : j = b
  · subst c
    have g1 : lt k (if 0 < (j : Int) ∧ (j : Int) ≤ n.pivots.length then n.pivots.getD ((j : Int) - 1).toNat default else []) = false := by
      split
      · have := h2 (j - 1) (by omega)
        unfold kidF at this
        rw [show ((j : Int) - 1).toNat = j - 1 by omega]; exact this
      · exact lt_nil _
    rw [g1]
    by_cases d : (j : Int) < n.pivots.length
    · have g2 := h3 (by omega)
      unfold kidF at g2
      rw [if_pos d, show (j : Int).toNat = j by omega, g2, decide_eq_true d]; simp
    · rw [decide_eq_false d]; simp
  · have e2 : ((j : Int) == (b : Int)) = false := by rw [beq_eq_false_iff_ne]; omega
    rw [e2]
    by_cases d : j < b
    · have g := h2 j d
      unfold kidF at g
      rw [if_pos (show (j : Int) < n.pivots.length by omega), show (j : Int).toNat = j by omega, g, decide_eq_true (show (j : Int) < n.pivots.length by omega)]; simp
    · have g := kid_mono (k := k) hr b (j - 1) (by omega) (by omega) (h3 (by omega))
      unfold kidF at g
      rw [if_pos (by omega), show ((j : Int) - 1).toNat = j - 1 by omega, g]; rfl

/-! ### the statement of ranges -/
end Go.Proofs.Ytocppeifkjdeiaa.Mv

/- A node trimmed by the document. Under no condition. -/
namespace Go.Proofs.Ytocppeifkjdeiaa.Mv
open Go Go.Proofs
set_option linter.unusedSimpArgs false
set_option linter.unusedVariables false
set_option maxRecDepth 10000
set_option maxHeartbeats 4000000
attribute [local irreducible] AW AO AR

theorem le_rise {ks : List L} (h : rise ks = true) {i j : Nat} (hij : i ≤ j) (hj : j < ks.length) : lt (ks.getD j default) (ks.getD i default) = false := by
  by_cases e : i = j
  · subst e; exact lt_irrefl _
  · exact lt_asymm (rise_lt h j (by omega) hj)
end Go.Proofs.Ytocppeifkjdeiaa.Mv

/- The document's example of trimming; the statement of Shifts. Under no condition. -/
namespace Go.Proofs.Ytocppeifkjdeiaa.Mv
open Go Go.Proofs
set_option linter.unusedSimpArgs false
set_option linter.unusedVariables false
set_option maxRecDepth 10000
set_option maxHeartbeats 4000000
attribute [local irreducible] AW AO AR

theorem Good.le {P : Program} {f : FuncId} {args args' : List AV} {res : AV} {outs : List (Nat × Ob)} (h : Good P f args [] res outs) (hl : LeL args' args) : Good P f args' [] res outs :=
  ⟨h.fn, fun w Γ m vals gok hv hobs hinj => h.calls w Γ m vals gok (hl.rep hv) hobs hinj⟩
def nT : Nd := ⟨true, [⟨[97, 98], []⟩, ⟨[97, 99], []⟩, ⟨[98], []⟩], [], [], []⟩
def nT2 : Nd := ⟨true, [⟨[98], []⟩, ⟨[99], []⟩], [], [], []⟩
/-! ### the statement of Shifts */ -/
end Go.Proofs.Ytocppeifkjdeiaa.Mv

/- What is trimmed may be. Plain. -/
namespace Go.Proofs.Ytocppeifkjdeiaa.Mv
open Go Go.Proofs
set_option linter.unusedSimpArgs false
set_option linter.unusedVariables false
set_option maxRecDepth 10000
set_option maxHeartbeats 4000000

theorem rise_pw : ∀ {ks : List L}, rise ks = true ↔ ks.Pairwise (fun x y => lt x y = true)
  | [] => by simp [rise]
  | [a] => by simp [rise]
  | a :: b :: r => by
    rw [rise_cons, Bool.and_eq_true, rise_pw (ks := b :: r)]
    constructor
    · rintro ⟨h1, h2⟩
      refine List.pairwise_cons.2 ⟨fun x hx => ?_, h2⟩
      rcases List.mem_cons.1 hx with rfl | hx
      · exact h1
      · exact lt_trans h1 ((List.pairwise_cons.1 h2).1 x hx)
    · intro h
      obtain ⟨h1, h2⟩ := List.pairwise_cons.1 h
      exact ⟨h1 b (by simp), h2⟩
/-! ### a leaf -/
theorem leaf_parts {n : Nd} (h : leafOk n = true) : rise (n.pairs.map Pr.k) = true ∧ n.pairs.all prLen = true := by
  simp only [leafOk, Bool.and_eq_true] at h
  exact ⟨h.1.2, h.2⟩
/-! ### messages -/
/-! ### kids -/
/-- What holds of a node's kids while they are trimmed. -/
structure KI (n : Nd) (r : L × L × Bool) (a : L) (q : Nat) (ps : List L) (ks : List Ed) : Prop where
  len : (ks = [] ∧ ps = []) ∨ ps.length + 1 = ks.length
  most : ks.length ≤ q
  ok : ks.all edOk = true
  piv : ∀ p ∈ ps, p ≠ [] ∧ p.length ≤ 16 ∧ ∃ i, 0 < i ∧ i < q ∧ p = cutS (rgN n i).1 a ∧ hp (rgN n i).1 a = true
  up : ps.Pairwise (fun x y => lt x y = true)
  some : ks ≠ [] → ∃ j, j < q ∧ emC (rgN n j) r = false
  none : ks = [] → ∀ j, j < q → emC (rgN n j) r = true
end Go.Proofs.Ytocppeifkjdeiaa.Mv

/- The statement of trimmed parts. Under no condition. -/
namespace Go.Proofs.Ytocppeifkjdeiaa.Mv
open Go Go.Proofs
set_option linter.unusedSimpArgs false
set_option linter.unusedVariables false
set_option maxRecDepth 10000
set_option maxHeartbeats 4000000
attribute [local irreducible] AW AO AR

end Go.Proofs.Ytocppeifkjdeiaa.Mv

/- Nodes: where a key leads, by the document. Under no condition. -/
namespace Go.Proofs.Ytocppeifkjdeiaa.Mv
open Go Go.Proofs
set_option linter.unusedSimpArgs false
set_option linter.unusedVariables false
set_option maxRecDepth 10000
set_option maxHeartbeats 4000000
attribute [local irreducible] AW AO AR

def getP : List Pr → L → Option L
  | [], _ => none
  | p :: l, k => if p.k = k then some p.v else getP l k
/-- Does a message speak of a key? -/
def spk (m : Ms) (k : L) : Bool := if m.kind = 3 then hp k m.key else (m.kind == 1 || m.kind == 2) && k == m.key
/-- The last message that speaks of a key. -/
def lastI (l : List Ms) (k : L) : Nat → Int
  | 0 => -1
  | q + 1 => if spk (l.getD q default) k = true then (q : Int) else lastI l k q
theorem lastI_lt (l : List Ms) (k : L) : ∀ q, -1 ≤ lastI l k q ∧ lastI l k q < q
  | 0 => by simp [lastI]
  | q + 1 => by
    have := lastI_lt l k q
    rw [lastI]; split <;> omega
def onW (b : B32) (d : W16) (s a k : L) : Wy := if hp k s = true then ⟨2, [], b, d, upS s a k⟩ else wayZ
/-- Where a key leads. -/
def leadN (n : Nd) (k : L) : Wy :=
  if n.leaf = true then (match getP n.pairs k with | some v => wayV v | none => wayZ)
  else if lastI n.buf k n.buf.length < 0 then
    onW (n.kids.getD (kidL n k n.kids.length).toNat default).block (n.kids.getD (kidL n k n.kids.length).toNat default).deep (n.kids.getD (kidL n k n.kids.length).toNat default).strip (n.kids.getD (kidL n k n.kids.length).toNat default).add k
  else if (n.buf.getD (lastI n.buf k n.buf.length).toNat default).kind = 1 then wayV (n.buf.getD (lastI n.buf k n.buf.length).toNat default).val
  else if (n.buf.getD (lastI n.buf k n.buf.length).toNat default).kind = 3 then
    onW (n.buf.getD (lastI n.buf k n.buf.length).toNat default).block (n.buf.getD (lastI n.buf k n.buf.length).toNat default).deep (n.buf.getD (lastI n.buf k n.buf.length).toNat default).key (n.buf.getD (lastI n.buf k n.buf.length).toNat default).add k
  else wayZ
theorem leadF1 {pairs : List Pr} {pivots : List L} {kids : List Ed} {buf : List Ms} {k : L} (h : lastI buf k buf.length < 0) : leadN ⟨false, pairs, pivots, kids, buf⟩ k = onW (kids.getD (kidL ⟨false, pairs, pivots, kids, buf⟩ k kids.length).toNat default).block (kids.getD (kidL ⟨false, pairs, pivots, kids, buf⟩ k kids.length).toNat default).deep (kids.getD (kidL ⟨false, pairs, pivots, kids, buf⟩ k kids.length).toNat default).strip (kids.getD (kidL ⟨false, pairs, pivots, kids, buf⟩ k kids.length).toNat default).add k := by
  unfold leadN; rw [if_neg Bool.false_ne_true, if_pos h]
theorem leadF2 {pairs : List Pr} {pivots : List L} {kids : List Ed} {buf : List Ms} {k : L} (h : 0 ≤ lastI buf k buf.length) (h1 : (buf.getD (lastI buf k buf.length).toNat default).kind = 1) : leadN ⟨false, pairs, pivots, kids, buf⟩ k = wayV (buf.getD (lastI buf k buf.length).toNat default).val := by
  unfold leadN; rw [if_neg Bool.false_ne_true, if_neg (by show ¬ lastI buf k buf.length < 0; omega), if_pos h1]
theorem leadF3 {pairs : List Pr} {pivots : List L} {kids : List Ed} {buf : List Ms} {k : L} (h : 0 ≤ lastI buf k buf.length) (h1 : ¬ (buf.getD (lastI buf k buf.length).toNat default).kind = 1) (h3 : (buf.getD (lastI buf k buf.length).toNat default).kind = 3) : leadN ⟨false, pairs, pivots, kids, buf⟩ k = onW (buf.getD (lastI buf k buf.length).toNat default).block (buf.getD (lastI buf k buf.length).toNat default).deep (buf.getD (lastI buf k buf.length).toNat default).key (buf.getD (lastI buf k buf.length).toNat default).add k := by
  unfold leadN; rw [if_neg Bool.false_ne_true, if_neg (by show ¬ lastI buf k buf.length < 0; omega), if_neg h1, if_pos h3]
theorem leadF4 {pairs : List Pr} {pivots : List L} {kids : List Ed} {buf : List Ms} {k : L} (h : 0 ≤ lastI buf k buf.length) (h1 : ¬ (buf.getD (lastI buf k buf.length).toNat default).kind = 1) (h3 : ¬ (buf.getD (lastI buf k buf.length).toNat default).kind = 3) : leadN ⟨false, pairs, pivots, kids, buf⟩ k = wayZ := by
  unfold leadN; rw [if_neg Bool.false_ne_true, if_neg (by show ¬ lastI buf k buf.length < 0; omega), if_neg h1, if_neg h3]
theorem sm_any {l : List Ms} (h : l.all msSm = true) (i : Nat) : (l.getD i default).key.length ≤ 1000000 ∧ (l.getD i default).add.length ≤ 1000000 := by
  by_cases hi : i < l.length
  · exact sm_at h hi
  · rw [List.getD_eq_getElem?_getD, List.getElem?_eq_none (by omega)]; decide
/-- The last kid in whose range a key is, where there is just one. -/
theorem kidL_at {n : Nd} {k : L} {b : Nat} (h : ∀ j, j < n.kids.length → inR (rgN n j).1 (rgN n j).2.1 (rgN n j).2.2 k = ((j : Int) == (b : Int))) : ∀ q, q ≤ n.kids.length → kidL n k q = if b < q then (b : Int) else -1
  | 0, _ => by simp [kidL]
  | q + 1, hq => by
    rw [kidL, h q (by omega), kidL_at h q (by omega)]
    by_cases e : q = b
    · subst e; simp
    · rw [if_neg (by rw [beq_iff_eq]; omega)]
      by_cases g : b < q
      · rw [if_pos g, if_pos (by omega)]
      · rw [if_neg g, if_neg (by omega)]
theorem kidL_may {n : Nd} {k : L} (h : innerOk n = true) : kidL n k n.kids.length = kidN n k ∧ 0 ≤ kidN n k ∧ kidN n k < n.kids.length := by
  obtain ⟨pl, pr, _⟩ := inner_len h
  obtain ⟨e1, e2⟩ := kid_at (n := n) (k := k) pl pr
  have := kidL_at (n := n) (k := k) (b := bs (kidF n k) 0 n.pivots.length) (fun j hj => by rw [kid_in pl pr hj, e1]) n.kids.length (Nat.le_refl _)
  rw [if_pos (by omega)] at this
  rw [this, e1]; omega
/-- A step by the document. -/
def stepN (n : Nd) (k : L) : Wy := if mayN n = 0 then leadN n k else wayZ
end Go.Proofs.Ytocppeifkjdeiaa.Mv

/- Where a key leads in a trimmed node. Plain. -/
namespace Go.Proofs.Ytocppeifkjdeiaa.Mv
open Go Go.Proofs
set_option linter.unusedSimpArgs false
set_option linter.unusedVariables false
set_option maxRecDepth 10000
set_option maxHeartbeats 4000000

/-! ### pairs -/
/-! ### messages -/
theorem next_in (p k : L) : inR p (p ++ [0]) true k = (k == p) := by
  rw [Bool.eq_iff_iff]
  simp only [inR, Bool.and_eq_true, Bool.not_eq_true', Bool.not_true, Bool.false_or, beq_iff_eq]
  constructor
  · rintro ⟨h1, h2⟩
    cases g : hp k p with
    | false => rw [lt_off [0] g] at h2; rw [h2] at h1; cases h1
    | true =>
      obtain ⟨t, rfl⟩ := hp_pre.1 g
      rw [lt_app] at h2
      cases t with
      | nil => simp
      | cons c t => rw [lt_one] at h2; simp at h2
  · rintro rfl
    exact ⟨lt_irrefl _, lt_pre _ 0 []⟩
theorem ab_in (m : Ms) (k : L) : inR (abS m).1 (abS m).2.1 (abS m).2.2 k = spk m k := by
  unfold abS spk
  by_cases h1 : m.kind = 1
  · rw [if_pos h1, if_neg (by rw [h1]; decide), h1]
    simp only [next_in]; simp
  · rw [if_neg h1]
    by_cases h2 : m.kind = 2
    · rw [if_pos h2, if_neg (by rw [h2]; decide), h2]
      simp only [next_in]; simp
    · rw [if_neg h2]
      by_cases h3 : m.kind = 3
      · rw [if_pos h3, if_pos h3]; exact of_in _ _
      · rw [if_neg h3, if_neg h3]
        have e1 : (m.kind == 1) = false := by simpa using h1
        have e2 : (m.kind == 2) = false := by simpa using h2
        rw [e1, e2]; simp [inR, lt_nil]
def msW (m : Ms) (k : L) : Wy := if m.kind = 1 then wayV m.val else if m.kind = 3 then onW m.block m.deep m.key m.add k else wayZ
/-- The last message that speaks. -/
def lastM (l : List Ms) (k : L) : Option Ms := (l.filter (fun m => spk m k)).getLast?
def kidW (n : Nd) (k : L) : Wy := onW (n.kids.getD (kidL n k n.kids.length).toNat default).block (n.kids.getD (kidL n k n.kids.length).toNat default).deep (n.kids.getD (kidL n k n.kids.length).toNat default).strip (n.kids.getD (kidL n k n.kids.length).toNat default).add k
/-! ### kids */ -/
def kept (n : Nd) (r : L × L × Bool) (q : Nat) : List Nat := (List.range q).filter (fun i => !emC (rgN n i) r)
end Go.Proofs.Ytocppeifkjdeiaa.Mv

/- The statement of where trimmed nodes lead. Under no condition. -/
namespace Go.Proofs.Ytocppeifkjdeiaa.Mv
open Go Go.Proofs
set_option linter.unusedSimpArgs false
set_option linter.unusedVariables false
set_option maxRecDepth 10000
set_option maxHeartbeats 4000000
attribute [local irreducible] AW AO AR

theorem may_strs {n : Nd} (h : mayN n = 0) : n.strs := by
  rcases (by cases n.leaf <;> simp : n.leaf = true ∨ n.leaf = false) with hl | hl
  · obtain ⟨e1, e2, e3⟩ := leaf_len (may_leaf h hl)
    exact ⟨fun i hi => by rw [e2] at hi; simp at hi, by rw [e3]; rfl⟩
  · have hi := (may_inner h hl).1
    simp only [innerOk, Bool.and_eq_true] at hi
    refine ⟨fun i hik => ?_, ?_⟩
    · have := List.all_eq_true.1 hi.1.1.2 (n.kids.getD i default) (by rw [List.getD_eq_getElem?_getD, List.getElem?_eq_getElem hik]; exact List.getElem_mem hik)
      simp only [edOk, Bool.and_eq_true, decide_eq_true_eq] at this
      omega
    · rw [List.all_eq_true]
      intro m hm
      have := List.all_eq_true.1 hi.2 m hm
      simp only [msMay, Bool.and_eq_true, decide_eq_true_eq] at this
      simp only [msSm, Bool.and_eq_true, decide_eq_true_eq]
      refine ⟨by omega, ?_⟩
      have t := this.2
      split at t
      · simp only [Bool.and_eq_true, beq_iff_eq] at t; rw [t.2]; simp
      · split at t
        · simp only [Bool.and_eq_true, beq_iff_eq] at t; rw [t.2]; simp
        · split at t
          · simp only [Bool.and_eq_true, decide_eq_true_eq] at t; omega
          · cases t
end Go.Proofs.Ytocppeifkjdeiaa.Mv
