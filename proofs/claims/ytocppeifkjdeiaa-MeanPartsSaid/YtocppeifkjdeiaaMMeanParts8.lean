/- What the statement MeanParts needs, part 8. Under no condition. -/
import Derived.Lib.SlBytesConst
import Derived.Test.YtocppeifkjdeiaaMMeanParts7
/- A machine for proofs, more operations: arrays, bytes of boxes, rows that become boxes. Under no condition. -/
namespace Go.Proofs.Ytocppeifkjdeiaa.Mv
open Go
set_option linter.unusedSimpArgs false
set_option linter.unusedVariables false

section
variable {P : Program} {tab : Tab} {N : Nat} {D : St → Prop} {F : Fx P tab N D} {ops : Array Oper} {k : List It} {l : List Oper} {T : List (Nat × AV)} {B : List (Nat × Ob)}
  {d ty : Nat} {pos : String} {after : Array Edge} {op : Op} {acc : List Rec} {tg : List Nat} {st : St}

theorem ext_val {o : Oper} {x : AV} (h : ∀ (st' : St), (∀ y, y ∈ o.op.operands → st.val y = st'.val y) → (∀ t ∈ tagsAt st o, st.ob t = st'.ob t) → ∀ (c : Ctx) Γ m a w, c.P = P → TabOk c.P tab → RRW c Γ m st' a w → okOper c.N o = true →
    ∀ g, ∃ v, (execOp a.eval ({ o with guard := g } : Oper)).run c.P w = .ok (.value v) w ∧ Rep Γ m v x) : ExtOk P tab st o (putEff o.dst x) := by
  intro g st' h1 h2 c Γ m a w hP ht hr hok hf Q
  obtain ⟨v, h3, h4⟩ := h st' h1 h2 c Γ m a w hP ht hr hok g
  unfold Oper.wp
  rw [h3]
  have := hr.put o.dst h4
  refine ⟨Γ, m, ?_⟩
  cases hd : o.dst with
  | none => rw [hd] at this; exact this
  | some d => rw [hd] at this; exact this
theorem ok_ops {N : Nat} {o : Oper} (h : okOper N o = true) {x : Operand} (hx : x ∈ o.op.operands) : okOp N x = true := by
  simp only [okOper, Bool.and_eq_true] at h
  have := h.2
  rw [Array.all_eq_true_iff_forall_mem] at this
  exact this x hx
theorem tag_op {o : Oper} {x : Operand} (hx : x ∈ o.op.operands) {t : Nat} (ht : t ∈ (st.val x).refs) (hs : stillOp o.op = false := by exact rfl) : t ∈ tagsAt st o := by
  unfold tagsAt
  rw [hs]
  exact List.mem_append_left _ (mem_opRefs (by simpa using hx) ht)

section
variable {t : TypeId} {i j : TyI} {e : TypeId} {n g off : Nat} {x y : Operand}
section
variable {t u : TypeId} {i j iu : TyI} {e : TypeId} {n g off s' len : Nat} {x y : Operand} {rows : List (List AV)} {l' : List UInt8}
end
end
section
variable {t u : TypeId} {i j iu : TyI} {e : TypeId} {n g off s' len : Nat} {x y : Operand} {rows ys : List (List AV)} {l' : List UInt8}
end
end
end Go.Proofs.Ytocppeifkjdeiaa.Mv

/- A machine for proofs, steps for the further operations, in forms that unify. Under no condition. -/
namespace Go.Proofs.Ytocppeifkjdeiaa.Mv
open Go
set_option linter.unusedSimpArgs false
set_option linter.unusedVariables false

/-- Pieces of rows that stand for a list. -/
inductive Sv : AV → AV → Prop
  | bd {l : List UInt8} {n} : Sv (.sh 1 ((BS l).drop n)) (.sh 1 (BS (l.drop n)))
  | bt {l : List UInt8} {n} : Sv (.sh 1 ((BS l).take n)) (.sh 1 (BS (l.take n)))
  | btd {l : List UInt8} {n m} : Sv (.sh 1 (((BS l).take m).drop n)) (.sh 1 (BS ((l.take m).drop n)))
  | md {α : Type} {f : α → List AV} {l : List α} {sz n} : Sv (.sh sz ((l.map f).drop n)) (.sh sz ((l.drop n).map f))
  | mt {α : Type} {f : α → List AV} {l : List α} {sz n} : Sv (.sh sz ((l.map f).take n)) (.sh sz ((l.take n).map f))
  | mtd {α : Type} {f : α → List AV} {l : List α} {sz n m} : Sv (.sh sz (((l.map f).take m).drop n)) (.sh sz (((l.take m).drop n).map f))
  | s {l : List UInt8} : Sv (.s l) (.s l)
  | sh {sz rows} : Sv (.sh sz rows) (.sh sz rows)
theorem Sv.eq {x y} (h : Sv x y) : x = y := by cases h <;> simp [BS, List.map_drop, List.map_take]

/-- Cells that are bytes. -/
inductive CB : List AV → List UInt8 → Prop
  | nil : CB [] []
  | all {l} : CB (cellsB l) l
  | one {b : UInt8} {cs l} : CB cs l → CB (.i .u8 (b.toNat : Int) :: cs) (b :: l)
/-- The first four. -/
def take4 (l : List UInt8) : List UInt8 := [l.getD 0 0, l.getD 1 0, l.getD 2 0, l.getD 3 0]
section
variable {P : Program} {tab : Tab} {N : Nat} {D : St → Prop} {F : Fx P tab N D} {ops : Array Oper} {k : List It} {l : List Oper} {T : List (Nat × AV)} {B : List (Nat × Ob)}
  {d ty : Nat} {pos : String} {after : Array Edge} {op : Op} {acc : List Rec} {tg : List Nat}
section
variable {t u : TypeId} {i j iu : TyI} {e : TypeId} {n g off s' len : Nat} {x y : Operand} {rows ys : List (List AV)} {l' : List UInt8} {lo hi : Option Operand} {st : St}

theorem AO.sl {v v' : AV} {p : Prop} [Decidable p] (hp : pop tab ⟨T, B⟩ (.slice t x lo hi none) = if p then some v else none) (hv : Sv v v') (hq : p) (h : AO F ops k l ⟨(d, v') :: T, B⟩) : AO F ops k (⟨some d, .slice t x lo hi none, ty, pos, after, none⟩ :: l) ⟨T, B⟩ :=
  AO.p' (by rw [hp, if_pos hq, hv.eq]) h
theorem AR.sl {v v' : AV} {p : Prop} [Decidable p] (hp : pop tab ⟨T, B⟩ (.slice t x lo hi none) = if p then some v else none) (hv : Sv v v') (hq : p) (ht : LE (tagsAt ⟨T, B⟩ ⟨some d, .slice t x lo hi none, ty, pos, after, none⟩) tg)
    (h : AR F ops k l ⟨(d, v') :: T, B⟩ (⟨tg, ⟨[(d, v')], [], []⟩⟩ :: acc)) : AR F ops k (⟨some d, .slice t x lo hi none, ty, pos, after, none⟩ :: l) ⟨T, B⟩ acc :=
  AR.p' (by rw [hp, if_pos hq, hv.eq]) ht h

/-- An element of a list. -/
theorem ix_pop {α : Type} [Inhabited α] {f : α → List AV} {ls : List α} {kk : IntKind} {m : Int} {v : AV} (hi : look tab t = some i) (hd : i.d = .slice e) (hj : look tab e = some j) (hv : (⟨T, B⟩ : St).val x = v) (hr : rowsOf v = some (j.size, ls.map f)) (hb : (match v with | .bsl .. => false | _ => true) = true)
    (hy : (⟨T, B⟩ : St).val y = .i kk m) (hm : 0 ≤ m ∧ m < (ls.length : Int)) : pop tab ⟨T, B⟩ (.indexAddr t x y) = some (.pel (f (ls.getD m.toNat default))) := by
  have h1 : m.toNat < ls.length := by omega
  have h2 : ∀ sz rows, rowsOf v = some (sz, rows) → pop tab ⟨T, B⟩ (.indexAddr t x y) = if j.size = sz ∧ 0 ≤ m ∧ m < rows.length then some (.pel (rows.getD m.toNat [])) else none := by
    intro sz rows hrr
    cases v <;> simp [rowsOf] at hrr hb
    all_goals (obtain ⟨rfl, rfl⟩ := hrr; simp only [pop, hi, hd, hj, hv, hy, rowsOf])
  rw [h2 _ _ hr, if_pos ⟨rfl, hm.1, by simpa using hm.2⟩]
  congr 2
  rw [List.getD, List.getD, List.getElem?_map, List.getElem?_eq_getElem h1]; rfl
theorem AO.ix {α : Type} [Inhabited α] {f : α → List AV} {ls : List α} {kk : IntKind} {m : Int} {v : AV} (hi : look tab t = some i) (hd : i.d = .slice e) (hj : look tab e = some j) (hv : (⟨T, B⟩ : St).val x = v) (hr : rowsOf v = some (j.size, ls.map f)) (hb : (match v with | .bsl .. => false | _ => true) = true)
    (hy : (⟨T, B⟩ : St).val y = .i kk m) (hm : 0 ≤ m ∧ m < (ls.length : Int)) (h : AO F ops k l ⟨(d, .pel (f (ls.getD m.toNat default))) :: T, B⟩) : AO F ops k (⟨some d, .indexAddr t x y, ty, pos, after, none⟩ :: l) ⟨T, B⟩ :=
  AO.p' (ix_pop hi hd hj hv hr hb hy hm) h
theorem AR.ix {α : Type} [Inhabited α] {f : α → List AV} {ls : List α} {kk : IntKind} {m : Int} {v : AV} (hi : look tab t = some i) (hd : i.d = .slice e) (hj : look tab e = some j) (hv : (⟨T, B⟩ : St).val x = v) (hr : rowsOf v = some (j.size, ls.map f)) (hb : (match v with | .bsl .. => false | _ => true) = true)
    (hy : (⟨T, B⟩ : St).val y = .i kk m) (hm : 0 ≤ m ∧ m < (ls.length : Int)) (ht : LE (tagsAt ⟨T, B⟩ ⟨some d, .indexAddr t x y, ty, pos, after, none⟩) tg)
    (h : AR F ops k l ⟨(d, .pel (f (ls.getD m.toNat default))) :: T, B⟩ (⟨tg, ⟨[(d, .pel (f (ls.getD m.toNat default)))], [], []⟩⟩ :: acc)) : AR F ops k (⟨some d, .indexAddr t x y, ty, pos, after, none⟩ :: l) ⟨T, B⟩ acc :=
  AR.p' (ix_pop hi hd hj hv hr hb hy hm) ht h
theorem AO.ixN {α : Type} [Inhabited α] {f : α → List AV} {ls : List α} {kk : IntKind} {m : Nat} {v : AV} (hi : look tab t = some i) (hd : i.d = .slice e) (hj : look tab e = some j) (hv : (⟨T, B⟩ : St).val x = v) (hr : rowsOf v = some (j.size, ls.map f)) (hb : (match v with | .bsl .. => false | _ => true) = true)
    (hy : (⟨T, B⟩ : St).val y = .i kk (m : Int)) (hm : m < ls.length) (h : AO F ops k l ⟨(d, .pel (f (ls.getD m default))) :: T, B⟩) : AO F ops k (⟨some d, .indexAddr t x y, ty, pos, after, none⟩ :: l) ⟨T, B⟩ :=
  AO.p' (by rw [ix_pop hi hd hj hv hr hb hy (by omega)]; rfl) h
theorem AR.ixN {α : Type} [Inhabited α] {f : α → List AV} {ls : List α} {kk : IntKind} {m : Nat} {v : AV} (hi : look tab t = some i) (hd : i.d = .slice e) (hj : look tab e = some j) (hv : (⟨T, B⟩ : St).val x = v) (hr : rowsOf v = some (j.size, ls.map f)) (hb : (match v with | .bsl .. => false | _ => true) = true)
    (hy : (⟨T, B⟩ : St).val y = .i kk (m : Int)) (hm : m < ls.length) (ht : LE (tagsAt ⟨T, B⟩ ⟨some d, .indexAddr t x y, ty, pos, after, none⟩) tg)
    (h : AR F ops k l ⟨(d, .pel (f (ls.getD m default))) :: T, B⟩ (⟨tg, ⟨[(d, .pel (f (ls.getD m default)))], [], []⟩⟩ :: acc)) : AR F ops k (⟨some d, .indexAddr t x y, ty, pos, after, none⟩ :: l) ⟨T, B⟩ acc :=
  AR.p' (by rw [ix_pop hi hd hj hv hr hb hy (by omega)]; rfl) ht h

theorem AO.buildT {ps : Array (Nat × Operand)} {b : List UInt8} (hi : look tab t = some i) (hd : i.d = .slice e) (hj : look tab e = some j) (h1 : ps.toList.map (·.1) = List.range len) (h2 : ps.toList.all (fun p => fitsIn j.size ((⟨T, B⟩ : St).val p.2) && ((⟨T, B⟩ : St).val p.2).cells.all AV.shut) = true)
    (h3 : (decide (len * j.size ≤ 16777216) && decide (0 < j.size)) = true) (hr : Wr (ps.toList.map fun p => ((⟨T, B⟩ : St).val p.2).cells.map AV.close) rows) (hs : TB rows b) (hf : (⟨T, B⟩ : St).freeB d = true)
    (h : AO F ops k l ⟨(d, .gr d e j.size (BS b)) :: T, (d, .gw (BS b).length) :: B⟩) : AO F ops k (⟨some d, .buildSlice t len ps, ty, pos, after, none⟩ :: l) ⟨T, B⟩ := by
  have h2' := hs.eq; subst h2'
  exact AO.buildS hi hd hj h1 h2 h3 hr hf h
theorem AO.kIx (h : AO F ops k (⟨some d, .indexAddr t x y, ty, pos, after, none⟩ :: l) ⟨T, B⟩) : AO F ops k (⟨some d, .indexAddr t x y, ty, pos, after, none⟩ :: l) ⟨T, B⟩ := h
theorem AR.kIx (h : AR F ops k (⟨some d, .indexAddr t x y, ty, pos, after, none⟩ :: l) ⟨T, B⟩ acc) : AR F ops k (⟨some d, .indexAddr t x y, ty, pos, after, none⟩ :: l) ⟨T, B⟩ acc := h
theorem AO.kSl (h : AO F ops k (⟨some d, .slice t x lo hi none, ty, pos, after, none⟩ :: l) ⟨T, B⟩) : AO F ops k (⟨some d, .slice t x lo hi none, ty, pos, after, none⟩ :: l) ⟨T, B⟩ := h
theorem AR.kSl (h : AR F ops k (⟨some d, .slice t x lo hi none, ty, pos, after, none⟩ :: l) ⟨T, B⟩ acc) : AR F ops k (⟨some d, .slice t x lo hi none, ty, pos, after, none⟩ :: l) ⟨T, B⟩ acc := h
end
end
end Go.Proofs.Ytocppeifkjdeiaa.Mv

/- What a statement hands in: lists of a kind. Under no condition. -/
namespace Go.Proofs.Ytocppeifkjdeiaa.Mv
open Go
set_option linter.unusedSimpArgs false
set_option linter.unusedVariables false

theorem sh_map {α : Type} {tab : Tab} {e : Nat} {f : α → List AV} (hf : ∀ r, Sh tab e r → ∃ x, r = f x) : ∀ {rows : List (List AV)}, (∀ r ∈ rows, Sh tab e r) → ∃ l : List α, rows = l.map f
  | [], _ => ⟨[], rfl⟩
  | r :: rows, h => by
    obtain ⟨x, hx⟩ := hf r (h r (by simp))
    obtain ⟨l, hl⟩ := sh_map hf (rows := rows) fun q hq => h q (by simp [hq])
    exact ⟨x :: l, by rw [hx, hl]; rfl⟩
theorem wf_u8 {n : Int} (h : (Lit.int .u8 n).wf = true) : 0 ≤ n ∧ n ≤ 255 := by
  simp only [Lit.wf, Bool.and_eq_true, decide_eq_true_eq] at h
  have e1 : IntKind.u8.min = 0 := by decide
  have e2 : IntKind.u8.max = 255 := by decide
  rw [e1, e2] at h
  exact h
theorem wf_u16 {n : Int} (h : (Lit.int .u16 n).wf = true) : 0 ≤ n ∧ n ≤ 65535 := by
  simp only [Lit.wf, Bool.and_eq_true, decide_eq_true_eq] at h
  have e1 : IntKind.u16.min = 0 := by decide
  have e2 : IntKind.u16.max = 65535 := by decide
  rw [e1, e2] at h
  exact h
theorem wf_u32 {n : Int} (h : (Lit.int .u32 n).wf = true) : 0 ≤ n ∧ n ≤ 4294967295 := by
  simp only [Lit.wf, Bool.and_eq_true, decide_eq_true_eq] at h
  have e1 : IntKind.u32.min = 0 := by decide
  have e2 : IntKind.u32.max = 4294967295 := by decide
  rw [e1, e2] at h
  exact h
theorem wf_i64 {n : Int} (h : (Lit.int .i64 n).wf = true) : -9223372036854775808 ≤ n ∧ n ≤ 9223372036854775807 := by
  simp only [Lit.wf, Bool.and_eq_true, decide_eq_true_eq] at h
  have e1 : IntKind.i64.min = -9223372036854775808 := by decide
  have e2 : IntKind.i64.max = 9223372036854775807 := by decide
  rw [e1, e2] at h
  exact h
theorem by_u8 {n : Int} (h : (Lit.int .u8 n).wf = true) : ∃ b : UInt8, n = (b.toNat : Int) := by
  have h' := wf_u8 h
  exact ⟨UInt8.ofNat n.toNat, by rw [UInt8.toNat_ofNat']; omega⟩
theorem by_u32 {n : Int} (h : (Lit.int .u32 n).wf = true) : ∃ b : BitVec 32, n = (b.toNat : Int) := by
  have h' := wf_u32 h
  exact ⟨BitVec.ofNat 32 n.toNat, by rw [BitVec.toNat_ofNat]; omega⟩
end Go.Proofs.Ytocppeifkjdeiaa.Mv
