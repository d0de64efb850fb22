/- A machine for proofs, steps for the further operations, in forms that unify. Under no condition. -/
import Derived.Test.YtocppeifkjdeiaaXtB
namespace Go.Proofs.Ytocppeifkjdeiaa.Mv
open Go
set_option linter.unusedSimpArgs false
set_option linter.unusedVariables false

/-- Pieces of rows that stand for a list. -/
inductive Sv : AV → AV → Prop
  | bd {l : List UInt8} {n} : Sv (.sh 1 ((BS l).drop n)) (.sh 1 (BS (l.drop n)))
  | bt {l : List UInt8} {n} : Sv (.sh 1 ((BS l).take n)) (.sh 1 (BS (l.take n)))
  | btd {l : List UInt8} {n m} : Sv (.sh 1 (((BS l).take m).drop n)) (.sh 1 (BS ((l.take m).drop n)))
  | md {α : Type} {f : α → List AV} {l : List α} {sz n} : Sv (.sh sz ((l.map f).drop n)) (.sh sz ((l.drop n).map f))
  | mt {α : Type} {f : α → List AV} {l : List α} {sz n} : Sv (.sh sz ((l.map f).take n)) (.sh sz ((l.take n).map f))
  | mtd {α : Type} {f : α → List AV} {l : List α} {sz n m} : Sv (.sh sz (((l.map f).take m).drop n)) (.sh sz (((l.take m).drop n).map f))
  | s {l : List UInt8} : Sv (.s l) (.s l)
  | sh {sz rows} : Sv (.sh sz rows) (.sh sz rows)
theorem Sv.eq {x y} (h : Sv x y) : x = y := by cases h <;> simp [BS, List.map_drop, List.map_take]

/-- Cells that are bytes. -/
inductive CB : List AV → List UInt8 → Prop
  | nil : CB [] []
  | all {l} : CB (cellsB l) l
  | one {b : UInt8} {cs l} : CB cs l → CB (.i .u8 (b.toNat : Int) :: cs) (b :: l)
theorem CB.eq {cs l} (h : CB cs l) : cs = cellsB l := by
  induction h with
  | nil => rfl
  | all => rfl
  | one _ ih => rw [ih]; rfl
theorem cellsB_refs (l : List UInt8) : (Ob.bx (cellsB l)).refs = [] := by
  induction l with
  | nil => rfl
  | cons b l ih =>
    simp only [Ob.refs, cellsB, List.map_cons, AV.refs.refsL] at ih ⊢
    rw [ih]; rfl
/-- What two bytes differ in. -/
theorem xorB (x y : UInt8) : bits .xor .u8 (x.toNat : Int) (y.toNat : Int) = ((x ^^^ y).toNat : Int) := by
  have hx : BitVec.ofInt 8 (x.toNat : Int) = x.toBitVec := by
    rw [BitVec.ofInt_natCast]; simp
  have hy : BitVec.ofInt 8 (y.toNat : Int) = y.toBitVec := by
    rw [BitVec.ofInt_natCast]; simp
  have h1 : bits .xor .u8 (x.toNat : Int) (y.toNat : Int) = IntKind.wrap .u8 (((x.toBitVec ^^^ y.toBitVec : BitVec 8).toNat : Nat) : Int) := by
    simp only [bits]
    exact congrArg (fun z : BitVec 8 => IntKind.wrap .u8 (z.toNat : Int)) (by rw [← hx, ← hy]; rfl)
  rw [h1, wrapB]
  congr 2
  apply UInt8.toNat_inj.1
  have := (x ^^^ y).toNat_lt
  simp only [u8, UInt8.toNat_ofNat', UInt8.toNat_xor, BitVec.toNat_xor, UInt8.toNat_toBitVec] at *
  omega
theorem xorW (x : UInt8) (n : Int) : bits .xor .u8 (x.toNat : Int) (IntKind.wrap .u8 n) = ((x ^^^ u8 n).toNat : Int) := by rw [wrapB, xorB]
/-- The first four. -/
def take4 (l : List UInt8) : List UInt8 := [l.getD 0 0, l.getD 1 0, l.getD 2 0, l.getD 3 0]
theorem take4_eq {l : List UInt8} (h : 4 ≤ l.length) : take4 l = l.take 4 := by
  match l, h with
  | a :: b :: c :: d :: l, _ => rfl
section
variable {P : Program} {tab : Tab} {N : Nat} {D : St → Prop} {F : Fx P tab N D} {ops : Array Oper} {k : List It} {l : List Oper} {T : List (Nat × AV)} {B : List (Nat × Ob)}
  {d ty : Nat} {pos : String} {after : Array Edge} {op : Op} {acc : List Rec} {tg : List Nat}
section
variable {t u : TypeId} {i j iu : TyI} {e : TypeId} {n g off s' len : Nat} {x y : Operand} {rows ys : List (List AV)} {l' : List UInt8} {lo hi : Option Operand} {st : St}

theorem AO.sl {v v' : AV} {p : Prop} [Decidable p] (hp : pop tab ⟨T, B⟩ (.slice t x lo hi none) = if p then some v else none) (hv : Sv v v') (hq : p) (h : AO F ops k l ⟨(d, v') :: T, B⟩) : AO F ops k (⟨some d, .slice t x lo hi none, ty, pos, after, none⟩ :: l) ⟨T, B⟩ :=
  AO.p' (by rw [hp, if_pos hq, hv.eq]) h
theorem AR.sl {v v' : AV} {p : Prop} [Decidable p] (hp : pop tab ⟨T, B⟩ (.slice t x lo hi none) = if p then some v else none) (hv : Sv v v') (hq : p) (ht : LE (tagsAt ⟨T, B⟩ ⟨some d, .slice t x lo hi none, ty, pos, after, none⟩) tg)
    (h : AR F ops k l ⟨(d, v') :: T, B⟩ (⟨tg, ⟨[(d, v')], [], []⟩⟩ :: acc)) : AR F ops k (⟨some d, .slice t x lo hi none, ty, pos, after, none⟩ :: l) ⟨T, B⟩ acc :=
  AR.p' (by rw [hp, if_pos hq, hv.eq]) ht h

/-- An element of a list. -/
theorem ix_pop {α : Type} [Inhabited α] {f : α → List AV} {ls : List α} {kk : IntKind} {m : Int} {v : AV} (hi : look tab t = some i) (hd : i.d = .slice e) (hj : look tab e = some j) (hv : (⟨T, B⟩ : St).val x = v) (hr : rowsOf v = some (j.size, ls.map f)) (hb : (match v with | .bsl .. => false | _ => true) = true)
    (hy : (⟨T, B⟩ : St).val y = .i kk m) (hm : 0 ≤ m ∧ m < (ls.length : Int)) : pop tab ⟨T, B⟩ (.indexAddr t x y) = some (.pel (f (ls.getD m.toNat default))) := by
  have h1 : m.toNat < ls.length := by omega
  have h2 : ∀ sz rows, rowsOf v = some (sz, rows) → pop tab ⟨T, B⟩ (.indexAddr t x y) = if j.size = sz ∧ 0 ≤ m ∧ m < rows.length then some (.pel (rows.getD m.toNat [])) else none := by
    intro sz rows hrr
    cases v <;> simp [rowsOf] at hrr hb
    all_goals (obtain ⟨rfl, rfl⟩ := hrr; simp only [pop, hi, hd, hj, hv, hy, rowsOf])
  rw [h2 _ _ hr, if_pos ⟨rfl, hm.1, by simpa using hm.2⟩]
  congr 2
  rw [List.getD, List.getD, List.getElem?_map, List.getElem?_eq_getElem h1]; rfl
theorem AO.ix {α : Type} [Inhabited α] {f : α → List AV} {ls : List α} {kk : IntKind} {m : Int} {v : AV} (hi : look tab t = some i) (hd : i.d = .slice e) (hj : look tab e = some j) (hv : (⟨T, B⟩ : St).val x = v) (hr : rowsOf v = some (j.size, ls.map f)) (hb : (match v with | .bsl .. => false | _ => true) = true)
    (hy : (⟨T, B⟩ : St).val y = .i kk m) (hm : 0 ≤ m ∧ m < (ls.length : Int)) (h : AO F ops k l ⟨(d, .pel (f (ls.getD m.toNat default))) :: T, B⟩) : AO F ops k (⟨some d, .indexAddr t x y, ty, pos, after, none⟩ :: l) ⟨T, B⟩ :=
  AO.p' (ix_pop hi hd hj hv hr hb hy hm) h
theorem AR.ix {α : Type} [Inhabited α] {f : α → List AV} {ls : List α} {kk : IntKind} {m : Int} {v : AV} (hi : look tab t = some i) (hd : i.d = .slice e) (hj : look tab e = some j) (hv : (⟨T, B⟩ : St).val x = v) (hr : rowsOf v = some (j.size, ls.map f)) (hb : (match v with | .bsl .. => false | _ => true) = true)
    (hy : (⟨T, B⟩ : St).val y = .i kk m) (hm : 0 ≤ m ∧ m < (ls.length : Int)) (ht : LE (tagsAt ⟨T, B⟩ ⟨some d, .indexAddr t x y, ty, pos, after, none⟩) tg)
    (h : AR F ops k l ⟨(d, .pel (f (ls.getD m.toNat default))) :: T, B⟩ (⟨tg, ⟨[(d, .pel (f (ls.getD m.toNat default)))], [], []⟩⟩ :: acc)) : AR F ops k (⟨some d, .indexAddr t x y, ty, pos, after, none⟩ :: l) ⟨T, B⟩ acc :=
  AR.p' (ix_pop hi hd hj hv hr hb hy hm) ht h
theorem AO.ixN {α : Type} [Inhabited α] {f : α → List AV} {ls : List α} {kk : IntKind} {m : Nat} {v : AV} (hi : look tab t = some i) (hd : i.d = .slice e) (hj : look tab e = some j) (hv : (⟨T, B⟩ : St).val x = v) (hr : rowsOf v = some (j.size, ls.map f)) (hb : (match v with | .bsl .. => false | _ => true) = true)
    (hy : (⟨T, B⟩ : St).val y = .i kk (m : Int)) (hm : m < ls.length) (h : AO F ops k l ⟨(d, .pel (f (ls.getD m default))) :: T, B⟩) : AO F ops k (⟨some d, .indexAddr t x y, ty, pos, after, none⟩ :: l) ⟨T, B⟩ :=
  AO.p' (by rw [ix_pop hi hd hj hv hr hb hy (by omega)]; rfl) h
theorem AR.ixN {α : Type} [Inhabited α] {f : α → List AV} {ls : List α} {kk : IntKind} {m : Nat} {v : AV} (hi : look tab t = some i) (hd : i.d = .slice e) (hj : look tab e = some j) (hv : (⟨T, B⟩ : St).val x = v) (hr : rowsOf v = some (j.size, ls.map f)) (hb : (match v with | .bsl .. => false | _ => true) = true)
    (hy : (⟨T, B⟩ : St).val y = .i kk (m : Int)) (hm : m < ls.length) (ht : LE (tagsAt ⟨T, B⟩ ⟨some d, .indexAddr t x y, ty, pos, after, none⟩) tg)
    (h : AR F ops k l ⟨(d, .pel (f (ls.getD m default))) :: T, B⟩ (⟨tg, ⟨[(d, .pel (f (ls.getD m default)))], [], []⟩⟩ :: acc)) : AR F ops k (⟨some d, .indexAddr t x y, ty, pos, after, none⟩ :: l) ⟨T, B⟩ acc :=
  AR.p' (by rw [ix_pop hi hd hj hv hr hb hy (by omega)]; rfl) ht h

theorem AO.slArr (hi : look tab t = some i) (hd : i.d = .array n e) (hj : look tab e = some j) (hx : (⟨T, B⟩ : St).val x = .ptr g off) (hnm : decide (n ≤ 1000000) = true) (h : AO F ops k l ⟨(d, .bsl g off n j.size) :: T, B⟩) : AO F ops k (⟨some d, .slice t x none none none, ty, pos, after, none⟩ :: l) ⟨T, B⟩ :=
  AO.step rfl (.ext (slArr_ext hi hd hj hx hnm)) (fun d hd => by simp [putEff] at hd) h
theorem AR.slArr (hi : look tab t = some i) (hd : i.d = .array n e) (hj : look tab e = some j) (hx : (⟨T, B⟩ : St).val x = .ptr g off) (hnm : decide (n ≤ 1000000) = true) (ht : LE (tagsAt ⟨T, B⟩ ⟨some d, .slice t x none none none, ty, pos, after, none⟩) tg)
    (h : AR F ops k l ⟨(d, .bsl g off n j.size) :: T, B⟩ (⟨tg, ⟨[(d, .bsl g off n j.size)], [], []⟩⟩ :: acc)) : AR F ops k (⟨some d, .slice t x none none none, ty, pos, after, none⟩ :: l) ⟨T, B⟩ acc :=
  AR.st rfl (.ext (slArr_ext hi hd hj hx hnm)) (fun d hd => by simp [putEff] at hd) ht h
theorem arrB_ext (hi : look tab t = some i) (hd : i.d = .array n e) (hx : st.val x = .sh 1 (BS l')) (hn : n ≤ l'.length) (h0 : decide (0 < n) = true) : ExtOk P tab st ⟨some d, .sliceToArrayPointer t x, ty, pos, after, none⟩ (putEff (some d) (.pel (cellsB l'))) := by
  have := arrPtr_ext (P := P) (d := d) (ty := ty) (pos := pos) (after := after) hi hd hx (by rw [BS_len]; exact hn) (of_decide_eq_true h0)
  rwa [BS_flat] at this
theorem AO.arrB (hi : look tab t = some i) (hd : i.d = .array n e) (hx : (⟨T, B⟩ : St).val x = .sh 1 (BS l')) (hn : n ≤ l'.length) (h0 : decide (0 < n) = true) (h : AO F ops k l ⟨(d, .pel (cellsB l')) :: T, B⟩) : AO F ops k (⟨some d, .sliceToArrayPointer t x, ty, pos, after, none⟩ :: l) ⟨T, B⟩ :=
  AO.step rfl (.ext (arrB_ext hi hd hx hn h0)) (fun d hd => by simp [putEff] at hd) h
theorem AR.arrB (hi : look tab t = some i) (hd : i.d = .array n e) (hx : (⟨T, B⟩ : St).val x = .sh 1 (BS l')) (hn : n ≤ l'.length) (h0 : decide (0 < n) = true) (ht : LE (tagsAt ⟨T, B⟩ ⟨some d, .sliceToArrayPointer t x, ty, pos, after, none⟩) tg)
    (h : AR F ops k l ⟨(d, .pel (cellsB l')) :: T, B⟩ (⟨tg, ⟨[(d, .pel (cellsB l'))], [], []⟩⟩ :: acc)) : AR F ops k (⟨some d, .sliceToArrayPointer t x, ty, pos, after, none⟩ :: l) ⟨T, B⟩ acc :=
  AR.st rfl (.ext (arrB_ext hi hd hx hn h0)) (fun d hd => by simp [putEff] at hd) ht h
theorem loadA_pop (hi : look tab t = some i) (ha : i.agg = true) (hx : (⟨T, B⟩ : St).val x = .pel (cellsB l')) (hn : i.size ≤ l'.length) : pop tab ⟨T, B⟩ (.load t x) = some (.agg (cellsB (l'.take i.size))) := by
  simp only [pop, hi, hx, part, ha, if_true]
  rw [if_pos (by simpa [cellsB] using hn)]
  simp [cellsB]
theorem AO.loadA (hi : look tab t = some i) (ha : i.agg = true) (hd : i.d = .array n e) (hs : i.size = n) (h4 : n = 4) (hx : (⟨T, B⟩ : St).val x = .pel (cellsB l')) (hn : n ≤ l'.length) (h : AO F ops k l ⟨(d, .agg (cellsB (take4 l'))) :: T, B⟩) : AO F ops k (⟨some d, .load t x, ty, pos, after, none⟩ :: l) ⟨T, B⟩ :=
  AO.p' (by subst hs; rw [loadA_pop hi ha hx hn, h4, take4_eq (by omega)]) h
theorem AR.loadA (hi : look tab t = some i) (ha : i.agg = true) (hd : i.d = .array n e) (hs : i.size = n) (h4 : n = 4) (hx : (⟨T, B⟩ : St).val x = .pel (cellsB l')) (hn : n ≤ l'.length) (ht : LE (tagsAt ⟨T, B⟩ ⟨some d, .load t x, ty, pos, after, none⟩) tg)
    (h : AR F ops k l ⟨(d, .agg (cellsB (take4 l'))) :: T, B⟩ (⟨tg, ⟨[(d, .agg (cellsB (take4 l')))], [], []⟩⟩ :: acc)) : AR F ops k (⟨some d, .load t x, ty, pos, after, none⟩ :: l) ⟨T, B⟩ acc :=
  AR.p' (by subst hs; rw [loadA_pop hi ha hx hn, h4, take4_eq (by omega)]) ht h
theorem AO.eqArr {z : TypeId} {as bs : List UInt8} (hi : look tab t = some i) (hd : i.d = .array n e) (hj : look tab e = some j) (hjd : j.d = .int .u8) (hjs : j.size = 1) (hx : (⟨T, B⟩ : St).val x = .agg (cellsB as)) (hy : (⟨T, B⟩ : St).val y = .agg (cellsB bs)) (ha : as.length = n) (hb : bs.length = n) (heg : P.eqGuardType P.depth t = false)
    (h : AO F ops k l ⟨(d, .b (as == bs)) :: T, B⟩) : AO F ops k (⟨some d, .binOp .eql t x y z, ty, pos, after, none⟩ :: l) ⟨T, B⟩ :=
  AO.step rfl (.ext (eqArr_ext hi hd hj hjd hjs hx hy ha hb heg)) (fun d hd => by simp [putEff] at hd) h
theorem AR.eqArr {z : TypeId} {as bs : List UInt8} (hi : look tab t = some i) (hd : i.d = .array n e) (hj : look tab e = some j) (hjd : j.d = .int .u8) (hjs : j.size = 1) (hx : (⟨T, B⟩ : St).val x = .agg (cellsB as)) (hy : (⟨T, B⟩ : St).val y = .agg (cellsB bs)) (ha : as.length = n) (hb : bs.length = n) (heg : P.eqGuardType P.depth t = false)
    (ht : LE (tagsAt ⟨T, B⟩ ⟨some d, .binOp .eql t x y z, ty, pos, after, none⟩) tg) (h : AR F ops k l ⟨(d, .b (as == bs)) :: T, B⟩ (⟨tg, ⟨[(d, .b (as == bs))], [], []⟩⟩ :: acc)) : AR F ops k (⟨some d, .binOp .eql t x y z, ty, pos, after, none⟩ :: l) ⟨T, B⟩ acc :=
  AR.st rfl (.ext (eqArr_ext hi hd hj hjd hjs hx hy ha hb heg)) (fun d hd => by simp [putEff] at hd) ht h
theorem AO.growB (hi : look tab t = some i) (hd : i.d = .slice e) (hj : look tab e = some j) (hu : look tab u = some iu) (hiu : isApp iu = true) (hx : (⟨T, B⟩ : St).val x = .gr g e j.size rows) (hg : (⟨T, B⟩ : St).ob g = .gw n) (hn : n = rows.length)
    (hy : (⟨T, B⟩ : St).val y = .bsl s' off len 1) (hs : (⟨T, B⟩ : St).ob s' = .bx (cellsB l')) (hl : off + len ≤ l'.length) (hz : (decide (j.size = 1) && decide (0 < j.bytes) && decide (j.bytes ≤ 1024)) = true) (hb : rows.length + len ≤ 137438953472)
    (h : AO F ops k l ⟨(d, .gr g e j.size (rows ++ BS ((l'.drop off).take len))) :: T, (g, .gw (rows ++ BS ((l'.drop off).take len)).length) :: B⟩) : AO F ops k (⟨some d, .call { callee := .builtin .append, args := #[x, y], argTypes := #[t, u] }, ty, pos, after, none⟩ :: l) ⟨T, B⟩ :=
  AO.step (e := ⟨[(d, .gr g e j.size (rows ++ BS ((l'.drop off).take len)))], [(g, .gw (rows ++ BS ((l'.drop off).take len)).length)], []⟩) rfl (.ext (growB_ext hi hd hj hu hiu hx hg hn hy hs hl hz hb)) (fun d hd => by simp at hd) h
theorem AR.growB (hi : look tab t = some i) (hd : i.d = .slice e) (hj : look tab e = some j) (hu : look tab u = some iu) (hiu : isApp iu = true) (hx : (⟨T, B⟩ : St).val x = .gr g e j.size rows) (hg : (⟨T, B⟩ : St).ob g = .gw n) (hn : n = rows.length)
    (hy : (⟨T, B⟩ : St).val y = .bsl s' off len 1) (hs : (⟨T, B⟩ : St).ob s' = .bx (cellsB l')) (hl : off + len ≤ l'.length) (hz : (decide (j.size = 1) && decide (0 < j.bytes) && decide (j.bytes ≤ 1024)) = true) (hb : rows.length + len ≤ 137438953472)
    (ht : LE (tagsAt ⟨T, B⟩ ⟨some d, .call { callee := .builtin .append, args := #[x, y], argTypes := #[t, u] }, ty, pos, after, none⟩) tg)
    (h : AR F ops k l ⟨(d, .gr g e j.size (rows ++ BS ((l'.drop off).take len))) :: T, (g, .gw (rows ++ BS ((l'.drop off).take len)).length) :: B⟩ (⟨tg, ⟨[(d, .gr g e j.size (rows ++ BS ((l'.drop off).take len)))], [(g, .gw (rows ++ BS ((l'.drop off).take len)).length)], []⟩⟩ :: acc)) :
    AR F ops k (⟨some d, .call { callee := .builtin .append, args := #[x, y], argTypes := #[t, u] }, ty, pos, after, none⟩ :: l) ⟨T, B⟩ acc :=
  AR.st (e := ⟨[(d, .gr g e j.size (rows ++ BS ((l'.drop off).take len)))], [(g, .gw (rows ++ BS ((l'.drop off).take len)).length)], []⟩) rfl (.ext (growB_ext hi hd hj hu hiu hx hg hn hy hs hl hz hb)) (fun d hd => by simp at hd) ht h
theorem AO.sameB (hi : look tab t = some i) (hd : i.d = .slice e) (hj : look tab e = some j) (hjd : j.d = .int .u8) (hx : (⟨T, B⟩ : St).val x = .gr g e j.size rows) (hg : (⟨T, B⟩ : St).ob g = .gw n) (hn : n = rows.length) (h0 : 0 < rows.length)
    (h : AO F ops k l ⟨(d, .sh j.size rows) :: T, (g, .dead) :: B⟩) : AO F ops k (⟨some d, .convert t t x, ty, pos, after, none⟩ :: l) ⟨T, B⟩ :=
  AO.step (e := ⟨[(d, .sh j.size rows)], [(g, .dead)], []⟩) rfl (.ext (sameB_ext hi hd hj hjd hx hg hn h0)) (fun d hd => by simp at hd) h
theorem AO.appBox (hi : look tab t = some i) (hd : i.d = .slice e) (hj : look tab e = some j) (hu : look tab u = some iu) (hiu : isApp iu = true) (hx : (⟨T, B⟩ : St).val x = .gr g e j.size []) (hg : (⟨T, B⟩ : St).ob g = .gw 0)
    (hy : Ap j.size ((⟨T, B⟩ : St).val y) ys) (hys : 0 < ys.length) (hz : (decide (0 < j.size) && decide (0 < j.bytes) && decide (j.bytes ≤ 1024)) = true) (hb : ys.length ≤ 137438953472) (hf : (⟨T, B⟩ : St).freeB d = true)
    (h : AO F ops k l ⟨(d, .bsl d 0 ys.length j.size) :: T, (g, .dead) :: (d, .bx ys.flatten) :: B⟩) : AO F ops k (⟨some d, .call { callee := .builtin .append, args := #[x, y], argTypes := #[t, u] }, ty, pos, after, none⟩ :: l) ⟨T, B⟩ :=
  AO.step (e := ⟨[(d, .bsl d 0 ys.length j.size)], [(g, .dead), (d, .bx ys.flatten)], [d]⟩) rfl (.ext (appBox_ext hi hd hj hu hiu hx hg hy hys hz hb)) (fun e he => by simp at he; subst he; exact St.freeB_ok hf) h
theorem AO.growT {a b : List UInt8} (hi : look tab t = some i) (hd : i.d = .slice e) (hj : look tab e = some j) (hu : look tab u = some iu) (hiu : isApp iu = true) (hx : (⟨T, B⟩ : St).val x = .gr g e j.size rows) (hr : TB rows a) (hg : (⟨T, B⟩ : St).ob g = .gw n) (hn : n = rows.length)
    (hy : Ap j.size ((⟨T, B⟩ : St).val y) ys) (hs : TB ys b) (hz : (decide (0 < j.size) && decide (0 < j.bytes) && decide (j.bytes ≤ 1024)) = true) (hb : a.length + b.length ≤ 137438953472)
    (h : AO F ops k l ⟨(d, .gr g e j.size (BS (a ++ b))) :: T, (g, .gw (BS (a ++ b)).length) :: B⟩) : AO F ops k (⟨some d, .call { callee := .builtin .append, args := #[x, y], argTypes := #[t, u] }, ty, pos, after, none⟩ :: l) ⟨T, B⟩ := by
  have h1 := hr.eq; have h2 := hs.eq; subst h1; subst h2
  exact AO.grow hi hd hj hu hiu hx hg hn hy hz (by rw [BS_len, BS_len]; exact hb) (by rw [← BS_app]; exact h)
theorem AO.newT {b : List UInt8} (hi : look tab t = some i) (hd : i.d = .slice e) (hj : look tab e = some j) (hu : look tab u = some iu) (hiu : isApp iu = true) (hx : (⟨T, B⟩ : St).val x = .nil)
    (hy : Ap j.size ((⟨T, B⟩ : St).val y) ys) (hs : TB ys b) (hz : (decide (0 < j.size) && decide (0 < j.bytes) && decide (j.bytes ≤ 1024)) = true) (hb : b.length ≤ 137438953472) (hf : (⟨T, B⟩ : St).freeB d = true)
    (h : AO F ops k l ⟨(d, .gr d e j.size (BS b)) :: T, (d, .gw (BS b).length) :: B⟩) : AO F ops k (⟨some d, .call { callee := .builtin .append, args := #[x, y], argTypes := #[t, u] }, ty, pos, after, none⟩ :: l) ⟨T, B⟩ := by
  have h2 := hs.eq; subst h2
  exact AO.newr hi hd hj hu hiu hx hy hz (by rw [BS_len]; exact hb) hf h
theorem AO.growBT {a : List UInt8} {cs : List AV} (hi : look tab t = some i) (hd : i.d = .slice e) (hj : look tab e = some j) (hu : look tab u = some iu) (hiu : isApp iu = true) (hx : (⟨T, B⟩ : St).val x = .gr g e j.size rows) (hr : TB rows a) (hg : (⟨T, B⟩ : St).ob g = .gw n) (hn : n = rows.length)
    (hy : (⟨T, B⟩ : St).val y = .bsl s' off len 1) (hs : (⟨T, B⟩ : St).ob s' = .bx cs) (hcb : CB cs l') (hl : off + len ≤ l'.length) (hz : (decide (j.size = 1) && decide (0 < j.bytes) && decide (j.bytes ≤ 1024)) = true) (hb : a.length + len ≤ 137438953472)
    (h : AO F ops k l ⟨(d, .gr g e j.size (BS (a ++ (l'.drop off).take len))) :: T, (g, .gw (BS (a ++ (l'.drop off).take len)).length) :: B⟩) : AO F ops k (⟨some d, .call { callee := .builtin .append, args := #[x, y], argTypes := #[t, u] }, ty, pos, after, none⟩ :: l) ⟨T, B⟩ := by
  have h1 := hr.eq; subst h1; have h2 := hcb.eq; subst h2
  exact AO.growB hi hd hj hu hiu hx hg hn hy hs hl hz (by rw [BS_len]; exact hb) (by rw [← BS_app]; exact h)
theorem AO.buildT {ps : Array (Nat × Operand)} {b : List UInt8} (hi : look tab t = some i) (hd : i.d = .slice e) (hj : look tab e = some j) (h1 : ps.toList.map (·.1) = List.range len) (h2 : ps.toList.all (fun p => fitsIn j.size ((⟨T, B⟩ : St).val p.2) && ((⟨T, B⟩ : St).val p.2).cells.all AV.shut) = true)
    (h3 : (decide (len * j.size ≤ 16777216) && decide (0 < j.size)) = true) (hr : Wr (ps.toList.map fun p => ((⟨T, B⟩ : St).val p.2).cells.map AV.close) rows) (hs : TB rows b) (hf : (⟨T, B⟩ : St).freeB d = true)
    (h : AO F ops k l ⟨(d, .gr d e j.size (BS b)) :: T, (d, .gw (BS b).length) :: B⟩) : AO F ops k (⟨some d, .buildSlice t len ps, ty, pos, after, none⟩ :: l) ⟨T, B⟩ := by
  have h2' := hs.eq; subst h2'
  exact AO.buildS hi hd hj h1 h2 h3 hr hf h
theorem AR.growT {a b : List UInt8} (hi : look tab t = some i) (hd : i.d = .slice e) (hj : look tab e = some j) (hu : look tab u = some iu) (hiu : isApp iu = true) (hx : (⟨T, B⟩ : St).val x = .gr g e j.size rows) (hr : TB rows a) (hg : (⟨T, B⟩ : St).ob g = .gw n) (hn : n = rows.length)
    (hy : Ap j.size ((⟨T, B⟩ : St).val y) ys) (hs : TB ys b) (hz : (decide (0 < j.size) && decide (0 < j.bytes) && decide (j.bytes ≤ 1024)) = true) (hb : a.length + b.length ≤ 137438953472) (ht : LE (tagsAt ⟨T, B⟩ ⟨some d, .call { callee := .builtin .append, args := #[x, y], argTypes := #[t, u] }, ty, pos, after, none⟩) tg)
    (h : AR F ops k l ⟨(d, .gr g e j.size (BS (a ++ b))) :: T, (g, .gw (BS (a ++ b)).length) :: B⟩ (⟨tg, ⟨[(d, .gr g e j.size (BS (a ++ b)))], [(g, .gw (BS (a ++ b)).length)], []⟩⟩ :: acc)) : AR F ops k (⟨some d, .call { callee := .builtin .append, args := #[x, y], argTypes := #[t, u] }, ty, pos, after, none⟩ :: l) ⟨T, B⟩ acc := by
  have h1 := hr.eq; have h2 := hs.eq; subst h1; subst h2
  exact AR.grow hi hd hj hu hiu hx hg hn hy hz (by rw [BS_len, BS_len]; exact hb) ht (by rw [← BS_app]; exact h)
theorem AR.newT {b : List UInt8} (hi : look tab t = some i) (hd : i.d = .slice e) (hj : look tab e = some j) (hu : look tab u = some iu) (hiu : isApp iu = true) (hx : (⟨T, B⟩ : St).val x = .nil)
    (hy : Ap j.size ((⟨T, B⟩ : St).val y) ys) (hs : TB ys b) (hz : (decide (0 < j.size) && decide (0 < j.bytes) && decide (j.bytes ≤ 1024)) = true) (hb : b.length ≤ 137438953472) (hf : (⟨T, B⟩ : St).freeB d = true) (ht : LE (tagsAt ⟨T, B⟩ ⟨some d, .call { callee := .builtin .append, args := #[x, y], argTypes := #[t, u] }, ty, pos, after, none⟩) tg)
    (h : AR F ops k l ⟨(d, .gr d e j.size (BS b)) :: T, (d, .gw (BS b).length) :: B⟩ (⟨tg, ⟨[(d, .gr d e j.size (BS b))], [(d, .gw (BS b).length)], [d]⟩⟩ :: acc)) : AR F ops k (⟨some d, .call { callee := .builtin .append, args := #[x, y], argTypes := #[t, u] }, ty, pos, after, none⟩ :: l) ⟨T, B⟩ acc := by
  have h2 := hs.eq; subst h2
  exact AR.newr hi hd hj hu hiu hx hy hz (by rw [BS_len]; exact hb) hf ht h
theorem AR.growBT {a : List UInt8} {cs : List AV} (hi : look tab t = some i) (hd : i.d = .slice e) (hj : look tab e = some j) (hu : look tab u = some iu) (hiu : isApp iu = true) (hx : (⟨T, B⟩ : St).val x = .gr g e j.size rows) (hr : TB rows a) (hg : (⟨T, B⟩ : St).ob g = .gw n) (hn : n = rows.length)
    (hy : (⟨T, B⟩ : St).val y = .bsl s' off len 1) (hs : (⟨T, B⟩ : St).ob s' = .bx cs) (hcb : CB cs l') (hl : off + len ≤ l'.length) (hz : (decide (j.size = 1) && decide (0 < j.bytes) && decide (j.bytes ≤ 1024)) = true) (hb : a.length + len ≤ 137438953472) (ht : LE (tagsAt ⟨T, B⟩ ⟨some d, .call { callee := .builtin .append, args := #[x, y], argTypes := #[t, u] }, ty, pos, after, none⟩) tg)
    (h : AR F ops k l ⟨(d, .gr g e j.size (BS (a ++ (l'.drop off).take len))) :: T, (g, .gw (BS (a ++ (l'.drop off).take len)).length) :: B⟩ (⟨tg, ⟨[(d, .gr g e j.size (BS (a ++ (l'.drop off).take len)))], [(g, .gw (BS (a ++ (l'.drop off).take len)).length)], []⟩⟩ :: acc)) : AR F ops k (⟨some d, .call { callee := .builtin .append, args := #[x, y], argTypes := #[t, u] }, ty, pos, after, none⟩ :: l) ⟨T, B⟩ acc := by
  have h1 := hr.eq; subst h1; have h2 := hcb.eq; subst h2
  exact AR.growB hi hd hj hu hiu hx hg hn hy hs hl hz (by rw [BS_len]; exact hb) ht (by rw [← BS_app]; exact h)
theorem AR.buildT {ps : Array (Nat × Operand)} {b : List UInt8} (hi : look tab t = some i) (hd : i.d = .slice e) (hj : look tab e = some j) (h1 : ps.toList.map (·.1) = List.range len) (h2 : ps.toList.all (fun p => fitsIn j.size ((⟨T, B⟩ : St).val p.2) && ((⟨T, B⟩ : St).val p.2).cells.all AV.shut) = true)
    (h3 : (decide (len * j.size ≤ 16777216) && decide (0 < j.size)) = true) (hr : Wr (ps.toList.map fun p => ((⟨T, B⟩ : St).val p.2).cells.map AV.close) rows) (hs : TB rows b) (hf : (⟨T, B⟩ : St).freeB d = true) (ht : LE (tagsAt ⟨T, B⟩ ⟨some d, .buildSlice t len ps, ty, pos, after, none⟩) tg)
    (h : AR F ops k l ⟨(d, .gr d e j.size (BS b)) :: T, (d, .gw (BS b).length) :: B⟩ (⟨tg, ⟨[(d, .gr d e j.size (BS b))], [(d, .gw (BS b).length)], [d]⟩⟩ :: acc)) : AR F ops k (⟨some d, .buildSlice t len ps, ty, pos, after, none⟩ :: l) ⟨T, B⟩ acc := by
  have h2' := hs.eq; subst h2'
  exact AR.buildS hi hd hj h1 h2 h3 hr hf ht h
theorem mk0_mop {m : Int} (hi : look tab t = some i) (hd : i.d = .slice e) (hj : look tab e = some j) (hx : (⟨T, B⟩ : St).val x = .i .i64 0) (hy : (⟨T, B⟩ : St).val y = .i .i64 m) (hz : (decide (0 < j.size) && decide (j.bytes ≤ 1024) && (j.zero.map ofVal).all AV.shut) = true) (hm : 0 ≤ m ∧ m ≤ 137438953472) :
    mop tab ⟨T, B⟩ ⟨some d, .makeSlice t x y, ty, pos, after, none⟩ = some ⟨[(d, .gr d e j.size [])], [(d, .gw 0)], [d]⟩ := by
  simp only [Bool.and_eq_true, decide_eq_true_eq] at hz
  simp only [mop, hi, hd, hj, hx, hy]
  have hb : (j.bytes : Int) * m ≤ 140737488355328 := by
    have h1 : (j.bytes : Int) * m ≤ 1024 * 137438953472 := Int.mul_le_mul (by omega) hm.2 hm.1 (by decide)
    omega
  rw [if_pos ⟨by decide, hm.1, by omega, hb, hz.1.1, hz.2⟩]
  rfl
theorem AO.mk0 {m : Int} (hi : look tab t = some i) (hd : i.d = .slice e) (hj : look tab e = some j) (hx : (⟨T, B⟩ : St).val x = .i .i64 0) (hy : (⟨T, B⟩ : St).val y = .i .i64 m) (hz : (decide (0 < j.size) && decide (j.bytes ≤ 1024) && (j.zero.map ofVal).all AV.shut) = true) (hm : 0 ≤ m ∧ m ≤ 137438953472) (hf : (⟨T, B⟩ : St).freeB d = true)
    (h : AO F ops k l ⟨(d, .gr d e j.size []) :: T, (d, .gw 0) :: B⟩) : AO F ops k (⟨some d, .makeSlice t x y, ty, pos, after, none⟩ :: l) ⟨T, B⟩ :=
  AO.step (e := ⟨[(d, .gr d e j.size [])], [(d, .gw 0)], [d]⟩) rfl (.mem (mk0_mop hi hd hj hx hy hz hm)) (fun e he => by simp at he; subst he; exact St.freeB_ok hf) h
theorem AO.appBoxB {b : List UInt8} (hi : look tab t = some i) (hd : i.d = .slice e) (hj : look tab e = some j) (hu : look tab u = some iu) (hiu : isApp iu = true) (hx : (⟨T, B⟩ : St).val x = .gr g e j.size []) (hg : (⟨T, B⟩ : St).ob g = .gw 0)
    (hy : Ap j.size ((⟨T, B⟩ : St).val y) ys) (hs : TB ys b) (hys : 0 < b.length) (hz : (decide (0 < j.size) && decide (0 < j.bytes) && decide (j.bytes ≤ 1024)) = true) (hb : b.length ≤ 137438953472) (hf : (⟨T, B⟩ : St).freeB d = true)
    (h : AO F ops k l ⟨(d, .bsl d 0 b.length j.size) :: T, (g, .dead) :: (d, .bx (cellsB b)) :: B⟩) : AO F ops k (⟨some d, .call { callee := .builtin .append, args := #[x, y], argTypes := #[t, u] }, ty, pos, after, none⟩ :: l) ⟨T, B⟩ := by
  have h1 := hs.eq
  subst h1
  refine AO.appBox hi hd hj hu hiu hx hg hy (by rw [BS_len]; exact hys) hz (by rw [BS_len]; exact hb) hf ?_
  rw [BS_len, BS_flat]; exact h
theorem AO.kIx (h : AO F ops k (⟨some d, .indexAddr t x y, ty, pos, after, none⟩ :: l) ⟨T, B⟩) : AO F ops k (⟨some d, .indexAddr t x y, ty, pos, after, none⟩ :: l) ⟨T, B⟩ := h
theorem AR.kIx (h : AR F ops k (⟨some d, .indexAddr t x y, ty, pos, after, none⟩ :: l) ⟨T, B⟩ acc) : AR F ops k (⟨some d, .indexAddr t x y, ty, pos, after, none⟩ :: l) ⟨T, B⟩ acc := h
theorem AO.kSl (h : AO F ops k (⟨some d, .slice t x lo hi none, ty, pos, after, none⟩ :: l) ⟨T, B⟩) : AO F ops k (⟨some d, .slice t x lo hi none, ty, pos, after, none⟩ :: l) ⟨T, B⟩ := h
theorem AR.kSl (h : AR F ops k (⟨some d, .slice t x lo hi none, ty, pos, after, none⟩ :: l) ⟨T, B⟩ acc) : AR F ops k (⟨some d, .slice t x lo hi none, ty, pos, after, none⟩ :: l) ⟨T, B⟩ acc := h
end
end
end Go.Proofs.Ytocppeifkjdeiaa.Mv
