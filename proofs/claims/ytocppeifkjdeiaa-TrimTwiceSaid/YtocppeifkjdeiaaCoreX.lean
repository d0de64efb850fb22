/- A machine for proofs, part X: steps, in forms that unify. Under no condition. -/
import Derived.Test.YtocppeifkjdeiaaCoreW
namespace Go.Proofs.Ytocppeifkjdeiaa.Mv
open Go
set_option linter.unusedSimpArgs false
set_option linter.unusedVariables false

/-- The same list, written out. -/
inductive LE {α : Type} : List α → List α → Prop
  | nil : LE [] []
  | cons {a as bs} : LE as bs → LE (a :: as) (a :: bs)
theorem LE.eq {α : Type} {as bs : List α} (h : LE as bs) : as = bs := by induction h <;> simp_all
inductive LE2 {α : Type} : List (List α) → List (List α) → Prop
  | nil : LE2 [] []
  | cons {a b as bs} : LE a b → LE2 as bs → LE2 (a :: as) (b :: bs)
theorem LE2.eq {α : Type} {as bs : List (List α)} (h : LE2 as bs) : as = bs := by
  induction h with
  | nil => rfl
  | cons h1 _ ih => rw [h1.eq, ih]

/-- The same values, written out. -/
inductive Wf : List AV → List AV → Prop
  | nil : Wf [] []
  | s {l as bs} : Wf as bs → Wf (.s l :: as) (.s l :: bs)
  | b {t as bs} : Wf as bs → Wf (.b t :: as) (.b t :: bs)
  | i {k n as bs} : Wf as bs → Wf (.i k n :: as) (.i k n :: bs)
  | ptr {t o as bs} : Wf as bs → Wf (.ptr t o :: as) (.ptr t o :: bs)
  | agg {cs cs' as bs} : Wf cs cs' → Wf as bs → Wf (.agg cs :: as) (.agg cs' :: bs)
  | tup {cs cs' as bs} : Wf cs cs' → Wf as bs → Wf (.tup cs :: as) (.tup cs' :: bs)
  | gr {t e sz rows as bs} : Wf as bs → Wf (.gr t e sz rows :: as) (.gr t e sz rows :: bs)
  | sh {sz rows as bs} : Wf as bs → Wf (.sh sz rows :: as) (.sh sz rows :: bs)
  | nul {as bs} : Wf as bs → Wf (.nil :: as) (.nil :: bs)
  | pel {cs cs' as bs} : Wf cs cs' → Wf as bs → Wf (.pel cs :: as) (.pel cs' :: bs)
  | pelx {cs as bs} : Wf as bs → Wf (.pel cs :: as) (.pel cs :: bs)
  | bsl {t off n sz as bs} : Wf as bs → Wf (.bsl t off n sz :: as) (.bsl t off n sz :: bs)
  | clo {f cs cs' as bs} : Wf cs cs' → Wf as bs → Wf (.clo f cs :: as) (.clo f cs' :: bs)
  | x {v as bs} : Wf as bs → Wf (.x v :: as) (.x v :: bs)
  | u {as bs} : Wf as bs → Wf (.u :: as) (.u :: bs)
  | any {as bs} : Wf as bs → Wf (.any :: as) (.any :: bs)
theorem Wf.eq {as bs : List AV} (h : Wf as bs) : as = bs := by induction h <;> simp_all
def Wh (c d : AV) : Prop := Wf [c] [d]
theorem Wh.eq {c d : AV} (h : Wh c d) : c = d := by
  have := Wf.eq h
  simpa using this

def St.freeB (s : St) (d : Nat) : Bool := decide (d < 1000000) && !(St.refsT s.T).contains d && !(St.refsB s.B).contains d
theorem St.freeB_ok {s : St} {d : Nat} (h : s.freeB d = true) : s.free d := by
  simp only [St.freeB, Bool.and_eq_true, decide_eq_true_eq] at h
  exact ⟨h.1.1, by simpa using h.1.2, by simpa using h.2⟩

/-- A number's lowest byte. -/
def u8 (n : Int) : UInt8 := UInt8.ofNat (n % 256).toNat
theorem wrapB (n : Int) : IntKind.wrap .u8 n = ((u8 n).toNat : Int) := by
  simp only [IntKind.wrap, IntKind.bits, IntKind.signed, Bool.false_and, Bool.false_eq_true, if_false, u8, UInt8.toNat_ofNat', Int.reducePow, Nat.reducePow]
  omega
theorem u8_succ (x : UInt8) : u8 ((x.toNat : Int) + 1) = x + 1 := by
  apply UInt8.toNat_inj.1
  simp only [u8, UInt8.toNat_ofNat', UInt8.toNat_add]
  have : (1 : UInt8).toNat = 1 := rfl
  rw [this]
  omega
theorem wrap64 {n : Int} (h : -9223372036854775808 ≤ n ∧ n ≤ 9223372036854775807) : IntKind.wrap .i64 n = n := by
  simp only [IntKind.wrap, IntKind.bits, IntKind.signed, Bool.true_and, decide_eq_true_eq, ge_iff_le, Nat.reduceSub, Int.reducePow]
  split <;> omega

section
variable {P : Program} {tab : Tab} {N : Nat} {D : St → Prop} {F : Fx P tab N D} {ops : Array Oper} {k : List It} {l : List Oper} {T : List (Nat × AV)} {B : List (Nat × Ob)}
  {d ty : Nat} {pos : String} {after : Array Edge} {op : Op}

/-! ### a region's operations, in the order of the text -/
theorem AO.p' {v : AV} (hp : pop tab ⟨T, B⟩ op = some v) (h : AO F ops k l ⟨(d, v) :: T, B⟩) : AO F ops k (⟨some d, op, ty, pos, after, none⟩ :: l) ⟨T, B⟩ :=
  AO.step rfl (.pure hp rfl) (fun d hd => by simp [putEff] at hd) h
theorem AO.p {v v' : AV} (hp : pop tab ⟨T, B⟩ op = some v) (hv : Wh v v') (h : AO F ops k l ⟨(d, v') :: T, B⟩) : AO F ops k (⟨some d, op, ty, pos, after, none⟩ :: l) ⟨T, B⟩ :=
  AO.p' (by rw [hp, hv.eq]) h
theorem AO.pn {v : AV} (hp : pop tab ⟨T, B⟩ op = some v) (h : AO F ops k l ⟨T, B⟩) : AO F ops k (⟨none, op, ty, pos, after, none⟩ :: l) ⟨T, B⟩ :=
  AO.step rfl (.pure hp rfl) (fun d hd => by simp [putEff] at hd) h
theorem AO.pi {v v' : AV} {p : Prop} [Decidable p] (hp : pop tab ⟨T, B⟩ op = if p then some v else none) (hv : Wh v v') (hq : p) (h : AO F ops k l ⟨(d, v') :: T, B⟩) : AO F ops k (⟨some d, op, ty, pos, after, none⟩ :: l) ⟨T, B⟩ :=
  AO.p' (by rw [hp, if_pos hq, hv.eq]) h

section
variable {t : TypeId} {x y : Operand} {i : TyI}
theorem box_mop {cs : List AV} (hc : Wf ((⟨T, B⟩ : St).val x).cells cs) (hfit : (fitsIn ((⟨T, B⟩ : St).val x).cells.length ((⟨T, B⟩ : St).val x) && ((⟨T, B⟩ : St).val x).cells.all AV.leaf) = true) :
    mop tab ⟨T, B⟩ ⟨some d, .box t x, ty, pos, after, none⟩ = some ⟨[(d, .ptr d 0)], [(d, .bx cs)], [d]⟩ := by
  simp only [Bool.and_eq_true] at hfit
  simp only [mop, hc.eq] at hfit ⊢
  rw [if_pos hfit]
theorem alloc_mop {cs : List AV} (hi : look tab t = some i) (hc : Wf (i.zero.map ofVal) cs) :
    mop tab ⟨T, B⟩ ⟨some d, .alloc t, ty, pos, after, none⟩ = some ⟨[(d, .ptr d 0)], [(d, .bx cs)], [d]⟩ := by
  simp only [mop, hi, hc.eq]
theorem store_mop {g off : Nat} {cs cs' : List AV} (hi : look tab t = some i) (hx : (⟨T, B⟩ : St).val x = .ptr g off) (hg : (⟨T, B⟩ : St).ob g = .bx cs) (hc : Wf (splice cs off ((⟨T, B⟩ : St).val y).cells) cs')
    (hfit : (fitsIn i.size ((⟨T, B⟩ : St).val y) && ((⟨T, B⟩ : St).val y).cells.all AV.leaf && decide (off + i.size ≤ cs.length)) = true) :
    mop tab ⟨T, B⟩ ⟨none, .store t x y, ty, pos, after, none⟩ = some ⟨[], [(g, .bx cs')], []⟩ := by
  simp only [Bool.and_eq_true, decide_eq_true_eq] at hfit
  simp only [mop, hi, hx, hg, hc.eq]
  rw [if_pos ⟨hfit.1.1, hfit.1.2, hfit.2⟩]
theorem AO.box {cs : List AV} (hc : Wf ((⟨T, B⟩ : St).val x).cells cs) (hfit : (fitsIn ((⟨T, B⟩ : St).val x).cells.length ((⟨T, B⟩ : St).val x) && ((⟨T, B⟩ : St).val x).cells.all AV.leaf) = true) (hf : (⟨T, B⟩ : St).freeB d = true)
    (h : AO F ops k l ⟨(d, .ptr d 0) :: T, (d, .bx cs) :: B⟩) : AO F ops k (⟨some d, .box t x, ty, pos, after, none⟩ :: l) ⟨T, B⟩ :=
  AO.step (e := ⟨[(d, .ptr d 0)], [(d, .bx cs)], [d]⟩) rfl (.mem (box_mop hc hfit)) (fun e he => by simp at he; subst he; exact St.freeB_ok hf) h
theorem AO.alloc {cs : List AV} (hi : look tab t = some i) (hc : Wf (i.zero.map ofVal) cs) (hf : (⟨T, B⟩ : St).freeB d = true)
    (h : AO F ops k l ⟨(d, .ptr d 0) :: T, (d, .bx cs) :: B⟩) : AO F ops k (⟨some d, .alloc t, ty, pos, after, none⟩ :: l) ⟨T, B⟩ :=
  AO.step (e := ⟨[(d, .ptr d 0)], [(d, .bx cs)], [d]⟩) rfl (.mem (alloc_mop hi hc)) (fun e he => by simp at he; subst he; exact St.freeB_ok hf) h
theorem AO.store {g off : Nat} {cs cs' : List AV} (hi : look tab t = some i) (hx : (⟨T, B⟩ : St).val x = .ptr g off) (hg : (⟨T, B⟩ : St).ob g = .bx cs) (hc : Wf (splice cs off ((⟨T, B⟩ : St).val y).cells) cs')
    (hfit : (fitsIn i.size ((⟨T, B⟩ : St).val y) && ((⟨T, B⟩ : St).val y).cells.all AV.leaf && decide (off + i.size ≤ cs.length)) = true)
    (h : AO F ops k l ⟨T, (g, .bx cs') :: B⟩) : AO F ops k (⟨none, .store t x y, ty, pos, after, none⟩ :: l) ⟨T, B⟩ :=
  AO.step (e := ⟨[], [(g, .bx cs')], []⟩) rfl (.mem (store_mop hi hx hg hc hfit)) (fun e he => by simp at he) h
theorem conv_mop {l : List UInt8} {j ie : TyI} {t' e : TypeId} (hi : look tab t = some i) (hj : look tab t' = some j) (hx : (⟨T, B⟩ : St).val x = .s l) (h1 : i.d = .string) (h2 : j.d = .slice e) (h3 : look tab e = some ie) (h4 : ie.d = .int .u8) (hl : l.length ≤ 137438953472) :
    mop tab ⟨T, B⟩ ⟨some d, .convert t t' x, ty, pos, after, none⟩ = some ⟨[(d, .bsl d 0 l.length 1)], [(d, .bx (cellsB l))], [d]⟩ := by
  simp only [mop, hi, hj, hx, h1, h2, h3, h4]
  rw [if_pos hl]
/-- A string's bytes, in a row of their own. -/
theorem AO.bytes {l' : List UInt8} {j ie : TyI} {t' e : TypeId} (hi : look tab t = some i) (hj : look tab t' = some j) (hx : (⟨T, B⟩ : St).val x = .s l') (h1 : i.d = .string) (h2 : j.d = .slice e) (h3 : look tab e = some ie) (h4 : ie.d = .int .u8) (hl : l'.length ≤ 137438953472) (hf : (⟨T, B⟩ : St).freeB d = true)
    (h : AO F ops k l ⟨(d, .bsl d 0 l'.length 1) :: T, (d, .bx (cellsB l')) :: B⟩) : AO F ops k (⟨some d, .convert t t' x, ty, pos, after, none⟩ :: l) ⟨T, B⟩ :=
  AO.step (e := ⟨[(d, .bsl d 0 l'.length 1)], [(d, .bx (cellsB l'))], [d]⟩) rfl (.mem (conv_mop hi hj hx h1 h2 h3 h4 hl)) (fun e he => by simp at he; subst he; exact St.freeB_ok hf) h
/-- A byte of such a row. -/
theorem AO.loadB {l' : List UInt8} {g off : Nat} (hi : look tab t = some i) (ha : i.agg = false) (hx : (⟨T, B⟩ : St).val x = .ptr g off) (hg : (⟨T, B⟩ : St).ob g = .bx (cellsB l')) (ho : off < l'.length)
    (h : AO F ops k l ⟨(d, .i .u8 ((l'.getD off 0).toNat : Int)) :: T, B⟩) : AO F ops k (⟨some d, .load t x, ty, pos, after, none⟩ :: l) ⟨T, B⟩ :=
  AO.p' (by
    simp only [pop, hi, hx, hg, part, ha, Bool.false_eq_true, if_false, List.head?_drop]
    simp [cellsB, List.getD, List.getElem?_eq_getElem ho]) h
theorem cellsB_set (l : List UInt8) (off : Nat) (b : UInt8) (ho : off < l.length) : splice (cellsB l) off [.i .u8 (b.toNat : Int)] = cellsB (l.set off b) := by
  simp only [splice, cellsB, List.length_cons, List.length_nil, ← List.map_take, ← List.map_drop]
  rw [List.set_eq_take_append_cons_drop, if_pos ho]
  simp
theorem AO.storeB {l' : List UInt8} {g off : Nat} {b : UInt8} {n : Int} (hi : look tab t = some i) (hs : i.size = 1) (hx : (⟨T, B⟩ : St).val x = .ptr g off) (hg : (⟨T, B⟩ : St).ob g = .bx (cellsB l')) (hy : (⟨T, B⟩ : St).val y = .i .u8 n) (hn : n = (b.toNat : Int)) (ho : off < l'.length)
    (h : AO F ops k l ⟨T, (g, .bx (cellsB (l'.set off b))) :: B⟩) : AO F ops k (⟨none, .store t x y, ty, pos, after, none⟩ :: l) ⟨T, B⟩ :=
  AO.step (e := ⟨[], [(g, .bx (cellsB (l'.set off b)))], []⟩) rfl (.mem (by
    subst hn
    simp only [mop, hi, hx, hg, hy, AV.cells, hs, cellsB_set l' off b ho]
    rw [if_pos ⟨by simp [fitsIn, AV.leaf], by simp [AV.leaf], by simp [cellsB]; omega⟩])) (fun e he => by simp at he) h
theorem AO.str {l' : List UInt8} {j ie : TyI} {t' e : TypeId} {g off n : Nat} (hi : look tab t = some i) (hj : look tab t' = some j) (hx : (⟨T, B⟩ : St).val x = .bsl g off n 1) (hg : (⟨T, B⟩ : St).ob g = .bx (cellsB l')) (h1 : i.d = .slice e) (h2 : j.d = .string) (h3 : look tab e = some ie) (h4 : ie.d = .int .u8) (hn : off + n ≤ l'.length)
    (h : AO F ops k l ⟨(d, .s ((l'.drop off).take n)) :: T, B⟩) : AO F ops k (⟨some d, .convert t t' x, ty, pos, after, none⟩ :: l) ⟨T, B⟩ :=
  AO.p' (by
    simp only [pop, hi, hj, hx, hg, h1, h2, h3, h4]
    rw [if_pos (by simpa [cellsB] using hn)]
    have : ((cellsB l').drop off).take n = cellsB ((l'.drop off).take n) := by simp [cellsB]
    rw [this, toCells_B]; rfl) h
theorem AO.add {a b : Int} (hx : (⟨T, B⟩ : St).val x = .i .i64 a) (hy : (⟨T, B⟩ : St).val y = .i .i64 b) (hr : -9223372036854775808 ≤ a + b ∧ a + b ≤ 9223372036854775807)
    (h : AO F ops k l ⟨(d, .i .i64 (a + b)) :: T, B⟩) {z} : AO F ops k (⟨some d, .binOp .add t x y z, ty, pos, after, none⟩ :: l) ⟨T, B⟩ :=
  AO.p' (by
    simp only [pop, hx, hy, bin, intBin, isShift, true_or, if_true]
    rw [wrap64 hr]) h
theorem AO.sub {a b : Int} (hx : (⟨T, B⟩ : St).val x = .i .i64 a) (hy : (⟨T, B⟩ : St).val y = .i .i64 b) (hr : -9223372036854775808 ≤ a - b ∧ a - b ≤ 9223372036854775807)
    (h : AO F ops k l ⟨(d, .i .i64 (a - b)) :: T, B⟩) {z} : AO F ops k (⟨some d, .binOp .sub t x y z, ty, pos, after, none⟩ :: l) ⟨T, B⟩ :=
  AO.p' (by
    simp only [pop, hx, hy, bin, intBin, isShift, true_or, if_true]
    rw [wrap64 hr]) h
end

/-- One that waits for a test. -/
theorem AO.g' {g : Nat × Bool} {o : Option Nat} {x : Bool} (hw : wants ops ⟨T, B⟩ ⟨o, op, ty, pos, after, some g⟩ = some x)
    (h1 : x = true → AO F ops k (⟨o, op, ty, pos, after, none⟩ :: l) ⟨T, B⟩) (h2 : x = false → AO F ops k l ((⟨T, B⟩ : St).puto o .u)) : AO F ops k (⟨o, op, ty, pos, after, some g⟩ :: l) ⟨T, B⟩ := by
  cases x with
  | false => exact AO.pass hw (h2 rfl)
  | true =>
    intro hok hl a w hr
    have := h1 rfl hok (by simpa [okOper] using hl) a w hr
    obtain ⟨Γ, m, hw'⟩ := hr
    unfold wpList at this ⊢
    obtain ⟨c, rfl, rfl, tok, mo, Z, fin⟩ := F
    rw [wants_spec hw' hok hw]
    rw [if_pos (show Region.wanted ⟨o, op, ty, pos, after, none⟩ (yielded ops a.tmps) = true from rfl)] at this
    simp only [if_true]
    exact this

theorem AO.gt {g : Nat × Bool} {x : Bool} (hw : wants ops ⟨T, B⟩ ⟨some d, op, ty, pos, after, some g⟩ = some (x == true))
    (h1 : x = true → AO F ops k (⟨some d, op, ty, pos, after, none⟩ :: l) ⟨T, B⟩) (h2 : x = false → AO F ops k l ⟨(d, .u) :: T, B⟩) : AO F ops k (⟨some d, op, ty, pos, after, some g⟩ :: l) ⟨T, B⟩ := AO.g' hw (fun h => h1 (by simpa using h)) (fun h => h2 (by simpa using h))
theorem AO.gf {g : Nat × Bool} {x : Bool} (hw : wants ops ⟨T, B⟩ ⟨some d, op, ty, pos, after, some g⟩ = some (x == false))
    (h1 : x = false → AO F ops k (⟨some d, op, ty, pos, after, none⟩ :: l) ⟨T, B⟩) (h2 : x = true → AO F ops k l ⟨(d, .u) :: T, B⟩) : AO F ops k (⟨some d, op, ty, pos, after, some g⟩ :: l) ⟨T, B⟩ := AO.g' hw (fun h => h1 (by simpa using h)) (fun h => h2 (by simpa using h))
theorem AO.gnt {g : Nat × Bool} {x : Bool} (hw : wants ops ⟨T, B⟩ ⟨none, op, ty, pos, after, some g⟩ = some (x == true))
    (h1 : x = true → AO F ops k (⟨none, op, ty, pos, after, none⟩ :: l) ⟨T, B⟩) (h2 : x = false → AO F ops k l ⟨T, B⟩) : AO F ops k (⟨none, op, ty, pos, after, some g⟩ :: l) ⟨T, B⟩ := AO.g' hw (fun h => h1 (by simpa using h)) (fun h => h2 (by simpa using h))
theorem AO.gnf {g : Nat × Bool} {x : Bool} (hw : wants ops ⟨T, B⟩ ⟨none, op, ty, pos, after, some g⟩ = some (x == false))
    (h1 : x = false → AO F ops k (⟨none, op, ty, pos, after, none⟩ :: l) ⟨T, B⟩) (h2 : x = true → AO F ops k l ⟨T, B⟩) : AO F ops k (⟨none, op, ty, pos, after, some g⟩ :: l) ⟨T, B⟩ := AO.g' hw (fun h => h1 (by simpa using h)) (fun h => h2 (by simpa using h))
theorem AO.gs {g : Nat × Bool} (hw : wants ops ⟨T, B⟩ ⟨some d, op, ty, pos, after, some g⟩ = some false) (h2 : AO F ops k l ⟨(d, .u) :: T, B⟩) : AO F ops k (⟨some d, op, ty, pos, after, some g⟩ :: l) ⟨T, B⟩ := AO.pass hw h2
theorem AO.gns {g : Nat × Bool} (hw : wants ops ⟨T, B⟩ ⟨none, op, ty, pos, after, some g⟩ = some false) (h2 : AO F ops k l ⟨T, B⟩) : AO F ops k (⟨none, op, ty, pos, after, some g⟩ :: l) ⟨T, B⟩ := AO.pass hw h2
theorem AW.r {id : Nat} {l : List Oper} {st : St} (hok : l.all (okOper N) = true) (h : AO F l.toArray k l st) : AW F (.c (.region id l.toArray false) :: k) st := AW.region hok h
theorem AW.rd {id : Nat} {l : List Oper} {st : St} (hok : l.all (okOper N) = true) (h : AR F l.toArray k l st []) : AW F (.c (.region id l.toArray true) :: k) st := AW.draw hok h

/-- A loop: what holds at its head, the states by name, what sinks. -/
theorem AW.loopI {α : Type} {st : St} {body : Code} (I : α → Prop) (S : α → St) (μ : α → Nat) (x : α) (hx : I x) (hst : StLe Tr st (S x))
    (h : ∀ n x, I x → (∀ y st', I y → μ y < μ x → StLe Tr st' (S y) → AW F (.lp n body :: k) st') → AW F (.c body :: .lp n body :: k) (S x)) : AW F (.c (.loop body) :: k) st :=
  AW.less hst (AW.loop (α := { x : α // I x }) (fun x => S x.1) (fun x => μ x.1) (fun n x ih => h n x.1 x.2 fun y st' hy hμ hl => AW.less hl (ih ⟨y, hy⟩ hμ)) ⟨x, hx⟩)

/-! ### which kind it is -/
section
variable {st : St} {t : TypeId} {x y : Operand} {z : TypeId} {dd : Option Nat} {g : Option (Nat × Bool)} {gg : Nat × Bool} {xs : Array Operand} {ts : Array TypeId}
theorem AO.kBox (h : AO F ops k (⟨some d, .box t x, ty, pos, after, none⟩ :: l) st) : AO F ops k (⟨some d, .box t x, ty, pos, after, none⟩ :: l) st := h
theorem AO.kAlloc (h : AO F ops k (⟨some d, .alloc t, ty, pos, after, none⟩ :: l) st) : AO F ops k (⟨some d, .alloc t, ty, pos, after, none⟩ :: l) st := h
theorem AO.kCv {t' : TypeId} (h : AO F ops k (⟨some d, .convert t t' x, ty, pos, after, none⟩ :: l) st) : AO F ops k (⟨some d, .convert t t' x, ty, pos, after, none⟩ :: l) st := h
theorem AO.kStore (h : AO F ops k (⟨none, .store t x y, ty, pos, after, none⟩ :: l) st) : AO F ops k (⟨none, .store t x y, ty, pos, after, none⟩ :: l) st := h
theorem AO.kAdd (h : AO F ops k (⟨some d, .binOp .add t x y z, ty, pos, after, none⟩ :: l) st) : AO F ops k (⟨some d, .binOp .add t x y z, ty, pos, after, none⟩ :: l) st := h
theorem AO.kSub (h : AO F ops k (⟨some d, .binOp .sub t x y z, ty, pos, after, none⟩ :: l) st) : AO F ops k (⟨some d, .binOp .sub t x y z, ty, pos, after, none⟩ :: l) st := h
theorem AO.kCall (f : FuncId) (h : AO F ops k (⟨dd, .call { callee := .value (.func f), args := xs, argTypes := ts }, ty, pos, after, none⟩ :: l) st) : AO F ops k (⟨dd, .call { callee := .value (.func f), args := xs, argTypes := ts }, ty, pos, after, none⟩ :: l) st := h
theorem AO.kG (h : AO F ops k (⟨dd, op, ty, pos, after, some gg⟩ :: l) st) : AO F ops k (⟨dd, op, ty, pos, after, some gg⟩ :: l) st := h
theorem AO.kP (h : AO F ops k (⟨some d, op, ty, pos, after, none⟩ :: l) st) : AO F ops k (⟨some d, op, ty, pos, after, none⟩ :: l) st := h
theorem AO.kPn (h : AO F ops k (⟨none, op, ty, pos, after, none⟩ :: l) st) : AO F ops k (⟨none, op, ty, pos, after, none⟩ :: l) st := h
theorem AW.kR {id : Nat} {l : List Oper} (h : AW F (.c (.region id l.toArray false) :: k) st) : AW F (.c (.region id l.toArray false) :: k) st := h
theorem AW.kRd {id : Nat} {l : List Oper} (h : AW F (.c (.region id l.toArray true) :: k) st) : AW F (.c (.region id l.toArray true) :: k) st := h
theorem AW.kC {c e : Code} (h : AW F (.c (.cond x c e) :: k) st) : AW F (.c (.cond x c e) :: k) st := h
theorem AW.kE {id : Nat} (h : AW F (.c (.exit id) :: k) st) : AW F (.c (.exit id) :: k) st := h
end

/-! ### calls -/
theorem call_pure {st : St} {fx : Operand} {xs : Array Operand} {ts : Array TypeId} {f : FuncId} {caps args as : List AV} {res : AV} (hc : st.val fx = .clo f caps) (ha : Wf (xs.toList.map st.val ++ caps) as) (hg : Good P f args [] res []) (hl : LeL as args) (hr : res.refs = []) {g} :
    CallOk P st ⟨some d, .call { callee := .value fx, args := xs, argTypes := ts }, ty, pos, after, g⟩ ⟨[(d, res)], [], []⟩ :=
  ⟨fx, xs, ts, d, f, caps, args, [], res, [], fun t => t, rfl, rfl, hc, hg, by
      rw [ha.eq, ren_id.go]; exact hl, fun p hp => by simp at hp, fun s hs => by simp at hs, fun s hs => by simp at hs, by simp, fun t ht => by rw [hr] at ht; simp at ht, fun p hp => by simp at hp, by
      simp [ren_id]⟩
theorem AO.call {fx : Operand} {xs : Array Operand} {ts : Array TypeId} {f : FuncId} {caps args as : List AV} {res : AV} (hc : (⟨T, B⟩ : St).val fx = .clo f caps) (ha : Wf (xs.toList.map (⟨T, B⟩ : St).val ++ caps) as) (hg : Good P f args [] res []) (hl : LeL as args) (hr : res.refs = [])
    (h : AO F ops k l ⟨(d, res) :: T, B⟩) : AO F ops k (⟨some d, .call { callee := .value fx, args := xs, argTypes := ts }, ty, pos, after, none⟩ :: l) ⟨T, B⟩ :=
  AO.step (e := ⟨[(d, res)], [], []⟩) rfl (.call (call_pure hc ha hg hl hr)) (fun d hd => by simp at hd) h
/-! ### the end -/
theorem Lx.b {H} {x y : Bool} (h : x = y) : Lx H (.b x) (.b y) := .eq (by rw [h])
theorem Lx.s {H} {x y : List UInt8} (h : x = y) : Lx H (.s x) (.s y) := .eq (by rw [h])
theorem Lx.i {H} {k : IntKind} {x y : Int} (h : x = y) : Lx H (.i k x) (.i k y) := .eq (by rw [h])
theorem Lx.tup {H} {cs ds : List AV} (h : LxL H cs ds) : Lx H (.tup cs) (.tup ds) := fun Γ m v hh hr => by
  obtain ⟨vs, rfl, h1, h2⟩ := hr.tup_inv
  refine .tup vs (by rw [h1, h.len]) fun j v d hv hd => ?_
  have hj : j < cs.length := by rw [h.len]; exact (List.getElem?_eq_some_iff.1 hd).1
  exact h.at j _ d (List.getElem?_eq_getElem hj) hd _ _ _ hh (h2 j v _ hv (List.getElem?_eq_getElem hj))
end

/-- From a walk to a contract, the slots at the start written out. -/
theorem Good.w {P : Program} {tab : Tab} (ht : TabOk P tab) (mo : P.follows .mixedOrders = true) {f : FuncId} {fn : Func} {code : Code} {rs : List ResultVar} {N : Nat} {args : List AV} {res : AV} {T : List (Nat × AV)}
    (hf : P.funcs[f]? = some fn) (hfn : fnB fn N args.length = true) (hb : fn.body = some code) (hrs : LE fn.results.toList rs) (hT : LE (entT 0 args) T)
    (h : ∀ D : St → Prop, (∀ {st cs}, resAll tab st rs = some cs → Lx Tr (resTup cs) res → D st) → ∀ F : Fx P tab N D, AW F [.c code] ⟨T, []⟩) : Good P f args [] res [] :=
  Good.walk ht mo hf hfn hb hrs.eq (fun p hp => by simp at hp) (by rw [hT.eq]; exact h _ fun h1 h2 => Done.plain h1 h2)


end Go.Proofs.Ytocppeifkjdeiaa.Mv
