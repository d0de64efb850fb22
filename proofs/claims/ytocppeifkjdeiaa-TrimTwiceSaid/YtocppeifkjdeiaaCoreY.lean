/- A machine for proofs, part Y: steps in any order, in forms that unify. Under no condition. -/
import Derived.Test.YtocppeifkjdeiaaCoreX
namespace Go.Proofs.Ytocppeifkjdeiaa.Mv
open Go
set_option linter.unusedSimpArgs false
set_option linter.unusedVariables false

section
variable {P : Program} {tab : Tab} {N : Nat} {D : St → Prop} {F : Fx P tab N D} {ops : Array Oper} {k : List It} {l : List Oper} {T : List (Nat × AV)} {B : List (Nat × Ob)}
  {d ty : Nat} {pos : String} {after : Array Edge} {op : Op} {acc : List Rec} {tg : List Nat}

theorem AR.st {o : Oper} {e : Eff} (hw : wants ops ⟨T, B⟩ o = some true) (hd : Does P tab ⟨T, B⟩ o e) (hf : ∀ d ∈ e.new, (⟨T, B⟩ : St).free d) (ht : LE (tagsAt ⟨T, B⟩ o) tg) (h : AR F ops k l ((⟨T, B⟩ : St).app e) (⟨tg, e⟩ :: acc)) : AR F ops k (o :: l) ⟨T, B⟩ acc :=
  AR.step hw hd hf (by rw [ht.eq]; exact h)
theorem AR.p' {v : AV} (hp : pop tab ⟨T, B⟩ op = some v) (ht : LE (tagsAt ⟨T, B⟩ ⟨some d, op, ty, pos, after, none⟩) tg) (h : AR F ops k l ⟨(d, v) :: T, B⟩ (⟨tg, ⟨[(d, v)], [], []⟩⟩ :: acc)) : AR F ops k (⟨some d, op, ty, pos, after, none⟩ :: l) ⟨T, B⟩ acc :=
  AR.st rfl (.pure hp rfl) (fun d hd => by simp [putEff] at hd) ht h
theorem AR.p {v v' : AV} (hp : pop tab ⟨T, B⟩ op = some v) (hv : Wh v v') (ht : LE (tagsAt ⟨T, B⟩ ⟨some d, op, ty, pos, after, none⟩) tg) (h : AR F ops k l ⟨(d, v') :: T, B⟩ (⟨tg, ⟨[(d, v')], [], []⟩⟩ :: acc)) : AR F ops k (⟨some d, op, ty, pos, after, none⟩ :: l) ⟨T, B⟩ acc :=
  AR.p' (by rw [hp, hv.eq]) ht h
theorem AR.pi {v v' : AV} {p : Prop} [Decidable p] (hp : pop tab ⟨T, B⟩ op = if p then some v else none) (hv : Wh v v') (hq : p) (ht : LE (tagsAt ⟨T, B⟩ ⟨some d, op, ty, pos, after, none⟩) tg) (h : AR F ops k l ⟨(d, v') :: T, B⟩ (⟨tg, ⟨[(d, v')], [], []⟩⟩ :: acc)) : AR F ops k (⟨some d, op, ty, pos, after, none⟩ :: l) ⟨T, B⟩ acc :=
  AR.p' (by rw [hp, if_pos hq, hv.eq]) ht h

section
variable {t : TypeId} {x y : Operand} {i : TyI}
theorem AR.box {cs : List AV} (hc : Wf ((⟨T, B⟩ : St).val x).cells cs) (hfit : (fitsIn ((⟨T, B⟩ : St).val x).cells.length ((⟨T, B⟩ : St).val x) && ((⟨T, B⟩ : St).val x).cells.all AV.leaf) = true) (hf : (⟨T, B⟩ : St).freeB d = true)
    (ht : LE (tagsAt ⟨T, B⟩ ⟨some d, .box t x, ty, pos, after, none⟩) tg) (h : AR F ops k l ⟨(d, .ptr d 0) :: T, (d, .bx cs) :: B⟩ (⟨tg, ⟨[(d, .ptr d 0)], [(d, .bx cs)], [d]⟩⟩ :: acc)) : AR F ops k (⟨some d, .box t x, ty, pos, after, none⟩ :: l) ⟨T, B⟩ acc :=
  AR.st (e := ⟨[(d, .ptr d 0)], [(d, .bx cs)], [d]⟩) rfl (.mem (box_mop hc hfit)) (fun e he => by simp at he; subst he; exact St.freeB_ok hf) ht h
theorem AR.alloc {cs : List AV} (hi : look tab t = some i) (hc : Wf (i.zero.map ofVal) cs) (hf : (⟨T, B⟩ : St).freeB d = true)
    (ht : LE (tagsAt ⟨T, B⟩ ⟨some d, .alloc t, ty, pos, after, none⟩) tg) (h : AR F ops k l ⟨(d, .ptr d 0) :: T, (d, .bx cs) :: B⟩ (⟨tg, ⟨[(d, .ptr d 0)], [(d, .bx cs)], [d]⟩⟩ :: acc)) : AR F ops k (⟨some d, .alloc t, ty, pos, after, none⟩ :: l) ⟨T, B⟩ acc :=
  AR.st (e := ⟨[(d, .ptr d 0)], [(d, .bx cs)], [d]⟩) rfl (.mem (alloc_mop hi hc)) (fun e he => by simp at he; subst he; exact St.freeB_ok hf) ht h
theorem AR.store {g off : Nat} {cs cs' : List AV} (hi : look tab t = some i) (hx : (⟨T, B⟩ : St).val x = .ptr g off) (hg : (⟨T, B⟩ : St).ob g = .bx cs) (hc : Wf (splice cs off ((⟨T, B⟩ : St).val y).cells) cs')
    (hfit : (fitsIn i.size ((⟨T, B⟩ : St).val y) && ((⟨T, B⟩ : St).val y).cells.all AV.leaf && decide (off + i.size ≤ cs.length)) = true)
    (ht : LE (tagsAt ⟨T, B⟩ ⟨none, .store t x y, ty, pos, after, none⟩) tg) (h : AR F ops k l ⟨T, (g, .bx cs') :: B⟩ (⟨tg, ⟨[], [(g, .bx cs')], []⟩⟩ :: acc)) : AR F ops k (⟨none, .store t x y, ty, pos, after, none⟩ :: l) ⟨T, B⟩ acc :=
  AR.st (e := ⟨[], [(g, .bx cs')], []⟩) rfl (.mem (store_mop hi hx hg hc hfit)) (fun e he => by simp at he) ht h
theorem AR.add {a b : Int} (hx : (⟨T, B⟩ : St).val x = .i .i64 a) (hy : (⟨T, B⟩ : St).val y = .i .i64 b) (hr : -9223372036854775808 ≤ a + b ∧ a + b ≤ 9223372036854775807) {z}
    (ht : LE (tagsAt ⟨T, B⟩ ⟨some d, .binOp .add t x y z, ty, pos, after, none⟩) tg) (h : AR F ops k l ⟨(d, .i .i64 (a + b)) :: T, B⟩ (⟨tg, ⟨[(d, .i .i64 (a + b))], [], []⟩⟩ :: acc)) : AR F ops k (⟨some d, .binOp .add t x y z, ty, pos, after, none⟩ :: l) ⟨T, B⟩ acc :=
  AR.p' (by
    simp only [pop, hx, hy, bin, intBin, isShift, true_or, if_true]
    rw [wrap64 hr]) ht h
theorem AR.sub {a b : Int} (hx : (⟨T, B⟩ : St).val x = .i .i64 a) (hy : (⟨T, B⟩ : St).val y = .i .i64 b) (hr : -9223372036854775808 ≤ a - b ∧ a - b ≤ 9223372036854775807) {z}
    (ht : LE (tagsAt ⟨T, B⟩ ⟨some d, .binOp .sub t x y z, ty, pos, after, none⟩) tg) (h : AR F ops k l ⟨(d, .i .i64 (a - b)) :: T, B⟩ (⟨tg, ⟨[(d, .i .i64 (a - b))], [], []⟩⟩ :: acc)) : AR F ops k (⟨some d, .binOp .sub t x y z, ty, pos, after, none⟩ :: l) ⟨T, B⟩ acc :=
  AR.p' (by
    simp only [pop, hx, hy, bin, intBin, isShift, true_or, if_true]
    rw [wrap64 hr]) ht h
end

theorem Does.unguard {st : St} {o : Option Nat} {e : Eff} {g g'} (h : Does P tab st ⟨o, op, ty, pos, after, g⟩ e) : Does P tab st ⟨o, op, ty, pos, after, g'⟩ e := by
  cases h with
  | pure h1 h2 => exact .pure h1 h2
  | mem h => exact .mem h
  | call h => exact .call ⟨h.ex⟩
  | ext h => exact .ext fun _ st' hx ht => h _ st' hx ht
theorem AR.g' {g : Nat × Bool} {o : Option Nat} {x : Bool} (hw : wants ops ⟨T, B⟩ ⟨o, op, ty, pos, after, some g⟩ = some x)
    (h1 : x = true → AR F ops k (⟨o, op, ty, pos, after, none⟩ :: l) ⟨T, B⟩ acc) (h2 : x = false → AR F ops k l ((⟨T, B⟩ : St).app (putEff o .u)) (⟨tagsAt ⟨T, B⟩ ⟨o, op, ty, pos, after, some g⟩, putEff o .u⟩ :: acc)) : AR F ops k (⟨o, op, ty, pos, after, some g⟩ :: l) ⟨T, B⟩ acc := by
  cases x with
  | false => exact AR.pass hw (h2 rfl)
  | true =>
    intro st0 id hc hs
    refine h1 rfl st0 id (fun rs hrs => hc rs ?_) hs
    cases rs with
    | nil => exact hrs
    | cons r rs =>
      obtain ⟨⟨q1, q2⟩, q3⟩ := hrs
      refine ⟨⟨q1, ?_⟩, q3⟩
      rcases q2 with ⟨_, q5, q6⟩ | ⟨q4, _⟩
      · exact .inl ⟨hw, q5.unguard, q6⟩
      · simp [wants] at q4
theorem AR.gt {g : Nat × Bool} {x : Bool} (hw : wants ops ⟨T, B⟩ ⟨some d, op, ty, pos, after, some g⟩ = some (x == true)) (ht : LE (tagsAt ⟨T, B⟩ ⟨some d, op, ty, pos, after, some g⟩) tg)
    (h1 : x = true → AR F ops k (⟨some d, op, ty, pos, after, none⟩ :: l) ⟨T, B⟩ acc) (h2 : x = false → AR F ops k l ⟨(d, .u) :: T, B⟩ (⟨tg, ⟨[(d, .u)], [], []⟩⟩ :: acc)) : AR F ops k (⟨some d, op, ty, pos, after, some g⟩ :: l) ⟨T, B⟩ acc :=
  AR.g' hw (fun h => h1 (by simpa using h)) (fun h => by rw [ht.eq]; exact h2 (by simpa using h))
theorem AR.gf {g : Nat × Bool} {x : Bool} (hw : wants ops ⟨T, B⟩ ⟨some d, op, ty, pos, after, some g⟩ = some (x == false)) (ht : LE (tagsAt ⟨T, B⟩ ⟨some d, op, ty, pos, after, some g⟩) tg)
    (h1 : x = false → AR F ops k (⟨some d, op, ty, pos, after, none⟩ :: l) ⟨T, B⟩ acc) (h2 : x = true → AR F ops k l ⟨(d, .u) :: T, B⟩ (⟨tg, ⟨[(d, .u)], [], []⟩⟩ :: acc)) : AR F ops k (⟨some d, op, ty, pos, after, some g⟩ :: l) ⟨T, B⟩ acc :=
  AR.g' hw (fun h => h1 (by simpa using h)) (fun h => by rw [ht.eq]; exact h2 (by simpa using h))
theorem AR.gs {g : Nat × Bool} (hw : wants ops ⟨T, B⟩ ⟨some d, op, ty, pos, after, some g⟩ = some false) (ht : LE (tagsAt ⟨T, B⟩ ⟨some d, op, ty, pos, after, some g⟩) tg)
    (h2 : AR F ops k l ⟨(d, .u) :: T, B⟩ (⟨tg, ⟨[(d, .u)], [], []⟩⟩ :: acc)) : AR F ops k (⟨some d, op, ty, pos, after, some g⟩ :: l) ⟨T, B⟩ acc := AR.pass hw (by rw [ht.eq]; exact h2)
theorem AR.call {fx : Operand} {xs : Array Operand} {ts : Array TypeId} {f : FuncId} {caps args as : List AV} {res : AV} (hc : (⟨T, B⟩ : St).val fx = .clo f caps) (ha : Wf (xs.toList.map (⟨T, B⟩ : St).val ++ caps) as) (hg : Good P f args [] res []) (hl : LeL as args) (hr : res.refs = [])
    (ht : LE (tagsAt ⟨T, B⟩ ⟨some d, .call { callee := .value fx, args := xs, argTypes := ts }, ty, pos, after, none⟩) tg) (h : AR F ops k l ⟨(d, res) :: T, B⟩ (⟨tg, ⟨[(d, res)], [], []⟩⟩ :: acc)) : AR F ops k (⟨some d, .call { callee := .value fx, args := xs, argTypes := ts }, ty, pos, after, none⟩ :: l) ⟨T, B⟩ acc :=
  AR.st (e := ⟨[(d, res)], [], []⟩) rfl (.call (call_pure hc ha hg hl hr)) (fun d hd => by simp at hd) ht h
/-! ### which kind it is -/
section
variable {st : St} {t : TypeId} {x y : Operand} {z : TypeId} {dd : Option Nat} {g : Option (Nat × Bool)} {gg : Nat × Bool} {xs : Array Operand} {ts : Array TypeId} {o : Oper}
theorem AR.kAny (h : AR F ops k (o :: l) st acc) : AR F ops k (o :: l) st acc := h
theorem AR.kNil (h : AR F ops k [] st acc) : AR F ops k [] st acc := h
theorem AR.kBox (h : AR F ops k (⟨some d, .box t x, ty, pos, after, none⟩ :: l) st acc) : AR F ops k (⟨some d, .box t x, ty, pos, after, none⟩ :: l) st acc := h
theorem AR.kAlloc (h : AR F ops k (⟨some d, .alloc t, ty, pos, after, none⟩ :: l) st acc) : AR F ops k (⟨some d, .alloc t, ty, pos, after, none⟩ :: l) st acc := h
theorem AR.kStore (h : AR F ops k (⟨none, .store t x y, ty, pos, after, none⟩ :: l) st acc) : AR F ops k (⟨none, .store t x y, ty, pos, after, none⟩ :: l) st acc := h
theorem AR.kAdd (h : AR F ops k (⟨some d, .binOp .add t x y z, ty, pos, after, none⟩ :: l) st acc) : AR F ops k (⟨some d, .binOp .add t x y z, ty, pos, after, none⟩ :: l) st acc := h
theorem AR.kSub (h : AR F ops k (⟨some d, .binOp .sub t x y z, ty, pos, after, none⟩ :: l) st acc) : AR F ops k (⟨some d, .binOp .sub t x y z, ty, pos, after, none⟩ :: l) st acc := h
theorem AR.kCall (f : FuncId) (h : AR F ops k (⟨dd, .call { callee := .value (.func f), args := xs, argTypes := ts }, ty, pos, after, none⟩ :: l) st acc) : AR F ops k (⟨dd, .call { callee := .value (.func f), args := xs, argTypes := ts }, ty, pos, after, none⟩ :: l) st acc := h
theorem AR.kG (h : AR F ops k (⟨dd, op, ty, pos, after, some gg⟩ :: l) st acc) : AR F ops k (⟨dd, op, ty, pos, after, some gg⟩ :: l) st acc := h
theorem AR.kP (h : AR F ops k (⟨some d, op, ty, pos, after, none⟩ :: l) st acc) : AR F ops k (⟨some d, op, ty, pos, after, none⟩ :: l) st acc := h
end
end

end Go.Proofs.Ytocppeifkjdeiaa.Mv
