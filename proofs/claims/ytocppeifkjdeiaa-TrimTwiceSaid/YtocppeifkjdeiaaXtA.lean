/- A machine for proofs, more steps: slices that are built and grown, bytes and texts, calls that answer slices. Under no condition. -/
import Derived.Test.YtocppeifkjdeiaaCoreZ
namespace Go.Proofs.Ytocppeifkjdeiaa.Mv
open Go
set_option linter.unusedSimpArgs false
set_option linter.unusedVariables false

/-- Rows, written out. -/
inductive Wr : List (List AV) → List (List AV) → Prop
  | nil : Wr [] []
  | cons {a b as bs} : Wf a b → Wr as bs → Wr (a :: as) (b :: bs)
theorem Wr.eq {as bs} (h : Wr as bs) : as = bs := by
  induction h with
  | nil => rfl
  | cons h1 _ ih => rw [h1.eq, ih]

/-- Rows that are bytes. -/
inductive TB : List (List AV) → List UInt8 → Prop
  | nil : TB [] []
  | bs {l} : TB (BS l) l
  | app {a b x y} : TB a x → TB b y → TB (a ++ b) (x ++ y)
  | one {b : UInt8} {as l} : TB as l → TB ([.i .u8 (b.toNat : Int)] :: as) (b :: l)
  | wrap {n : Int} {as l} : TB as l → TB ([.i .u8 (IntKind.wrap .u8 n)] :: as) (u8 n :: l)
  | lit {n : Int} {as l} : decide (0 ≤ n ∧ n < 256) = true → TB as l → TB ([.i .u8 n] :: as) (u8 n :: l)
theorem BS_app (a b : List UInt8) : BS (a ++ b) = BS a ++ BS b := by simp [BS]
theorem BS_len (a : List UInt8) : (BS a).length = a.length := by simp [BS]
theorem TB.eq {rows l} (h : TB rows l) : rows = BS l := by
  induction h with
  | nil => rfl
  | bs => rfl
  | app _ _ h1 h2 => rw [h1, h2, BS_app]
  | one _ ih => rw [ih]; rfl
  | wrap _ ih => rw [ih, wrapB]; rfl
  | lit h _ ih =>
    rw [ih]
    rename_i n as l h1
    have h := of_decide_eq_true h
    have : n = ((u8 n).toNat : Int) := by
      simp only [u8, UInt8.toNat_ofNat']
      omega
    conv => lhs; rw [this]
    rfl

/-- What append is handed. -/
inductive Ap (sz : Nat) : AV → List (List AV) → Prop
  | nil : Ap sz .nil []
  | sh {ys} : Ap sz (.sh sz ys) ys
  | gr {t e ys} : Ap sz (.gr t e sz ys) ys
  | s {l} (h : sz = 1) : Ap sz (.s l) (BS l)
theorem Ap.arg {sz : Nat} {x : AV} {ys : List (List AV)} (h : Ap sz x ys) : (if argNil x then some (sz, []) else argOf x) = some (sz, ys) := by
  cases h with
  | nil => rfl
  | sh => rfl
  | gr => rfl
  | s h => subst h; rfl
def isApp (i : TyI) : Bool := match i.d with | .slice _ => true | .string => true | _ => false
/-- A slice of bytes as a text. -/
inductive Rw : AV → List (List AV) → Prop
  | sh {rows} : Rw (.sh 1 rows) rows
  | gr {t e rows} : Rw (.gr t e 1 rows) rows
  | nil : Rw .nil []
section
variable {P : Program} {tab : Tab} {N : Nat} {D : St → Prop} {F : Fx P tab N D} {ops : Array Oper} {k : List It} {l : List Oper} {T : List (Nat × AV)} {B : List (Nat × Ob)}
  {d ty : Nat} {pos : String} {after : Array Edge} {op : Op} {acc : List Rec} {tg : List Nat}

section
variable {t : TypeId} {i j : TyI} {e : TypeId} {ps : Array (Nat × Operand)} {len : Nat} {rows : List (List AV)}
theorem build_mop (hi : look tab t = some i) (hd : i.d = .slice e) (hj : look tab e = some j) (h1 : ps.toList.map (·.1) = List.range len) (h2 : ps.toList.all (fun p => fitsIn j.size ((⟨T, B⟩ : St).val p.2) && ((⟨T, B⟩ : St).val p.2).cells.all AV.shut) = true)
    (h3 : (decide (len * j.size ≤ 16777216) && decide (0 < j.size)) = true) (hr : Wr (ps.toList.map fun p => ((⟨T, B⟩ : St).val p.2).cells.map AV.close) rows) :
    mop tab ⟨T, B⟩ ⟨some d, .buildSlice t len ps, ty, pos, after, none⟩ = some ⟨[(d, .gr d e j.size rows)], [(d, .gw rows.length)], [d]⟩ := by
  simp only [Bool.and_eq_true, decide_eq_true_eq] at h3
  have hl : rows.length = len := by
    rw [← hr.eq, List.length_map]
    have := congrArg List.length h1
    simpa using this
  simp only [mop, hi, hd, hj]
  rw [if_pos ⟨h1, h2, h3.1, h3.2⟩, hr.eq, hl]
theorem AO.buildS (hi : look tab t = some i) (hd : i.d = .slice e) (hj : look tab e = some j) (h1 : ps.toList.map (·.1) = List.range len) (h2 : ps.toList.all (fun p => fitsIn j.size ((⟨T, B⟩ : St).val p.2) && ((⟨T, B⟩ : St).val p.2).cells.all AV.shut) = true)
    (h3 : (decide (len * j.size ≤ 16777216) && decide (0 < j.size)) = true) (hr : Wr (ps.toList.map fun p => ((⟨T, B⟩ : St).val p.2).cells.map AV.close) rows) (hf : (⟨T, B⟩ : St).freeB d = true)
    (h : AO F ops k l ⟨(d, .gr d e j.size rows) :: T, (d, .gw rows.length) :: B⟩) : AO F ops k (⟨some d, .buildSlice t len ps, ty, pos, after, none⟩ :: l) ⟨T, B⟩ :=
  AO.step (e := ⟨[(d, .gr d e j.size rows)], [(d, .gw rows.length)], [d]⟩) rfl (.mem (build_mop hi hd hj h1 h2 h3 hr)) (fun e he => by simp at he; subst he; exact St.freeB_ok hf) h
theorem AR.buildS (hi : look tab t = some i) (hd : i.d = .slice e) (hj : look tab e = some j) (h1 : ps.toList.map (·.1) = List.range len) (h2 : ps.toList.all (fun p => fitsIn j.size ((⟨T, B⟩ : St).val p.2) && ((⟨T, B⟩ : St).val p.2).cells.all AV.shut) = true)
    (h3 : (decide (len * j.size ≤ 16777216) && decide (0 < j.size)) = true) (hr : Wr (ps.toList.map fun p => ((⟨T, B⟩ : St).val p.2).cells.map AV.close) rows) (hf : (⟨T, B⟩ : St).freeB d = true)
    (ht : LE (tagsAt ⟨T, B⟩ ⟨some d, .buildSlice t len ps, ty, pos, after, none⟩) tg) (h : AR F ops k l ⟨(d, .gr d e j.size rows) :: T, (d, .gw rows.length) :: B⟩ (⟨tg, ⟨[(d, .gr d e j.size rows)], [(d, .gw rows.length)], [d]⟩⟩ :: acc)) : AR F ops k (⟨some d, .buildSlice t len ps, ty, pos, after, none⟩ :: l) ⟨T, B⟩ acc :=
  AR.st (e := ⟨[(d, .gr d e j.size rows)], [(d, .gw rows.length)], [d]⟩) rfl (.mem (build_mop hi hd hj h1 h2 h3 hr)) (fun e he => by simp at he; subst he; exact St.freeB_ok hf) ht h

variable {u : TypeId} {iu : TyI} {x y : Operand} {ys : List (List AV)} {g n : Nat}
theorem grow_mop (hi : look tab t = some i) (hd : i.d = .slice e) (hj : look tab e = some j) (hu : look tab u = some iu) (hiu : isApp iu = true) (hx : (⟨T, B⟩ : St).val x = .gr g e j.size rows) (hg : (⟨T, B⟩ : St).ob g = .gw n) (hn : n = rows.length)
    (hy : Ap j.size ((⟨T, B⟩ : St).val y) ys) (hz : (decide (0 < j.size) && decide (0 < j.bytes) && decide (j.bytes ≤ 1024)) = true) (hb : rows.length + ys.length ≤ 137438953472) :
    mop tab ⟨T, B⟩ ⟨some d, .call { callee := .builtin .append, args := #[x, y], argTypes := #[t, u] }, ty, pos, after, none⟩ = some ⟨[(d, .gr g e j.size (rows ++ ys))], [(g, .gw (rows ++ ys).length)], []⟩ := by
  simp only [Bool.and_eq_true, decide_eq_true_eq] at hz
  unfold isApp at hiu
  split at hiu
  case h_3 => cases hiu
  all_goals
    rename_i hq
    simp only [mop, hi, hu, hd, hj, hq, hy.arg, hx, hg]
    rw [if_pos ⟨trivial, trivial, trivial, hz.1.1, hn, hz.1.2, Nat.le_trans (Nat.mul_le_mul hb hz.2) (by decide)⟩, List.length_append]
theorem new_mop (hi : look tab t = some i) (hd : i.d = .slice e) (hj : look tab e = some j) (hu : look tab u = some iu) (hiu : isApp iu = true) (hx : (⟨T, B⟩ : St).val x = .nil)
    (hy : Ap j.size ((⟨T, B⟩ : St).val y) ys) (hz : (decide (0 < j.size) && decide (0 < j.bytes) && decide (j.bytes ≤ 1024)) = true) (hb : ys.length ≤ 137438953472) :
    mop tab ⟨T, B⟩ ⟨some d, .call { callee := .builtin .append, args := #[x, y], argTypes := #[t, u] }, ty, pos, after, none⟩ = some ⟨[(d, .gr d e j.size ys)], [(d, .gw ys.length)], [d]⟩ := by
  simp only [Bool.and_eq_true, decide_eq_true_eq] at hz
  unfold isApp at hiu
  split at hiu
  case h_3 => cases hiu
  all_goals
    rename_i hq
    simp only [mop, hi, hu, hd, hj, hq, hy.arg, hx]
    rw [if_pos ⟨trivial, hz.1.1, hz.1.2, Nat.le_trans (Nat.mul_le_mul hb hz.2) (by decide)⟩]
theorem AO.grow (hi : look tab t = some i) (hd : i.d = .slice e) (hj : look tab e = some j) (hu : look tab u = some iu) (hiu : isApp iu = true) (hx : (⟨T, B⟩ : St).val x = .gr g e j.size rows) (hg : (⟨T, B⟩ : St).ob g = .gw n) (hn : n = rows.length)
    (hy : Ap j.size ((⟨T, B⟩ : St).val y) ys) (hz : (decide (0 < j.size) && decide (0 < j.bytes) && decide (j.bytes ≤ 1024)) = true) (hb : rows.length + ys.length ≤ 137438953472)
    (h : AO F ops k l ⟨(d, .gr g e j.size (rows ++ ys)) :: T, (g, .gw (rows ++ ys).length) :: B⟩) : AO F ops k (⟨some d, .call { callee := .builtin .append, args := #[x, y], argTypes := #[t, u] }, ty, pos, after, none⟩ :: l) ⟨T, B⟩ :=
  AO.step (e := ⟨[(d, .gr g e j.size (rows ++ ys))], [(g, .gw (rows ++ ys).length)], []⟩) rfl (.mem (grow_mop hi hd hj hu hiu hx hg hn hy hz hb)) (fun e he => by simp at he) h
theorem AR.grow (hi : look tab t = some i) (hd : i.d = .slice e) (hj : look tab e = some j) (hu : look tab u = some iu) (hiu : isApp iu = true) (hx : (⟨T, B⟩ : St).val x = .gr g e j.size rows) (hg : (⟨T, B⟩ : St).ob g = .gw n) (hn : n = rows.length)
    (hy : Ap j.size ((⟨T, B⟩ : St).val y) ys) (hz : (decide (0 < j.size) && decide (0 < j.bytes) && decide (j.bytes ≤ 1024)) = true) (hb : rows.length + ys.length ≤ 137438953472)
    (ht : LE (tagsAt ⟨T, B⟩ ⟨some d, .call { callee := .builtin .append, args := #[x, y], argTypes := #[t, u] }, ty, pos, after, none⟩) tg)
    (h : AR F ops k l ⟨(d, .gr g e j.size (rows ++ ys)) :: T, (g, .gw (rows ++ ys).length) :: B⟩ (⟨tg, ⟨[(d, .gr g e j.size (rows ++ ys))], [(g, .gw (rows ++ ys).length)], []⟩⟩ :: acc)) : AR F ops k (⟨some d, .call { callee := .builtin .append, args := #[x, y], argTypes := #[t, u] }, ty, pos, after, none⟩ :: l) ⟨T, B⟩ acc :=
  AR.st (e := ⟨[(d, .gr g e j.size (rows ++ ys))], [(g, .gw (rows ++ ys).length)], []⟩) rfl (.mem (grow_mop hi hd hj hu hiu hx hg hn hy hz hb)) (fun e he => by simp at he) ht h
theorem AO.newr (hi : look tab t = some i) (hd : i.d = .slice e) (hj : look tab e = some j) (hu : look tab u = some iu) (hiu : isApp iu = true) (hx : (⟨T, B⟩ : St).val x = .nil)
    (hy : Ap j.size ((⟨T, B⟩ : St).val y) ys) (hz : (decide (0 < j.size) && decide (0 < j.bytes) && decide (j.bytes ≤ 1024)) = true) (hb : ys.length ≤ 137438953472) (hf : (⟨T, B⟩ : St).freeB d = true)
    (h : AO F ops k l ⟨(d, .gr d e j.size ys) :: T, (d, .gw ys.length) :: B⟩) : AO F ops k (⟨some d, .call { callee := .builtin .append, args := #[x, y], argTypes := #[t, u] }, ty, pos, after, none⟩ :: l) ⟨T, B⟩ :=
  AO.step (e := ⟨[(d, .gr d e j.size ys)], [(d, .gw ys.length)], [d]⟩) rfl (.mem (new_mop hi hd hj hu hiu hx hy hz hb)) (fun e he => by simp at he; subst he; exact St.freeB_ok hf) h
theorem AR.newr (hi : look tab t = some i) (hd : i.d = .slice e) (hj : look tab e = some j) (hu : look tab u = some iu) (hiu : isApp iu = true) (hx : (⟨T, B⟩ : St).val x = .nil)
    (hy : Ap j.size ((⟨T, B⟩ : St).val y) ys) (hz : (decide (0 < j.size) && decide (0 < j.bytes) && decide (j.bytes ≤ 1024)) = true) (hb : ys.length ≤ 137438953472) (hf : (⟨T, B⟩ : St).freeB d = true)
    (ht : LE (tagsAt ⟨T, B⟩ ⟨some d, .call { callee := .builtin .append, args := #[x, y], argTypes := #[t, u] }, ty, pos, after, none⟩) tg)
    (h : AR F ops k l ⟨(d, .gr d e j.size ys) :: T, (d, .gw ys.length) :: B⟩ (⟨tg, ⟨[(d, .gr d e j.size ys)], [(d, .gw ys.length)], [d]⟩⟩ :: acc)) : AR F ops k (⟨some d, .call { callee := .builtin .append, args := #[x, y], argTypes := #[t, u] }, ty, pos, after, none⟩ :: l) ⟨T, B⟩ acc :=
  AR.st (e := ⟨[(d, .gr d e j.size ys)], [(d, .gw ys.length)], [d]⟩) rfl (.mem (new_mop hi hd hj hu hiu hx hy hz hb)) (fun e he => by simp at he; subst he; exact St.freeB_ok hf) ht h

theorem str_pop {t' : TypeId} {l' : List UInt8} {ie : TyI} (hi : look tab t = some i) (hj : look tab t' = some j) (h1 : i.d = .slice e) (h2 : j.d = .string) (h3 : look tab e = some ie) (h4 : ie.d = .int .u8)
    (hx : Rw ((⟨T, B⟩ : St).val x) rows) (hr : TB rows l') : pop tab ⟨T, B⟩ (.convert t t' x) = some (.s l') := by
  have hb := hr.eq
  generalize hv : (⟨T, B⟩ : St).val x = v at hx
  cases hx with
  | sh => simp only [pop, hv, conv, hi, hj, h1, h2, h3, h4, hb, toBytes_BS]; rfl
  | gr => simp only [pop, hv, conv, hi, hj, h1, h2, h3, h4, hb, toBytes_BS]; rfl
  | nil =>
    have : l' = [] := by
      have := congrArg List.length hb
      rw [BS_len] at this
      exact List.eq_nil_of_length_eq_zero this.symm
    subst this
    simp only [pop, hv, conv, hi, hj, h1, h2, h3, h4]
theorem AO.strR {t' : TypeId} {l' : List UInt8} {ie : TyI} (hi : look tab t = some i) (hj : look tab t' = some j) (h1 : i.d = .slice e) (h2 : j.d = .string) (h3 : look tab e = some ie) (h4 : ie.d = .int .u8)
    (hx : Rw ((⟨T, B⟩ : St).val x) rows) (hr : TB rows l') (h : AO F ops k l ⟨(d, .s l') :: T, B⟩) : AO F ops k (⟨some d, .convert t t' x, ty, pos, after, none⟩ :: l) ⟨T, B⟩ :=
  AO.p' (str_pop hi hj h1 h2 h3 h4 hx hr) h
theorem AR.strR {t' : TypeId} {l' : List UInt8} {ie : TyI} (hi : look tab t = some i) (hj : look tab t' = some j) (h1 : i.d = .slice e) (h2 : j.d = .string) (h3 : look tab e = some ie) (h4 : ie.d = .int .u8)
    (hx : Rw ((⟨T, B⟩ : St).val x) rows) (hr : TB rows l') (ht : LE (tagsAt ⟨T, B⟩ ⟨some d, .convert t t' x, ty, pos, after, none⟩) tg) (h : AR F ops k l ⟨(d, .s l') :: T, B⟩ (⟨tg, ⟨[(d, .s l')], [], []⟩⟩ :: acc)) : AR F ops k (⟨some d, .convert t t' x, ty, pos, after, none⟩ :: l) ⟨T, B⟩ acc :=
  AR.p' (str_pop hi hj h1 h2 h3 h4 hx hr) ht h
theorem AO.kBuildS (h : AO F ops k (⟨some d, .buildSlice t len ps, ty, pos, after, none⟩ :: l) ⟨T, B⟩) : AO F ops k (⟨some d, .buildSlice t len ps, ty, pos, after, none⟩ :: l) ⟨T, B⟩ := h
theorem AR.kBuildS (h : AR F ops k (⟨some d, .buildSlice t len ps, ty, pos, after, none⟩ :: l) ⟨T, B⟩ acc) : AR F ops k (⟨some d, .buildSlice t len ps, ty, pos, after, none⟩ :: l) ⟨T, B⟩ acc := h
theorem AO.kApp (h : AO F ops k (⟨some d, .call { callee := .builtin .append, args := #[x, y], argTypes := #[t, u] }, ty, pos, after, none⟩ :: l) ⟨T, B⟩) : AO F ops k (⟨some d, .call { callee := .builtin .append, args := #[x, y], argTypes := #[t, u] }, ty, pos, after, none⟩ :: l) ⟨T, B⟩ := h
theorem AR.kApp (h : AR F ops k (⟨some d, .call { callee := .builtin .append, args := #[x, y], argTypes := #[t, u] }, ty, pos, after, none⟩ :: l) ⟨T, B⟩ acc) : AR F ops k (⟨some d, .call { callee := .builtin .append, args := #[x, y], argTypes := #[t, u] }, ty, pos, after, none⟩ :: l) ⟨T, B⟩ acc := h
theorem AR.kCv {t' : TypeId} (h : AR F ops k (⟨some d, .convert t t' x, ty, pos, after, none⟩ :: l) ⟨T, B⟩ acc) : AR F ops k (⟨some d, .convert t t' x, ty, pos, after, none⟩ :: l) ⟨T, B⟩ acc := h
end

/-! ### calls that answer a slice that may grow -/
theorem call_one {st : St} {fx : Operand} {xs : Array Operand} {ts : Array TypeId} {f : FuncId} {caps args as : List AV} {res : AV} {ob : Ob} (hc : st.val fx = .clo f caps) (ha : Wf (xs.toList.map st.val ++ caps) as) (hg : Good P f args [] res [(d, ob)]) (hl : LeL as args)
    (hr : ∀ t ∈ res.refs, t = d) (hb : ob.refs = []) {g} : CallOk P st ⟨some d, .call { callee := .value fx, args := xs, argTypes := ts }, ty, pos, after, g⟩ ⟨[(d, res)], [(d, ob)], [d]⟩ :=
  ⟨fx, xs, ts, d, f, caps, args, [], res, [(d, ob)], fun t => t, rfl, rfl, hc, hg, by
      rw [ha.eq, ren_id.go]; exact hl, fun p hp => by simp at hp, fun s hs t ht h => h, fun s hs => by simp at hs, by simp, fun t ht => by simp [hr t ht], fun p hp => by
        simp at hp; subst hp; rw [hb]; simp, by
      have : ob.ren (fun t => t) = ob := by
        cases ob with
        | bx cs => simp only [Ob.ren, renL_eq]; congr 1; exact ren_id.go cs
        | gw n => rfl
        | dead => rfl
      simp [ren_id, this]⟩
theorem AO.call1 {fx : Operand} {xs : Array Operand} {ts : Array TypeId} {f : FuncId} {caps args as : List AV} {res : AV} {ob : Ob} (hc : (⟨T, B⟩ : St).val fx = .clo f caps) (ha : Wf (xs.toList.map (⟨T, B⟩ : St).val ++ caps) as) (hg : Good P f args [] res [(d, ob)]) (hl : LeL as args)
    (hr : (res.refs.all (· == d)) = true) (hb : ob.refs = []) (hf : (⟨T, B⟩ : St).freeB d = true)
    (h : AO F ops k l ⟨(d, res) :: T, (d, ob) :: B⟩) : AO F ops k (⟨some d, .call { callee := .value fx, args := xs, argTypes := ts }, ty, pos, after, none⟩ :: l) ⟨T, B⟩ :=
  AO.step (e := ⟨[(d, res)], [(d, ob)], [d]⟩) rfl (.call (call_one hc ha hg hl (by simpa using hr) hb)) (fun e he => by simp at he; subst he; exact St.freeB_ok hf) h
theorem AR.call1 {fx : Operand} {xs : Array Operand} {ts : Array TypeId} {f : FuncId} {caps args as : List AV} {res : AV} {ob : Ob} (hc : (⟨T, B⟩ : St).val fx = .clo f caps) (ha : Wf (xs.toList.map (⟨T, B⟩ : St).val ++ caps) as) (hg : Good P f args [] res [(d, ob)]) (hl : LeL as args)
    (hr : (res.refs.all (· == d)) = true) (hb : ob.refs = []) (hf : (⟨T, B⟩ : St).freeB d = true)
    (ht : LE (tagsAt ⟨T, B⟩ ⟨some d, .call { callee := .value fx, args := xs, argTypes := ts }, ty, pos, after, none⟩) tg)
    (h : AR F ops k l ⟨(d, res) :: T, (d, ob) :: B⟩ (⟨tg, ⟨[(d, res)], [(d, ob)], [d]⟩⟩ :: acc)) : AR F ops k (⟨some d, .call { callee := .value fx, args := xs, argTypes := ts }, ty, pos, after, none⟩ :: l) ⟨T, B⟩ acc :=
  AR.st (e := ⟨[(d, res)], [(d, ob)], [d]⟩) rfl (.call (call_one hc ha hg hl (by simpa using hr) hb)) (fun e he => by simp at he; subst he; exact St.freeB_ok hf) ht h

/-- A walk's end where the answer holds a slice that may grow. -/
theorem Good.w1 {P : Program} {tab : Tab} (ht : TabOk P tab) (mo : P.follows .mixedOrders = true) {f : FuncId} {fn : Func} {code : Code} {rs : List ResultVar} {N : Nat} {args : List AV} {t : Nat} {res : Nat → AV} {n : Nat} {T : List (Nat × AV)}
    (hf : P.funcs[f]? = some fn) (hfn : fnB fn N args.length = true) (hb : fn.body = some code) (hrs : LE fn.results.toList rs) (hT : LE (entT 0 args) T) (hres : ∀ t', (res t).ren (fun _ => t') = res t')
    (h : ∀ D : St → Prop, (∀ {st cs} (t' : Nat), resAll tab st rs = some cs → Lx Tr (resTup cs) (res t') → Ol Tr (st.ob t') (.gw n) → D st) → ∀ F : Fx P tab N D, AW F [.c code] ⟨T, []⟩) : Good P f args [] (res t) [(t, .gw n)] :=
  Good.walk ht mo hf hfn hb hrs.eq (fun p hp => by simp at hp) (by
    rw [hT.eq]
    exact h _ fun {st cs} t' h1 h2 h3 => ⟨fun _ => t', cs, h1, by rw [hres]; exact h2, fun p hp => by simp at hp; subst hp; exact h3, fun s hs t ht _ => by simp at hs ht; rw [hs, ht], fun p hp => by simp at hp⟩)
/-- A row that may grow, handed out as one that stays. -/
theorem Good.sh {P : Program} {f : FuncId} {args : List AV} {res res' : AV} {outs : List (Nat × Ob)} (hg : Good P f args [] res outs) (hl : Le res res') : Good P f args [] res' [] :=
  ⟨hg.fn, fun w Γ m vals h1 h2 h3 h4 => (hg.calls w Γ m vals h1 h2 h3 h4).mono fun e w' ⟨v, Γ', m', q, hp⟩ =>
    ⟨v, Γ', m', q, hp.sub, hp.gok, hl _ _ _ hp.rep, fun p hp => by simp at hp, fun p hp => by simp at hp, fun g ⟨p, hp, _⟩ => by simp at hp, fun p hp => by simp at hp, hp.frame, hp.fresh⟩⟩
end

end Go.Proofs.Ytocppeifkjdeiaa.Mv
