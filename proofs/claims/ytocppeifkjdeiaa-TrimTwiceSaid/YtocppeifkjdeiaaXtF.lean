/- A machine for proofs: boxes that are written no more; what is nil or not; calls of values. Under no condition. -/
import Derived.Test.YtocppeifkjdeiaaXtE
import Derived.Laws.Cover3
namespace Go.Proofs.Ytocppeifkjdeiaa.Mv
open Go
set_option linter.unusedSimpArgs false
set_option linter.unusedVariables false

section
variable {P : Program} {tab : Tab} {N : Nat} {D : St → Prop} {F : Fx P tab N D} {ops : Array Oper} {k : List It} {l : List Oper} {T : List (Nat × AV)} {B : List (Nat × Ob)}
  {d ty : Nat} {pos : String} {after : Array Edge} {op : Op} {acc : List Rec} {tg : List Nat} {st st' : St}
theorem AO.kCallV {t : Nat} {dd : Option Nat} {xs : Array Operand} {ts : Array TypeId} (h : AO F ops k (⟨dd, .call { callee := .value (.tmp t), args := xs, argTypes := ts }, ty, pos, after, none⟩ :: l) st) : AO F ops k (⟨dd, .call { callee := .value (.tmp t), args := xs, argTypes := ts }, ty, pos, after, none⟩ :: l) st := h
theorem AR.kCallV {t : Nat} {dd : Option Nat} {xs : Array Operand} {ts : Array TypeId} (h : AR F ops k (⟨dd, .call { callee := .value (.tmp t), args := xs, argTypes := ts }, ty, pos, after, none⟩ :: l) st acc) : AR F ops k (⟨dd, .call { callee := .value (.tmp t), args := xs, argTypes := ts }, ty, pos, after, none⟩ :: l) st acc := h

/-- The box t is written no more: its cells are kept. -/
def FzG (t : Nat) (cs : List AV) : Gam → Nm → Prop := fun Γ m => ∀ g, m.th t = some g → ∀ off, Rep Γ m (.pointer (some ⟨g, off, none⟩)) (.pel ((cs.map AV.close).drop off))
theorem Lx.fz {t off : Nat} {cs : List AV} : Lx (FzG t cs) (.ptr t off) (.pel ((cs.map AV.close).drop off)) := fun Γ m v hh hr => by
  cases hr with | ptr h => exact hh _ h off
theorem RR.freeze {c : Ctx} (t : Nat) {cs : List AV} (hob : st.ob t = .bx cs) (hs : cs.all AV.shut = true) (hl : StLe (FzG t cs) ⟨st.T, (t, .dead) :: st.B⟩ st') {a w} (hr : RR c st a w) : RR c st' a w := by
  obtain ⟨Γ, m, hw⟩ := hr
  have hobt := hw.obs t
  rw [hob] at hobt
  obtain ⟨g, cc, E, q1, q2, q3, q4, q5, q6⟩ := hobt
  have hblk : (st.ob t).blk m t = some g := by rw [hob]; exact q1
  let Γ' : Gam := fun ad => if ad.block = g ∧ ad.spot = none ∧ ad.off < cs.length then cc[ad.off]? else Γ ad
  have hin : ∀ j, j < cs.length → Γ' ⟨g, j, none⟩ = cc[j]? := fun j hj => by simp [Γ', hj]
  have hout : ∀ ad : Addr, ad.block ≠ g → Γ' ad = Γ ad := fun ad had => by simp [Γ', had]
  have hsub : Sub Γ Γ' := fun ad v hv => by
    by_cases e : ad.block = g
    · rw [q6 ad e] at hv; cases hv
    · rw [hout ad e]; exact hv
  have hgok : ∀ ad v, Γ' ad = some v → w.cell? ad = some v := fun ad v hv => by
    by_cases e : ad.block = g ∧ ad.spot = none ∧ ad.off < cs.length
    · obtain ⟨e1, e2, e3⟩ := e
      obtain ⟨ab, ao, as⟩ := ad
      simp only at e1 e2 e3; subst e1; subst e2
      rw [hin ao e3] at hv
      rw [cell_of_row w ab _ cc E.1 E.2 q2]; exact hv
    · simp only [Γ', if_neg e] at hv
      exact hw.gok ad v hv
  have hob' : ∀ s, (⟨st.T, (t, .dead) :: st.B⟩ : St).ob s = if t = s then .dead else st.ob s := fun s => ob_cons _ _ _ _ _
  have hnew : RRW c Γ' m ⟨st.T, (t, .dead) :: st.B⟩ a w := by
    refine hw.mem hsub (fun _ _ _ => ⟨fun _ h => h, fun _ _ h => h⟩) (fun _ _ => ⟨fun _ h => h, fun _ _ h => h⟩) hgok (fun s => ?_) (fun s b hb => ?_) (fun s s2 b hb hb2 => ?_) hw.frame (fun ad h0 h1 => ?_)
    · rw [hob']
      split
      · trivial
      · rename_i hne
        refine (hw.obs s).keep hsub rfl rfl (fun _ _ => ⟨fun _ h => h, fun _ _ h => h⟩) fun b hb => ⟨rfl, fun ad had => hout ad fun e => ?_⟩
        rw [had] at e; subst e
        exact hne (hw.inj t s _ hblk hb)
    · rw [hob'] at hb
      split at hb
      · cases hb
      · exact hw.own s b hb
    · rw [hob'] at hb hb2
      split at hb
      · cases hb
      · split at hb2
        · cases hb2
        · exact hw.inj s s2 b hb hb2
    · by_cases e : ad.block = g
      · rw [e]; exact hw.own t g hblk
      · rw [hout ad e] at h1; exact absurd h0 h1
  have hr : RepL Γ' Nm.e (cc.toList.take cs.length) (cs.map AV.close) := by
    refine ⟨by have := q3.2; simp; omega, fun j v x hv hx => ?_⟩
    rw [List.getElem?_take] at hv
    split at hv
    · rw [List.getElem?_map] at hx
      obtain ⟨y, hy, rfl⟩ := Option.map_eq_some_iff.1 hx
      exact ((q4 j v y (by simpa using hv) hy).sub hsub).close (List.all_eq_true.1 hs _ (List.mem_of_getElem? hy))
    · cases hv
  have hF : FzG t cs Γ' m := fun g' hg' off => by
    rw [q1] at hg'; cases hg'
    have hr' := hr.drop off
    refine .pel _ hr'.1 (fun j v hv => ?_) (fun v hv => ?_) hr'.2
    · rw [List.getElem?_drop, List.getElem?_take] at hv
      split at hv
      · rename_i hlt
        rw [add_lit, hin _ hlt]; simpa using hv
      · cases hv
    · obtain ⟨j, hj⟩ := List.getElem?_of_mem hv
      rw [List.getElem?_drop, List.getElem?_take] at hj
      split at hj
      · rename_i hlt; exact q5 _ v hlt (by simpa using hj)
      · cases hj
  exact ⟨Γ', m, hnew.less hF hl⟩
theorem AW.freeze (t : Nat) {cs : List AV} (hob : st.ob t = .bx cs) (hs : cs.all AV.shut = true) (hl : StLe (FzG t cs) ⟨st.T, (t, .dead) :: st.B⟩ st') (h : AW F k st') : AW F k st := fun a w hr => h a w (hr.freeze t hob hs hl)
theorem AO.freeze (t : Nat) {cs : List AV} (hob : st.ob t = .bx cs) (hs : cs.all AV.shut = true) (hl : StLe (FzG t cs) ⟨st.T, (t, .dead) :: st.B⟩ st') (h : AO F ops k l st') : AO F ops k l st := fun h1 h2 a w hr => h h1 h2 a w (hr.freeze t hob hs hl)

/-- A slice, and nil: it may be, if it has nothing. -/
theorem AO.eqNil {t : TypeId} {i : TyI} {e z : TypeId} {x y : Operand} {sz : Nat} {rows : List (List AV)} (hi : look tab t = some i := by exact rfl) (hd : i.d = .slice e := by exact rfl) (hx : (⟨T, B⟩ : St).val x = .sh sz rows := by exact rfl) (hy : (⟨T, B⟩ : St).val y = .nil := by exact rfl)
    (hxo : okOp N x = true := by exact rfl) (hyo : okOp N y = true := by exact rfl) (hdo : d < N := by exact of_decide_eq_true rfl)
    (h1 : rows = [] → AO F ops k l ⟨(d, .b true) :: T, B⟩) (h2 : AO F ops k l ⟨(d, .b false) :: T, B⟩) : AO F ops k (⟨some d, .binOp .eql t x y z, ty, pos, after, none⟩ :: l) ⟨T, B⟩ := fun hok hl a w ⟨Γ, m, hr⟩ => by
  obtain ⟨c, rfl, rfl, tok, mo, Z, fin⟩ := F
  simp only [List.all_cons, Bool.and_eq_true] at hl
  have hxe := hr.eval x hxo
  have hye := hr.eval y hyo
  rw [hx] at hxe
  rw [hy] at hye
  have hu := (tok.at hi).und
  rw [hd] at hu
  refine wpList_step fun K hK => ?_
  rw [wants_spec hr hok (show wants ops ⟨T, B⟩ ⟨some d, .binOp .eql t x y z, ty, pos, after, none⟩ = some true from rfl)]
  simp only [if_true]
  generalize hvy : a.eval y = vy at hye
  cases hye
  have hrun : ∀ p n q, a.eval x = .slice p n q → (execOp a.eval { dst := some d, op := .binOp .eql t x y z, type := ty, pos, after, guard := none }).run c.P w = .ok (.value (.bool p.isNone)) w := fun p n q hp => by
    have hg : (eqGuard .eql t x y (.slice p n q) (.slice none 0 0)).run c.P w = .ok () w := by simp [eqGuard]
    simp only [execOp, hp, hvy, Sem.run_bind, hg, Result.andThen_ok]
    simp [binOp, run_equal_slice_nil w t e p n q hu]
  rcases hxe.sh_inv with ⟨p, hp, rfl⟩ | ⟨p, cap, vs, hp, _⟩
  · unfold Oper.wp
    rw [hrun _ _ _ hp]
    cases p with
    | none => exact hK _ _ (h1 rfl hok hl.2 _ _ ⟨Γ, m, hr.put (some d) .b⟩)
    | some p => exact hK _ _ (h2 hok hl.2 _ _ ⟨Γ, m, hr.put (some d) .b⟩)
  · unfold Oper.wp
    rw [hrun _ _ _ hp]
    exact hK _ _ (h2 hok hl.2 _ _ ⟨Γ, m, hr.put (some d) .b⟩)
/-- A walk's end where the answer holds a slice that may grow. -/
theorem Good.w2 {P : Program} {tab : Tab} (ht : TabOk P tab) (mo : P.follows .mixedOrders = true) {f : FuncId} {fn : Func} {code : Code} {rs : List ResultVar} {N : Nat} {args : List AV} {t : Nat} {res : AV} {n : Nat} {T : List (Nat × AV)}
    (hf : P.funcs[f]? = some fn) (hfn : fnB fn N args.length = true) (hb : fn.body = some code) (hrs : LE fn.results.toList rs) (hT : LE (entT 0 args) T)
    (h : ∀ D : St → Prop, (∀ {st cs} (t' : Nat), resAll tab st rs = some cs → Lx Tr (resTup cs) (res.ren fun _ => t') → Ol Tr (st.ob t') (.gw n) → D st) → ∀ F : Fx P tab N D, AW F [.c code] ⟨T, []⟩) : Good P f args [] res [(t, .gw n)] :=
  Good.walk ht mo hf hfn hb hrs.eq (fun p hp => by simp at hp) (by
    rw [hT.eq]
    exact h _ fun {st cs} t' h1 h2 h3 => ⟨fun _ => t', cs, h1, h2, fun p hp => by simp at hp; subst hp; exact h3, fun s hs t ht _ => by simp at hs ht; rw [hs, ht], fun p hp => by simp at hp⟩)
end
end Go.Proofs.Ytocppeifkjdeiaa.Mv
