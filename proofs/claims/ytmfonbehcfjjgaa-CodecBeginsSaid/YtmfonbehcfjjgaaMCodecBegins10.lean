/- What the statement CodecBegins needs, part 10. Under no condition. -/
import Derived.Laws.Cover3
import Derived.Test.YtmfonbehcfjjgaaMCodecBegins9
/- A machine for proofs: boxes that are written no more; what is nil or not; calls of values. Under no condition. -/
namespace Go.Proofs.Ytmfonbehcfjjgaa.Mv
open Go
set_option linter.unusedSimpArgs false
set_option linter.unusedVariables false

section
variable {P : Program} {tab : Tab} {N : Nat} {D : St → Prop} {F : Fx P tab N D} {ops : Array Oper} {k : List It} {l : List Oper} {T : List (Nat × AV)} {B : List (Nat × Ob)}
  {d ty : Nat} {pos : String} {after : Array Edge} {op : Op} {acc : List Rec} {tg : List Nat} {st st' : St}
theorem AO.kCallV {t : Nat} {dd : Option Nat} {xs : Array Operand} {ts : Array TypeId} (h : AO F ops k (⟨dd, .call { callee := .value (.tmp t), args := xs, argTypes := ts }, ty, pos, after, none⟩ :: l) st) : AO F ops k (⟨dd, .call { callee := .value (.tmp t), args := xs, argTypes := ts }, ty, pos, after, none⟩ :: l) st := h
theorem AR.kCallV {t : Nat} {dd : Option Nat} {xs : Array Operand} {ts : Array TypeId} (h : AR F ops k (⟨dd, .call { callee := .value (.tmp t), args := xs, argTypes := ts }, ty, pos, after, none⟩ :: l) st acc) : AR F ops k (⟨dd, .call { callee := .value (.tmp t), args := xs, argTypes := ts }, ty, pos, after, none⟩ :: l) st acc := h

/-- The box t is written no more: its cells are kept. -/
def FzG (t : Nat) (cs : List AV) : Gam → Nm → Prop := fun Γ m => ∀ g, m.th t = some g → ∀ off, Rep Γ m (.pointer (some ⟨g, off, none⟩)) (.pel ((cs.map AV.close).drop off))
theorem Lx.fz {t off : Nat} {cs : List AV} : Lx (FzG t cs) (.ptr t off) (.pel ((cs.map AV.close).drop off)) := fun Γ m v hh hr => by
  cases hr with | ptr h => exact hh _ h off
theorem RR.freeze {c : Ctx} (t : Nat) {cs : List AV} (hob : st.ob t = .bx cs) (hs : cs.all AV.shut = true) (hl : StLe (FzG t cs) ⟨st.T, (t, .dead) :: st.B⟩ st') {a w} (hr : RR c st a w) : RR c st' a w := by
  obtain ⟨Γ, m, hw⟩ := hr
  have hobt := hw.obs t
  rw [hob] at hobt
  obtain ⟨g, cc, E, q1, q2, q3, q4, q5, q6⟩ := hobt
  have hblk : (st.ob t).blk m t = some g := by rw [hob]; exact q1
  let Γ' : Gam := fun ad => if ad.block = g ∧ ad.spot = none ∧ ad.off < cs.length then cc[ad.off]? else Γ ad
  have hin : ∀ j, j < cs.length → Γ' ⟨g, j, none⟩ = cc[j]? := fun j hj => by simp [Γ', hj]
  have hout : ∀ ad : Addr, ad.block ≠ g → Γ' ad = Γ ad := fun ad had => by simp [Γ', had]
  have hsub : Sub Γ Γ' := fun ad v hv => by
    by_cases e : ad.block = g
    · rw [q6 ad e] at hv; cases hv
    · rw [hout ad e]; exact hv
  have hgok : ∀ ad v, Γ' ad = some v → w.cell? ad = some v := fun ad v hv => by
    by_cases e : ad.block = g ∧ ad.spot = none ∧ ad.off < cs.length
    · obtain ⟨e1, e2, e3⟩ := e
      obtain ⟨ab, ao, asL⟩ := ad
      simp only at e1 e2 e3; subst e1; subst e2
      rw [hin ao e3] at hv
      rw [cell_of_row w ab _ cc E.1 E.2 q2]; exact hv
    · simp only [Γ', if_neg e] at hv
      exact hw.gok ad v hv
  have hob' : ∀ s, (⟨st.T, (t, .dead) :: st.B⟩ : St).ob s = if t = s then .dead else st.ob s := fun s => ob_cons _ _ _ _ _
  have hnew : RRW c Γ' m ⟨st.T, (t, .dead) :: st.B⟩ a w := by
    refine hw.mem hsub (fun _ _ _ => ⟨fun _ h => h, fun _ _ h => h⟩) (fun _ _ => ⟨fun _ h => h, fun _ _ h => h⟩) hgok (fun s => ?_) (fun s b hb => ?_) (fun s s2 b hb hb2 => ?_) hw.frame (fun ad h0 h1 => ?_)
    · rw [hob']
      split
      · trivial
      · rename_i hne
        refine (hw.obs s).keep hsub rfl rfl (fun _ _ => ⟨fun _ h => h, fun _ _ h => h⟩) fun b hb => ⟨rfl, fun ad had => hout ad fun e => ?_⟩
        rw [had] at e; subst e
        exact hne (hw.inj t s _ hblk hb)
    · rw [hob'] at hb
      split at hb
      · cases hb
      · exact hw.own s b hb
    · rw [hob'] at hb hb2
      split at hb
      · cases hb
      · split at hb2
        · cases hb2
        · exact hw.inj s s2 b hb hb2
    · by_cases e : ad.block = g
      · rw [e]; exact hw.own t g hblk
      · rw [hout ad e] at h1; exact absurd h0 h1
  have hr : RepL Γ' Nm.e (cc.toList.take cs.length) (cs.map AV.close) := by
    refine ⟨by have := q3.2; simp; omega, fun j v x hv hx => ?_⟩
    rw [List.getElem?_take] at hv
    split at hv
    · rw [List.getElem?_map] at hx
      obtain ⟨y, hy, rfl⟩ := Option.map_eq_some_iff.1 hx
      exact ((q4 j v y (by simpa using hv) hy).sub hsub).close (List.all_eq_true.1 hs _ (List.mem_of_getElem? hy))
    · cases hv
  have hF : FzG t cs Γ' m := fun g' hg' off => by
    rw [q1] at hg'; cases hg'
    have hr' := hr.drop off
    refine .pel _ hr'.1 (fun j v hv => ?_) (fun v hv => ?_) hr'.2
    · rw [List.getElem?_drop, List.getElem?_take] at hv
      split at hv
      · rename_i hlt
        rw [add_lit, hin _ hlt]; simpa using hv
      · cases hv
    · obtain ⟨j, hj⟩ := List.getElem?_of_mem hv
      rw [List.getElem?_drop, List.getElem?_take] at hj
      split at hj
      · rename_i hlt; exact q5 _ v hlt (by simpa using hj)
      · cases hj
  exact ⟨Γ', m, hnew.less hF hl⟩
theorem AW.freeze (t : Nat) {cs : List AV} (hob : st.ob t = .bx cs) (hs : cs.all AV.shut = true) (hl : StLe (FzG t cs) ⟨st.T, (t, .dead) :: st.B⟩ st') (h : AW F k st') : AW F k st := fun a w hr => h a w (hr.freeze t hob hs hl)
theorem AO.freeze (t : Nat) {cs : List AV} (hob : st.ob t = .bx cs) (hs : cs.all AV.shut = true) (hl : StLe (FzG t cs) ⟨st.T, (t, .dead) :: st.B⟩ st') (h : AO F ops k l st') : AO F ops k l st := fun h1 h2 a w hr => h h1 h2 a w (hr.freeze t hob hs hl)

/-- A slice, and nil: it may be, if it has nothing. -/
theorem AO.eqNil {t : TypeId} {i : TyI} {e z : TypeId} {x y : Operand} {sz : Nat} {rows : List (List AV)} (hi : look tab t = some i := by exact rfl) (hd : i.d = .slice e := by exact rfl) (hx : (⟨T, B⟩ : St).val x = .sh sz rows := by exact rfl) (hy : (⟨T, B⟩ : St).val y = .nil := by exact rfl)
    (hxo : okOp N x = true := by exact rfl) (hyo : okOp N y = true := by exact rfl) (hdo : d < N := by exact of_decide_eq_true rfl)
    (h1 : rows = [] → AO F ops k l ⟨(d, .b true) :: T, B⟩) (h2 : AO F ops k l ⟨(d, .b false) :: T, B⟩) : AO F ops k (⟨some d, .binOp .eql t x y z, ty, pos, after, none⟩ :: l) ⟨T, B⟩ := fun hok hl a w ⟨Γ, m, hr⟩ => by
  obtain ⟨c, rfl, rfl, tok, mo, Z, fin⟩ := F
  simp only [List.all_cons, Bool.and_eq_true] at hl
  have hxe := hr.eval x hxo
  have hye := hr.eval y hyo
  rw [hx] at hxe
  rw [hy] at hye
  have hu := (tok.at hi).und
  rw [hd] at hu
  refine wpList_step fun K hK => ?_
  rw [wants_spec hr hok (show wants ops ⟨T, B⟩ ⟨some d, .binOp .eql t x y z, ty, pos, after, none⟩ = some true from rfl)]
  simp only [if_true]
  generalize hvy : a.eval y = vy at hye
  cases hye
  have hrun : ∀ p n q, a.eval x = .slice p n q → (execOp a.eval { dst := some d, op := .binOp .eql t x y z, type := ty, pos, after, guard := none }).run c.P w = .ok (.value (.bool p.isNone)) w := fun p n q hp => by
    have hg : (eqGuard .eql t x y (.slice p n q) (.slice none 0 0)).run c.P w = .ok () w := by simp [eqGuard]
    simp only [execOp, hp, hvy, Sem.run_bind, hg, Result.andThen_ok]
    simp [binOp, run_equal_slice_nil w t e p n q hu]
  rcases hxe.sh_inv with ⟨p, hp, rfl⟩ | ⟨p, cap, vs, hp, _⟩
  · unfold Oper.wp
    rw [hrun _ _ _ hp]
    cases p with
    | none => exact hK _ _ (h1 rfl hok hl.2 _ _ ⟨Γ, m, hr.put (some d) .b⟩)
    | some p => exact hK _ _ (h2 hok hl.2 _ _ ⟨Γ, m, hr.put (some d) .b⟩)
  · unfold Oper.wp
    rw [hrun _ _ _ hp]
    exact hK _ _ (h2 hok hl.2 _ _ ⟨Γ, m, hr.put (some d) .b⟩)
/-- A walk's end where the answer holds a slice that may grow. -/
theorem Good.w2 {P : Program} {tab : Tab} (ht : TabOk P tab) (mo : P.follows .mixedOrders = true) {f : FuncId} {fn : Func} {code : Code} {rs : List ResultVar} {N : Nat} {args : List AV} {t : Nat} {res : AV} {n : Nat} {T : List (Nat × AV)}
    (hf : P.funcs[f]? = some fn) (hfn : fnB fn N args.length = true) (hb : fn.body = some code) (hrs : LE fn.results.toList rs) (hT : LE (entT 0 args) T)
    (h : ∀ D : St → Prop, (∀ {st cs} (t' : Nat), resAll tab st rs = some cs → Lx Tr (resTup cs) (res.ren fun _ => t') → Ol Tr (st.ob t') (.gw n) → D st) → ∀ F : Fx P tab N D, AW F [.c code] ⟨T, []⟩) : Good P f args [] res [(t, .gw n)] :=
  Good.walk ht mo hf hfn hb hrs.eq (fun p hp => by simp at hp) (by
    rw [hT.eq]
    exact h _ fun {st cs} t' h1 h2 h3 => ⟨fun _ => t', cs, h1, h2, fun p hp => by simp at hp; subst hp; exact h3, fun s hs t ht _ => by simp at hs ht; rw [hs, ht], fun p hp => by simp at hp⟩)
end
end Go.Proofs.Ytmfonbehcfjjgaa.Mv

/- A machine for proofs: a row that a call answers, asL a box. Under no condition. -/
namespace Go.Proofs.Ytmfonbehcfjjgaa.Mv
open Go
set_option linter.unusedSimpArgs false
set_option linter.unusedVariables false

/-- Values that lead nowhere. -/
def AV.flat : AV → Bool
  | .i .. | .b _ | .s _ => true
  | _ => false
theorem Rep.flat {Γ Γ' m m' v c} (h : Rep Γ m v c) (hc : c.flat = true) : Rep Γ' m' v c := by
  cases h <;> first | exact .i | exact .b | exact .s | (simp [AV.flat] at hc)
theorem flatB (l : List UInt8) : (BS l).flatten.all AV.flat = true := by
  rw [BS_flat]
  simp [cellsB, AV.flat]
theorem close_flat {c : AV} (h : c.flat = true) : c.close = c := by cases c <;> simp [AV.flat] at h <;> rfl
theorem closeL_flat {cs : List AV} (h : cs.all AV.flat = true) : cs.map AV.close = cs := by
  induction cs with
  | nil => rfl
  | cons c cs ih =>
    simp only [List.all_cons, Bool.and_eq_true] at h
    rw [List.map_cons, close_flat h.1, ih h.2]
theorem flat_shut {cs : List AV} (h : cs.all AV.flat = true) : cs.all AV.shut = true := by
  rw [List.all_eq_true] at *
  intro c hc
  have := h c hc
  cases c <;> simp [AV.flat] at this <;> rfl
/-- A box's rows, once it is written no more. -/
theorem Lx.fzR {t sz : Nat} {rows : List (List AV)} (hfl : rows.flatten.all AV.flat = true) (hrl : ∀ r ∈ rows, r.length = sz) : Lx (FzG t rows.flatten) (.bsl t 0 rows.length sz) (.sh sz rows) := fun Γ m v hh hr => by
  cases hr with
  | bsl hth hn =>
    have := hh _ hth 0
    rw [List.drop_zero, closeL_flat hfl] at this
    cases this with
    | pel vs h1 h2 h3 h4 => exact .sh vs hn.1 hn.2 rfl hrl h1 h2 h3 h4
theorem Lx.fzB {t : Nat} {l : List UInt8} : Lx (FzG t (cellsB l)) (.bsl t 0 l.length 1) (.sh 1 (BS l)) := by
  have := Lx.fzR (t := t) (sz := 1) (rows := BS l) (flatB l) (fun r hr => by
    simp only [BS, List.mem_map] at hr
    obtain ⟨b, _, rfl⟩ := hr; rfl)
  rwa [BS_len, BS_flat] at this
theorem cellsB_shut (l : List UInt8) : (cellsB l).all AV.shut = true := by simp [cellsB, AV.shut]
/-- A row that may grow, handed out asL a box. -/
theorem Good.box {P : Program} {f : FuncId} {args : List AV} {t e sz : Nat} {rows : List (List AV)} (hg : Good P f args [] (.gr t e sz rows) [(t, .gw rows.length)]) (h0 : 0 < rows.length) (hfl : rows.flatten.all AV.flat = true) :
    Good P f args [] (.bsl t 0 rows.length sz) [(t, .bx rows.flatten)] :=
  ⟨hg.fn, fun w Γ m vals h1 h2 h3 h4 => (hg.calls w Γ m vals h1 h2 h3 h4).mono fun e' w' ⟨v, Γ', m', q, hp⟩ => by
    have hob := hp.obs (t, .gw rows.length) (by simp)
    obtain ⟨v0, e0, sz0, xs, k1, k2, k3, k4⟩ := hob
    have hrep := hp.rep
    cases hrep with
    | gr hsh hka =>
      rw [hka] at k1; cases k1
      rcases k3.2 with ⟨_, hz⟩ | ⟨gb, cap, cur, rfl, _, hheap, hnc, hcm, hcs, htake⟩
      · omega
      · have hblk : (Ob.gw rows.length).blk m' t = some gb := by simp [Ob.blk, hka, Value.ownBlock]
        have hnew : w.heap.size ≤ gb := by
          rcases hp.own gb ⟨(t, .gw rows.length), by simp, hblk⟩ with h | ⟨p, hp', _⟩
          · exact h
          · simp at hp'
        obtain ⟨r1, r2, r3⟩ := own_rep k3 hsh (fun g hg => (k4 g hg).1)
        let Γ'' : Gam := fun ad => if ad.block = gb then none else Γ' ad
        let m'' : Nm := m'.set t (some gb) fun _ => none
        refine ⟨_, Γ'', m'', q, fun ad y hy => ?_, fun ad y hy => ?_, .bsl (by simp [m'', Nm.set]) ⟨hnc, hcm⟩, fun p hp' => ?_, fun p hp' q' hq' g _ _ => by simp at hp' hq'; rw [hp', hq'], fun g hg' => ?_, fun p hp' => by simp at hp', hp.frame, fun ad h0 h1 => ?_⟩
        · have := block_lt_of_cell (h1 ad y hy)
          simp only [Γ'']
          rw [if_neg (by omega)]
          exact hp.sub ad y hy
        · simp only [Γ''] at hy
          split at hy
          · cases hy
          · exact hp.gok ad y hy
        · simp at hp'; subst hp'
          have hlen : rows.flatten.length = xs.length := r1.1.symm
          refine ⟨gb, cur, (e, 0, 0), by simp [m'', Nm.set], hheap, ⟨.inl (Nat.le_refl _), ?_⟩, fun j y z hy hz => ?_, fun j y hj hy => ?_, fun ad had => by simp [Γ'', had]⟩
          · rw [hlen, k3.1, hcs]; exact Nat.mul_le_mul_right _ hnc
          · have hj : j < xs.length := by rw [← hlen]; exact (List.getElem?_eq_some_iff.1 hz).1
            have hx : xs[j]? = some y := by
              rw [← htake, List.getElem?_take, if_pos (by rw [k3.1] at hj; exact hj)]; simpa using hy
            exact (r1.2 j y z hx hz).flat (List.all_eq_true.1 hfl z (List.mem_of_getElem? hz))
          · rw [hlen] at hj
            have hx : xs[j]? = some y := by
              rw [← htake, List.getElem?_take, if_pos (by rw [k3.1] at hj; exact hj)]; simpa using hy
            exact r3 y (List.mem_of_getElem? hx)
        · obtain ⟨p, hp', hg'⟩ := hg'
          simp at hp'; subst hp'
          simp only [Ob.blk, m'', Nm.set, if_true] at hg'
          cases hg'; exact .inl hnew
        · simp only [Γ''] at h1
          split at h1
          · exact absurd rfl h1
          · exact (hp.fresh ad h0 h1).imp id fun ⟨p, hp', _⟩ => by simp at hp'⟩
/-- A row of bytes, handed out asL a box. -/
theorem Good.boxB {P : Program} {f : FuncId} {args : List AV} {t e : Nat} {l : List UInt8} (hg : Good P f args [] (.gr t e 1 (BS l)) [(t, .gw (BS l).length)]) (h0 : 0 < l.length) : Good P f args [] (.bsl t 0 l.length 1) [(t, .bx (cellsB l))] := by
  have := hg.box (by rw [BS_len]; exact h0) (flatB l)
  rwa [BS_len, BS_flat] at this
end Go.Proofs.Ytmfonbehcfjjgaa.Mv

/- Calls to which a box is lent. Under no condition. -/
namespace Go.Proofs.Ytmfonbehcfjjgaa.Mv
open Go Go.Proofs
set_option linter.unusedSimpArgs false
set_option linter.unusedVariables false

theorem ren_no (ρ : Nat → Nat) (c : AV) (h : c.refs = []) : c.ren ρ = c := by
  match c with
  | .agg cs => simp only [AV.ren, renL_eq]; congr 1; exact go cs h
  | .tup cs => simp only [AV.ren, renL_eq]; congr 1; exact go cs h
  | .clo f cs => simp only [AV.ren, renL_eq]; congr 1; exact go cs h
  | .gr .. => simp [AV.refs] at h
  | .ptr .. => simp [AV.refs] at h
  | .bsl .. => simp [AV.refs] at h
  | .any | .u | .x _ | .i .. | .b _ | .s _ | .nil | .sh .. | .pel _ => rfl
where go : (cs : List AV) → AV.refs.refsL cs = [] → cs.map (AV.ren ρ) = cs
  | [], _ => rfl
  | c :: cs, h => by
    simp only [AV.refs.refsL, List.append_eq_nil_iff] at h
    rw [List.map_cons, ren_no ρ c h.1, go cs h.2]
theorem call_box {P : Program} {st : St} {d : Nat} {ty : TypeId} {pos} {after} {fx : Operand} {xs : Array Operand} {ts : Array TypeId} {f : FuncId} {caps args asL : List AV} {res : AV} {cs cs' : List AV} (t : Nat) {g}
    (hc : st.val fx = .clo f caps) (ha : Wf (xs.toList.map st.val ++ caps) asL) (hg : Good P f args [(1000000, .bx cs)] res [(1000000, .bx cs')]) (hl : LeL asL (args.map (AV.ren fun _ => t))) (hob : st.ob t = .bx cs)
    (ht : t ∈ tagsAt st ⟨some d, .call { callee := .value fx, args := xs, argTypes := ts }, ty, pos, after, g⟩) (hr : res.refs = []) (h1 : AV.refs.refsL cs = []) (h2 : AV.refs.refsL cs' = []) :
    CallOk P st ⟨some d, .call { callee := .value fx, args := xs, argTypes := ts }, ty, pos, after, g⟩ ⟨[(d, res)], [(t, .bx cs')], []⟩ :=
  ⟨fx, xs, ts, d, f, caps, args, [(1000000, .bx cs)], res, [(1000000, .bx cs')], fun _ => t, rfl, rfl, hc, hg, by rw [ha.eq]; exact hl,
    fun p hp => by
      simp at hp; subst hp
      exact ⟨by rw [hob]; simp only [Ob.ren, renL_eq]; rw [ren_no.go _ cs h1], ht⟩,
    fun s hs t' ht' _ => by simp at hs ht'; rw [hs, ht'], fun s hs => by simpa using hs, by simp, fun t ht => by rw [hr] at ht; simp at ht, fun p hp t ht => by simp at hp; subst hp; simp [Ob.refs, h2] at ht, by
      simp only [List.map_cons, List.map_nil, List.filterMap_cons, List.filterMap_nil, List.mem_cons, List.not_mem_nil, or_false, if_true, Ob.ren, renL_eq]
      rw [ren_no _ res hr, ren_no.go _ cs' h2]⟩
/-- A walk in a function to which a box is lent. -/
theorem Good.wB {P : Program} {tab : Tab} (ht : TabOk P tab) (mo : P.follows .mixedOrders = true) {f : FuncId} {fn : Func} {code : Code} {rs : List ResultVar} {N : Nat} {args : List AV} {res : AV} {cs cs' : List AV} {T : List (Nat × AV)}
    (hf : P.funcs[f]? = some fn) (hfn : fnB fn N args.length = true) (hb : fn.body = some code) (hrs : LE fn.results.toList rs) (hT : LE (entT 0 args) T)
    (h : ∀ D : St → Prop, (∀ {st cs0}, resAll tab st rs = some cs0 → Lx Tr (resTup cs0) res → Ol Tr (st.ob 1000000) (.bx cs') → D st) → ∀ F : Fx P tab N D, AW F [.c code] ⟨T, [(1000000, .bx cs)]⟩) : Good P f args [(1000000, .bx cs)] res [(1000000, .bx cs')] :=
  Good.walk ht mo hf hfn hb hrs.eq (fun p hp => by simp at hp; subst hp; exact Nat.le_refl _) (by
    rw [hT.eq]
    exact h _ fun {st cs0} a b c => ⟨fun t => t, cs0, a, by rw [ren_id]; exact b, fun p hp => by
      simp at hp; subst hp
      simp only [Ob.ren, renL_eq]; rw [ren_id.go]; exact c, fun s _ t _ e => e, fun p hp => rfl⟩)
/-- A function that only reads may be lent a box. -/
theorem Good.lend {P : Program} {f : FuncId} {args args' : List AV} {res : AV} {cs : List AV} (hg : Good P f args [] res []) (hfl : cs.all AV.flat = true) (hres : res.flat = true) (hl : LxL (FzG 1000000 cs) args' args) : Good P f args' [(1000000, .bx cs)] res [(1000000, .bx cs)] :=
  ⟨hg.fn, fun w Γ m vals gok hv hobs hinj => by
    obtain ⟨g, cc, E, q1, q2, q3, q4, q5, q6⟩ := hobs (1000000, .bx cs) (by simp)
    let Γ' : Gam := fun ad => if ad.block = g ∧ ad.spot = none ∧ ad.off < cs.length then cc[ad.off]? else Γ ad
    have hin : ∀ j, j < cs.length → Γ' ⟨g, j, none⟩ = cc[j]? := fun j hj => by simp [Γ', hj]
    have hout : ∀ ad : Addr, ad.block ≠ g → Γ' ad = Γ ad := fun ad had => by simp [Γ', had]
    have hsub : Sub Γ Γ' := fun ad v hv => by
      by_cases e : ad.block = g
      · rw [q6 ad e] at hv; cases hv
      · rw [hout ad e]; exact hv
    have hgok : ∀ ad v, Γ' ad = some v → w.cell? ad = some v := fun ad v hv => by
      by_cases e : ad.block = g ∧ ad.spot = none ∧ ad.off < cs.length
      · obtain ⟨e1, e2, e3⟩ := e
        obtain ⟨ab, ao, asL⟩ := ad
        simp only at e1 e2 e3; subst e1; subst e2
        rw [hin ao e3] at hv
        rw [cell_of_row w ab _ cc E.1 E.2 q2]; exact hv
      · simp only [Γ', if_neg e] at hv
        exact gok ad v hv
    have hr : RepL Γ' Nm.e (cc.toList.take cs.length) (cs.map AV.close) := by
      refine ⟨by have := q3.2; simp; omega, fun j v x hv hx => ?_⟩
      rw [List.getElem?_take] at hv
      split at hv
      · rw [List.getElem?_map] at hx
        obtain ⟨y, hy, rfl⟩ := Option.map_eq_some_iff.1 hx
        exact ((q4 j v y (by simpa using hv) hy).sub hsub).close (List.all_eq_true.1 (flat_shut hfl) _ (List.mem_of_getElem? hy))
      · cases hv
    have hF : FzG 1000000 cs Γ' m := fun g' hg' off => by
      rw [q1] at hg'; cases hg'
      have hr' := hr.drop off
      refine .pel _ hr'.1 (fun j v hv => ?_) (fun v hv => ?_) hr'.2
      · rw [List.getElem?_drop, List.getElem?_take] at hv
        split at hv
        · rename_i hlt
          rw [add_lit, hin _ hlt]; simpa using hv
        · cases hv
      · obtain ⟨j, hj⟩ := List.getElem?_of_mem hv
        rw [List.getElem?_drop, List.getElem?_take] at hj
        split at hj
        · rename_i hlt; exact q5 _ v hlt (by simpa using hj)
        · cases hj
    have hv' : RepL Γ' m vals args := by
      refine ⟨by rw [hv.1, hl.len], fun j v c hvj hc => ?_⟩
      have hj : j < args'.length := by rw [hl.len]; exact (List.getElem?_eq_some_iff.1 hc).1
      exact hl.at j _ c (List.getElem?_eq_getElem hj) hc _ _ _ hF ((hv.2 j v _ hvj (List.getElem?_eq_getElem hj)).sub hsub)
    refine (hg.calls w Γ' m vals hgok hv' (fun p hp => by simp at hp) (fun p hp => by simp at hp)).mono fun e' w' ⟨v, Γ1, m1, q, hp⟩ => ?_
    have hgs : g < w.heap.size := (Array.getElem?_eq_some_iff.1 q2).1
    have hheap : w'.heap[g]? = some (.cells cc E.1 E.2) := by
      rw [hp.frame.block g hgs (fun ⟨p, hp', _⟩ => by simp at hp')]; exact q2
    let Γ2 : Gam := fun ad => if ad.block = g then none else Γ1 ad
    have hblk : (Ob.bx cs).blk m 1000000 = some g := q1
    refine ⟨v, Γ2, m, q, fun ad y hy => ?_, fun ad y hy => ?_, hp.rep.flat hres, fun p hp' => ?_, fun p hp' q' hq' g' _ _ => by simp at hp' hq'; rw [hp', hq'], fun g' hg' => .inr hg', fun p _ => ⟨fun _ h => h, fun _ _ h => h⟩, ⟨hp.frame.os, hp.frame.tape, hp.frame.output, hp.frame.size, fun k hk _ => hp.frame.block k hk (fun ⟨p, hp', _⟩ => by simp at hp')⟩, fun ad h0 h1 => ?_⟩
    · have e : ad.block ≠ g := fun e => by rw [q6 ad e] at hy; cases hy
      simp only [Γ2, if_neg e]
      exact hp.sub ad y (hsub ad y hy)
    · simp only [Γ2] at hy
      split at hy
      · cases hy
      · exact hp.gok ad y hy
    · simp at hp'; subst hp'
      exact ⟨g, cc, E, q1, hheap, q3, fun j y d hy hd => (q4 j y d hy hd).flat (List.all_eq_true.1 hfl d (List.mem_of_getElem? hd)), q5, fun ad had => by simp [Γ2, had]⟩
    · simp only [Γ2] at h1
      split at h1
      · exact absurd rfl h1
      · rename_i e
        have h0' : Γ' ad = none := by rw [hout ad e]; exact h0
        exact (hp.fresh ad h0' h1).imp id fun ⟨p, hp', _⟩ => by simp at hp'⟩
section
variable {P : Program} {tab : Tab} {N : Nat} {D : St → Prop} {F : Fx P tab N D} {ops : Array Oper} {k : List It} {l : List Oper} {T : List (Nat × AV)} {B : List (Nat × Ob)} {acc : List (List Nat × Eff)} {d : Nat} {ty : TypeId} {tg : List Nat}
theorem AO.sCallB {pos} {after} {fx : Operand} {xs : Array Operand} {ts : Array TypeId} {f : FuncId} {caps args asL : List AV} {res : AV} {cs cs' : List AV} (t : Nat) (hg : Good P f args [(1000000, .bx cs)] res [(1000000, .bx cs')])
    (hc : (⟨T, B⟩ : St).val fx = .clo f caps := by exact rfl) (ha : Wf (xs.toList.map (⟨T, B⟩ : St).val ++ caps) asL := by (repeat constructor); done)
    (hl : LeL asL (args.map (AV.ren fun _ => t)) := by (repeat (first | exact LeL.nil | (refine LeL.cons (Le.refl _) ?_) | (refine LeL.cons Le.gr ?_) | (refine LeL.cons Le.nil ?_))); done) (hob : (⟨T, B⟩ : St).ob t = .bx cs := by exact rfl)
    (htg : (tagsAt ⟨T, B⟩ ⟨some d, .call { callee := .value fx, args := xs, argTypes := ts }, ty, pos, after, none⟩).contains t = true := by exact rfl) (hr : res.refs = [] := by exact rfl) (h1 : AV.refs.refsL cs = [] := by exact rfl) (h2 : AV.refs.refsL cs' = [] := by exact rfl)
    (h : AO F ops k l ⟨(d, res) :: T, (t, .bx cs') :: B⟩) : AO F ops k (⟨some d, .call { callee := .value fx, args := xs, argTypes := ts }, ty, pos, after, none⟩ :: l) ⟨T, B⟩ :=
  AO.step (e := ⟨[(d, res)], [(t, .bx cs')], []⟩) rfl (.call (call_box t hc ha hg hl hob (by simpa using htg) hr h1 h2)) (fun e he => by simp at he) h
theorem AR.sCallB {acc : List Rec} {pos} {after} {fx : Operand} {xs : Array Operand} {ts : Array TypeId} {f : FuncId} {caps args asL : List AV} {res : AV} {cs cs' : List AV} (t : Nat) (hg : Good P f args [(1000000, .bx cs)] res [(1000000, .bx cs')])
    (hc : (⟨T, B⟩ : St).val fx = .clo f caps := by exact rfl) (ha : Wf (xs.toList.map (⟨T, B⟩ : St).val ++ caps) asL := by (repeat constructor); done)
    (hl : LeL asL (args.map (AV.ren fun _ => t)) := by (repeat (first | exact LeL.nil | (refine LeL.cons (Le.refl _) ?_) | (refine LeL.cons Le.gr ?_) | (refine LeL.cons Le.nil ?_))); done) (hob : (⟨T, B⟩ : St).ob t = .bx cs := by exact rfl)
    (htg : (tagsAt ⟨T, B⟩ ⟨some d, .call { callee := .value fx, args := xs, argTypes := ts }, ty, pos, after, none⟩).contains t = true := by exact rfl) (hr : res.refs = [] := by exact rfl) (h1 : AV.refs.refsL cs = [] := by exact rfl) (h2 : AV.refs.refsL cs' = [] := by exact rfl)
    (ht : LE (tagsAt ⟨T, B⟩ ⟨some d, .call { callee := .value fx, args := xs, argTypes := ts }, ty, pos, after, none⟩) tg)
    (h : AR F ops k l ⟨(d, res) :: T, (t, .bx cs') :: B⟩ (⟨tg, ⟨[(d, res)], [(t, .bx cs')], []⟩⟩ :: acc)) : AR F ops k (⟨some d, .call { callee := .value fx, args := xs, argTypes := ts }, ty, pos, after, none⟩ :: l) ⟨T, B⟩ acc :=
  AR.st (e := ⟨[(d, res)], [(t, .bx cs')], []⟩) rfl (.call (call_box t hc ha hg hl hob (by simpa using htg) hr h1 h2)) (fun e he => by simp at he) ht h
theorem freeB_bx {t : Nat} {cs : List AV} (hcs : AV.refs.refsL cs = []) (hne : (t == d) = false) (h : (⟨T, B⟩ : St).freeB d = true) : (⟨T, (t, .bx cs) :: B⟩ : St).freeB d = true := by
  simp only [St.freeB, St.refsB, Ob.refs, hcs, Bool.and_eq_true, Bool.not_eq_true', List.contains_cons, List.nil_append] at h ⊢
  refine ⟨h.1, ?_⟩
  first
  | (rw [Bool.or_eq_false_iff]; exact ⟨by rw [beq_eq_false_iff_ne] at hne ⊢; exact fun e => hne e.symm, h.2⟩)
  | simp_all
end
end Go.Proofs.Ytmfonbehcfjjgaa.Mv

/- Calls to which several objects are lent. Under no condition. -/
namespace Go.Proofs.Ytmfonbehcfjjgaa.Mv
open Go Go.Proofs
set_option linter.unusedSimpArgs false
set_option linter.unusedVariables false

/-- What a callee's tags are in the caller. -/
def rho : List (Nat × Nat) → Nat → Nat
  | [], t => t
  | (a, b) :: r, t => cond (Nat.beq t a) b (rho r t)
inductive Rho : List (Nat × Nat) → Nat → Nat → Prop
  | nil {t} : Rho [] t t
  | here {a b r} : Rho ((a, b) :: r) a b
  | there {a b r t t'} : Nat.beq t a = false → Rho r t t' → Rho ((a, b) :: r) t t'
theorem Rho.eq {τ t t'} (h : Rho τ t t') : rho τ t = t' := by
  induction h with
  | nil => rfl
  | here => simp [rho]
  | there h1 h2 ih => simp only [rho, h1, cond_false]; exact ih
mutual
/-- A value by the caller's tags. -/
inductive Rn (τ : List (Nat × Nat)) : AV → AV → Prop
  | any : Rn τ .any .any
  | u : Rn τ .u .u
  | x {v} : Rn τ (.x v) (.x v)
  | i {k n} : Rn τ (.i k n) (.i k n)
  | b {t} : Rn τ (.b t) (.b t)
  | s {l} : Rn τ (.s l) (.s l)
  | nil : Rn τ .nil .nil
  | sh {sz rows} : Rn τ (.sh sz rows) (.sh sz rows)
  | pel {cs} : Rn τ (.pel cs) (.pel cs)
  | gr {t t' e sz rows} : Rho τ t t' → Rn τ (.gr t e sz rows) (.gr t' e sz rows)
  | ptr {t t' o} : Rho τ t t' → Rn τ (.ptr t o) (.ptr t' o)
  | bsl {t t' a n sz} : Rho τ t t' → Rn τ (.bsl t a n sz) (.bsl t' a n sz)
  | agg {cs ds} : RnL τ cs ds → Rn τ (.agg cs) (.agg ds)
  | tup {cs ds} : RnL τ cs ds → Rn τ (.tup cs) (.tup ds)
  | clo {f cs ds} : RnL τ cs ds → Rn τ (.clo f cs) (.clo f ds)
inductive RnL (τ : List (Nat × Nat)) : List AV → List AV → Prop
  | nil : RnL τ [] []
  | cons {c d cs ds} : Rn τ c d → RnL τ cs ds → RnL τ (c :: cs) (d :: ds)
  | same {cs} : AV.refs.refsL cs = [] → RnL τ cs cs
end
mutual
theorem Rn.eq {τ c d} (h : Rn τ c d) : c.ren (rho τ) = d := by
  cases h with
  | gr h => simp only [AV.ren, h.eq]
  | ptr h => simp only [AV.ren, h.eq]
  | bsl h => simp only [AV.ren, h.eq]
  | agg h => simp only [AV.ren, renL_eq, h.eq]
  | tup h => simp only [AV.ren, renL_eq, h.eq]
  | clo h => simp only [AV.ren, renL_eq, h.eq]
  | _ => rfl
theorem RnL.eq {τ cs ds} (h : RnL τ cs ds) : cs.map (AV.ren (rho τ)) = ds := by
  cases h with
  | nil => rfl
  | cons h1 h2 => rw [List.map_cons, h1.eq, h2.eq]
  | same h => exact ren_no.go _ _ h
end
/-- An object by the caller's tags. -/
inductive Ro (τ : List (Nat × Nat)) : Ob → Ob → Prop
  | bx {cs ds} : RnL τ cs ds → Ro τ (.bx cs) (.bx ds)
  | gw {n} : Ro τ (.gw n) (.gw n)
  | dead : Ro τ .dead .dead
theorem Ro.eq {τ o o'} (h : Ro τ o o') : o.ren (rho τ) = o' := by
  cases h with
  | bx h => simp only [Ob.ren, renL_eq, h.eq]
  | _ => rfl
/-- The objects of a list, by the caller's tags. -/
inductive RoL (τ : List (Nat × Nat)) : List (Nat × Ob) → List (Nat × Ob) → Prop
  | nil : RoL τ [] []
  | cons {t t' o o' l l'} : Rho τ t t' → Ro τ o o' → RoL τ l l' → RoL τ ((t, o) :: l) ((t', o') :: l')
theorem RoL.eq {τ l l'} (h : RoL τ l l') : l.map (fun p => (rho τ p.1, p.2.ren (rho τ))) = l' := by
  induction h with
  | nil => rfl
  | cons h1 h2 h3 ih => rw [List.map_cons, h1.eq, h2.eq, ih]
/-- What is lent stands so in the caller. -/
inductive Lent (st : St) (tg : List Nat) (τ : List (Nat × Nat)) : List (Nat × Ob) → Prop
  | nil : Lent st tg τ []
  | cons {t t' o o' l} : Rho τ t t' → Ro τ o o' → st.ob t' = o' → tg.contains t' = true → Lent st tg τ l → Lent st tg τ ((t, o) :: l)
theorem Lent.ok {st tg τ l} (h : Lent st tg τ l) : ∀ p ∈ l, st.ob (rho τ p.1) = p.2.ren (rho τ) ∧ rho τ p.1 ∈ tg := by
  induction h with
  | nil => intro p hp; cases hp
  | cons h1 h2 h3 h4 h5 ih =>
    intro p hp
    cases hp with
    | head => dsimp only; rw [h1.eq, h2.eq]; exact ⟨h3, by simpa using h4⟩
    | tail _ hm => exact ih p hm
/-- One list ahead of another one. -/
inductive Apd {α : Type} : List α → List α → List α → Prop
  | nil {l} : Apd [] l l
  | cons {x a b c} : Apd a b c → Apd (x :: a) b (x :: c)
theorem Apd.eq {α : Type} {a b c : List α} (h : Apd a b c) : a ++ b = c := by
  induction h with
  | nil => rfl
  | cons _ ih => rw [List.cons_append, ih]
def injB (τ : List (Nat × Nat)) (l : List Nat) : Bool := l.all fun s => l.all fun t => !Nat.beq (rho τ s) (rho τ t) || Nat.beq s t
def nodB : List Nat → Bool
  | [] => true
  | t :: l => !l.contains t && nodB l
theorem nodB_ok : ∀ {l : List Nat}, nodB l = true → l.Nodup
  | [], _ => .nil
  | t :: l, h => by
    simp only [nodB, Bool.and_eq_true, Bool.not_eq_true', List.contains_eq_mem, decide_eq_false_iff_not] at h
    exact List.nodup_cons.2 ⟨h.1, nodB_ok h.2⟩
/-- The tags are in order: told apart, what is lent is given back, what is led to is there. -/
def tagsB (τ : List (Nat × Nat)) (i o : List Nat) (r : List Nat) (rs : List (Nat × Ob)) : Bool :=
  injB τ (i ++ o) && i.all (fun s => o.contains s) && nodB o && r.all (fun t => o.contains t) && rs.all (fun p => p.2.refs.all fun t => o.contains t)
theorem call_multi {P : Program} {st : St} {d : Nat} {ty : TypeId} {pos} {after} {fx : Operand} {xs : Array Operand} {ts : Array TypeId} {f : FuncId} {caps args asL : List AV} {ins outs : List (Nat × Ob)} {res res' : AV} {B' : List (Nat × Ob)} {nw : List Nat} (τ : List (Nat × Nat)) {g}
    (hc : st.val fx = .clo f caps) (ha : Wf (xs.toList.map st.val ++ caps) asL) (hg : Good P f args ins res outs) (hl : LeL asL (args.map (AV.ren (rho τ))))
    (hi : Lent st (tagsAt st ⟨some d, .call { callee := .value fx, args := xs, argTypes := ts }, ty, pos, after, g⟩) τ ins) (ht : tagsB τ (ins.map (·.1)) (outs.map (·.1)) res.refs outs = true)
    (hr : Rn τ res res') (ho : RoL τ outs B') (hn : (outs.map (·.1)).filterMap (fun t => if (ins.map (·.1)).contains t then none else some (rho τ t)) = nw) :
    CallOk P st ⟨some d, .call { callee := .value fx, args := xs, argTypes := ts }, ty, pos, after, g⟩ ⟨[(d, res')], B', nw⟩ := by
  simp only [tagsB, Bool.and_eq_true] at ht
  obtain ⟨⟨⟨⟨t1, t2⟩, t3⟩, t4⟩, t5⟩ := ht
  refine ⟨fx, xs, ts, d, f, caps, args, ins, res, outs, rho τ, rfl, rfl, hc, hg, by rw [ha.eq]; exact hl, hi.ok, fun s hs t htt e => ?_, fun s hs => ?_, nodB_ok t3, fun t htt => ?_, fun p hp t htt => ?_, ?_⟩
  · have := List.all_eq_true.1 (List.all_eq_true.1 t1 s hs) t htt
    rw [e] at this
    simpa using this
  · simpa using List.all_eq_true.1 t2 s hs
  · simpa using List.all_eq_true.1 t4 t htt
  · simpa using List.all_eq_true.1 (List.all_eq_true.1 t5 p hp) t htt
  · rw [hr.eq, ho.eq, ← hn]
    congr 1
    refine congrArg (fun F : Nat → Option Nat => List.filterMap F (outs.map (·.1))) (funext fun t => ?_)
    by_cases e : t ∈ ins.map (·.1)
    · rw [if_pos e, if_pos (by simpa using e)]
    · rw [if_neg e, if_neg (by simpa using e)]
/-- A walk in a function to which objects are lent. -/
theorem Good.wM {P : Program} {tab : Tab} (ht : TabOk P tab) (mo : P.follows .mixedOrders = true) {f : FuncId} {fn : Func} {code : Code} {rs : List ResultVar} {N : Nat} {args : List AV} {res : AV} {ins outs : List (Nat × Ob)} {T : List (Nat × AV)}
    (hf : P.funcs[f]? = some fn) (hfn : fnB fn N args.length = true) (hb : fn.body = some code) (hrs : LE fn.results.toList rs) (hT : LE (entT 0 args) T)
    (hbig : ins.all (fun p => decide (1000000 ≤ p.1)) = true)
    (h : ∀ D : St → Prop, (∀ {st cs0}, resAll tab st rs = some cs0 → Lx Tr (resTup cs0) res → LeB Tr st outs → D st) → ∀ F : Fx P tab N D, AW F [.c code] ⟨T, ins⟩) : Good P f args ins res outs :=
  Good.walk ht mo hf hfn hb hrs.eq (fun p hp => by simpa using List.all_eq_true.1 hbig p hp) (by
    rw [hT.eq]
    refine h _ fun {st cs0} a b c => ⟨fun t => t, cs0, a, by rw [ren_id]; exact b, fun p hp => ?_, fun s _ t _ e => e, fun p hp => rfl⟩
    have : ∀ {l : List (Nat × Ob)}, LeB Tr st l → ∀ p ∈ l, Ol Tr (st.ob p.1) (p.2.ren fun t => t) := fun hh => by
      induction hh with
      | nil => intro p hp; cases hp
      | cons h1 h2 ih =>
        intro p hp
        cases hp with
        | head =>
          have e : ∀ o : Ob, o.ren (fun t => t) = o := fun o => by
            cases o with
            | bx cs => simp only [Ob.ren, renL_eq]; rw [ren_id.go]
            | _ => rfl
          dsimp only; rw [e]; exact h1
        | tail _ hm => exact ih p hm
    exact this c p hp)
section
variable {P : Program} {tab : Tab} {N : Nat} {D : St → Prop} {F : Fx P tab N D} {ops : Array Oper} {k : List It} {l : List Oper} {T : List (Nat × AV)} {B : List (Nat × Ob)} {acc : List Rec} {d : Nat} {ty : TypeId} {tg : List Nat}
theorem AO.callM {pos} {after} {fx : Operand} {xs : Array Operand} {ts : Array TypeId} {f : FuncId} {caps args asL : List AV} {ins outs : List (Nat × Ob)} {res res' : AV} {B' B2 : List (Nat × Ob)} (τ : List (Nat × Nat)) (hg : Good P f args ins res outs)
    (hc : (⟨T, B⟩ : St).val fx = .clo f caps) (ha : Wf (xs.toList.map (⟨T, B⟩ : St).val ++ caps) asL) (hl : LeL asL (args.map (AV.ren (rho τ))))
    (hi : Lent ⟨T, B⟩ (tagsAt ⟨T, B⟩ ⟨some d, .call { callee := .value fx, args := xs, argTypes := ts }, ty, pos, after, none⟩) τ ins) (ht : tagsB τ (ins.map (·.1)) (outs.map (·.1)) res.refs outs = true)
    (hr : Rn τ res res') (ho : RoL τ outs B') (hn : (outs.map (·.1)).filterMap (fun t => if (ins.map (·.1)).contains t then none else some (rho τ t)) = [])
    (hB : Apd B' B B2) (h : AO F ops k l ⟨(d, res') :: T, B2⟩) : AO F ops k (⟨some d, .call { callee := .value fx, args := xs, argTypes := ts }, ty, pos, after, none⟩ :: l) ⟨T, B⟩ :=
  AO.step (e := ⟨[(d, res')], B', []⟩) rfl (.call (call_multi τ hc ha hg hl hi ht hr ho hn)) (fun e he => by simp at he) (by rw [← hB.eq] at h; exact h)
theorem AR.callM {pos} {after} {fx : Operand} {xs : Array Operand} {ts : Array TypeId} {f : FuncId} {caps args asL : List AV} {ins outs : List (Nat × Ob)} {res res' : AV} {B' B2 : List (Nat × Ob)} (τ : List (Nat × Nat)) (hg : Good P f args ins res outs)
    (hc : (⟨T, B⟩ : St).val fx = .clo f caps) (ha : Wf (xs.toList.map (⟨T, B⟩ : St).val ++ caps) asL) (hl : LeL asL (args.map (AV.ren (rho τ))))
    (hi : Lent ⟨T, B⟩ (tagsAt ⟨T, B⟩ ⟨some d, .call { callee := .value fx, args := xs, argTypes := ts }, ty, pos, after, none⟩) τ ins) (ht : tagsB τ (ins.map (·.1)) (outs.map (·.1)) res.refs outs = true)
    (hr : Rn τ res res') (ho : RoL τ outs B') (hn : (outs.map (·.1)).filterMap (fun t => if (ins.map (·.1)).contains t then none else some (rho τ t)) = [])
    (htg : LE (tagsAt ⟨T, B⟩ ⟨some d, .call { callee := .value fx, args := xs, argTypes := ts }, ty, pos, after, none⟩) tg)
    (hB : Apd B' B B2) (h : AR F ops k l ⟨(d, res') :: T, B2⟩ (⟨tg, ⟨[(d, res')], B', []⟩⟩ :: acc)) : AR F ops k (⟨some d, .call { callee := .value fx, args := xs, argTypes := ts }, ty, pos, after, none⟩ :: l) ⟨T, B⟩ acc :=
  AR.st (e := ⟨[(d, res')], B', []⟩) rfl (.call (call_multi τ hc ha hg hl hi ht hr ho hn)) (fun e he => by simp at he) htg (by rw [← hB.eq] at h; exact h)
/-- What comes behind code that ends in several ways is walked once. -/
theorem AW.join {X : Code} {st : St} {k : List It} (E : St) (h : ∀ k' : List It, (∀ st' : St, StLe Tr st' E → AW F k' st') → AW F (.c X :: k') st) (hk : AW F k E) : AW F (.c X :: k) st :=
  h k fun st' hl => AW.less hl hk
theorem AW.joinB {X : Code} {id : Nat} {st : St} {k : List It} (E : St) (h : ∀ k' : List It, (∀ st' : St, StLe Tr st' E → AW F k' st') → AW F (.c X :: .b id :: k') st) (hk : AW F k E) : AW F (.c X :: .b id :: k) st :=
  h k fun st' hl => AW.less hl hk
end
end Go.Proofs.Ytmfonbehcfjjgaa.Mv

/- Packing: what a reader takes. Under no condition. -/
namespace Go.Proofs.Ytmfonbehcfjjgaa.Mv
open Go Go.Proofs
set_option linter.unusedSimpArgs false
set_option linter.unusedVariables false
set_option maxRecDepth 10000
set_option maxHeartbeats 4000000
attribute [local irreducible] AW AO AR

/-- A reader: its bytes, where it is, its error. -/
structure Rd where
  b : L
  p : Nat
  e : Int
def Rd.av (r : Rd) : List AV := [.sh 1 (BS r.b), .i .i64 r.p, .i .i64 r.e]
def num (l : L) : Nat := l.foldl (fun n c => n * 256 + c.toNat) 0
theorem num_snoc (l : L) (c : UInt8) : num (l ++ [c]) = num l * 256 + c.toNat := by simp [num]
theorem takeB {l : L} {q : Nat} (h : q < l.length) : l.take (q + 1) = l.take q ++ [l.getD q default] := by
  rw [List.take_add_one, List.getD_eq_getElem?_getD, List.getElem?_eq_getElem h]; rfl
theorem num_take {l : L} : ∀ q, q ≤ l.length → num (l.take q) < 256 ^ q
  | 0, _ => by simp [num]
  | q + 1, h => by
    have e := takeB (l := l) (q := q) (by omega)
    have := num_take (l := l) q (by omega)
    have := (l.getD q default).toNat_lt
    rw [e, num_snoc, Nat.pow_succ]
    omega
def takeV (r : Rd) (s : Nat) : Nat := if r.e ≠ 0 then 0 else if r.b.length < r.p + s then 0 else num ((r.b.drop r.p).take s)
def takeR (r : Rd) (s : Nat) : Rd := if r.e ≠ 0 then r else if r.b.length < r.p + s then ⟨r.b, r.p, 2⟩ else ⟨r.b, r.p + s, 0⟩
theorem take_e {r : Rd} {s : Nat} (h : r.e ≠ 0) : takeV r s = 0 ∧ takeR r s = r := ⟨by rw [takeV, if_pos h], by rw [takeR, if_pos h]⟩
theorem take_s {r : Rd} {s : Nat} (h : r.e = 0) (h2 : r.b.length < r.p + s) : takeV r s = 0 ∧ takeR r s = ⟨r.b, r.p, 2⟩ := ⟨by rw [takeV, if_neg (by omega), if_pos h2], by rw [takeR, if_neg (by omega), if_pos h2]⟩
theorem take_v {r : Rd} {s : Nat} (h : r.e = 0) (h2 : r.p + s ≤ r.b.length) : takeV r s = num ((r.b.drop r.p).take s) ∧ takeR r s = ⟨r.b, r.p + s, 0⟩ := ⟨by rw [takeV, if_neg (by omega), if_neg (by omega)], by rw [takeR, if_neg (by omega), if_neg (by omega)]⟩
theorem takeV_lt (r : Rd) (s : Nat) : takeV r s < 256 ^ s := by
  unfold takeV
  have p : 0 < 256 ^ s := Nat.pow_pos (by decide)
  split
  · exact p
  · split
    · exact p
    · have := num_take (l := r.b.drop r.p) s (by rw [List.length_drop]; omega)
      exact this
theorem wrap64n {n : Nat} (h : n < 18446744073709551616) : IntKind.wrap .u64 (n : Int) = n := by
  simp [IntKind.wrap, IntKind.bits, IntKind.signed]; omega
theorem or_shl (n : Nat) (c : UInt8) (h : n < 72057594037927936) : bits .or .u64 (IntKind.wrap .u64 ((n : Int) * 2 ^ 8)) (c.toNat : Int) = ((n * 256 + c.toNat : Nat) : Int) := by
  have hc := c.toNat_lt
  have w : ∀ m : Nat, m < 18446744073709551616 → IntKind.wrap .u64 (m : Int) = (m : Int) := fun m hm => by
    simp [IntKind.wrap, IntKind.bits, IntKind.signed]; omega
  have h1 : IntKind.wrap .u64 ((n : Int) * 2 ^ 8) = ((n * 256 : Nat) : Int) := by
    rw [show ((n : Int) * 2 ^ 8) = ((n * 256 : Nat) : Int) by omega]
    exact w _ (by omega)
  rw [h1]
  have h2 : bits .or .u64 ((n * 256 : Nat) : Int) (c.toNat : Int) = IntKind.wrap .u64 (((BitVec.ofInt 64 ((n * 256 : Nat) : Int)) ||| (BitVec.ofInt 64 ((c.toNat : Nat) : Int))).toNat : Int) := rfl
  rw [h2, BitVec.ofInt_natCast, BitVec.ofInt_natCast, BitVec.toNat_or, BitVec.toNat_ofNat, BitVec.toNat_ofNat, Nat.mod_eq_of_lt (by omega), Nat.mod_eq_of_lt (by omega),
    show n * 256 = n <<< 8 by rw [Nat.shiftLeft_eq], ← Nat.shiftLeft_add_eq_or_of_lt (by omega), Nat.shiftLeft_eq]
  exact w _ (by omega)
theorem gTake (r : Rd) (s : Nat) (hs : s ≤ 8) (hb : r.b.length ≤ 1000000) (hp : r.p ≤ r.b.length) :
    Good Try.prog 111 [.ptr 1000000 0, .i .i64 s] [(1000000, .bx r.av)] (.i .u64 (takeV r s)) [(1000000, .bx (takeR r s).av)] := by
  have lb : (BS r.b).length = r.b.length := BS_len r.b
  refine Good.wM tabOk mixed Try.func111 (N := 67) (by kernel_rfl) rfl (by (repeat (first | exact LE.nil | apply LE.cons)); done) (by (repeat (first | exact LE.nil | apply LE.cons)); done) (by exact rfl) fun D hD F => ?_
  repeat' (first
    | apply AO.nil
    | (apply AO.kIx; first | refine AO.sIxN (h := ?_) | refine AO.sIx (h := ?_) | refine AO.sP (h := ?_) | refine AO.sPi (h := ?_))
    | (apply AO.kSl; first | refine AO.sSl (h := ?_) | refine AO.sSlArr (h := ?_) | refine AO.sP (h := ?_))
    | (apply AO.kStore; first | refine AO.sStore (h := ?_) | refine AO.sStB (h := ?_))
    | (apply AO.kAdd; refine AO.sAdd (h := ?_))
    | (apply AO.kSub; refine AO.sSub (h := ?_))
    | (apply AO.kCv; first | refine AO.sBytes (h := ?_) | refine AO.sStr (h := ?_) | refine AO.sStrR (h := ?_))
    | (apply AO.kP; first | refine AO.sP (h := ?_) | refine AO.sPi (h := ?_) | refine AO.sLoadB (h := ?_))
    | apply AW.seq
    | (apply AW.kR; refine AW.sR (h := ?_))
    | apply AW.skip
    | apply AW.block
    | apply AW.out
    | (apply AW.kE; refine AW.sE (h := ?_))
    | apply AW.label
    | (apply AW.kRd; refine AW.sRd (h := ?_))
    | ((first | (apply AO.kG; first | refine AO.sgt (h1 := fun h => ?_) (h2 := fun h => ?_) | refine AO.sgf (h1 := fun h => ?_) (h2 := fun h => ?_) | refine AO.sgs (h := ?_)) | (apply AW.kC; refine AW.sC (h1 := fun h => ?_) (h2 := fun h => ?_)) | (apply AR.kAny; apply AR.kG; first | refine AR.sgt (h1 := fun h => ?_) (h2 := fun h => ?_) | refine AR.sgf (h1 := fun h => ?_) (h2 := fun h => ?_) | refine AR.sgs (h := ?_))) <;> (try (first | exact Bool.noConfusion h | exact absurd h (by decide) | (simp at h; done) | (rw [h]; try simp only [nrm] at h; try rw [h]; try (exfalso; omega)) | skip)))
    | (apply AR.kAny; first | (apply AR.kIx; first | refine AR.sIxN (h := ?_) | refine AR.sIx (h := ?_) | refine AR.sP (h := ?_) | refine AR.sPi (h := ?_)) | (apply AR.kSl; first | refine AR.sSl (h := ?_) | refine AR.sSlArr (h := ?_) | refine AR.sP (h := ?_)) | (apply AR.kStore; refine AR.sStore (h := ?_)) | (apply AR.kAdd; refine AR.sAdd (h := ?_)) | (apply AR.kSub; refine AR.sSub (h := ?_)) | (apply AR.kCv; refine AR.sStrR (h := ?_)) | (apply AR.kP; first | refine AR.sP (h := ?_) | refine AR.sPi (h := ?_)))
    | (apply AR.kNil; refine AR.sNil (h := ?_)))
  · have e : r.e ≠ 0 := by simpa using h
    rw [(take_e e).1, (take_e e).2] at hD
    exact AW.ret (hD rfl .refl (.cons .refl .nil))
  all_goals have e0 : r.e = 0 := by simpa using ‹(r.e != 0) = false›
  · have t := take_s (s := s) e0 (by omega)
    rw [t.1, t.2] at hD
    exact AW.ret (hD rfl .refl (.cons .refl .nil))
  · have hle : r.p + s ≤ r.b.length := by omega
    have t := take_v e0 hle
    have pe : (r.b.take (r.p + s)).drop r.p = (r.b.drop r.p).take s := by rw [List.drop_take]; congr 1; omega
    have pl : ((r.b.drop r.p).take s).length = s := by rw [List.length_take, List.length_drop]; omega
    have hpl : (BS (List.drop (r.p : Int).toNat (List.take ((r.p : Int) + (s : Int)).toNat r.b))).length = s := by
      rw [BS_len, show (r.p : Int).toNat = r.p from rfl, show ((r.p : Int) + (s : Int)).toNat = r.p + s by omega, pe, pl]
    have hpe : BS (List.drop (r.p : Int).toNat (List.take ((r.p : Int) + (s : Int)).toNat r.b)) = BS ((r.b.drop r.p).take s) := by
      rw [show (r.p : Int).toNat = r.p from rfl, show ((r.p : Int) + (s : Int)).toNat = r.p + s by omega, pe]
    simp only [hpe]
    generalize hP : (r.b.drop r.p).take s = pc at *
    have lpc : (BS pc).length = s := by rw [BS_len, pl]
    rw [lpc]
    refine AW.loopI (fun q : Nat => q ≤ s) (fun q => ⟨[(0, .ptr 1000000 0), (1, .i .i64 s), (5, .i .u64 (num (pc.take q))), (46, .sh 1 (BS pc)), (47, .i .i64 s), (48, .i .i64 q)], [(1000000, .bx r.av)]⟩) (fun q => s - q) 0 (by simp) (by (constructor <;> (repeat' (first | exact LeT.nil | exact LeB.nil | apply LeT.cons | apply LeB.cons | exact Ol.refl | apply Lx.s | apply Lx.b | apply Lx.i | exact Lx.refl)) <;> (first | rfl | assumption | omega | (simp only [List.length_map, BS_len]; done) | skip))) fun m q hq ih => ?_
    by_cases hq2 : q < s
    · have nt := num_take (l := pc) q (by omega)
      have n56 : num (pc.take q) < 72057594037927936 := Nat.lt_of_lt_of_le nt (Nat.le_trans (Nat.pow_le_pow_right (by decide) (show q ≤ 7 by omega)) (by decide))
      have os := or_shl (num (pc.take q)) (pc.getD q default) n56
      have es := takeB (l := pc) (q := q) (by omega)
      have os' : bits .or .u64 (IntKind.wrap .u64 ((num (pc.take q) : Int) * 2 ^ Int.toNat 8)) (IntKind.wrap .u64 ((pc.getD q default).toNat : Int)) = ((num (pc.take (q + 1)) : Nat) : Int) := by
        have hc := (pc.getD q default).toNat_lt
        rw [show IntKind.wrap .u64 ((pc.getD q default).toNat : Int) = ((pc.getD q default).toNat : Int) from wrap64n (by omega), es, num_snoc]
        exact os
      repeat' (first
    | apply AO.nil
    | (apply AO.kIx; first | refine AO.sIxN (h := ?_) | refine AO.sIx (h := ?_) | refine AO.sP (h := ?_) | refine AO.sPi (h := ?_))
    | (apply AO.kSl; first | refine AO.sSl (h := ?_) | refine AO.sSlArr (h := ?_) | refine AO.sP (h := ?_))
    | (apply AO.kStore; first | refine AO.sStore (h := ?_) | refine AO.sStB (h := ?_))
    | (apply AO.kAdd; refine AO.sAdd (h := ?_))
    | (apply AO.kSub; refine AO.sSub (h := ?_))
    | (apply AO.kCv; first | refine AO.sBytes (h := ?_) | refine AO.sStr (h := ?_) | refine AO.sStrR (h := ?_))
    | (apply AO.kP; first | refine AO.sP (h := ?_) | refine AO.sPi (h := ?_) | refine AO.sLoadB (h := ?_))
    | apply AW.seq
    | (apply AW.kR; refine AW.sR (h := ?_))
    | apply AW.skip
    | apply AW.block
    | apply AW.out
    | (apply AW.kE; refine AW.sE (h := ?_))
    | apply AW.label
    | (apply AW.kRd; refine AW.sRd (h := ?_))
    | ((first | (apply AO.kG; first | refine AO.sgt (h1 := fun h => ?_) (h2 := fun h => ?_) | refine AO.sgf (h1 := fun h => ?_) (h2 := fun h => ?_) | refine AO.sgs (h := ?_)) | (apply AW.kC; refine AW.sC (h1 := fun h => ?_) (h2 := fun h => ?_)) | (apply AR.kAny; apply AR.kG; first | refine AR.sgt (h1 := fun h => ?_) (h2 := fun h => ?_) | refine AR.sgf (h1 := fun h => ?_) (h2 := fun h => ?_) | refine AR.sgs (h := ?_))) <;> (try (first | exact Bool.noConfusion h | exact absurd h (by decide) | (simp at h; done) | (rw [h]; try simp only [nrm] at h; try rw [h]; try (exfalso; omega)) | skip)))
    | (apply AR.kAny; first | (apply AR.kIx; first | refine AR.sIxN (h := ?_) | refine AR.sIx (h := ?_) | refine AR.sP (h := ?_) | refine AR.sPi (h := ?_)) | (apply AR.kSl; first | refine AR.sSl (h := ?_) | refine AR.sSlArr (h := ?_) | refine AR.sP (h := ?_)) | (apply AR.kStore; refine AR.sStore (h := ?_)) | (apply AR.kAdd; refine AR.sAdd (h := ?_)) | (apply AR.kSub; refine AR.sSub (h := ?_)) | (apply AR.kCv; refine AR.sStrR (h := ?_)) | (apply AR.kP; first | refine AR.sP (h := ?_) | refine AR.sPi (h := ?_)))
    | (apply AR.kNil; refine AR.sNil (h := ?_)))
      all_goals first
        | omega
        | (refine ih (q + 1) _ (by omega) (by omega) ?_
           simp only [os']
           (constructor <;> (repeat' (first | exact LeT.nil | exact LeB.nil | apply LeT.cons | apply LeB.cons | exact Ol.refl | apply Lx.s | apply Lx.b | apply Lx.i | exact Lx.refl)) <;> (first | rfl | assumption | omega | (simp only [List.length_map, BS_len]; done) | skip)))
    · obtain rfl : q = s := by omega
      have e1 : pc.take q = pc := List.take_of_length_le (by omega)
      rw [e1]
      rw [t.1, t.2] at hD
      repeat' (first
    | apply AO.nil
    | (apply AO.kIx; first | refine AO.sIxN (h := ?_) | refine AO.sIx (h := ?_) | refine AO.sP (h := ?_) | refine AO.sPi (h := ?_))
    | (apply AO.kSl; first | refine AO.sSl (h := ?_) | refine AO.sSlArr (h := ?_) | refine AO.sP (h := ?_))
    | (apply AO.kStore; first | refine AO.sStore (h := ?_) | refine AO.sStB (h := ?_))
    | (apply AO.kAdd; refine AO.sAdd (h := ?_))
    | (apply AO.kSub; refine AO.sSub (h := ?_))
    | (apply AO.kCv; first | refine AO.sBytes (h := ?_) | refine AO.sStr (h := ?_) | refine AO.sStrR (h := ?_))
    | (apply AO.kP; first | refine AO.sP (h := ?_) | refine AO.sPi (h := ?_) | refine AO.sLoadB (h := ?_))
    | apply AW.seq
    | (apply AW.kR; refine AW.sR (h := ?_))
    | apply AW.skip
    | apply AW.block
    | apply AW.out
    | (apply AW.kE; refine AW.sE (h := ?_))
    | apply AW.label
    | (apply AW.kRd; refine AW.sRd (h := ?_))
    | ((first | (apply AO.kG; first | refine AO.sgt (h1 := fun h => ?_) (h2 := fun h => ?_) | refine AO.sgf (h1 := fun h => ?_) (h2 := fun h => ?_) | refine AO.sgs (h := ?_)) | (apply AW.kC; refine AW.sC (h1 := fun h => ?_) (h2 := fun h => ?_)) | (apply AR.kAny; apply AR.kG; first | refine AR.sgt (h1 := fun h => ?_) (h2 := fun h => ?_) | refine AR.sgf (h1 := fun h => ?_) (h2 := fun h => ?_) | refine AR.sgs (h := ?_))) <;> (try (first | exact Bool.noConfusion h | exact absurd h (by decide) | (simp at h; done) | (rw [h]; try simp only [nrm] at h; try rw [h]; try (exfalso; omega)) | skip)))
    | (apply AR.kAny; first | (apply AR.kIx; first | refine AR.sIxN (h := ?_) | refine AR.sIx (h := ?_) | refine AR.sP (h := ?_) | refine AR.sPi (h := ?_)) | (apply AR.kSl; first | refine AR.sSl (h := ?_) | refine AR.sSlArr (h := ?_) | refine AR.sP (h := ?_)) | (apply AR.kStore; refine AR.sStore (h := ?_)) | (apply AR.kAdd; refine AR.sAdd (h := ?_)) | (apply AR.kSub; refine AR.sSub (h := ?_)) | (apply AR.kCv; refine AR.sStrR (h := ?_)) | (apply AR.kP; first | refine AR.sP (h := ?_) | refine AR.sPi (h := ?_)))
    | (apply AR.kNil; refine AR.sNil (h := ?_)))
      all_goals exact AW.ret (hD rfl .refl (.cons (.bx (.cons .refl (.cons (Lx.i (by simp [Rd.av])) (.cons (Lx.i e0) .nil)))) .nil))
theorem wrapN {k : IntKind} {n : Nat} (h : k = .u8 ∧ n < 256 ∨ k = .u16 ∧ n < 65536 ∨ k = .u32 ∧ n < 4294967296) : IntKind.wrap k (n : Int) = n := by
  rcases h with ⟨rfl, h⟩ | ⟨rfl, h⟩ | ⟨rfl, h⟩ <;> (simp [IntKind.wrap, IntKind.bits, IntKind.signed]; omega)
theorem gGet8 (r : Rd) (hb : r.b.length ≤ 1000000) (hp : r.p ≤ r.b.length) : Good Try.prog 77 [.ptr 1000000 0] [(1000000, .bx r.av)] (.i .u8 (takeV r 1)) [(1000000, .bx (takeR r 1).av)] := by
  have g := gTake r 1 (by decide) hb hp
  have w : IntKind.wrap .u8 (takeV r 1 : Int) = takeV r 1 := wrapN (.inl ⟨rfl, takeV_lt r 1⟩)
  refine Good.wM tabOk mixed Try.func77 (N := 6) (by kernel_rfl) rfl (by (repeat (first | exact LE.nil | apply LE.cons)); done) (by (repeat (first | exact LE.nil | apply LE.cons)); done) (by exact rfl) fun D hD F => ?_
  repeat' (first
    | apply AO.nil
    | (apply AO.kCall 111; refine AO.callM [(1000000, 1000000)] (hg := (g)) (hc := by exact rfl) (ha := by (repeat constructor); done) (hl := by (repeat (first | exact LeL.nil | (refine LeL.cons (Le.refl _) ?_) | (refine LeL.cons Le.gr ?_) | (refine LeL.cons Le.nil ?_))); done) (hi := by (repeat (first | exact Rho.here | exact Rho.nil | (refine Rho.there ?_ ?_; exact rfl) | exact RnL.nil | apply RnL.cons | exact RoL.nil | exact Lent.nil | exact Apd.nil | apply Apd.cons | (refine Lent.cons ?_ ?_ ?_ ?_ ?_) | (refine RoL.cons ?_ ?_ ?_) | (refine RnL.same ?_; exact rfl) | constructor | exact rfl)); done) (ht := by exact rfl) (hr := by (repeat (first | exact Rho.here | exact Rho.nil | (refine Rho.there ?_ ?_; exact rfl) | exact RnL.nil | apply RnL.cons | exact RoL.nil | exact Lent.nil | exact Apd.nil | apply Apd.cons | (refine Lent.cons ?_ ?_ ?_ ?_ ?_) | (refine RoL.cons ?_ ?_ ?_) | (refine RnL.same ?_; exact rfl) | constructor | exact rfl)); done) (ho := by (repeat (first | exact Rho.here | exact Rho.nil | (refine Rho.there ?_ ?_; exact rfl) | exact RnL.nil | apply RnL.cons | exact RoL.nil | exact Lent.nil | exact Apd.nil | apply Apd.cons | (refine Lent.cons ?_ ?_ ?_ ?_ ?_) | (refine RoL.cons ?_ ?_ ?_) | (refine RnL.same ?_; exact rfl) | constructor | exact rfl)); done) (hn := by exact rfl) (hB := by (repeat (first | exact Rho.here | exact Rho.nil | (refine Rho.there ?_ ?_; exact rfl) | exact RnL.nil | apply RnL.cons | exact RoL.nil | exact Lent.nil | exact Apd.nil | apply Apd.cons | (refine Lent.cons ?_ ?_ ?_ ?_ ?_) | (refine RoL.cons ?_ ?_ ?_) | (refine RnL.same ?_; exact rfl) | constructor | exact rfl)); done) (h := ?_))
    | (apply AO.kCv; first | refine AO.sBytes (h := ?_) | refine AO.sStr (h := ?_) | refine AO.sStrR (h := ?_))
    | (apply AO.kP; first | refine AO.sP (h := ?_) | refine AO.sPi (h := ?_))
    | apply AW.seq
    | (apply AW.kR; refine AW.sR (h := ?_))
    | apply AW.skip
    | apply AW.block
    | apply AW.out
    | (apply AW.kE; refine AW.sE (h := ?_))
    | apply AW.label)
  simp only [w]
  exact AW.ret (hD rfl .refl (.cons .refl .nil))
theorem gGet16 (r : Rd) (hb : r.b.length ≤ 1000000) (hp : r.p ≤ r.b.length) : Good Try.prog 116 [.ptr 1000000 0] [(1000000, .bx r.av)] (.i .u16 (takeV r 2)) [(1000000, .bx (takeR r 2).av)] := by
  have g := gTake r 2 (by decide) hb hp
  have w : IntKind.wrap .u16 (takeV r 2 : Int) = takeV r 2 := wrapN (.inr (.inl ⟨rfl, takeV_lt r 2⟩))
  refine Good.wM tabOk mixed Try.func116 (N := 6) (by kernel_rfl) rfl (by (repeat (first | exact LE.nil | apply LE.cons)); done) (by (repeat (first | exact LE.nil | apply LE.cons)); done) (by exact rfl) fun D hD F => ?_
  repeat' (first
    | apply AO.nil
    | (apply AO.kCall 111; refine AO.callM [(1000000, 1000000)] (hg := (g)) (hc := by exact rfl) (ha := by (repeat constructor); done) (hl := by (repeat (first | exact LeL.nil | (refine LeL.cons (Le.refl _) ?_) | (refine LeL.cons Le.gr ?_) | (refine LeL.cons Le.nil ?_))); done) (hi := by (repeat (first | exact Rho.here | exact Rho.nil | (refine Rho.there ?_ ?_; exact rfl) | exact RnL.nil | apply RnL.cons | exact RoL.nil | exact Lent.nil | exact Apd.nil | apply Apd.cons | (refine Lent.cons ?_ ?_ ?_ ?_ ?_) | (refine RoL.cons ?_ ?_ ?_) | (refine RnL.same ?_; exact rfl) | constructor | exact rfl)); done) (ht := by exact rfl) (hr := by (repeat (first | exact Rho.here | exact Rho.nil | (refine Rho.there ?_ ?_; exact rfl) | exact RnL.nil | apply RnL.cons | exact RoL.nil | exact Lent.nil | exact Apd.nil | apply Apd.cons | (refine Lent.cons ?_ ?_ ?_ ?_ ?_) | (refine RoL.cons ?_ ?_ ?_) | (refine RnL.same ?_; exact rfl) | constructor | exact rfl)); done) (ho := by (repeat (first | exact Rho.here | exact Rho.nil | (refine Rho.there ?_ ?_; exact rfl) | exact RnL.nil | apply RnL.cons | exact RoL.nil | exact Lent.nil | exact Apd.nil | apply Apd.cons | (refine Lent.cons ?_ ?_ ?_ ?_ ?_) | (refine RoL.cons ?_ ?_ ?_) | (refine RnL.same ?_; exact rfl) | constructor | exact rfl)); done) (hn := by exact rfl) (hB := by (repeat (first | exact Rho.here | exact Rho.nil | (refine Rho.there ?_ ?_; exact rfl) | exact RnL.nil | apply RnL.cons | exact RoL.nil | exact Lent.nil | exact Apd.nil | apply Apd.cons | (refine Lent.cons ?_ ?_ ?_ ?_ ?_) | (refine RoL.cons ?_ ?_ ?_) | (refine RnL.same ?_; exact rfl) | constructor | exact rfl)); done) (h := ?_))
    | (apply AO.kCv; first | refine AO.sBytes (h := ?_) | refine AO.sStr (h := ?_) | refine AO.sStrR (h := ?_))
    | (apply AO.kP; first | refine AO.sP (h := ?_) | refine AO.sPi (h := ?_))
    | apply AW.seq
    | (apply AW.kR; refine AW.sR (h := ?_))
    | apply AW.skip
    | apply AW.block
    | apply AW.out
    | (apply AW.kE; refine AW.sE (h := ?_))
    | apply AW.label)
  simp only [w]
  exact AW.ret (hD rfl .refl (.cons .refl .nil))
theorem gGet32 (r : Rd) (hb : r.b.length ≤ 1000000) (hp : r.p ≤ r.b.length) : Good Try.prog 115 [.ptr 1000000 0] [(1000000, .bx r.av)] (.i .u32 (takeV r 4)) [(1000000, .bx (takeR r 4).av)] := by
  have g := gTake r 4 (by decide) hb hp
  have w : IntKind.wrap .u32 (takeV r 4 : Int) = takeV r 4 := wrapN (.inr (.inr ⟨rfl, takeV_lt r 4⟩))
  refine Good.wM tabOk mixed Try.func115 (N := 6) (by kernel_rfl) rfl (by (repeat (first | exact LE.nil | apply LE.cons)); done) (by (repeat (first | exact LE.nil | apply LE.cons)); done) (by exact rfl) fun D hD F => ?_
  repeat' (first
    | apply AO.nil
    | (apply AO.kCall 111; refine AO.callM [(1000000, 1000000)] (hg := (g)) (hc := by exact rfl) (ha := by (repeat constructor); done) (hl := by (repeat (first | exact LeL.nil | (refine LeL.cons (Le.refl _) ?_) | (refine LeL.cons Le.gr ?_) | (refine LeL.cons Le.nil ?_))); done) (hi := by (repeat (first | exact Rho.here | exact Rho.nil | (refine Rho.there ?_ ?_; exact rfl) | exact RnL.nil | apply RnL.cons | exact RoL.nil | exact Lent.nil | exact Apd.nil | apply Apd.cons | (refine Lent.cons ?_ ?_ ?_ ?_ ?_) | (refine RoL.cons ?_ ?_ ?_) | (refine RnL.same ?_; exact rfl) | constructor | exact rfl)); done) (ht := by exact rfl) (hr := by (repeat (first | exact Rho.here | exact Rho.nil | (refine Rho.there ?_ ?_; exact rfl) | exact RnL.nil | apply RnL.cons | exact RoL.nil | exact Lent.nil | exact Apd.nil | apply Apd.cons | (refine Lent.cons ?_ ?_ ?_ ?_ ?_) | (refine RoL.cons ?_ ?_ ?_) | (refine RnL.same ?_; exact rfl) | constructor | exact rfl)); done) (ho := by (repeat (first | exact Rho.here | exact Rho.nil | (refine Rho.there ?_ ?_; exact rfl) | exact RnL.nil | apply RnL.cons | exact RoL.nil | exact Lent.nil | exact Apd.nil | apply Apd.cons | (refine Lent.cons ?_ ?_ ?_ ?_ ?_) | (refine RoL.cons ?_ ?_ ?_) | (refine RnL.same ?_; exact rfl) | constructor | exact rfl)); done) (hn := by exact rfl) (hB := by (repeat (first | exact Rho.here | exact Rho.nil | (refine Rho.there ?_ ?_; exact rfl) | exact RnL.nil | apply RnL.cons | exact RoL.nil | exact Lent.nil | exact Apd.nil | apply Apd.cons | (refine Lent.cons ?_ ?_ ?_ ?_ ?_) | (refine RoL.cons ?_ ?_ ?_) | (refine RnL.same ?_; exact rfl) | constructor | exact rfl)); done) (h := ?_))
    | (apply AO.kCv; first | refine AO.sBytes (h := ?_) | refine AO.sStr (h := ?_) | refine AO.sStrR (h := ?_))
    | (apply AO.kP; first | refine AO.sP (h := ?_) | refine AO.sPi (h := ?_))
    | apply AW.seq
    | (apply AW.kR; refine AW.sR (h := ?_))
    | apply AW.skip
    | apply AW.block
    | apply AW.out
    | (apply AW.kE; refine AW.sE (h := ?_))
    | apply AW.label)
  simp only [w]
  exact AW.ret (hD rfl .refl (.cons .refl .nil))
def endR (r : Rd) : Int := if r.e = 0 ∧ r.p < r.b.length then 4 else r.e
theorem gEnd (r : Rd) (hb : r.b.length ≤ 1000000) : Good Try.prog 81 [.ptr 1000000 0] [(1000000, .bx r.av)] (.i .i64 (endR r)) [(1000000, .bx r.av)] := by
  have lb : (BS r.b).length = r.b.length := BS_len r.b
  refine Good.wM tabOk mixed Try.func81 (N := 28) (by kernel_rfl) rfl (by (repeat (first | exact LE.nil | apply LE.cons)); done) (by (repeat (first | exact LE.nil | apply LE.cons)); done) (by exact rfl) fun D hD F => ?_
  repeat' (first
    | apply AO.nil
    | (apply AO.kP; first | refine AO.sP (h := ?_) | refine AO.sPi (h := ?_) | refine AO.sLoadB (h := ?_))
    | apply AW.seq
    | (apply AW.kR; refine AW.sR (h := ?_))
    | apply AW.skip
    | apply AW.block
    | apply AW.out
    | (apply AW.kE; refine AW.sE (h := ?_))
    | apply AW.label
    | (apply AW.kRd; refine AW.sRd (h := ?_))
    | ((first | (apply AO.kG; first | refine AO.sgt (h1 := fun h => ?_) (h2 := fun h => ?_) | refine AO.sgf (h1 := fun h => ?_) (h2 := fun h => ?_) | refine AO.sgs (h := ?_)) | (apply AW.kC; refine AW.sC (h1 := fun h => ?_) (h2 := fun h => ?_)) | (apply AR.kAny; apply AR.kG; first | refine AR.sgt (h1 := fun h => ?_) (h2 := fun h => ?_) | refine AR.sgf (h1 := fun h => ?_) (h2 := fun h => ?_) | refine AR.sgs (h := ?_))) <;> (try (first | exact Bool.noConfusion h | exact absurd h (by decide) | (simp at h; done) | (rw [h]; try simp only [nrm] at h; try rw [h]; try (exfalso; omega)) | skip)))
    | (apply AR.kAny; first | (apply AR.kP; first | refine AR.sP (h := ?_) | refine AR.sPi (h := ?_)))
    | (apply AR.kNil; refine AR.sNil (h := ?_)))
  · exact AW.ret (hD rfl (Lx.i (by rw [endR, if_pos ⟨by assumption, by omega⟩])) (.cons .refl .nil))
  · exact AW.ret (hD rfl (Lx.i (by rw [endR, if_neg (by rintro ⟨_, a⟩; omega)])) (.cons .refl .nil))
  · exact AW.ret (hD rfl (Lx.i (by rw [endR, if_neg (by rintro ⟨a, _⟩; exact absurd a (by assumption))])) (.cons .refl .nil))
def failR (r : Rd) (x : Int) : Rd := if r.e = 0 then ⟨r.b, r.p, x⟩ else r
theorem gFail (r : Rd) (x : Int) : Good Try.prog 80 [.ptr 1000000 0, .i .i64 x] [(1000000, .bx r.av)] (.tup []) [(1000000, .bx (failR r x).av)] := by
  refine Good.wM tabOk mixed Try.func80 (N := 17) (by kernel_rfl) rfl (by (repeat (first | exact LE.nil | apply LE.cons)); done) (by (repeat (first | exact LE.nil | apply LE.cons)); done) (by exact rfl) fun D hD F => ?_
  repeat' (first
    | apply AO.nil
    | (apply AO.kStore; first | refine AO.sStore (h := ?_) | refine AO.sStB (h := ?_))
    | (apply AO.kP; first | refine AO.sP (h := ?_) | refine AO.sPi (h := ?_) | refine AO.sLoadB (h := ?_))
    | apply AW.seq
    | (apply AW.kR; refine AW.sR (h := ?_))
    | apply AW.skip
    | apply AW.block
    | apply AW.out
    | (apply AW.kE; refine AW.sE (h := ?_))
    | apply AW.label
    | ((first | (apply AO.kG; first | refine AO.sgt (h1 := fun h => ?_) (h2 := fun h => ?_) | refine AO.sgf (h1 := fun h => ?_) (h2 := fun h => ?_) | refine AO.sgs (h := ?_)) | (apply AW.kC; refine AW.sC (h1 := fun h => ?_) (h2 := fun h => ?_))) <;> (try (first | exact Bool.noConfusion h | exact absurd h (by decide) | (simp at h; done) | (rw [h]; try simp only [nrm] at h; try rw [h]; try (exfalso; omega)) | skip))))
  · rw [failR, if_pos h] at hD
    exact AW.fin (hD rfl .refl (.cons .refl .nil))
  · rw [failR, if_neg h] at hD
    exact AW.fin (hD rfl .refl (.cons .refl .nil))
/-! ### texts -/
def mx0 (x : Int) : Int := if x < 0 then 0 else x
def textP (r : Rd) (most : Int) : L × Rd :=
  if (takeR r 1).e ≠ 0 then ([], takeR r 1) else if mx0 most < (takeV r 1 : Int) then ([], ⟨r.b, r.p, 4⟩) else if r.b.length < (takeR r 1).p + takeV r 1 then ([], ⟨r.b, r.p, 2⟩)
  else ((r.b.drop (takeR r 1).p).take (takeV r 1), ⟨r.b, (takeR r 1).p + takeV r 1, 0⟩)
theorem takeR_b (r : Rd) (s : Nat) : (takeR r s).b = r.b := by unfold takeR; split; rfl; split <;> rfl
theorem takeR_p {r : Rd} {s : Nat} (h : r.p ≤ r.b.length) : (takeR r s).p ≤ r.b.length ∧ r.p ≤ (takeR r s).p := by
  unfold takeR; split
  · exact ⟨h, Nat.le_refl _⟩
  · split
    · exact ⟨h, Nat.le_refl _⟩
    · dsimp only; omega
theorem gGetText (r : Rd) (most : Int) (hb : r.b.length ≤ 1000000) (hp : r.p ≤ r.b.length) :
    Good Try.prog 114 [.ptr 1000000 0, .i .i64 most] [(1000000, .bx r.av)] (.s (textP r most).1) [(1000000, .bx (textP r most).2.av)] := by
  have g := gTake r 1 (by decide) hb hp
  have v256 : takeV r 1 < 256 := takeV_lt r 1
  have w : IntKind.wrap .i64 (takeV r 1 : Int) = takeV r 1 := wrap64 (by omega)
  obtain ⟨p1, p2⟩ := takeR_p (s := 1) hp
  have eb := takeR_b r 1
  unfold textP
  generalize takeR r 1 = r1 at *
  generalize takeV r 1 = n at *
  obtain ⟨b1, q1, e1⟩ := r1
  dsimp only at eb p1 p2 ⊢
  subst eb
  have lb : (BS r.b).length = r.b.length := BS_len r.b
  refine Good.wM tabOk mixed Try.func114 (N := 79) (by kernel_rfl) rfl (by (repeat (first | exact LE.nil | apply LE.cons)); done) (by (repeat (first | exact LE.nil | apply LE.cons)); done) (by exact rfl) fun D hD F => ?_
  (repeat (first | apply AW.seq | apply AW.block)); apply AW.kR; refine AW.sR (h := ?_); repeat' (first
    | apply AO.nil
    | (apply AO.kSl; first | refine AO.sSl (h := ?_) | refine AO.sSlArr (h := ?_) | refine AO.sP (h := ?_))
    | (apply AO.kStore; first | refine AO.sStore (h := ?_) | refine AO.sStB (h := ?_))
    | (apply AO.kAdd; refine AO.sAdd (h := ?_))
    | (apply AO.kSub; refine AO.sSub (h := ?_))
    | (apply AO.kCv; first | refine AO.sBytes (h := ?_) | refine AO.sStr (h := ?_) | refine AO.sStrR (h := ?_))
    | (apply AO.kP; first | refine AO.sP (h := ?_) | refine AO.sPi (h := ?_) | refine AO.sLoadB (h := ?_)))
  repeat' (first
    | apply AO.nil
    | (apply AO.kCall 111; refine AO.callM [(1000000, 1000000)] (hg := (g)) (hc := by exact rfl) (ha := by (repeat constructor); done) (hl := by (repeat (first | exact LeL.nil | (refine LeL.cons (Le.refl _) ?_) | (refine LeL.cons Le.gr ?_) | (refine LeL.cons Le.nil ?_))); done) (hi := by (repeat (first | exact Rho.here | exact Rho.nil | (refine Rho.there ?_ ?_; exact rfl) | exact RnL.nil | apply RnL.cons | exact RoL.nil | exact Lent.nil | exact Apd.nil | apply Apd.cons | (refine Lent.cons ?_ ?_ ?_ ?_ ?_) | (refine RoL.cons ?_ ?_ ?_) | (refine RnL.same ?_; exact rfl) | constructor | exact rfl)); done) (ht := by exact rfl) (hr := by (repeat (first | exact Rho.here | exact Rho.nil | (refine Rho.there ?_ ?_; exact rfl) | exact RnL.nil | apply RnL.cons | exact RoL.nil | exact Lent.nil | exact Apd.nil | apply Apd.cons | (refine Lent.cons ?_ ?_ ?_ ?_ ?_) | (refine RoL.cons ?_ ?_ ?_) | (refine RnL.same ?_; exact rfl) | constructor | exact rfl)); done) (ho := by (repeat (first | exact Rho.here | exact Rho.nil | (refine Rho.there ?_ ?_; exact rfl) | exact RnL.nil | apply RnL.cons | exact RoL.nil | exact Lent.nil | exact Apd.nil | apply Apd.cons | (refine Lent.cons ?_ ?_ ?_ ?_ ?_) | (refine RoL.cons ?_ ?_ ?_) | (refine RnL.same ?_; exact rfl) | constructor | exact rfl)); done) (hn := by exact rfl) (hB := by (repeat (first | exact Rho.here | exact Rho.nil | (refine Rho.there ?_ ?_; exact rfl) | exact RnL.nil | apply RnL.cons | exact RoL.nil | exact Lent.nil | exact Apd.nil | apply Apd.cons | (refine Lent.cons ?_ ?_ ?_ ?_ ?_) | (refine RoL.cons ?_ ?_ ?_) | (refine RnL.same ?_; exact rfl) | constructor | exact rfl)); done) (h := ?_))
    | (apply AO.kSl; first | refine AO.sSl (h := ?_) | refine AO.sSlArr (h := ?_) | refine AO.sP (h := ?_))
    | (apply AO.kStore; first | refine AO.sStore (h := ?_) | refine AO.sStB (h := ?_))
    | (apply AO.kAdd; refine AO.sAdd (h := ?_))
    | (apply AO.kSub; refine AO.sSub (h := ?_))
    | (apply AO.kCv; first | refine AO.sBytes (h := ?_) | refine AO.sStr (h := ?_) | refine AO.sStrR (h := ?_))
    | (apply AO.kP; first | refine AO.sP (h := ?_) | refine AO.sPi (h := ?_) | refine AO.sLoadB (h := ?_))
    | apply AW.seq
    | (apply AW.kR; refine AW.sR (h := ?_))
    | apply AW.skip
    | apply AW.block
    | apply AW.out
    | (apply AW.kE; refine AW.sE (h := ?_))
    | apply AW.label
    | (apply AW.kRd; refine AW.sRd (h := ?_))
    | ((first | (apply AW.kC; refine AW.sC (h1 := fun h => ?_) (h2 := fun h => ?_))) <;> (try (first | exact Bool.noConfusion h | exact absurd h (by decide) | (simp at h; done) | (rw [h]; try simp only [nrm] at h; try rw [h]; try (exfalso; omega)) | skip)))
    | (apply AR.kAny; first | (apply AR.kCall 111; refine AR.callM [(1000000, 1000000)] (hg := (g)) (hc := by exact rfl) (ha := by (repeat constructor); done) (hl := by (repeat (first | exact LeL.nil | (refine LeL.cons (Le.refl _) ?_) | (refine LeL.cons Le.gr ?_) | (refine LeL.cons Le.nil ?_))); done) (hi := by (repeat (first | exact Rho.here | exact Rho.nil | (refine Rho.there ?_ ?_; exact rfl) | exact RnL.nil | apply RnL.cons | exact RoL.nil | exact Lent.nil | exact Apd.nil | apply Apd.cons | (refine Lent.cons ?_ ?_ ?_ ?_ ?_) | (refine RoL.cons ?_ ?_ ?_) | (refine RnL.same ?_; exact rfl) | constructor | exact rfl)); done) (ht := by exact rfl) (hr := by (repeat (first | exact Rho.here | exact Rho.nil | (refine Rho.there ?_ ?_; exact rfl) | exact RnL.nil | apply RnL.cons | exact RoL.nil | exact Lent.nil | exact Apd.nil | apply Apd.cons | (refine Lent.cons ?_ ?_ ?_ ?_ ?_) | (refine RoL.cons ?_ ?_ ?_) | (refine RnL.same ?_; exact rfl) | constructor | exact rfl)); done) (ho := by (repeat (first | exact Rho.here | exact Rho.nil | (refine Rho.there ?_ ?_; exact rfl) | exact RnL.nil | apply RnL.cons | exact RoL.nil | exact Lent.nil | exact Apd.nil | apply Apd.cons | (refine Lent.cons ?_ ?_ ?_ ?_ ?_) | (refine RoL.cons ?_ ?_ ?_) | (refine RnL.same ?_; exact rfl) | constructor | exact rfl)); done) (hn := by exact rfl) (hB := by (repeat (first | exact Rho.here | exact Rho.nil | (refine Rho.there ?_ ?_; exact rfl) | exact RnL.nil | apply RnL.cons | exact RoL.nil | exact Lent.nil | exact Apd.nil | apply Apd.cons | (refine Lent.cons ?_ ?_ ?_ ?_ ?_) | (refine RoL.cons ?_ ?_ ?_) | (refine RnL.same ?_; exact rfl) | constructor | exact rfl)); done) (htg := by (repeat (first | exact LE.nil | apply LE.cons)); done) (h := ?_)) | (apply AR.kSl; first | refine AR.sSl (h := ?_) | refine AR.sSlArr (h := ?_) | refine AR.sP (h := ?_)) | (apply AR.kStore; refine AR.sStore (h := ?_)) | (apply AR.kAdd; refine AR.sAdd (h := ?_)) | (apply AR.kSub; refine AR.sSub (h := ?_)) | (apply AR.kCv; refine AR.sStrR (h := ?_)) | (apply AR.kP; first | refine AR.sP (h := ?_) | refine AR.sPi (h := ?_)))
    | (apply AR.kNil; refine AR.sNil (h := ?_)))
  · have e : e1 ≠ 0 := by simpa using h
    rw [if_pos e] at hD
    exact AW.ret (hD rfl .refl (.cons .refl .nil))
  · rename_i h1 h2
    have e : ¬ e1 ≠ 0 := by simpa using h1
    rw [w] at h2
    rw [if_neg e, if_pos (show mx0 most < (n : Int) from h2)] at hD
    exact AW.ret (hD rfl .refl (.cons .refl .nil))
  · rename_i h1 h2 h3
    have e : ¬ e1 ≠ 0 := by simpa using h1
    rw [w] at h2 h3
    have h4 : ¬ mx0 most < (n : Int) := by have : (n : Int) ≤ mx0 most := h2; omega
    rw [if_neg e, if_neg h4, if_pos (by omega)] at hD
    exact AW.ret (hD rfl .refl (.cons .refl .nil))
  · exfalso
    rename_i h1 h2 h3
    have e : e1 = 0 := by simpa using h1
    subst e; cases h
  · rename_i h1 h2 h3
    have e : e1 = 0 := by simpa using h1
    subst e
    rw [w] at h2 h3
    have h4 : ¬ mx0 most < (n : Int) := by have : (n : Int) ≤ mx0 most := h2; omega
    have h5 : q1 + n ≤ r.b.length := by omega
    rw [if_neg (by simp), if_neg h4, if_neg (by omega)] at hD
    simp only [w]
    refine AW.ret (hD rfl (Lx.s ?_) (.cons (.bx (.cons .refl (.cons (Lx.i (by simp)) (.cons .refl .nil)))) .nil))
    dsimp only
    rw [show ((q1 : Int) + (n : Int) - (n : Int)).toNat = q1 by omega, show ((q1 : Int) + (n : Int)).toNat = q1 + n by omega, List.drop_take]
    congr 1; omega
/-! ### a new reader -/
theorem Good.w3 {P : Program} {tab : Tab} (ht : TabOk P tab) (mo : P.follows .mixedOrders = true) {f : FuncId} {fn : Func} {code : Code} {rs : List ResultVar} {N : Nat} {args : List AV} {t : Nat} {res : AV} {cs : List AV} {T : List (Nat × AV)}
    (hf : P.funcs[f]? = some fn) (hfn : fnB fn N args.length = true) (hb : fn.body = some code) (hrs : LE fn.results.toList rs) (hT : LE (entT 0 args) T) (hcs : AV.refs.refsL cs = [])
    (h : ∀ D : St → Prop, (∀ {st cs0} (t' : Nat), resAll tab st rs = some cs0 → Lx Tr (resTup cs0) (res.ren fun _ => t') → Ol Tr (st.ob t') (.bx cs) → D st) → ∀ F : Fx P tab N D, AW F [.c code] ⟨T, []⟩) : Good P f args [] res [(t, .bx cs)] :=
  Good.walk ht mo hf hfn hb hrs.eq (fun p hp => by simp at hp) (by
    rw [hT.eq]
    exact h _ fun {st cs0} t' h1 h2 h3 => ⟨fun _ => t', cs0, h1, h2, fun p hp => by
      simp at hp; subst hp
      simp only [Ob.ren, renL_eq]; rw [ren_no.go _ cs hcs]; exact h3, fun s hs t ht _ => by simp at hs ht; rw [hs, ht], fun p hp => by simp at hp⟩)
theorem gCloneB (l : L) (hl : l.length ≤ 1000000) : Good Try.prog 110 [.sh 1 (BS l)] [] (.sh 1 (BS l)) [] := by
  have ll : (BS l).length = l.length := BS_len l
  refine Good.w tabOk mixed Try.func110 (N := 8) (by kernel_rfl) rfl (by (repeat (first | exact LE.nil | apply LE.cons)); done) (by (repeat (first | exact LE.nil | apply LE.cons)); done) fun D hD F => ?_
  repeat' (first
    | apply AO.nil
    | (apply AO.kBuildS; first | refine AO.sBuildT (h := ?_) | refine AO.sBuildS (h := ?_))
    | (apply AO.kApp; first | refine AO.sGrowT (h := ?_) | refine AO.sNewT (h := ?_) | refine AO.sGrowBT (h := ?_) | refine AO.sGrow (h := ?_) | refine AO.sNewr (h := ?_))
    | (apply AO.kP; first | refine AO.sP (h := ?_) | refine AO.sPi (h := ?_) | refine AO.sSameB (h := ?_))
    | (apply AO.kP; refine AO.eqNil (h1 := fun h => ?_) (h2 := ?_))
    | apply AW.seq
    | (apply AW.kR; refine AW.sR (h := ?_))
    | apply AW.skip
    | apply AW.block
    | apply AW.out
    | (apply AW.kE; refine AW.sE (h := ?_))
    | apply AW.label
    | ((first | (apply AW.kC; refine AW.sC (h1 := fun h => ?_) (h2 := fun h => ?_))) <;> (try (first | exact Bool.noConfusion h | exact absurd h (by decide) | (simp at h; done) | (rw [h]; try simp only [nrm] at h; try rw [h]; try (exfalso; omega)) | skip))))
  · have h0 : BS l = [] := by assumption
    rw [h0] at hD; exact AW.ret (hD rfl Lx.nil)
  · exact AW.ret (hD rfl (show Lx Tr (.gr 5 5 1 (BS ([] ++ l))) (.sh 1 (BS l)) from Lx.gr))
theorem gNew (l : L) (hl : l.length ≤ 1000000) (t : Nat) : Good Try.prog 76 [.sh 1 (BS l)] [] (.ptr t 0) [(t, .bx (Rd.av ⟨l, 0, 0⟩))] := by
  refine Good.w3 tabOk mixed Try.func76 (N := 7) (by kernel_rfl) rfl (by (repeat (first | exact LE.nil | apply LE.cons)); done) (by (repeat (first | exact LE.nil | apply LE.cons)); done) rfl fun D hD F => ?_
  repeat' (first
    | apply AO.nil
    | (apply AO.kCall 110; refine AO.sCall (hg := (gCloneB l hl)) (h := ?_))
    | (apply AO.kBox; refine AO.sBox (h := ?_))
    | (apply AO.kP; first | refine AO.sP (h := ?_) | refine AO.sPi (h := ?_))
    | apply AW.seq
    | (apply AW.kR; refine AW.sR (h := ?_))
    | apply AW.skip
    | apply AW.block
    | apply AW.out
    | (apply AW.kE; refine AW.sE (h := ?_))
    | apply AW.label)
  exact AW.ret (hD 6 rfl .refl .refl)
end Go.Proofs.Ytmfonbehcfjjgaa.Mv
