/- A machine for proofs, part G: each operation that only reads, as the machine runs it. Under no condition. -/
import Derived.Test.YtocppeifkjdeiaaCoreF
namespace Go.Proofs.Ytocppeifkjdeiaa.Mv
open Go
set_option linter.unusedSimpArgs false
set_option linter.unusedVariables false

theorem un_run {P : Program} {w : World} {Γ m} {op : UnOp} {x c : AV} {v : Value} (hv : Rep Γ m v x) (h : un op x = some c) : ∃ val, (Op.unary op v).run P w = .ok val w ∧ Rep Γ m val c := by
  unfold un at h
  split at h
  · cases hv
    split at h <;> cases h
    · exact ⟨_, by simp [Op.unary, Op.intArith], .i⟩
    · refine ⟨_, ?_, .i⟩
      simp only [Op.unary, intBits_xor]
      exact Sem.run_pure _ _ _
  · cases hv
    split at h <;> cases h
    exact ⟨_, by simp [Op.unary], .b⟩
  · cases h

theorem min2_run {P : Program} {w : World} {Γ m} {x y c : AV} {u v : Value} (hu : Rep Γ m u x) (hv : Rep Γ m v y) (h : min2A x y = some c) : ∃ val, (Builtin.min2 u v).run P w = .ok val w ∧ Rep Γ m val c := by
  unfold min2A at h
  split at h
  · split at h <;> cases h
    rename_i e; subst e
    cases hu; cases hv
    exact ⟨_, by simp [Builtin.min2], .i⟩
  · cases h
    cases hu; cases hv
    rename_i a b
    refine ⟨.string ⟨(if (blt a b || a == b) = true then a else b).toArray⟩, ?_, .s⟩
    simp only [Builtin.min2, Op.stringOp, Sem.run_bind, Sem.run_pure, Result.andThen_ok, asBool, ByteArray.toList_eq]
    congr 2
    split <;> rfl
  · cases h
theorem max2_run {P : Program} {w : World} {Γ m} {x y c : AV} {u v : Value} (hu : Rep Γ m u x) (hv : Rep Γ m v y) (h : max2A x y = some c) : ∃ val, (Builtin.max2 u v).run P w = .ok val w ∧ Rep Γ m val c := by
  unfold max2A at h
  split at h
  · split at h <;> cases h
    rename_i e; subst e
    cases hu; cases hv
    exact ⟨_, by simp [Builtin.max2], .i⟩
  · cases h
    cases hu; cases hv
    rename_i a b
    refine ⟨.string ⟨(if (!blt a b) = true then a else b).toArray⟩, ?_, .s⟩
    simp only [Builtin.max2, Op.stringOp, Sem.run_bind, Sem.run_pure, Result.andThen_ok, asBool, ByteArray.toList_eq]
    congr 2
    split <;> rfl
  · cases h

theorem field_at {P : Program} {tab : Tab} (ht : TabOk P tab) {t : TypeId} {f off : Nat} {j : TyI} (h : fldOf tab t f = some (off, j)) : ∃ fs g, P.underlying t = some (.struct fs) ∧ fs[f]? = some g ∧ look tab g.type = some j ∧ g.offset = off ∧ j.size ≠ 0 := by
  unfold fldOf at h
  split at h
  · rename_i i hi
    split at h
    · rename_i fs hd
      split at h
      · rename_i g hg
        split at h
        · rename_i j' hj
          split at h
          · cases h
          · rename_i hs
            cases h
            exact ⟨fs, g, by rw [(ht.at hi).und, hd], hg, hj, rfl, hs⟩
        · cases h
      · cases h
    · cases h
  · cases h

theorem Bd.of {c Γ m st a w} (h : RRW c Γ m st a w) (x : Option Operand) (hx : ∀ y, x = some y → okOp c.N y = true) : Bd Γ m (x.map st.val) (x.map a.eval) := by
  cases x with
  | none => exact .no
  | some y => exact .yes (h.eval y (hx y rfl))

theorem toCells_vals {Γ m} : ∀ {cs : List AV} {vs : List Value} {l : List UInt8}, toCells cs = some l → RepL Γ m vs cs → vs.map byteOf' = l ∧ ∀ v ∈ vs, ∃ n, v = .int .u8 n
  | [], vs, l, hl, hr => toBytes_rows (rows := []) hl (by simp) hr
  | c :: cs, [], l, hl, hr => by have := hr.1; simp at this
  | c :: cs, v :: vs, l, hl, hr => by
    simp only [toCells] at hl
    split at hl
    · rename_i x xs hx hxs
      cases hl
      obtain ⟨h1, h2⟩ := toCells_vals hxs (vs := vs) (by simpa using hr.drop 1)
      obtain ⟨h3, h4⟩ := toBytes_rows (rows := [[c]]) (l := [x]) (by simp [toBytes, hx]) (by simp) (vs := [v]) ⟨rfl, fun j u d hu hd => by
        cases j with
        | zero => simp at hu hd; subst hu; subst hd; exact hr.2 0 v c rfl rfl
        | succ j => simp at hu⟩
      exact ⟨by simp at h3; simp [h1, h3], fun u hu => by
        cases hu with
        | head => exact h4 v (by simp)
        | tail _ hu => exact h2 u hu⟩
    · cases hl
theorem pop_sound {c Γ m st a w} {tab : Tab} (ht : TabOk c.P tab) (h : RRW c Γ m st a w) {o : Oper} {v : AV} (hok : o.op.operands.all (okOp c.N) = true) (hp : pop tab st o.op = some v) :
    ∃ val, (execOp a.eval o).run c.P w = .ok (.value val) w ∧ Rep Γ m val v := by
  obtain ⟨dst, op, type, pos, after, guard⟩ := o
  simp only at hok hp
  have ev : ∀ x, x ∈ op.operands → Rep Γ m (a.eval x) (st.val x) := fun x hx => h.eval x (by
    rw [Array.all_eq_true_iff_forall_mem] at hok; exact hok x hx)
  cases op with
  | move x => simp only [pop] at hp; cases hp; exact ⟨_, rfl, ev x (by simp [Op.operands])⟩
  | assign x => simp only [pop] at hp; cases hp; exact ⟨_, rfl, ev x (by simp [Op.operands])⟩
  | pick x y z =>
    simp only [pop] at hp
    split at hp <;> cases hp
    rename_i t e
    have h1 := ev x (by simp [Op.operands])
    have h2 := ev y (by simp [Op.operands])
    have h3 := ev z (by simp [Op.operands])
    rw [e] at h1
    cases h1e : a.eval x with
    | bool t' =>
      rw [h1e] at h1; cases h1
      cases t
      · exact ⟨_, by simp [execOp, h1e, asBool], h3⟩
      · exact ⟨_, by simp [execOp, h1e, asBool], h2⟩
    | _ => rw [h1e] at h1; cases h1
  | binOp op t x y t' =>
    simp only [pop] at hp
    obtain ⟨val, h1, h2⟩ := bin_run (w := w) ht (ev x (by simp [Op.operands])) (ev y (by simp [Op.operands])) hp x y
    exact ⟨val, by simp only [execOp, Sem.run_bind] at h1 ⊢; rw [h1]; rfl, h2⟩
  | unOp op t x =>
    simp only [pop] at hp
    obtain ⟨val, h1, h2⟩ := un_run (P := c.P) (w := w) (ev x (by simp [Op.operands])) hp
    exact ⟨val, by simp [execOp, h1], h2⟩
  | convert s d x =>
    simp only [pop] at hp
    have hx := ev x (by simp [Op.operands])
    split at hp
    · rename_i t off n e
      rw [e] at hx
      split at hp
      · rename_i i j hi hj
        split at hp
        · rename_i e' hd1 hd2
          split at hp
          · rename_i ie cs hie hob
            split at hp
            · rename_i hd3
              split at hp
              · rename_i hle
                have hb := h.obs t
                rw [hob] at hb
                obtain ⟨k, cc, E, q1, q2, q3, q4, q5, q6⟩ := hb
                cases hl : toCells ((cs.drop off).take n) with
                | none => rw [hl] at hp; cases hp
                | some l =>
                  rw [hl] at hp; cases hp
                  cases h1e : a.eval x with
                  | slice p len cap =>
                    rw [h1e] at hx
                    cases hx with
                    | bsl hth hn =>
                      rw [q1] at hth; cases hth
                      have hr : RepL Γ m (((cc.toList.take cs.length).drop off).take n) ((cs.drop off).take n) := (RepL.drop ⟨by have := q3.2; simp; omega, fun j v d hv hd => q4 j v d (by
                        rw [List.getElem?_take] at hv
                        split at hv
                        · simpa using hv
                        · cases hv) hd⟩ off).take n
                      obtain ⟨e1, e2⟩ := toCells_vals hl hr
                      have hlen : (((cc.toList.take cs.length).drop off).take n).length = n := by rw [hr.1]; simp; omega
                      have hrun := bytes_run (P := c.P) (w := w) (a := ⟨k, off, none⟩) (len := n) (cap := cap) (vs := ((cc.toList.take cs.length).drop off).take n) (fun j v hv => by
                        rw [add_lit, cell_of_row w k _ cc E.1 E.2 q2]
                        rw [List.getElem?_take, List.getElem?_drop, List.getElem?_take] at hv
                        split at hv
                        · split at hv
                          · simpa using hv
                          · cases hv
                        · cases hv) hlen e2
                      rw [e1] at hrun
                      have hui := (ht.at hi).run_und w
                      have huj := (ht.at hj).run_und w
                      have hue := (ht.at hie).run_und w
                      rw [hd1] at hui; rw [hd2] at huj; rw [hd3] at hue
                      exact ⟨.string ⟨l.toArray⟩, by simp [execOp, h1e, convert, hui, huj, hue, hrun], .s⟩
                  | _ => rw [h1e] at hx; cases hx
              · cases hp
            · cases hp
          · cases hp
        · cases hp
      · cases hp
    · obtain ⟨val, h1, h2⟩ := conv_run ht h.gok hx hp
      exact ⟨val, by simp [execOp, h1], h2⟩
  | extract x j =>
    simp only [pop] at hp
    split at hp
    · rename_i cs e
      have h1 := ev x (by simp [Op.operands])
      rw [e] at h1
      obtain ⟨vs, h2, h3⟩ := h1.tup_inv
      obtain ⟨val, h4, h5⟩ := h3.get hp
      exact ⟨val, by simp [execOp, h2, Instr.extract, h4], h5⟩
    · cases hp
  | nilCheck x =>
    simp only [pop] at hp
    have h1 := ev x (by simp [Op.operands])
    split at hp
    · rename_i t o' e
      cases hp
      rw [e] at h1
      cases h1e : a.eval x with
      | pointer p =>
        rw [h1e] at h1
        cases h1 with | ptr hth => exact ⟨_, by simp [execOp, h1e], .ptr hth⟩
      | _ => rw [h1e] at h1; cases h1
    · rename_i cs e
      cases hp
      rw [e] at h1
      cases h1e : a.eval x with
      | pointer p =>
        rw [h1e] at h1
        cases h1 with | pel vs q1 q2 q3 q4 => exact ⟨_, by simp [execOp, h1e], .pel vs q1 q2 q3 q4⟩
      | _ => rw [h1e] at h1; cases h1
    · cases hp
  | fieldAddr t x f =>
    simp only [pop] at hp
    split at hp
    · rename_i off j hf
      obtain ⟨fs, g, hu, hg, hj, hoff, hs⟩ := field_at ht hf
      have h1 := ev x (by simp [Op.operands])
      have hpl : ∀ ad : Addr, (fieldPlace ad g).run c.P w = .ok (ad.add g.offset) w := fun ad => by simp [fieldPlace, (ht.at hj).run_size w, hs]
      split at hp
      · rename_i t' o' e
        cases hp
        rw [e] at h1
        cases h1e : a.eval x with
        | pointer p =>
          rw [h1e] at h1
          cases h1 with | ptr hth => exact ⟨_, by simp [execOp, h1e, Instr.fieldAt, run_underlying hu, hg, Instr.sureAddr, hpl, add_lit, hoff], .ptr hth⟩
        | _ => rw [h1e] at h1; cases h1
      · rename_i cs e
        cases hp
        rw [e] at h1
        cases h1e : a.eval x with
        | pointer p =>
          rw [h1e] at h1
          cases h1 with
          | pel vs q1 q2 q3 q4 =>
            rename_i ad
            have := pel_mk (m := m) q2 q3 (⟨q1, q4⟩ : RepL Γ Nm.e vs cs) off cs.length
            rw [List.take_of_length_le (by simp)] at this
            exact ⟨_, by simp [execOp, h1e, Instr.fieldAt, run_underlying hu, hg, Instr.sureAddr, hpl, hoff], this⟩
        | _ => rw [h1e] at h1; cases h1
      · cases hp
    · cases hp
  | field t x f =>
    simp only [pop] at hp
    split at hp
    · rename_i off j hf
      obtain ⟨fs, g, hu, hg, hj, hoff, hs⟩ := field_at ht hf
      have h1 := ev x (by simp [Op.operands])
      split at hp
      · rename_i cs e
        rw [e] at h1
        obtain ⟨vs, h2, h3⟩ := h1.agg_inv
        obtain ⟨val, h4, h5⟩ := part_run (w := w) ht hj h3 off hp
        exact ⟨val, by simp [execOp, h2, Instr.field, run_underlying hu, hg, asAgg, hoff, h4], h5⟩
      · cases hp
    · cases hp
  | load t x =>
    simp only [pop] at hp
    split at hp
    · rename_i i hi
      have h1 := ev x (by simp [Op.operands])
      split at hp
      · rename_i g o' e
        rw [e] at h1
        split at hp
        · rename_i cs e2
          have hb := h.obs g
          rw [e2] at hb
          obtain ⟨k, cc, E, q1, q2, q3, q4, q5, q6⟩ := hb
          cases h1e : a.eval x with
          | pointer p =>
            rw [h1e] at h1
            cases h1 with
            | ptr hth =>
              rw [q1] at hth; cases hth
              have hr : RepL Γ m ((cc.toList.take cs.length).drop o') (cs.drop o') := RepL.drop ⟨by have := q3.2; simp; omega, fun j v d hv hd => q4 j v d (by
                rw [List.getElem?_take] at hv
                split at hv
                · simpa using hv
                · cases hv) hd⟩ o'
              obtain ⟨val, h2, h3⟩ := loadAt_run (a := ⟨k, o', none⟩) ht (fun j v hv => by
                rw [add_lit, cell_of_row w k _ cc E.1 E.2 q2]
                rw [List.getElem?_drop, List.getElem?_take] at hv
                split at hv
                · simpa using hv
                · cases hv) hr hi hp
              exact ⟨val, by simp [execOp, h1e, h2], h3⟩
          | _ => rw [h1e] at h1; cases h1
        · cases hp
      · rename_i cs e
        rw [e] at h1
        cases h1e : a.eval x with
        | pointer p =>
          rw [h1e] at h1
          cases h1 with
          | pel vs q1 q2 q3 q4 =>
            obtain ⟨val, h2, h3⟩ := loadAt_run ht (fun j v hv => h.gok _ _ (q2 j v hv)) (RepL.up (m := m) ⟨q1, q4⟩) hi hp
            exact ⟨val, by simp [execOp, h1e, h2], h3⟩
        | _ => rw [h1e] at h1; cases h1
      · cases hp
    · cases hp
  | build t ps =>
    simp only [pop] at hp
    split at hp
    · rename_i i hi
      split at hp
      · rename_i fs hd
        split at hp
        · rename_i l hl
          cases hf : fillA (i.zero.map ofVal) l with
          | none => rw [hf] at hp; cases hp
          | some ds =>
            rw [hf] at hp; cases hp
            obtain ⟨val, h1, h2⟩ := build_run ht h (ps := ps) (fun p hp' => by
              rw [Array.all_eq_true_iff_forall_mem] at hok
              exact hok p.2 (by simp only [Op.operands]; simpa using ⟨p.1, by simpa using hp'⟩)) hi hd hl hf
            exact ⟨val, by simp [execOp, h1], h2⟩
        · cases hp
      · cases hp
    · cases hp
  | indexAddr t x y =>
    simp only [pop] at hp
    split at hp
    · rename_i i hi
      have h1 := ev x (by simp [Op.operands])
      have h2 := ev y (by simp [Op.operands])
      split at hp
      · rename_i e k n hd e2
        rw [e2] at h2
        split at hp
        · rename_i j hj
          split at hp
          · rename_i tg off len sz e1
            split at hp <;> cases hp
            rename_i hc
            rw [e1] at h1
            cases h2e : a.eval y with
            | int k' n' =>
              rw [h2e] at h2; cases h2
              cases h1e : a.eval x with
              | slice p len' cap =>
                rw [h1e] at h1
                cases h1 with
                | bsl hth hn =>
                  have hu := (ht.at hi).run_und w
                  rw [hd] at hu
                  exact ⟨_, by simp [execOp, h2e, h1e, Instr.indexAt, asIntOf, hu, Instr.sureAddr, hc.2.1, hc.2.2, (ht.at hj).run_size w, hc.1, add_lit], .ptr hth⟩
              | _ => rw [h1e] at h1; cases h1
            | _ => rw [h2e] at h2; cases h2
          · split at hp
            · rename_i sz rows hr
              split at hp <;> cases hp
              rename_i hc
              cases h2e : a.eval y with
              | int k' n' =>
                rw [h2e] at h2; cases h2
                obtain ⟨val, h3, h4⟩ := indexAt_run (w := w) ht (rowsOf_rep h1 hr) hi hd hj hc.1 (k := k) hc.2.1 hc.2.2
                exact ⟨val, by simp [execOp, h2e, h3], h4⟩
              | _ => rw [h2e] at h2; cases h2
            · cases hp
        · cases hp
      · rename_i len e k n hd e2
        rw [e2] at h2
        split at hp
        · rename_i j g o' hj e1
          split at hp <;> cases hp
          rename_i hc
          rw [e1] at h1
          cases h2e : a.eval y with
          | int k' n' =>
            rw [h2e] at h2; cases h2
            cases h1e : a.eval x with
            | pointer p =>
              rw [h1e] at h1
              cases h1 with
              | ptr hth =>
                have hu := (ht.at hi).run_und w
                rw [hd] at hu
                exact ⟨_, by simp [execOp, h2e, h1e, Instr.indexAt, asIntOf, hu, Instr.sureAddr, hc.1, hc.2, (ht.at hj).run_size w, add_lit], .ptr hth⟩
            | _ => rw [h1e] at h1; cases h1
          | _ => rw [h2e] at h2; cases h2
        · cases hp
      · cases hp
    · cases hp
  | index t x y =>
    simp only [pop] at hp
    split at hp
    · rename_i i hi
      have h1 := ev x (by simp [Op.operands])
      have h2 := ev y (by simp [Op.operands])
      split at hp
      · rename_i l k n hd e1 e2
        split at hp <;> cases hp
        rename_i hc
        rw [e1] at h1; rw [e2] at h2
        have hu := (ht.at hi).run_und w
        rw [hd] at hu
        cases h2e : a.eval y with
        | int k' n' =>
          rw [h2e] at h2; cases h2
          cases h1e : a.eval x with
          | string s =>
            rw [h1e] at h1; cases h1
            have hn : n.toNat < l.length := by omega
            have hgb : (⟨l.toArray⟩ : ByteArray)[n.toNat]? = some l[n.toNat] := by
              rw [getElem?_pos _ _ (by simpa [ByteArray.size] using hn)]; rfl
            have hd' : l.getD n.toNat 0 = l[n.toNat] := by simp [List.getD, hn]
            exact ⟨.int .u8 (((l.getD n.toNat 0).toNat : Nat) : Int), by rw [hd']; simp [execOp, h1e, h2e, Instr.index, asIntOf, hu, hc.1, hgb], .i⟩
          | _ => rw [h1e] at h1; cases h1
        | _ => rw [h2e] at h2; cases h2
      · cases hp
    · cases hp
  | slice t x lo hi mx =>
    simp only [pop] at hp
    split at hp
    · cases hp
    · split at hp
      · rename_i i hi'
        have h1 := ev x (by simp [Op.operands])
        have hlo := Bd.of h lo fun y hy => by
          rw [Array.all_eq_true_iff_forall_mem] at hok; exact hok y (by subst hy; simp [Op.operands])
        have hhi := Bd.of h hi fun y hy => by
          rw [Array.all_eq_true_iff_forall_mem] at hok; exact hok y (by subst hy; simp [Op.operands])
        split at hp
        · rename_i hd
          split at hp
          · rename_i l e
            rw [e] at h1
            cases h1e : a.eval x with
            | string s =>
              rw [h1e] at h1; cases h1
              obtain ⟨val, h2, h3⟩ := sliceStr_run (w := w) ht hlo hhi hp hi' hd
              exact ⟨val, by simp [execOp, h1e, h2], h3⟩
            | _ => rw [h1e] at h1; cases h1
          · cases hp
        · rename_i e hd
          split at hp
          · rename_i j sz rows hj hr
            split at hp
            · rename_i hsz
              obtain ⟨val, h2, h3⟩ := sliceRows_run (w := w) ht (rowsOf_rep h1 hr) hlo hhi hp hi' hd hj hsz
              exact ⟨val, by simp [execOp, h2], h3⟩
            · cases hp
          · cases hp
        · cases hp
      · cases hp
  | makeFunc fn first caps =>
    simp only [pop] at hp
    split at hp
    · rename_i f
      split at hp <;> cases hp
      rename_i hz
      have hfirst : first = #[] := Array.eq_empty_of_size_eq_zero hz
      subst hfirst
      refine ⟨.func (.func f) #[] (caps.toList.map a.eval).toArray, ?_, .clo _ (by simp) fun j v d hv hd => ?_⟩
      · simp only [execOp, Instr.makeFunc]
        have : (caps.toList.map a.eval).toArray = caps.map a.eval := by apply Array.ext'; simp
        rw [this]; simp
      · rw [List.getElem?_map] at hv hd
        cases hq : caps.toList[j]? with
        | none => rw [hq] at hv; cases hv
        | some y =>
          rw [hq] at hv hd
          cases hv; cases hd
          exact ev y (by simp only [Op.operands]; simpa using List.mem_of_getElem? hq)
    · cases hp
  | call cl =>
    obtain ⟨callee, args, argTypes⟩ := cl
    simp only [pop] at hp
    split at hp
    · split at hp
      · rename_i x t e1 e2
        have hx : args = #[x] := by rw [← Array.toArray_toList (xs := args), e1]
        have htt : argTypes = #[t] := by rw [← Array.toArray_toList (xs := argTypes), e2]
        subst hx; subst htt
        have h1 := ev x (by simp [Op.operands, Call.operands])
        split at hp
        · rename_i i hi
          have hu := (ht.at hi).run_und w
          split at hp
          · rename_i l hd e
            cases hp
            rw [hd] at hu; rw [e] at h1
            cases h1e : a.eval x with
            | string s =>
              rw [h1e] at h1; cases h1
              have hsz : ByteArray.size ⟨l.toArray⟩ = l.length := by simp [ByteArray.size]
              exact ⟨_, by simp [execOp, resolve, invoke, builtin, h1e, Builtin.len_, hu, goInt, hsz], .i⟩
            | _ => rw [h1e] at h1; cases h1
          · rename_i e sz rows hd e'
            cases hp
            rw [hd] at hu; rw [e'] at h1
            rcases h1.sh_inv with ⟨ad, h2, rfl⟩ | ⟨ad, cap, vs, h2, _⟩
            · exact ⟨.int .i64 0, by simp [execOp, resolve, invoke, builtin, h2, Builtin.len_, hu, goInt], .i⟩
            · exact ⟨_, by simp [execOp, resolve, invoke, builtin, h2, Builtin.len_, hu, goInt], .i⟩
          · rename_i e t' e'' sz rows hd e'
            cases hp
            rw [hd] at hu; rw [e'] at h1
            have h1 := rowsOf_rep h1 (sz := sz) (rows := rows) rfl
            · rcases h1.sh_inv with ⟨ad, h2, rfl⟩ | ⟨ad, cap, vs, h2, _⟩
              · exact ⟨.int .i64 0, by simp [execOp, resolve, invoke, builtin, h2, Builtin.len_, hu, goInt], .i⟩
              · exact ⟨_, by simp [execOp, resolve, invoke, builtin, h2, Builtin.len_, hu, goInt], .i⟩
          · rename_i e hd e'
            cases hp
            rw [hd] at hu; rw [e'] at h1
            cases h1e : a.eval x with
            | slice p l c' =>
              rw [h1e] at h1; cases h1
              exact ⟨.int .i64 0, by simp [execOp, resolve, invoke, builtin, h1e, Builtin.len_, hu, goInt], .i⟩
            | _ => rw [h1e] at h1; cases h1
          · rename_i e t' off n sz hd e'
            cases hp
            rw [hd] at hu; rw [e'] at h1
            cases h1e : a.eval x with
            | slice p l c' =>
              rw [h1e] at h1; cases h1
              exact ⟨_, by simp [execOp, resolve, invoke, builtin, h1e, Builtin.len_, hu, goInt], .i⟩
            | _ => rw [h1e] at h1; cases h1
          · cases hp
        · cases hp
      · cases hp
    · split at hp
      · rename_i x y e1
        have hx : args = #[x, y] := by rw [← Array.toArray_toList (xs := args), e1]
        subst hx
        obtain ⟨val, h2, h3⟩ := min2_run (P := c.P) (w := w) (ev x (by simp [Op.operands, Call.operands])) (ev y (by simp [Op.operands, Call.operands])) hp
        exact ⟨val, by simp [execOp, resolve, invoke, builtin, Builtin.min_, h2], h3⟩
      · cases hp
    · split at hp
      · rename_i x y e1
        have hx : args = #[x, y] := by rw [← Array.toArray_toList (xs := args), e1]
        subst hx
        obtain ⟨val, h2, h3⟩ := max2_run (P := c.P) (w := w) (ev x (by simp [Op.operands, Call.operands])) (ev y (by simp [Op.operands, Call.operands])) hp
        exact ⟨val, by simp [execOp, resolve, invoke, builtin, Builtin.max_, h2], h3⟩
      · cases hp
    · cases hp
  | _ => simp [pop] at hp

end Go.Proofs.Ytocppeifkjdeiaa.Mv
