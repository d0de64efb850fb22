/- A machine for proofs, part M: each operation that turns memory does what part K says. Under no condition. -/
import Derived.Test.YtocppeifkjdeiaaCoreL
namespace Go.Proofs.Ytocppeifkjdeiaa.Mv
open Go
set_option linter.unusedSimpArgs false
set_option linter.unusedVariables false

theorem store_wp {c Γ m st a w} {tab : Tab} (ht : TabOk c.P tab) (h : RRW c Γ m st a w) {o : Oper} {t : TypeId} {x y : Operand} (ho : o.op = .store t x y) (hok : o.op.operands.all (okOp c.N) = true) {e : Eff} (hp : mop tab st o = some e) {Q : Exit → Act → World → Prop} :
    o.wp c.P a w (fun a' w' => RR c (st.app e) a' w') Q := by
  obtain ⟨dst, op, type, pos, after, guard⟩ := o
  simp only at ho; subst ho
  have ev : ∀ z, z ∈ (Op.store t x y).operands → Rep Γ m (a.eval z) (st.val z) := fun z hz => h.eval z (by
    rw [Array.all_eq_true_iff_forall_mem] at hok; exact hok z hz)
  have hx := ev x (by simp [Op.operands])
  have hy := ev y (by simp [Op.operands])
  simp only [mop] at hp
  split at hp
  · rename_i o1 i g off hi hv
    rw [hv] at hx
    split at hp
    · rename_i cs hb
      split at hp <;> cases hp
      rename_i hc
      obtain ⟨c1, c2, c3⟩ := hc
      obtain ⟨vs, hvs, hvl, hvr⟩ := fits_cells hy c1
      cases hxe : a.eval x with
      | pointer p =>
        rw [hxe] at hx
        cases hx with
        | ptr hth =>
          obtain ⟨w', hrun, hrr⟩ := h.store hb hth hvr c2 (by rw [fits_len c1]; exact c3)
          unfold Oper.wp
          have : (execOp a.eval { dst := none, op := .store t x y, type, pos, after, guard }).run c.P w = .ok .skip w' := by
            simp only [execOp, hxe, Instr.storeAt, Instr.sureAddr, storeVar, Sem.run_bind, Sem.run_pure, Result.andThen_ok, (ht.at hi).run_size w, hvs]
            rw [if_neg (by simp [hvl])]
            simp only [hrun, Result.andThen_ok]
          rw [this]
          exact ⟨Γ, m, hrr⟩
      | _ => rw [hxe] at hx; cases hx
    · cases hp
  · cases hp

theorem box_wp {c Γ m st a w} {tab : Tab} (ht : TabOk c.P tab) (h : RRW c Γ m st a w) {o : Oper} {t : TypeId} {x : Operand} (ho : o.op = .box t x) (hok : o.op.operands.all (okOp c.N) = true) {e : Eff} (hp : mop tab st o = some e) (hf : ∀ d ∈ e.new, st.free d) {Q : Exit → Act → World → Prop} :
    o.wp c.P a w (fun a' w' => RR c (st.app e) a' w') Q := by
  obtain ⟨dst, op, type, pos, after, guard⟩ := o
  simp only at ho; subst ho
  have hx := h.eval x (by rw [Array.all_eq_true_iff_forall_mem] at hok; exact hok x (by simp [Op.operands]))
  simp only [mop] at hp
  split at hp
  · rename_i d
    split at hp <;> cases hp
    rename_i hc
    obtain ⟨vs, hvs, hvl, hvr⟩ := fits_cells hx hc.1
    have hfd := hf d (by simp)
    obtain ⟨m', h1, h2⟩ := h.box hfd.1 hfd.2.1 hfd.2.2 t hvr hc.2 (fun hr => hfd.2.1 (val_refs (cells_refs hr)))
    unfold Oper.wp
    have : (execOp a.eval { dst := some d, op := .box t x, type, pos, after, guard }).run c.P w = .ok (.value (.pointer (some ⟨w.heap.size, 0, none⟩))) (w.alloc (.cells vs.toArray t)) := by
      simp [execOp, Instr.box, newVar, newRow, hvs, alloc_eq]
    rw [this]
    exact h1.app1 (st := st) (B := [(d, .bx (st.val x).cells)]) (.ptr h2)
  · cases hp

theorem alloc_wp {c Γ m st a w} {tab : Tab} (ht : TabOk c.P tab) (h : RRW c Γ m st a w) {o : Oper} {t : TypeId} (ho : o.op = .alloc t) {e : Eff} (hp : mop tab st o = some e) (hf : ∀ d ∈ e.new, st.free d) {Q : Exit → Act → World → Prop} :
    o.wp c.P a w (fun a' w' => RR c (st.app e) a' w') Q := by
  obtain ⟨dst, op, type, pos, after, guard⟩ := o
  simp only at ho; subst ho
  simp only [mop] at hp
  split at hp
  · rename_i i d hi
    cases hp
    have hfd := hf d (by simp)
    obtain ⟨z, hz, hzl⟩ := (ht.at hi).run_zero w
    obtain ⟨m', h1, h2⟩ := h.box hfd.1 hfd.2.1 hfd.2.2 t (zeros_fit ht hi Γ m) (zeros_leaf ht hi) (by rw [zeros_refs]; simp)
    have hzc : z.cells = i.zero.toArray := by rw [← hzl]
    unfold Oper.wp
    have : (execOp a.eval { dst := some d, op := .alloc t, type, pos, after, guard }).run c.P w = .ok (.value (.pointer (some ⟨w.heap.size, 0, none⟩))) (w.alloc (.cells i.zero.toArray t)) := by
      simp [execOp, Instr.alloc, newVar, newRow, hz, hzc, alloc_eq]
    rw [this]
    exact h1.app1 (st := st) (B := [(d, .bx (i.zero.map ofVal))]) (.ptr h2)
  · cases hp

theorem made_take {zs : List Value} {sz : Nat} (hz : zs.length = sz) {n N : Nat} (h : n * sz ≤ N) : (madeCells zs.toArray N).toList.take (n * sz) = (List.replicate n zs).flatten := by
  have key : ∀ n, (List.range (n * sz)).map (fun j => zs[j % sz]?.getD default) = (List.replicate n zs).flatten := by
    intro n
    induction n with
    | zero => simp
    | succ n ih =>
      rw [List.replicate_succ', List.flatten_append, ← ih, Nat.add_mul, Nat.one_mul, List.range_add, List.map_append, List.map_map]
      congr 1
      apply List.ext_getElem?
      intro j
      by_cases hj : j < sz
      · have : (n * sz + j) % sz = j := by rw [Nat.add_comm, Nat.add_mul_mod_self_right]; exact Nat.mod_eq_of_lt hj
        have hj' : j < zs.length := by omega
        simp [List.getElem?_range, hj, this, hj']
      · simp [hj, hz]
  rw [← key n]
  simp only [madeCells, Array.toList_map, Array.toList_range, ← List.map_take, List.take_range, Nat.min_eq_left h]
  apply List.map_congr_left
  intro j _
  simp [hz]
theorem zeros_rows {Γ : Gam} {zs : List Value} (n : Nat) (h : (zs.map ofVal).all AV.shut = true) : RepL Γ Nm.e (List.replicate n zs).flatten (List.replicate n (zs.map ofVal)).flatten := by
  induction n with
  | zero => exact .nil
  | succ n ih =>
    rw [List.replicate_succ, List.replicate_succ, List.flatten_cons, List.flatten_cons]
    exact RepL.append ⟨by simp, fun j v x hv hx => by
      rw [List.getElem?_map, hv] at hx; cases hx; exact ofVal_rep _ _ _⟩ ih

theorem makeSlice_wp {c Γ m st a w} {tab : Tab} (ht : TabOk c.P tab) (h : RRW c Γ m st a w) {o : Oper} {t : TypeId} {x y : Operand} (ho : o.op = .makeSlice t x y) (hok : o.op.operands.all (okOp c.N) = true) {e : Eff} (hp : mop tab st o = some e) (hf : ∀ d ∈ e.new, st.free d) {Q : Exit → Act → World → Prop} :
    o.wp c.P a w (fun a' w' => RR c (st.app e) a' w') Q := by
  obtain ⟨dst, op, type, pos, after, guard⟩ := o
  simp only at ho; subst ho
  have ev : ∀ z, z ∈ (Op.makeSlice t x y).operands → Rep Γ m (a.eval z) (st.val z) := fun z hz => h.eval z (by
    rw [Array.all_eq_true_iff_forall_mem] at hok; exact hok z hz)
  have hx := ev x (by simp [Op.operands])
  have hy := ev y (by simp [Op.operands])
  simp only [mop] at hp
  split at hp
  · rename_i i d hi
    split at hp
    · rename_i e' n k hd hxv hyv
      rw [hxv] at hx; rw [hyv] at hy
      split at hp
      · rename_i j hj
        split at hp <;> cases hp
        rename_i hc
        obtain ⟨c1, c2, c3, c4, c5, c6⟩ := hc
        have hxe : a.eval x = .int .i64 n := by cases hq : a.eval x <;> rw [hq] at hx <;> cases hx <;> rfl
        have hye : a.eval y = .int .i64 k := by cases hq : a.eval y <;> rw [hq] at hy <;> cases hy <;> rfl
        have hut := (ht.at hi).run_und w
        rw [hd] at hut
        obtain ⟨f, hf', hfs, hfb, z, hz, hzl⟩ := (ht.at hj).info
        have hzz := (ht.at hj).one
        have hzc : z.cells = j.zero.toArray := by rw [← hzl]
        have hrun : (execOp a.eval { dst := some d, op := .makeSlice t x y, type, pos, after, guard }).run c.P w = .ok (.value (.slice (some ⟨w.heap.size, 0, none⟩) n.toNat k.toNat)) (w.alloc (.cells (madeCells j.zero.toArray (k.toNat * j.size)) e')) := by
          have := run_make (P := c.P) w t e' f z (by rw [(ht.at hi).und, hd]) hf' hz .i64 .i64 n k c1 c2 (by rw [hfb]; omega) (by omega)
          simp only [execOp, hxe, hye, Sem.run_bind, this, Result.andThen_ok, Sem.run_pure, hzc, hfs]
        have hk : n.toNat * j.size ≤ k.toNat * j.size := Nat.mul_le_mul_right _ (by omega)
        have hrl : ∀ r ∈ List.replicate n.toNat (j.zero.map ofVal), r.length = j.size := fun r hr => by rw [(List.mem_replicate.1 hr).2]; simp [hzz.2]
        have hfl : (List.replicate n.toNat j.zero).flatten.length = (List.replicate n.toNat (j.zero.map ofVal)).flatten.length := by
          simp
        obtain ⟨Γ', m', h1, h2⟩ := h.row (d := d) (hf d (by simp)) (e := e') (sz := j.size) (cap := k.toNat) (cur := madeCells j.zero.toArray (k.toNat * j.size)) (xs := (List.replicate n.toNat j.zero).flatten) (rows := List.replicate n.toNat (j.zero.map ofVal))
          (by simp; omega) (by simp only [maxLen]; omega) (by simp [madeCells]) (by rw [List.length_replicate]; exact made_take hzz.2 hk) (zeros_rows n.toNat c6) hrl (fun v hv => by
            obtain ⟨l, hl, hvl⟩ := List.mem_flatten.1 hv
            rw [(List.mem_replicate.1 hl).2] at hvl
            exact (List.all_eq_true.1 hzz.1) v hvl)
        rw [List.length_replicate] at h1 h2
        unfold Oper.wp
        rw [hrun]
        exact h1.app1 (st := st) (B := [(d, .gw n.toNat)]) h2
      · cases hp
    · cases hp
  · cases hp

end Go.Proofs.Ytocppeifkjdeiaa.Mv
