/- What the statement MeanParts needs, part 4. Under no condition. -/
import Derived.Lib.ConvBytes
import Derived.Test.YtocppeifkjdeiaaMMeanParts3
/- A machine for proofs, part N: slice literals, append; all operations that turn memory. Under no condition. -/
namespace Go.Proofs.Ytocppeifkjdeiaa.Mv
open Go
set_option linter.unusedSimpArgs false
set_option linter.unusedVariables false

theorem rows_flat (cs : List AV) : (cs.map fun c => c.cells.map AV.close).flatten = ((cs.map AV.cells).flatten).map AV.close := by
  rw [List.map_flatten, List.map_map]
  rfl

theorem zrep {Γ : Gam} {m : Nm} {j : TyI} (n : Nat) : RepL Γ m (List.replicate n j.zero).flatten (List.replicate n (j.zero.map ofVal)).flatten := by
  induction n with
  | zero => exact .nil
  | succ n ih =>
    rw [List.replicate_succ, List.replicate_succ, List.flatten_cons, List.flatten_cons]
    exact RepL.append ⟨by simp, fun j v x hv hx => by
      rw [List.getElem?_map, hv] at hx; cases hx; exact ofVal_rep _ _ _⟩ ih

theorem buildSlice_wp {c Γ m st a w} {tab : Tab} (ht : TabOk c.P tab) (h : RRW c Γ m st a w) {o : Oper} {t : TypeId} {len : Nat} {ps : Array (Nat × Operand)} (ho : o.op = .buildSlice t len ps) (hok : o.op.operands.all (okOp c.N) = true) {e : Eff} (hp : mop tab st o = some e) (hf : ∀ d ∈ e.new, st.free d) {Q : Exit → Act → World → Prop} :
    o.wp c.P a w (fun a' w' => RR c (st.app e) a' w') Q := by
  obtain ⟨dst, op, type, pos, after, guard⟩ := o
  simp only at ho; subst ho
  have ev : ∀ p ∈ ps.toList, Rep Γ m (a.eval p.2) (st.val p.2) := fun p hp => h.eval p.2 (by
    rw [Array.all_eq_true_iff_forall_mem] at hok
    exact hok p.2 (by simp only [Op.operands]; simpa using ⟨p.1, by simpa using hp⟩))
  simp only [mop] at hp
  split at hp
  · rename_i i d hi
    split at hp
    · rename_i e' hd
      split at hp
      · rename_i j hj
        split at hp <;> cases hp
        rename_i hc
        obtain ⟨c1, c2, c3, c4⟩ := hc
        have hall := List.all_eq_true.1 c2
        simp only [Bool.and_eq_true] at hall
        have hplen : ps.toList.length = len := by have := congrArg List.length c1; simpa using this
        have hut := (ht.at hi).run_und w
        rw [hd] at hut
        obtain ⟨z, hz, hzl⟩ := (ht.at hj).run_zero w
        have hzz := (ht.at hj).one
        have hzc : z.cells = j.zero.toArray := by rw [← hzl]
        let cs := ps.toList.map fun p => st.val p.2
        have hcs : ∀ x ∈ cs, fitsIn j.size x = true ∧ x.cells.length = j.size := fun x hx => by
          obtain ⟨p, hp, rfl⟩ := List.mem_map.1 hx
          exact ⟨(hall p hp).1, fits_len (hall p hp).1⟩
        let us := (madeCells j.zero.toArray (len * j.size)).toList
        have hus : us = (List.replicate len j.zero).flatten := by
          have := made_take hzz.2 (n := len) (N := len * j.size) (Nat.le_refl _)
          rw [← this, List.take_of_length_le (by simp [madeCells])]
        have hzr : RepL Γ m us (List.replicate len (j.zero.map ofVal)).flatten := by
          rw [hus]
          exact zrep len
        have hzl2 : ((List.replicate len (j.zero.map ofVal)).flatten).length = cs.length * j.size := by
          have hcl : cs.length = len := by simpa [cs] using hplen
          rw [hcl]
          simp [hzz.2]
        have hfa := fill_all (sz := j.size) cs [] _ hzl2 hcs
        simp only [List.nil_append, List.length_nil, Nat.zero_add] at hfa
        have hidx : ∀ (q : Nat) f v, ps.toList[q]? = some (f, v) → f = q := fun q f v hq => by
          have h1 : (ps.toList.map (·.1))[q]? = some f := by rw [List.getElem?_map, hq]; rfl
          rw [c1, List.getElem?_range (by have := (List.getElem?_eq_some_iff.1 hq).1; omega)] at h1
          exact (Option.some.inj h1).symm
        obtain ⟨vs, hvs, hvr⟩ := fill_run (Γ := Γ) (m := m) (place := fun q => some (q * j.size, j.size)) _ ((ps.map fun (i, x) => (i, a.eval x)).toList) us _ _ hzr hfa (by simp [cs]) fun q o' s x f v ho hv => by
          simp only [Array.toList_map, List.getElem?_map] at hv ho
          cases hq : ps.toList[q]? with
          | none => rw [hq] at hv; simp at hv
          | some p =>
            obtain ⟨f', x'⟩ := p
            rw [hq] at hv
            simp only [Option.map_some, Option.some.injEq, Prod.mk.injEq] at hv
            obtain ⟨rfl, rfl⟩ := hv
            obtain rfl := hidx q f' x' hq
            have hcq : cs[f']? = some (st.val x') := by simp only [cs, List.getElem?_map, hq]; rfl
            rw [List.getElem?_zipIdx, hcq] at ho
            simp only [Option.map_some, Option.some.injEq, Prod.mk.injEq, Nat.zero_add] at ho
            obtain ⟨rfl, rfl, rfl⟩ := ho
            exact ⟨rfl, ev (f', x') (List.mem_of_getElem? hq)⟩
        have hrun : (execOp a.eval { dst := some d, op := .buildSlice t len ps, type, pos, after, guard }).run c.P w = .ok (.value (.slice (some ⟨w.heap.size, 0, none⟩) len len)) (w.alloc (.cells vs.toArray e')) := by
          have hmade : us.toArray = madeCells j.zero.toArray (len * j.size) := by simp [us]
          have hle : ¬ (len * j.size > 2 ^ 24) := by omega
          simp only [execOp, Instr.buildSlice, Sem.run_bind, hut, Result.andThen_ok, (ht.at hj).run_size w, if_neg hle, Sem.run_pure]
          by_cases h0 : len * j.size = 0
          · have hl0 : len = 0 := by
              rcases Nat.mul_eq_zero.1 h0 with h | h
              · exact h
              · omega
            subst hl0
            have hps : ps = #[] := by apply Array.eq_empty_of_size_eq_zero; simpa using hplen
            subst hps
            have hv0 : vs = [] := by
              have := hvr.1
              simp [cs] at this
              exact this
            subst hv0
            simp [newRow, alloc_eq, Instr.fill, Array.range_zero']
          · simp only [if_neg h0, Sem.run_bind, hz, Result.andThen_ok, Sem.run_pure, hzc]
            have : (Array.range (len * j.size)).map (fun x => j.zero.toArray[x % j.zero.toArray.size]!) = us.toArray := by rw [hmade]; rfl
            rw [this, hvs]
            simp [newRow, alloc_eq]
        have hshut : ((cs.map AV.cells).flatten).all AV.shut = true := by
          rw [List.all_eq_true]
          intro x hx
          obtain ⟨l, hl, hxl⟩ := List.mem_flatten.1 hx
          obtain ⟨y, hy, rfl⟩ := List.mem_map.1 hl
          obtain ⟨p, hp, rfl⟩ := List.mem_map.1 hy
          exact List.all_eq_true.1 (hall p hp).2 x hxl
        have hrowsEq : (ps.toList.map fun p => (st.val p.2).cells.map AV.close) = cs.map fun c => c.cells.map AV.close := by simp [cs, Function.comp_def]
        have hrl : ∀ r ∈ (ps.toList.map fun p => (st.val p.2).cells.map AV.close), r.length = j.size := fun r hr => by
          obtain ⟨p, hp, rfl⟩ := List.mem_map.1 hr
          rw [List.length_map]; exact fits_len (hall p hp).1
        have hlen' : (ps.toList.map fun p => (st.val p.2).cells.map AV.close).length = len := by simpa using hplen
        have hvl : vs.length = len * j.size := by
          rw [hvr.1]
          have h1 := flat_len (rows := cs.map AV.cells) (sz := j.size) fun r hr => by
            obtain ⟨x, hx, rfl⟩ := List.mem_map.1 hr
            exact (hcs x hx).2
          have hcl : cs.length = len := by simpa [cs] using hplen
          rw [h1, List.length_map, hcl]
        obtain ⟨Γ', m', h1, h2⟩ := h.row (d := d) (hf d (by simp)) (e := e') (sz := j.size) (cap := len) (cur := vs.toArray) (xs := vs) (rows := ps.toList.map fun p => (st.val p.2).cells.map AV.close)
          (by rw [hlen']; exact Nat.le_refl _) (by have := Nat.le_mul_of_pos_right len c4; simp only [maxLen]; omega) (by simpa using hvl) (by rw [hlen', ← hvl]; simp) (by
            rw [hrowsEq, rows_flat]
            exact close_list hvr hshut) hrl (one_list hvr (shut_leaf_all hshut))
        rw [hlen'] at h1 h2
        unfold Oper.wp
        rw [hrun]
        exact h1.app1 (st := st) (B := [(d, .gw len)]) h2
      · cases hp
    · cases hp
  · cases hp


theorem argOk {P : Program} {tab : Tab} {Γ m} {w : World} (hg : ∀ ad v, Γ ad = some v → w.cell? ad = some v) {v : Value} {x : AV} (hv : Rep Γ m v x) {jsz sz : Nat} {ys : List (List AV)} (h : (if argNil x then some (jsz, []) else argOf x) = some (sz, ys)) : ∃ news, Arg P Γ w sz v news ys := by
  split at h
  · rename_i hn
    cases h
    cases x <;> simp [argNil] at hn
    cases hv
    exact arg_sh (m := m) hg .sh0
  · cases x <;> simp [argOf] at h
    · obtain ⟨rfl, rfl⟩ := h
      cases hv
      exact ⟨_, arg_str _⟩
    · obtain ⟨rfl, rfl⟩ := h
      exact arg_sh hg hv
    · obtain ⟨rfl, rfl⟩ := h
      cases hv with | gr hv _ => exact arg_sh hg hv

theorem append_wp {c Γ m st a w} {tab : Tab} (ht : TabOk c.P tab) (h : RRW c Γ m st a w) {o : Oper} {cl : Call} (ho : o.op = .call cl) (hcl : cl.callee = .builtin .append) (hok : o.op.operands.all (okOp c.N) = true) {e : Eff} (hp : mop tab st o = some e) (hf : ∀ d ∈ e.new, st.free d) {Q : Exit → Act → World → Prop} :
    o.wp c.P a w (fun a' w' => RR c (st.app e) a' w') Q := by
  obtain ⟨dst, op, type, pos, after, guard⟩ := o
  obtain ⟨callee, args, argTypes⟩ := cl
  simp only at ho hcl; subst ho; subst hcl
  simp only [mop] at hp
  split at hp
  · rename_i s x t u d e1 e2
    have hx1 : args = #[s, x] := by rw [← Array.toArray_toList (xs := args), e1]
    have hx2 : argTypes = #[t, u] := by rw [← Array.toArray_toList (xs := argTypes), e2]
    subst hx1; subst hx2
    have ev : ∀ z, z ∈ (Op.call { callee := .builtin .append, args := #[s, x], argTypes := #[t, u] }).operands → Rep Γ m (a.eval z) (st.val z) := fun z hz => h.eval z (by
      rw [Array.all_eq_true_iff_forall_mem] at hok; exact hok z hz)
    have hs := ev s (by simp [Op.operands, Call.operands])
    have hx := ev x (by simp [Op.operands, Call.operands])
    have hexec : ∀ v' w', (Builtin.append_ #[t, u] type #[a.eval s, a.eval x]).run c.P w = .ok v' w' → (execOp a.eval { dst := some d, op := .call { callee := .builtin .append, args := #[s, x], argTypes := #[t, u] }, type, pos, after, guard }).run c.P w = .ok (.value v') w' := fun v' w' hr => by
      simp only [execOp, resolve, invoke, builtin, Sem.run_bind, Sem.run_pure, Result.andThen_ok, List.map_toArray, List.map_cons, List.map_nil, hr]
    split at hp
    · rename_i i iu hi hu
      split at hp
      · rename_i e' hd
        split at hp
        · rename_i j hj hud
          have hud' : ∀ k, iu.d ≠ .int k := fun k hk => by rw [hk] at hud; cases hud
          split at hp
          · rename_i sz ys harg
            obtain ⟨news, hA⟩ := argOk (P := c.P) (tab := tab) h.gok hx harg
            split at hp
            · rename_i tg e0 sz' rows hsv
              rw [hsv] at hs
              split at hp
              · rename_i n hob
                split at hp <;> cases hp
                rename_i hc
                obtain ⟨rfl, rfl, rfl, c4, rfl, c6, c7⟩ := hc
                have hlen : rows.length + ys.length ≤ maxLen := by
                  have := Nat.le_mul_of_pos_right (rows.length + ys.length) c6; simp only [maxLen]; omega
                obtain ⟨v', w', Γ', m', h1, h2, h3⟩ := RRW.grow ht hi hd hj hu hud' h c4 hob hs hA (ty := type) hlen c7
                unfold Oper.wp
                rw [hexec v' w' h1]
                exact h2.app1 (st := st) (B := [(tg, .gw (rows.length + ys.length))]) h3
              · cases hp
            · rename_i hsv
              split at hp <;> cases hp
              rename_i hc
              obtain ⟨rfl, c4, c6, c7⟩ := hc
              rw [hsv] at hs
              have hse : a.eval s = .slice none 0 0 := by cases hq : a.eval s <;> rw [hq] at hs <;> cases hs <;> rfl
              have hfd := hf d (by simp)
              obtain ⟨m1, h1, h2, h3⟩ := h.nilrow hfd e' j.size
              have hlen : ([] : List (List AV)).length + ys.length ≤ maxLen := by
                have := Nat.le_mul_of_pos_right ys.length c6; simp only [maxLen, List.length_nil]; omega
              obtain ⟨v', w', Γ', m', q1, q2, q3⟩ := RRW.grow ht hi hd hj hu hud' h1 c4 (rows := []) (by simp [St.ob, look]) h2 hA (ty := type) hlen (by simpa using c7)
              rw [← hse] at q1
              simp only [List.length_nil, Nat.zero_add, List.nil_append] at q2 q3
              unfold Oper.wp
              rw [hexec v' w' q1]
              refine ⟨Γ', m', ?_⟩
              have q4 := q2.put (some d) q3
              have hob : ∀ t, (st.app ⟨[(d, .gr d e' j.size ys)], [(d, .gw ys.length)], [d]⟩).ob t = ((⟨st.T, (d, .gw ys.length) :: (d, .gw 0) :: st.B⟩ : St).puto (some d) (.gr d e' j.size ys)).ob t := fun t => by
                simp only [St.ob, St.app, St.puto, St.put, look, List.cons_append, List.nil_append]
                split <;> rfl
              refine ⟨q4.defers, q4.size, q4.gok, q4.tmps, fun t => ?_, fun t g hg => ?_, fun t t' g hg hg' => ?_, q4.frame, q4.sub, q4.fresh, q4.ext⟩
              · rw [hob]; exact q4.obs t
              · rw [hob] at hg; exact q4.own t g hg
              · rw [hob] at hg hg'; exact q4.inj t t' g hg hg'
            · cases hp
          · cases hp
        · cases hp
      · cases hp
    · cases hp
  · cases hp

theorem cellsB_get {l : List UInt8} {j : Nat} {d : AV} (h : (cellsB l)[j]? = some d) : j < l.length ∧ d = .i .u8 ((l.getD j 0).toNat : Int) := by
  simp only [cellsB, List.getElem?_map, Option.map_eq_some_iff] at h
  obtain ⟨x, hx, rfl⟩ := h
  have := (List.getElem?_eq_some_iff.1 hx).1
  exact ⟨this, by simp [List.getD, hx]⟩
theorem bytes_wp {c Γ m st a w} {tab : Tab} (ht : TabOk c.P tab) (h : RRW c Γ m st a w) {o : Oper} {s d' : TypeId} {x : Operand} (ho : o.op = .convert s d' x) (hok : o.op.operands.all (okOp c.N) = true) {e : Eff} (hp : mop tab st o = some e) (hf : ∀ d ∈ e.new, st.free d) {Q : Exit → Act → World → Prop} :
    o.wp c.P a w (fun a' w' => RR c (st.app e) a' w') Q := by
  obtain ⟨dst, op, type, pos, after, guard⟩ := o
  simp only at ho; subst ho
  have ev : ∀ z, z ∈ (Op.convert s d' x).operands → Rep Γ m (a.eval z) (st.val z) := fun z hz => h.eval z (by
    rw [Array.all_eq_true_iff_forall_mem] at hok; exact hok z hz)
  have hx := ev x (by simp [Op.operands])
  simp only [mop] at hp
  split at hp
  · rename_i i j l d hi hj e1
    split at hp
    · rename_i e2 hd1 hd2
      split at hp
      · rename_i ie hie
        split at hp
        case h_2 => cases hp
        rename_i hd3
        split at hp <;> cases hp
        rename_i hcapl
        have hfd := hf d (by simp)
        rw [e1] at hx
        have hui := (ht.at hi).und
        have huj := (ht.at hj).und
        have hue := (ht.at hie).und
        rw [hd1] at hui; rw [hd2] at huj; rw [hd3] at hue
        cases hxe : a.eval x with
        | string str =>
          rw [hxe] at hx
          cases hx
          have hrun := Lib.run_convert_string_bytes (P := c.P) w s d' e2 ⟨l.toArray⟩ hui huj hue
          let w' := Lib.bytesWorld w e2 ⟨l.toArray⟩
          have hsz : (ByteArray.mk l.toArray).size = l.length := by simp [ByteArray.size]
          have hcsz : l.length ≤ (Lib.bytesCells w e2 ⟨l.toArray⟩).size := by simp [Lib.bytesCells]
          have hcell : ∀ (j : Nat) (v : Value), (Lib.bytesCells w e2 ⟨l.toArray⟩)[j]? = some v → v.oneCell' = true ∧ (j < l.length → v = .int .u8 ((l.getD j 0).toNat : Int)) := fun j v hv => by
            unfold Lib.bytesCells at hv
            rw [Array.getElem?_append] at hv
            split at hv
            · rename_i hj'
              simp at hv hj'
              obtain ⟨b, hb, rfl⟩ := hv
              exact ⟨rfl, fun _ => by simp [List.getD, hb]⟩
            · rename_i hj'
              simp at hj'
              rw [Array.getElem?_replicate] at hv
              split at hv <;> cases hv
              exact ⟨rfl, fun hlt => by omega⟩
          let m' := m.set d (some w.heap.size) fun _ => none
          have hnew : RRW c Γ m' ⟨st.T, (d, .bx (cellsB l)) :: st.B⟩ a w' := h.new hfd.1 hfd.2.1 hfd.2.2 (Sub.refl _) rfl rfl rfl (by rw [Lib.bytesWorld_size]; omega) (fun i hi => Lib.bytesWorld_at_old w e2 _ i hi) (fun _ _ => rfl)
            (fun ad v hv => by rw [Lib.bytesWorld_old w e2 _ ad (block_lt_of_cell (h.gok ad v hv))]; exact h.gok ad v hv) (by
              refine ⟨w.heap.size, Lib.bytesCells w e2 ⟨l.toArray⟩, (e2, (Lib.bytesCells w e2 ⟨l.toArray⟩).size, (Lib.bytesCells w e2 ⟨l.toArray⟩).size + 1), by simp [m', Nm.set], Lib.bytesWorld_at_new w e2 _, ⟨.inr (Nat.le_refl _), by simpa [cellsB] using hcsz⟩, fun j v d hv hd => ?_, fun j v _ hv => (hcell j v hv).1, fun ad had => ?_⟩
              · obtain ⟨h1, rfl⟩ := cellsB_get hd
                rw [(hcell j v hv).2 h1]
                exact .i
              · cases hv : Γ ad with
                | none => rfl
                | some v => have := block_lt_of_cell (h.gok ad v hv); omega) (fun i hi => by
              simp only [Ob.blk, Nm.set, if_true] at hi
              cases hi; exact Nat.le_refl _)
          unfold Oper.wp
          have : (execOp a.eval { dst := some d, op := .convert s d' x, type, pos, after, guard }).run c.P w = .ok (.value (.slice (some ⟨w.heap.size, 0, none⟩) l.length (grownCap w l.length 0 e2))) w' := by
            rw [hsz] at hrun
            simp [execOp, hxe, hrun, w']
          rw [this]
          exact hnew.app1 (st := st) (B := [(d, .bx (cellsB l))]) (.bsl (by simp [m', Nm.set]) ⟨by simpa [grownCap] using grownCap_ge w l.length 0 e2, grownCap_le_maxLen w l.length 0 e2 (by simp only [maxLen]; omega)⟩)
        | _ => rw [hxe] at hx; cases hx
      · cases hp
    · cases hp
  · cases hp

theorem mop_wp {c Γ m st a w} {tab : Tab} (ht : TabOk c.P tab) (h : RRW c Γ m st a w) {o : Oper} (hok : o.op.operands.all (okOp c.N) = true) {e : Eff} (hp : mop tab st o = some e) (hf : ∀ d ∈ e.new, st.free d) {Q : Exit → Act → World → Prop} :
    o.wp c.P a w (fun a' w' => RR c (st.app e) a' w') Q := by
  cases ho : o.op with
  | store t x y => exact store_wp ht h ho hok hp
  | box t x => exact box_wp ht h ho hok hp hf
  | alloc t => exact alloc_wp ht h ho hp hf
  | buildSlice t len ps => exact buildSlice_wp ht h ho hok hp hf
  | makeSlice t x y => exact makeSlice_wp ht h ho hok hp hf
  | convert s d x => exact bytes_wp ht h ho hok hp hf
  | call cl =>
    have hcl : cl.callee = .builtin .append := by
      unfold mop at hp
      rw [ho] at hp
      simp only at hp
      split at hp
      · rename_i h; exact h
      · cases hp
    exact append_wp ht h ho hcl hok hp hf
  | _ => unfold mop at hp; rw [ho] at hp; cases hp

end Go.Proofs.Ytocppeifkjdeiaa.Mv

/- A machine for proofs, part P: contracts, and calls by them. Under no condition. -/
namespace Go.Proofs.Ytocppeifkjdeiaa.Mv
open Go
set_option linter.unusedSimpArgs false
set_option linter.unusedVariables false

/-! ### other names for tags -/
def AV.ren (ρ : Nat → Nat) : AV → AV
  | .agg cs => .agg (renL ρ cs)
  | .tup cs => .tup (renL ρ cs)
  | .clo f cs => .clo f (renL ρ cs)
  | .gr t e sz rows => .gr (ρ t) e sz rows
  | .ptr t o => .ptr (ρ t) o
  | .bsl t off n sz => .bsl (ρ t) off n sz
  | .bsc t off n cap sz => .bsc (ρ t) off n cap sz
  | .mpv t => .mpv (ρ t)
  | c => c
where renL (ρ : Nat → Nat) : List AV → List AV
  | [] => []
  | c :: cs => c.ren ρ :: renL ρ cs
theorem renL_eq (ρ : Nat → Nat) (cs : List AV) : AV.ren.renL ρ cs = cs.map (AV.ren ρ) := by
  induction cs with
  | nil => rfl
  | cons c cs ih => simp [AV.ren.renL, ih]
def Ob.ren (ρ : Nat → Nat) : Ob → Ob
  | .bx cs => .bx (AV.ren.renL ρ cs)
  | o => o
def Nm.pull (m : Nm) (ρ : Nat → Nat) : Nm := ⟨fun t => m.th (ρ t), fun t => m.ka (ρ t), fun t => m.fy (ρ t)⟩

theorem rep_ren {Γ m ρ v c} (h : Rep Γ (m.pull ρ) v c) : Rep Γ m v (c.ren ρ) := by
  generalize hm : m.pull ρ = m0 at h
  induction h with
  | any => exact .any
  | u => exact .u
  | x => exact .x
  | i => exact .i
  | b => exact .b
  | s => exact .s
  | nil => exact .nil
  | agg vs hl hr ih =>
    subst hm
    refine .agg vs (by rw [renL_eq, List.length_map, hl]) fun j v c hv hc => ?_
    rw [renL_eq, List.getElem?_map] at hc
    obtain ⟨d, hd, rfl⟩ := Option.map_eq_some_iff.1 hc
    exact ih j v d hv hd rfl
  | tup vs hl hr ih =>
    subst hm
    refine .tup vs (by rw [renL_eq, List.length_map, hl]) fun j v c hv hc => ?_
    rw [renL_eq, List.getElem?_map] at hc
    obtain ⟨d, hd, rfl⟩ := Option.map_eq_some_iff.1 hc
    exact ih j v d hv hd rfl
  | sh0 => exact .sh0
  | sh vs h1 h2 h3 h4 h5 h6 h7 h8 ih => exact .sh vs h1 h2 h3 h4 h5 h6 h7 h8
  | gr hr hk ih => subst hm; exact .gr (ih rfl) hk
  | ptr ht => subst hm; exact .ptr ht
  | bsl ht hn => subst hm; exact .bsl ht hn
  | bsc ht hn => subst hm; exact .bsc ht hn
  | shc h hn hc ih => exact .shc (ih hm) hn hc
  | mpv ht => subst hm; exact .mpv ht
  | pel vs h1 h2 h3 h4 ih => exact .pel vs h1 h2 h3 h4
  | clo vs hl hr ih =>
    subst hm
    refine .clo vs (by rw [renL_eq, List.length_map, hl]) fun j v c hv hc => ?_
    rw [renL_eq, List.getElem?_map] at hc
    obtain ⟨d, hd, rfl⟩ := Option.map_eq_some_iff.1 hc
    exact ih j v d hv hd rfl
  | fv h h1 ih => exact .fv h h1

theorem ren_rep {Γ m ρ v c'} (h : Rep Γ m v c') : ∀ {c : AV}, c' = c.ren ρ → Rep Γ (m.pull ρ) v c := by
  induction h with
  | any => intro c hc; cases c <;> simp [AV.ren] at hc; exact .any
  | u => intro c hc; cases c <;> simp [AV.ren] at hc; exact .u
  | x => intro c hc; cases c <;> simp [AV.ren] at hc; subst hc; exact .x
  | i => intro c hc; cases c <;> simp [AV.ren] at hc; obtain ⟨rfl, rfl⟩ := hc; exact .i
  | b => intro c hc; cases c <;> simp [AV.ren] at hc; subst hc; exact .b
  | s => intro c hc; cases c <;> simp [AV.ren] at hc; subst hc; exact .s
  | nil => intro c hc; cases c <;> simp [AV.ren] at hc; exact .nil
  | agg vs hl hr ih => intro c hc; cases c <;> simp [AV.ren] at hc; subst hc; exact .agg vs (by rw [hl, renL_eq, List.length_map]) fun j v d hv hd => ih j v (d.ren ρ) hv (by rw [renL_eq, List.getElem?_map, hd]; rfl) rfl
  | tup vs hl hr ih => intro c hc; cases c <;> simp [AV.ren] at hc; subst hc; exact .tup vs (by rw [hl, renL_eq, List.length_map]) fun j v d hv hd => ih j v (d.ren ρ) hv (by rw [renL_eq, List.getElem?_map, hd]; rfl) rfl
  | sh0 => intro c hc; cases c <;> simp [AV.ren] at hc; obtain ⟨rfl, rfl⟩ := hc; exact .sh0
  | sh vs h1 h2 h3 h4 h5 h6 h7 h8 ih => intro c hc; cases c <;> simp [AV.ren] at hc; obtain ⟨rfl, rfl⟩ := hc; exact .sh vs h1 h2 h3 h4 h5 h6 h7 h8
  | gr hr hk ih => intro c hc; cases c <;> simp [AV.ren] at hc; obtain ⟨rfl, rfl, rfl, rfl⟩ := hc; exact .gr (ih (c := .sh _ _) rfl) hk
  | ptr ht => intro c hc; cases c <;> simp [AV.ren] at hc; obtain ⟨rfl, rfl⟩ := hc; exact .ptr ht
  | bsl ht hn => intro c hc; cases c <;> simp [AV.ren] at hc; obtain ⟨rfl, rfl, rfl, rfl⟩ := hc; exact .bsl ht hn
  | bsc ht hn => intro c hc; cases c <;> simp [AV.ren] at hc; obtain ⟨rfl, rfl, rfl, rfl, rfl⟩ := hc; exact .bsc ht hn
  | shc h hn hq ih => intro c hc; cases c <;> simp [AV.ren] at hc; obtain ⟨rfl, rfl, rfl⟩ := hc; exact .shc (ih (c := .sh _ _) rfl) hn hq
  | mpv ht => intro c hc; cases c <;> simp [AV.ren] at hc; subst hc; exact .mpv ht
  | pel vs h1 h2 h3 h4 ih => intro c hc; cases c <;> simp [AV.ren] at hc; subst hc; exact .pel vs h1 h2 h3 h4
  | clo vs hl hr ih => intro c hc; cases c <;> simp [AV.ren] at hc; obtain ⟨rfl, rfl⟩ := hc; exact .clo vs (by rw [hl, renL_eq, List.length_map]) fun j v d hv hd => ih j v (d.ren ρ) hv (by rw [renL_eq, List.getElem?_map, hd]; rfl) rfl
  | fv h h1 ih => intro c hc; cases c <;> simp [AV.ren] at hc; subst hc; exact .fv h h1

theorem blk_ren (m : Nm) (ρ : Nat → Nat) (ob : Ob) (t : Nat) : (ob.ren ρ).blk m (ρ t) = ob.blk (m.pull ρ) t := by cases ob <;> rfl
theorem ob_ren {Γ m w ρ t ob} : ObOk Γ m w (ρ t) (Ob.ren ρ ob) ↔ ObOk Γ (m.pull ρ) w t ob := by
  cases ob with
  | bx cs =>
    constructor
    · rintro ⟨g, c, E, h1, h2, h3, h4, h5, h6⟩
      exact ⟨g, c, E, h1, h2, ⟨h3.1, by have := h3.2; rw [renL_eq, List.length_map] at this; exact this⟩, fun j v d hv hd => ren_rep (h4 j v (d.ren ρ) hv (by rw [renL_eq, List.getElem?_map, hd]; rfl)) rfl, fun j v hj => h5 j v (by rw [renL_eq, List.length_map]; exact hj), h6⟩
    · rintro ⟨g, c, E, h1, h2, h3, h4, h5, h6⟩
      refine ⟨g, c, E, h1, h2, ⟨h3.1, by rw [renL_eq, List.length_map]; exact h3.2⟩, fun j v d hv hd => ?_, fun j v hj => h5 j v (by rw [renL_eq, List.length_map] at hj; exact hj), h6⟩
      rw [renL_eq, List.getElem?_map] at hd
      obtain ⟨e, he, rfl⟩ := Option.map_eq_some_iff.1 hd
      exact rep_ren (h4 j v e hv he)
  | gw n => exact Iff.rfl
  | mp kk vk ents => exact Iff.rfl
  | fo d rows b => exact Iff.rfl
  | dead => exact Iff.rfl

/-! ### contracts -/
structure FnOk (P : Program) (f : FuncId) : Prop where
  fn : ∃ fn, P.funcs[f]? = some fn ∧ (fn.name == "runtime.NumGoroutine") = false ∧ fn.body.isNone = false

/-- The blocks that objects own. -/
def Owns (m : Nm) (l : List (Nat × Ob)) (g : Nat) : Prop := ∃ p ∈ l, p.2.blk m p.1 g
def Inj (m : Nm) (l : List (Nat × Ob)) : Prop := ∀ p ∈ l, ∀ q ∈ l, ∀ g, p.2.blk m p.1 g → q.2.blk m q.1 g → p.1 = q.1

structure Post (ins : List (Nat × Ob)) (res : AV) (outs : List (Nat × Ob)) (w : World) (Γ : Gam) (m : Nm) (v : Value) (w' : World) (Γ' : Gam) (m' : Nm) : Prop where
  sub : Sub Γ Γ'
  gok : ∀ ad v, Γ' ad = some v → w'.cell? ad = some v
  rep : Rep Γ' m' v res
  obs : ∀ p ∈ outs, ObOk Γ' m' w' p.1 p.2
  inj : Inj m' outs
  own : ∀ g, Owns m' outs g → w.heap.size ≤ g ∨ Owns m ins g
  ext : ∀ p ∈ ins, Ext m m' p.1
  frame : Fr (Owns m ins) w w'
  fresh : ∀ ad, Γ ad = none → Γ' ad ≠ none → w.heap.size ≤ ad.block ∨ Owns m ins ad.block

/-- A contract: called with these, in whatever memory, it returns that. -/
structure Good (P : Program) (f : FuncId) (args : List AV) (ins : List (Nat × Ob)) (res : AV) (outs : List (Nat × Ob)) : Prop where
  fn : FnOk P f
  calls : ∀ (w : World) (Γ : Gam) (m : Nm) (vals : List Value), (∀ ad v, Γ ad = some v → w.cell? ad = some v) → RepL Γ m vals args → (∀ p ∈ ins, ObOk Γ m w p.1 p.2) → Inj m ins →
    Calls P f vals.toArray w fun e w' => ∃ v Γ' m', e = .returned v ∧ Post ins res outs w Γ m v w' Γ' m'

/-- What is weaker. -/
def Le (c d : AV) : Prop := ∀ Γ m v, Rep Γ m v c → Rep Γ m v d
theorem Le.refl (c : AV) : Le c c := fun _ _ _ h => h
theorem Le.any (c : AV) : Le c .any := fun _ _ _ _ => .any
theorem Le.gr {t e sz rows} : Le (.gr t e sz rows) (.sh sz rows) := fun _ _ _ h => by cases h with | gr h _ => exact h
theorem Le.nil {sz} : Le .nil (.sh sz []) := fun _ _ _ h => by cases h; exact .sh0
theorem Le.agg {cs ds : List AV} (hl : cs.length = ds.length) (h : ∀ (j : Nat) c d, cs[j]? = some c → ds[j]? = some d → Le c d) : Le (.agg cs) (.agg ds) := fun Γ m v hr => by
  obtain ⟨vs, rfl, h1, h2⟩ := hr.agg_inv
  refine .agg vs (by rw [h1, hl]) fun j v d hv hd => ?_
  · have hj : j < cs.length := by rw [hl]; exact (List.getElem?_eq_some_iff.1 hd).1
    exact h j _ d (List.getElem?_eq_getElem hj) hd _ _ _ (h2 j v _ hv (List.getElem?_eq_getElem hj))
inductive LeL : List AV → List AV → Prop
  | nil : LeL [] []
  | cons {c d cs ds} : Le c d → LeL cs ds → LeL (c :: cs) (d :: ds)
theorem LeL.refl : ∀ cs, LeL cs cs
  | [] => .nil
  | c :: cs => .cons (.refl c) (.refl cs)
theorem LeL.len {cs ds} (h : LeL cs ds) : cs.length = ds.length := by induction h <;> simp_all
theorem LeL.at {cs ds} (h : LeL cs ds) : ∀ (j : Nat) c d, cs[j]? = some c → ds[j]? = some d → Le c d := by
  induction h with
  | nil => intro j c d hc; simp at hc
  | cons h1 h2 ih =>
    intro j c d hc hd
    cases j with
    | zero => simp at hc hd; subst hc; subst hd; exact h1
    | succ j => exact ih j c d (by simpa using hc) (by simpa using hd)
theorem LeL.rep {Γ m vs cs ds} (h : LeL cs ds) (hr : RepL Γ m vs cs) : RepL Γ m vs ds := by
  refine ⟨by rw [hr.1, h.len], fun j v d hv hd => ?_⟩
  have hj : j < cs.length := by rw [h.len]; exact (List.getElem?_eq_some_iff.1 hd).1
  exact h.at j _ d (List.getElem?_eq_getElem hj) hd _ _ _ (hr.2 j v _ hv (List.getElem?_eq_getElem hj))

/-- The tags that an operation looks at. -/
def opRefs (st : St) : List Operand → List Nat
  | [] => []
  | x :: xs => (st.val x).refs ++ opRefs st xs
def obRefs (st : St) : List Nat → List Nat
  | [] => []
  | t :: ts => (st.ob t).refs ++ obRefs st ts
/-- Operations that look at no object. -/
def stillOp : Op → Bool
  | .move _ | .nilCheck _ | .fieldAddr .. => true
  | _ => false
/-- Operations that look at no object beyond those that they are told. -/
def nearOp : Op → Bool
  | .load .. => true
  | _ => false
/-- What stands elsewhere (tag 1000009) may be looked at by every call of a value. -/
def callTag : Op → List Nat
  | .call c => match c.callee with | .value _ => [1000009] | _ => []
  | _ => []
def tagsAt (st : St) (o : Oper) : List Nat := cond (stillOp o.op) [] <| opRefs st o.op.operands.toList ++ (cond (nearOp o.op) [] (obRefs st (opRefs st o.op.operands.toList)) ++ callTag o.op)

/-- A call by a contract: what it does. -/
structure CallOk (P : Program) (st : St) (o : Oper) (e : Eff) : Prop where
  ex : ∃ fx xs ts d f caps args ins res outs ρ, o.op = .call { callee := .value fx, args := xs, argTypes := ts } ∧ o.dst = some d ∧ st.val fx = .clo f caps ∧ Good P f args ins res outs ∧
    LeL (xs.toList.map st.val ++ caps) (args.map (AV.ren ρ)) ∧ (∀ p ∈ ins, st.ob (ρ p.1) = p.2.ren ρ ∧ ρ p.1 ∈ tagsAt st o) ∧
    (∀ s ∈ ins.map (·.1) ++ outs.map (·.1), ∀ t ∈ ins.map (·.1) ++ outs.map (·.1), ρ s = ρ t → s = t) ∧ (∀ s ∈ ins.map (·.1), s ∈ outs.map (·.1)) ∧ (outs.map (·.1)).Nodup ∧
    (∀ t ∈ res.refs, t ∈ outs.map (·.1)) ∧ (∀ p ∈ outs, ∀ t ∈ p.2.refs, t ∈ outs.map (·.1)) ∧
    e = ⟨[(d, res.ren ρ)], outs.map fun p => (ρ p.1, p.2.ren ρ), (outs.map (·.1)).filterMap fun t => if t ∈ ins.map (·.1) then none else some (ρ t)⟩

end Go.Proofs.Ytocppeifkjdeiaa.Mv

/- A machine for proofs, part Q: a call by a contract, in the relation. Under no condition. -/
namespace Go.Proofs.Ytocppeifkjdeiaa.Mv
open Go
set_option linter.unusedSimpArgs false
set_option linter.unusedVariables false

def Nm.glue (m m' : Nm) (ρ : Nat → Nat) (ts : List Nat) : Nm :=
  ⟨fun s => match ts.find? (fun t => ρ t == s) with | some t => m'.th t | none => m.th s,
   fun s => match ts.find? (fun t => ρ t == s) with | some t => m'.ka t | none => m.ka s,
   fun s => match ts.find? (fun t => ρ t == s) with | some t => m'.fy t | none => m.fy s⟩

theorem find_at {ρ : Nat → Nat} {ts : List Nat} (hi : ∀ s ∈ ts, ∀ t ∈ ts, ρ s = ρ t → s = t) {t : Nat} (ht : t ∈ ts) : ts.find? (fun x => ρ x == ρ t) = some t := by
  cases h : ts.find? (fun x => ρ x == ρ t) with
  | none => have := List.find?_eq_none.1 h t ht; simp at this
  | some x =>
    have h1 := List.mem_of_find?_eq_some h
    have h2 := List.find?_some h
    simp only [beq_iff_eq] at h2
    rw [hi x h1 t ht h2]
theorem glue_at {m m' : Nm} {ρ ts} (hi : ∀ s ∈ ts, ∀ t ∈ ts, ρ s = ρ t → s = t) {t : Nat} (ht : t ∈ ts) : (m.glue m' ρ ts).th (ρ t) = m'.th t ∧ (m.glue m' ρ ts).ka (ρ t) = m'.ka t ∧ (m.glue m' ρ ts).fy (ρ t) = m'.fy t := by
  simp only [Nm.glue, find_at hi ht, and_self]
theorem glue_off {m m' : Nm} {ρ ts} {s : Nat} (h : ∀ t ∈ ts, ρ t ≠ s) : (m.glue m' ρ ts).th s = m.th s ∧ (m.glue m' ρ ts).ka s = m.ka s ∧ (m.glue m' ρ ts).fy s = m.fy s := by
  have : ts.find? (fun x => ρ x == s) = none := List.find?_eq_none.2 fun t ht => by simp [h t ht]
  simp only [Nm.glue, this, and_self]

theorem look_app {α : Type} (l r : List (Nat × α)) (s : Nat) : look (l ++ r) s = match look l s with | some x => some x | none => look r s := by
  induction l with
  | nil => simp [look]
  | cons p l ih =>
    obtain ⟨j, x⟩ := p
    simp only [List.cons_append, look]
    split
    · rfl
    · exact ih
theorem look_none {α : Type} {l : List (Nat × α)} {s : Nat} (h : ∀ p ∈ l, p.1 ≠ s) : look l s = none := by
  induction l with
  | nil => rfl
  | cons p l ih =>
    obtain ⟨j, x⟩ := p
    simp only [look]
    rw [if_neg (h (j, x) (by simp))]
    exact ih fun p hp => h p (by simp [hp])
theorem look_map {ρ : Nat → Nat} {outs : List (Nat × Ob)} (hi : ∀ s ∈ outs.map (·.1), ∀ t ∈ outs.map (·.1), ρ s = ρ t → s = t) (hn : (outs.map (·.1)).Nodup) {p : Nat × Ob} (hp : p ∈ outs) : look (outs.map fun p => (ρ p.1, p.2.ren ρ)) (ρ p.1) = some (p.2.ren ρ) := by
  induction outs with
  | nil => cases hp
  | cons q qs ih =>
    simp only [List.map_cons, look]
    simp only [List.map_cons, List.nodup_cons] at hn
    cases hp with
    | head => rw [if_pos rfl]
    | tail _ hp =>
      rw [if_neg (fun e => by
        have := hi q.1 (by simp) p.1 (List.mem_map.2 ⟨p, List.mem_cons_of_mem _ hp, rfl⟩) e
        exact hn.1 (this ▸ List.mem_map.2 ⟨p, hp, rfl⟩))]
      exact ih (fun s hs t ht e => hi s (by simp only [List.map_cons, List.mem_cons]; exact .inr hs) t (by simp only [List.map_cons, List.mem_cons]; exact .inr ht) e) hn.2 hp

theorem call_wp {c Γ m st a w} (h : RRW c Γ m st a w) {o : Oper} {e : Eff} (hok : o.op.operands.all (okOp c.N) = true) (hc : CallOk c.P st o e) (hf : ∀ d ∈ e.new, st.free d) {Q : Exit → Act → World → Prop} :
    o.wp c.P a w (fun a' w' => RR c (st.app e) a' w') Q := by
  obtain ⟨dst, op, type, pos, after, guard⟩ := o
  obtain ⟨fx, xs, ts, d, f, caps, args, ins, res, outs, ρ, h1, h2, h3, hg, h4, h5, h6, h7, h8, h9, h10, rfl⟩ := hc
  simp only at h1 h2; subst h1; subst h2
  have ev : ∀ z, z ∈ (Op.call { callee := .value fx, args := xs, argTypes := ts }).operands → Rep Γ m (a.eval z) (st.val z) := fun z hz => h.eval z (by
    rw [Array.all_eq_true_iff_forall_mem] at hok; exact hok z hz)
  have hfx := ev fx (by simp [Op.operands, Call.operands])
  rw [h3] at hfx
  obtain ⟨cv, hcv, hcr⟩ : ∃ cv : List Value, a.eval fx = .func (.func f) #[] cv.toArray ∧ RepL Γ m cv caps := by
    cases hq : a.eval fx with
    | func fn first cap => rw [hq] at hfx; cases hfx with | clo vs q1 q2 => exact ⟨vs, rfl, q1, q2⟩
    | _ => rw [hq] at hfx; cases hfx
  let vals := xs.toList.map a.eval ++ cv
  have hxr : RepL Γ m (xs.toList.map a.eval) (xs.toList.map st.val) := by
    refine ⟨by simp, fun j v y hv hy => ?_⟩
    rw [List.getElem?_map] at hv hy
    cases hq : xs.toList[j]? with
    | none => rw [hq] at hv; cases hv
    | some z =>
      rw [hq] at hv hy; cases hv; cases hy
      exact ev z (by simp only [Op.operands, Call.operands]; simpa using .inr (by simpa using List.mem_of_getElem? hq))
  have hvals : RepL Γ (m.pull ρ) vals args := by
    have := h4.rep (hxr.append hcr)
    refine ⟨by rw [this.1, List.length_map], fun j v y hv hy => ren_rep (this.2 j v (y.ren ρ) hv (by rw [List.getElem?_map, hy]; rfl)) rfl⟩
  have hfn := hg.fn.fn
  obtain ⟨fn, k1, k2, k3⟩ := hfn
  have hrun : (execOp a.eval { dst := some d, op := .call { callee := .value fx, args := xs, argTypes := ts }, type, pos, after, guard }).run c.P w = .ok (.enter f vals.toArray) w := by
    have hv : xs.map a.eval ++ cv.toArray = vals.toArray := by apply Array.ext'; simp [vals]
    simp only [execOp, resolve, hcv, Deferred.ofValue, Sem.run_bind, Sem.run_pure, Result.andThen_ok, invoke, callFunc, run_program, k1]
    simp only [k2, k3, Bool.false_eq_true, if_false, Array.empty_append, Sem.run_pure, hv]
  have hins : ∀ p ∈ ins, ObOk Γ (m.pull ρ) w p.1 p.2 := fun p hp => ob_ren.1 (by rw [← (h5 p hp).1]; exact h.obs (ρ p.1))
  have hblkin : ∀ p ∈ ins, p.2.blk (m.pull ρ) p.1 = (st.ob (ρ p.1)).blk m (ρ p.1) := fun p hp => by rw [(h5 p hp).1, blk_ren]
  have hT1 : ∀ s ∈ outs.map (·.1), ∀ t ∈ outs.map (·.1), ρ s = ρ t → s = t := fun s hs t ht => h6 s (List.mem_append_right _ hs) t (List.mem_append_right _ ht)
  have hinj : Inj (m.pull ρ) ins := fun p hp q hq g hpg hqg => by
    rw [hblkin p hp] at hpg; rw [hblkin q hq] at hqg
    exact h6 p.1 (List.mem_append_left _ (List.mem_map.2 ⟨p, hp, rfl⟩)) q.1 (List.mem_append_left _ (List.mem_map.2 ⟨q, hq, rfl⟩)) (h.inj _ _ g hpg hqg)
  unfold Oper.wp
  rw [hrun]
  refine (hg.calls w Γ (m.pull ρ) vals h.gok hvals hins hinj).mono ?_
  rintro e w' ⟨v, Γ', m', rfl, hp⟩
  show RR c _ (a.put (some d) v) w'
  let m2 := m.glue m' ρ (outs.map (·.1))
  have hnew : ∀ t ∈ outs.map (·.1), t ∉ ins.map (·.1) → st.free (ρ t) := fun t ht hn => hf _ (List.mem_filterMap.2 ⟨t, ht, by rw [if_neg hn]⟩)
  have hlt : ∀ s b, (st.ob s).blk m s b → b < w.heap.size := fun s b hs => (h.obs s).lt hs
  have hownin : ∀ g, Owns (m.pull ρ) ins g → ∃ p ∈ ins, (st.ob (ρ p.1)).blk m (ρ p.1) g := fun g ⟨p, hpi, hg⟩ => ⟨p, hpi, by rw [← hblkin p hpi]; exact hg⟩
  have hext : ∀ r, (∀ t ∈ outs.map (·.1), t ∉ ins.map (·.1) → ρ t ≠ r) → Ext m m2 r := fun r hr => by
    by_cases hq : ∃ t ∈ outs.map (·.1), ρ t = r
    · obtain ⟨t, ht, rfl⟩ := hq
      have hin : t ∈ ins.map (·.1) := Classical.byContradiction fun hn => hr t ht hn rfl
      obtain ⟨p, hpi, rfl⟩ := List.mem_map.1 hin
      have he := hp.ext p hpi
      have hgl := glue_at (m := m) (m' := m') hT1 ht
      exact ⟨fun g hg => by rw [hgl.1]; exact he.1 g hg, fun k x hx => by rw [hgl.2.1]; exact he.2 k x hx⟩
    · have hgl := glue_off (m := m) (m' := m') (ρ := ρ) (ts := outs.map (·.1)) (s := r) fun t ht e => hq ⟨t, ht, e⟩
      exact ⟨fun g hg => by rw [hgl.1]; exact hg, fun k x hx => by rw [hgl.2.1]; exact hx⟩
  have hpull : ∀ t ∈ outs.map (·.1), Ext m' (m2.pull ρ) t := fun t ht => by
    have hgl := glue_at (m := m) (m' := m') hT1 ht
    exact ⟨fun g hg => by show m2.th (ρ t) = _; rw [hgl.1]; exact hg, fun k x hx => by show m2.ka (ρ t) k = _; rw [hgl.2.1]; exact hx⟩
  have hres : Rep Γ' m2 v (res.ren ρ) := rep_ren (hp.rep.mono (Sub.refl _) fun t ht => hpull t (h9 t ht))
  have hob1 : ∀ p ∈ outs, (⟨st.T, (outs.map fun p => (ρ p.1, p.2.ren ρ)) ++ st.B⟩ : St).ob (ρ p.1) = p.2.ren ρ := fun p hp => by
    simp only [St.ob]
    rw [look_app, look_map hT1 h8 hp]
    rfl
  have hob2 : ∀ s, (∀ t ∈ outs.map (·.1), ρ t ≠ s) → (⟨st.T, (outs.map fun p => (ρ p.1, p.2.ren ρ)) ++ st.B⟩ : St).ob s = st.ob s := fun s hs => by
    simp only [St.ob]
    rw [look_app, look_none]
    intro q hq
    obtain ⟨p, hp, rfl⟩ := List.mem_map.1 hq
    exact hs p.1 (List.mem_map.2 ⟨p, hp, rfl⟩)
  have hblk1 : ∀ p ∈ outs, (p.2.ren ρ).blk m2 (ρ p.1) = p.2.blk m' p.1 := fun p hp => by
    rw [blk_ren]
    have hgl := glue_at (m := m) (m' := m') hT1 (List.mem_map.2 ⟨p, hp, rfl⟩)
    exact blk_same hgl.1 hgl.2.1 hgl.2.2
  have hblk2 : ∀ s, (∀ t ∈ outs.map (·.1), ρ t ≠ s) → (st.ob s).blk m2 s = (st.ob s).blk m s := fun s hs => blk_same (glue_off hs).1 (glue_off hs).2.1 (glue_off hs).2.2
  have hcase : ∀ s, (∃ p ∈ outs, ρ p.1 = s) ∨ ∀ t ∈ outs.map (·.1), ρ t ≠ s := fun s => by
    by_cases hq : ∃ p ∈ outs, ρ p.1 = s
    · exact .inl hq
    · exact .inr fun t ht e => by
        obtain ⟨p, hp, rfl⟩ := List.mem_map.1 ht
        exact hq ⟨p, hp, e⟩
  -- an object that is no part of the call: its block is not the call's
  have hapart : ∀ s, (∀ t ∈ outs.map (·.1), ρ t ≠ s) → ∀ g, (st.ob s).blk m s g → ¬ Owns (m.pull ρ) ins g := fun s hs g hg ho => by
    obtain ⟨p, hpi, hpg⟩ := hownin g ho
    exact hs p.1 (h7 _ (List.mem_map.2 ⟨p, hpi, rfl⟩)) (h.inj _ _ g hpg hg)
  have hΓ : ∀ ad : Addr, ad.block < w.heap.size → ¬ Owns (m.pull ρ) ins ad.block → Γ' ad = Γ ad := fun ad h1 h2 => by
    cases hq : Γ ad with
    | some y => exact hp.sub ad y hq
    | none =>
      cases hq' : Γ' ad with
      | none => rfl
      | some y =>
        rcases hp.fresh ad hq (by simp [hq']) with h3 | h3
        · omega
        · exact absurd h3 h2
  refine ⟨Γ', m2, RRW.put (st := ⟨st.T, (outs.map fun p => (ρ p.1, p.2.ren ρ)) ++ st.B⟩) (h.mem hp.sub (fun t r hr => hext r fun t' ht' hn e => (hnew t' ht' hn).2.1 (e ▸ St.get_refs hr)) (fun p hpi => hext p fun t' ht' hn e => by
    have := (hnew t' ht' hn).1; have := c.big p hpi; omega) hp.gok (fun s => ?_) (fun s g hg => ?_) (fun s s' g hg hg' => ?_) ?_ (fun ad h0 h1 => ?_)) (some d) hres⟩
  · rcases hcase s with ⟨p, hpo, rfl⟩ | hs
    · rw [hob1 p hpo]
      have hgl := glue_at (m := m) (m' := m') hT1 (List.mem_map.2 ⟨p, hpo, rfl⟩)
      exact ob_ren.2 ((hp.obs p hpo).keep (Sub.refl _) hgl.1 hgl.2.1 hgl.2.2 (Nat.le_refl _) ⟨rfl, rfl, rfl⟩ (fun r hr => hpull r (h10 p hpo r hr)) fun _ _ => ⟨rfl, fun _ _ => rfl⟩)
    · rw [hob2 s hs]
      refine (h.obs s).keep hp.sub (glue_off hs).1 (glue_off hs).2.1 (glue_off hs).2.2 hp.frame.size ⟨hp.frame.os, hp.frame.tape, hp.frame.output⟩ (fun r hr => hext r fun t' ht' hn e => (hnew t' ht' hn).2.2 (e ▸ St.ob_refs hr)) fun g hg => ?_
      exact ⟨hp.frame.block g (hlt s g hg) (hapart s hs g hg), fun ad had => hΓ ad (by rw [had]; exact hlt s g hg) (by rw [had]; exact hapart s hs g hg)⟩
  · rcases hcase s with ⟨p, hpo, rfl⟩ | hs
    · rw [hob1 p hpo, hblk1 p hpo] at hg
      rcases hp.own g ⟨p, hpo, hg⟩ with h1 | h1
      · exact .inl (Nat.le_trans h.frame.size h1)
      · obtain ⟨q, hq, hqg⟩ := hownin g h1
        exact h.own _ g hqg
    · rw [hob2 s hs, hblk2 s hs] at hg
      exact h.own s g hg
  · have key : ∀ p ∈ outs, ∀ s, (∀ t ∈ outs.map (·.1), ρ t ≠ s) → p.2.blk m' p.1 g → (st.ob s).blk m s g → False := fun p hpo s hs h1 h2 => by
      rcases hp.own g ⟨p, hpo, h1⟩ with h3 | h3
      · have := hlt s g h2; omega
      · exact hapart s hs g h2 h3
    rcases hcase s with ⟨p, hpo, rfl⟩ | hs <;> rcases hcase s' with ⟨p', hpo', rfl⟩ | hs'
    · rw [hob1 p hpo, hblk1 p hpo] at hg
      rw [hob1 p' hpo', hblk1 p' hpo'] at hg'
      rw [hp.inj p hpo p' hpo' g hg hg']
    · rw [hob1 p hpo, hblk1 p hpo] at hg
      rw [hob2 s' hs', hblk2 s' hs'] at hg'
      exact (key p hpo s' hs' hg hg').elim
    · rw [hob2 s hs, hblk2 s hs] at hg
      rw [hob1 p' hpo', hblk1 p' hpo'] at hg'
      exact (key p' hpo' s hs hg' hg).elim
    · rw [hob2 s hs, hblk2 s hs] at hg
      rw [hob2 s' hs', hblk2 s' hs'] at hg'
      exact h.inj s s' g hg hg'
  · refine h.frame.trans' hp.frame.os hp.frame.tape hp.frame.output hp.frame.size fun k hk => ?_
    by_cases ho : Owns (m.pull ρ) ins k
    · obtain ⟨q, hq, hqg⟩ := hownin k ho
      exact .inl ⟨k, h.own _ k hqg, rfl⟩
    · exact .inr (hp.frame.block k hk ho)
  · rcases hp.fresh ad h0 h1 with h2 | h2
    · exact .inl (Nat.le_trans h.frame.size h2)
    · obtain ⟨q, hq, hqg⟩ := hownin _ h2
      exact h.own _ _ hqg

end Go.Proofs.Ytocppeifkjdeiaa.Mv
