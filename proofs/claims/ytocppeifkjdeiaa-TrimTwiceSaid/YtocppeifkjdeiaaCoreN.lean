/- A machine for proofs, part N: slice literals, append; all operations that turn memory. Under no condition. -/
import Derived.Test.YtocppeifkjdeiaaCoreM
import Derived.Lib.ConvBytes
namespace Go.Proofs.Ytocppeifkjdeiaa.Mv
open Go
set_option linter.unusedSimpArgs false
set_option linter.unusedVariables false

theorem rows_flat (cs : List AV) : (cs.map fun c => c.cells.map AV.close).flatten = ((cs.map AV.cells).flatten).map AV.close := by
  rw [List.map_flatten, List.map_map]
  rfl

theorem zrep {Γ : Gam} {m : Nm} {j : TyI} (n : Nat) : RepL Γ m (List.replicate n j.zero).flatten (List.replicate n (j.zero.map ofVal)).flatten := by
  induction n with
  | zero => exact .nil
  | succ n ih =>
    rw [List.replicate_succ, List.replicate_succ, List.flatten_cons, List.flatten_cons]
    exact RepL.append ⟨by simp, fun j v x hv hx => by
      rw [List.getElem?_map, hv] at hx; cases hx; exact ofVal_rep _ _ _⟩ ih

theorem buildSlice_wp {c Γ m st a w} {tab : Tab} (ht : TabOk c.P tab) (h : RRW c Γ m st a w) {o : Oper} {t : TypeId} {len : Nat} {ps : Array (Nat × Operand)} (ho : o.op = .buildSlice t len ps) (hok : o.op.operands.all (okOp c.N) = true) {e : Eff} (hp : mop tab st o = some e) (hf : ∀ d ∈ e.new, st.free d) {Q : Exit → Act → World → Prop} :
    o.wp c.P a w (fun a' w' => RR c (st.app e) a' w') Q := by
  obtain ⟨dst, op, type, pos, after, guard⟩ := o
  simp only at ho; subst ho
  have ev : ∀ p ∈ ps.toList, Rep Γ m (a.eval p.2) (st.val p.2) := fun p hp => h.eval p.2 (by
    rw [Array.all_eq_true_iff_forall_mem] at hok
    exact hok p.2 (by simp only [Op.operands]; simpa using ⟨p.1, by simpa using hp⟩))
  simp only [mop] at hp
  split at hp
  · rename_i i d hi
    split at hp
    · rename_i e' hd
      split at hp
      · rename_i j hj
        split at hp <;> cases hp
        rename_i hc
        obtain ⟨c1, c2, c3, c4⟩ := hc
        have hall := List.all_eq_true.1 c2
        simp only [Bool.and_eq_true] at hall
        have hplen : ps.toList.length = len := by have := congrArg List.length c1; simpa using this
        have hut := (ht.at hi).run_und w
        rw [hd] at hut
        obtain ⟨z, hz, hzl⟩ := (ht.at hj).run_zero w
        have hzz := (ht.at hj).one
        have hzc : z.cells = j.zero.toArray := by rw [← hzl]
        let cs := ps.toList.map fun p => st.val p.2
        have hcs : ∀ x ∈ cs, fitsIn j.size x = true ∧ x.cells.length = j.size := fun x hx => by
          obtain ⟨p, hp, rfl⟩ := List.mem_map.1 hx
          exact ⟨(hall p hp).1, fits_len (hall p hp).1⟩
        let us := (madeCells j.zero.toArray (len * j.size)).toList
        have hus : us = (List.replicate len j.zero).flatten := by
          have := made_take hzz.2 (n := len) (N := len * j.size) (Nat.le_refl _)
          rw [← this, List.take_of_length_le (by simp [madeCells])]
        have hzr : RepL Γ m us (List.replicate len (j.zero.map ofVal)).flatten := by
          rw [hus]
          exact zrep len
        have hzl2 : ((List.replicate len (j.zero.map ofVal)).flatten).length = cs.length * j.size := by
          have hcl : cs.length = len := by simpa [cs] using hplen
          rw [hcl]
          simp [hzz.2]
        have hfa := fill_all (sz := j.size) cs [] _ hzl2 hcs
        simp only [List.nil_append, List.length_nil, Nat.zero_add] at hfa
        have hidx : ∀ (q : Nat) f v, ps.toList[q]? = some (f, v) → f = q := fun q f v hq => by
          have h1 : (ps.toList.map (·.1))[q]? = some f := by rw [List.getElem?_map, hq]; rfl
          rw [c1, List.getElem?_range (by have := (List.getElem?_eq_some_iff.1 hq).1; omega)] at h1
          exact (Option.some.inj h1).symm
        obtain ⟨vs, hvs, hvr⟩ := fill_run (Γ := Γ) (m := m) (place := fun q => some (q * j.size, j.size)) _ ((ps.map fun (i, x) => (i, a.eval x)).toList) us _ _ hzr hfa (by simp [cs]) fun q o' s x f v ho hv => by
          simp only [Array.toList_map, List.getElem?_map] at hv ho
          cases hq : ps.toList[q]? with
          | none => rw [hq] at hv; simp at hv
          | some p =>
            obtain ⟨f', x'⟩ := p
            rw [hq] at hv
            simp only [Option.map_some, Option.some.injEq, Prod.mk.injEq] at hv
            obtain ⟨rfl, rfl⟩ := hv
            obtain rfl := hidx q f' x' hq
            have hcq : cs[f']? = some (st.val x') := by simp only [cs, List.getElem?_map, hq]; rfl
            rw [List.getElem?_zipIdx, hcq] at ho
            simp only [Option.map_some, Option.some.injEq, Prod.mk.injEq, Nat.zero_add] at ho
            obtain ⟨rfl, rfl, rfl⟩ := ho
            exact ⟨rfl, ev (f', x') (List.mem_of_getElem? hq)⟩
        have hrun : (execOp a.eval { dst := some d, op := .buildSlice t len ps, type, pos, after, guard }).run c.P w = .ok (.value (.slice (some ⟨w.heap.size, 0, none⟩) len len)) (w.alloc (.cells vs.toArray e')) := by
          have hmade : us.toArray = madeCells j.zero.toArray (len * j.size) := by simp [us]
          have hle : ¬ (len * j.size > 2 ^ 24) := by omega
          simp only [execOp, Instr.buildSlice, Sem.run_bind, hut, Result.andThen_ok, (ht.at hj).run_size w, if_neg hle, Sem.run_pure]
          by_cases h0 : len * j.size = 0
          · have hl0 : len = 0 := by
              rcases Nat.mul_eq_zero.1 h0 with h | h
              · exact h
              · omega
            subst hl0
            have hps : ps = #[] := by apply Array.eq_empty_of_size_eq_zero; simpa using hplen
            subst hps
            have hv0 : vs = [] := by
              have := hvr.1
              simp [cs] at this
              exact this
            subst hv0
            simp [newRow, alloc_eq, Instr.fill, Array.range_zero']
          · simp only [if_neg h0, Sem.run_bind, hz, Result.andThen_ok, Sem.run_pure, hzc]
            have : (Array.range (len * j.size)).map (fun x => j.zero.toArray[x % j.zero.toArray.size]!) = us.toArray := by rw [hmade]; rfl
            rw [this, hvs]
            simp [newRow, alloc_eq]
        have hshut : ((cs.map AV.cells).flatten).all AV.shut = true := by
          rw [List.all_eq_true]
          intro x hx
          obtain ⟨l, hl, hxl⟩ := List.mem_flatten.1 hx
          obtain ⟨y, hy, rfl⟩ := List.mem_map.1 hl
          obtain ⟨p, hp, rfl⟩ := List.mem_map.1 hy
          exact List.all_eq_true.1 (hall p hp).2 x hxl
        have hrowsEq : (ps.toList.map fun p => (st.val p.2).cells.map AV.close) = cs.map fun c => c.cells.map AV.close := by simp [cs, Function.comp_def]
        have hrl : ∀ r ∈ (ps.toList.map fun p => (st.val p.2).cells.map AV.close), r.length = j.size := fun r hr => by
          obtain ⟨p, hp, rfl⟩ := List.mem_map.1 hr
          rw [List.length_map]; exact fits_len (hall p hp).1
        have hlen' : (ps.toList.map fun p => (st.val p.2).cells.map AV.close).length = len := by simpa using hplen
        have hvl : vs.length = len * j.size := by
          rw [hvr.1]
          have h1 := flat_len (rows := cs.map AV.cells) (sz := j.size) fun r hr => by
            obtain ⟨x, hx, rfl⟩ := List.mem_map.1 hr
            exact (hcs x hx).2
          have hcl : cs.length = len := by simpa [cs] using hplen
          rw [h1, List.length_map, hcl]
        obtain ⟨Γ', m', h1, h2⟩ := h.row (d := d) (hf d (by simp)) (e := e') (sz := j.size) (cap := len) (cur := vs.toArray) (xs := vs) (rows := ps.toList.map fun p => (st.val p.2).cells.map AV.close)
          (by rw [hlen']; exact Nat.le_refl _) (by have := Nat.le_mul_of_pos_right len c4; simp only [maxLen]; omega) (by simpa using hvl) (by rw [hlen', ← hvl]; simp) (by
            rw [hrowsEq, rows_flat]
            exact close_list hvr hshut) hrl (one_list hvr (shut_leaf_all hshut))
        rw [hlen'] at h1 h2
        unfold Oper.wp
        rw [hrun]
        exact h1.app1 (st := st) (B := [(d, .gw len)]) h2
      · cases hp
    · cases hp
  · cases hp


theorem argOk {P : Program} {tab : Tab} {Γ m} {w : World} (hg : ∀ ad v, Γ ad = some v → w.cell? ad = some v) {v : Value} {x : AV} (hv : Rep Γ m v x) {jsz sz : Nat} {ys : List (List AV)} (h : (if argNil x then some (jsz, []) else argOf x) = some (sz, ys)) : ∃ news, Arg P Γ w sz v news ys := by
  split at h
  · rename_i hn
    cases h
    cases x <;> simp [argNil] at hn
    cases hv
    exact arg_sh (m := m) hg .sh0
  · cases x <;> simp [argOf] at h
    · obtain ⟨rfl, rfl⟩ := h
      cases hv
      exact ⟨_, arg_str _⟩
    · obtain ⟨rfl, rfl⟩ := h
      exact arg_sh hg hv
    · obtain ⟨rfl, rfl⟩ := h
      cases hv with | gr hv _ => exact arg_sh hg hv

theorem append_wp {c Γ m st a w} {tab : Tab} (ht : TabOk c.P tab) (h : RRW c Γ m st a w) {o : Oper} {cl : Call} (ho : o.op = .call cl) (hcl : cl.callee = .builtin .append) (hok : o.op.operands.all (okOp c.N) = true) {e : Eff} (hp : mop tab st o = some e) (hf : ∀ d ∈ e.new, st.free d) {Q : Exit → Act → World → Prop} :
    o.wp c.P a w (fun a' w' => RR c (st.app e) a' w') Q := by
  obtain ⟨dst, op, type, pos, after, guard⟩ := o
  obtain ⟨callee, args, argTypes⟩ := cl
  simp only at ho hcl; subst ho; subst hcl
  simp only [mop] at hp
  split at hp
  · rename_i s x t u d e1 e2
    have hx1 : args = #[s, x] := by rw [← Array.toArray_toList (xs := args), e1]
    have hx2 : argTypes = #[t, u] := by rw [← Array.toArray_toList (xs := argTypes), e2]
    subst hx1; subst hx2
    have ev : ∀ z, z ∈ (Op.call { callee := .builtin .append, args := #[s, x], argTypes := #[t, u] }).operands → Rep Γ m (a.eval z) (st.val z) := fun z hz => h.eval z (by
      rw [Array.all_eq_true_iff_forall_mem] at hok; exact hok z hz)
    have hs := ev s (by simp [Op.operands, Call.operands])
    have hx := ev x (by simp [Op.operands, Call.operands])
    have hexec : ∀ v' w', (Builtin.append_ #[t, u] type #[a.eval s, a.eval x]).run c.P w = .ok v' w' → (execOp a.eval { dst := some d, op := .call { callee := .builtin .append, args := #[s, x], argTypes := #[t, u] }, type, pos, after, guard }).run c.P w = .ok (.value v') w' := fun v' w' hr => by
      simp only [execOp, resolve, invoke, builtin, Sem.run_bind, Sem.run_pure, Result.andThen_ok, List.map_toArray, List.map_cons, List.map_nil, hr]
    split at hp
    · rename_i i iu hi hu
      split at hp
      · rename_i e' hd
        split at hp
        · rename_i j hj hud
          have hud' : ∀ k, iu.d ≠ .int k := fun k hk => by rw [hk] at hud; cases hud
          split at hp
          · rename_i sz ys harg
            obtain ⟨news, hA⟩ := argOk (P := c.P) (tab := tab) h.gok hx harg
            split at hp
            · rename_i tg e0 sz' rows hsv
              rw [hsv] at hs
              split at hp
              · rename_i n hob
                split at hp <;> cases hp
                rename_i hc
                obtain ⟨rfl, rfl, rfl, c4, rfl, c6, c7⟩ := hc
                have hlen : rows.length + ys.length ≤ maxLen := by
                  have := Nat.le_mul_of_pos_right (rows.length + ys.length) c6; simp only [maxLen]; omega
                obtain ⟨v', w', Γ', m', h1, h2, h3⟩ := RRW.grow ht hi hd hj hu hud' h c4 hob hs hA (ty := type) hlen c7
                unfold Oper.wp
                rw [hexec v' w' h1]
                exact h2.app1 (st := st) (B := [(tg, .gw (rows.length + ys.length))]) h3
              · cases hp
            · rename_i hsv
              split at hp <;> cases hp
              rename_i hc
              obtain ⟨rfl, c4, c6, c7⟩ := hc
              rw [hsv] at hs
              have hse : a.eval s = .slice none 0 0 := by cases hq : a.eval s <;> rw [hq] at hs <;> cases hs <;> rfl
              have hfd := hf d (by simp)
              obtain ⟨m1, h1, h2, h3⟩ := h.nilrow hfd e' j.size
              have hlen : ([] : List (List AV)).length + ys.length ≤ maxLen := by
                have := Nat.le_mul_of_pos_right ys.length c6; simp only [maxLen, List.length_nil]; omega
              obtain ⟨v', w', Γ', m', q1, q2, q3⟩ := RRW.grow ht hi hd hj hu hud' h1 c4 (rows := []) (by simp [St.ob, look]) h2 hA (ty := type) hlen (by simpa using c7)
              rw [← hse] at q1
              simp only [List.length_nil, Nat.zero_add, List.nil_append] at q2 q3
              unfold Oper.wp
              rw [hexec v' w' q1]
              refine ⟨Γ', m', ?_⟩
              have q4 := q2.put (some d) q3
              have hob : ∀ t, (st.app ⟨[(d, .gr d e' j.size ys)], [(d, .gw ys.length)], [d]⟩).ob t = ((⟨st.T, (d, .gw ys.length) :: (d, .gw 0) :: st.B⟩ : St).puto (some d) (.gr d e' j.size ys)).ob t := fun t => by
                simp only [St.ob, St.app, St.puto, St.put, look, List.cons_append, List.nil_append]
                split <;> rfl
              refine ⟨q4.defers, q4.size, q4.gok, q4.tmps, fun t => ?_, fun t g hg => ?_, fun t t' g hg hg' => ?_, q4.frame, q4.sub, q4.fresh, q4.ext⟩
              · rw [hob]; exact q4.obs t
              · rw [hob] at hg; exact q4.own t g hg
              · rw [hob] at hg hg'; exact q4.inj t t' g hg hg'
            · cases hp
          · cases hp
        · cases hp
      · cases hp
    · cases hp
  · cases hp

theorem cellsB_get {l : List UInt8} {j : Nat} {d : AV} (h : (cellsB l)[j]? = some d) : j < l.length ∧ d = .i .u8 ((l.getD j 0).toNat : Int) := by
  simp only [cellsB, List.getElem?_map, Option.map_eq_some_iff] at h
  obtain ⟨x, hx, rfl⟩ := h
  have := (List.getElem?_eq_some_iff.1 hx).1
  exact ⟨this, by simp [List.getD, hx]⟩
theorem bytes_wp {c Γ m st a w} {tab : Tab} (ht : TabOk c.P tab) (h : RRW c Γ m st a w) {o : Oper} {s d' : TypeId} {x : Operand} (ho : o.op = .convert s d' x) (hok : o.op.operands.all (okOp c.N) = true) {e : Eff} (hp : mop tab st o = some e) (hf : ∀ d ∈ e.new, st.free d) {Q : Exit → Act → World → Prop} :
    o.wp c.P a w (fun a' w' => RR c (st.app e) a' w') Q := by
  obtain ⟨dst, op, type, pos, after, guard⟩ := o
  simp only at ho; subst ho
  have ev : ∀ z, z ∈ (Op.convert s d' x).operands → Rep Γ m (a.eval z) (st.val z) := fun z hz => h.eval z (by
    rw [Array.all_eq_true_iff_forall_mem] at hok; exact hok z hz)
  have hx := ev x (by simp [Op.operands])
  simp only [mop] at hp
  split at hp
  · rename_i i j l d hi hj e1
    split at hp
    · rename_i e2 hd1 hd2
      split at hp
      · rename_i ie hie
        split at hp
        case h_2 => cases hp
        rename_i hd3
        split at hp <;> cases hp
        rename_i hcapl
        have hfd := hf d (by simp)
        rw [e1] at hx
        have hui := (ht.at hi).und
        have huj := (ht.at hj).und
        have hue := (ht.at hie).und
        rw [hd1] at hui; rw [hd2] at huj; rw [hd3] at hue
        cases hxe : a.eval x with
        | string str =>
          rw [hxe] at hx
          cases hx
          have hrun := Lib.run_convert_string_bytes (P := c.P) w s d' e2 ⟨l.toArray⟩ hui huj hue
          let w' := Lib.bytesWorld w e2 ⟨l.toArray⟩
          have hsz : (ByteArray.mk l.toArray).size = l.length := by simp [ByteArray.size]
          have hcsz : l.length ≤ (Lib.bytesCells w e2 ⟨l.toArray⟩).size := by simp [Lib.bytesCells]
          have hcell : ∀ (j : Nat) (v : Value), (Lib.bytesCells w e2 ⟨l.toArray⟩)[j]? = some v → v.oneCell' = true ∧ (j < l.length → v = .int .u8 ((l.getD j 0).toNat : Int)) := fun j v hv => by
            unfold Lib.bytesCells at hv
            rw [Array.getElem?_append] at hv
            split at hv
            · rename_i hj'
              simp at hv hj'
              obtain ⟨b, hb, rfl⟩ := hv
              exact ⟨rfl, fun _ => by simp [List.getD, hb]⟩
            · rename_i hj'
              simp at hj'
              rw [Array.getElem?_replicate] at hv
              split at hv <;> cases hv
              exact ⟨rfl, fun hlt => by omega⟩
          let m' := m.set d (some w.heap.size) fun _ => none
          have hnew : RRW c Γ m' ⟨st.T, (d, .bx (cellsB l)) :: st.B⟩ a w' := h.new hfd.1 hfd.2.1 hfd.2.2 (Sub.refl _) rfl rfl rfl (by rw [Lib.bytesWorld_size]; omega) (fun i hi => Lib.bytesWorld_at_old w e2 _ i hi) (fun _ _ => rfl)
            (fun ad v hv => by rw [Lib.bytesWorld_old w e2 _ ad (block_lt_of_cell (h.gok ad v hv))]; exact h.gok ad v hv) (by
              refine ⟨w.heap.size, Lib.bytesCells w e2 ⟨l.toArray⟩, (e2, (Lib.bytesCells w e2 ⟨l.toArray⟩).size, (Lib.bytesCells w e2 ⟨l.toArray⟩).size + 1), by simp [m', Nm.set], Lib.bytesWorld_at_new w e2 _, ⟨.inr (Nat.le_refl _), by simpa [cellsB] using hcsz⟩, fun j v d hv hd => ?_, fun j v _ hv => (hcell j v hv).1, fun ad had => ?_⟩
              · obtain ⟨h1, rfl⟩ := cellsB_get hd
                rw [(hcell j v hv).2 h1]
                exact .i
              · cases hv : Γ ad with
                | none => rfl
                | some v => have := block_lt_of_cell (h.gok ad v hv); omega) (fun i hi => by
              simp only [Ob.blk, Nm.set, if_true] at hi
              cases hi; exact Nat.le_refl _)
          unfold Oper.wp
          have : (execOp a.eval { dst := some d, op := .convert s d' x, type, pos, after, guard }).run c.P w = .ok (.value (.slice (some ⟨w.heap.size, 0, none⟩) l.length (grownCap w l.length 0 e2))) w' := by
            rw [hsz] at hrun
            simp [execOp, hxe, hrun, w']
          rw [this]
          exact hnew.app1 (st := st) (B := [(d, .bx (cellsB l))]) (.bsl (by simp [m', Nm.set]) ⟨by simpa [grownCap] using grownCap_ge w l.length 0 e2, grownCap_le_maxLen w l.length 0 e2 (by simp only [maxLen]; omega)⟩)
        | _ => rw [hxe] at hx; cases hx
      · cases hp
    · cases hp
  · cases hp

theorem mop_wp {c Γ m st a w} {tab : Tab} (ht : TabOk c.P tab) (h : RRW c Γ m st a w) {o : Oper} (hok : o.op.operands.all (okOp c.N) = true) {e : Eff} (hp : mop tab st o = some e) (hf : ∀ d ∈ e.new, st.free d) {Q : Exit → Act → World → Prop} :
    o.wp c.P a w (fun a' w' => RR c (st.app e) a' w') Q := by
  cases ho : o.op with
  | store t x y => exact store_wp ht h ho hok hp
  | box t x => exact box_wp ht h ho hok hp hf
  | alloc t => exact alloc_wp ht h ho hp hf
  | buildSlice t len ps => exact buildSlice_wp ht h ho hok hp hf
  | makeSlice t x y => exact makeSlice_wp ht h ho hok hp hf
  | convert s d x => exact bytes_wp ht h ho hok hp hf
  | call cl =>
    have hcl : cl.callee = .builtin .append := by
      unfold mop at hp
      rw [ho] at hp
      simp only at hp
      split at hp
      · rename_i h; exact h
      · cases hp
    exact append_wp ht h ho hcl hok hp hf
  | _ => unfold mop at hp; rw [ho] at hp; cases hp

end Go.Proofs.Ytocppeifkjdeiaa.Mv
