/- What the statement MeanGets needs, part 8. Under no condition. -/
import Derived.Lib.SlBytesConst
import Derived.Test.YtocppeifkjdeiaaMMeanGets7
/- A machine for proofs, more operations: arrays, bytes of boxes, rows that become boxes. Under no condition. -/
namespace Go.Proofs.Ytocppeifkjdeiaa.Mv
open Go
set_option linter.unusedSimpArgs false
set_option linter.unusedVariables false

section
variable {P : Program} {tab : Tab} {N : Nat} {D : St → Prop} {F : Fx P tab N D} {ops : Array Oper} {k : List It} {l : List Oper} {T : List (Nat × AV)} {B : List (Nat × Ob)}
  {d ty : Nat} {pos : String} {after : Array Edge} {op : Op} {acc : List Rec} {tg : List Nat} {st : St}

theorem ext_val {o : Oper} {x : AV} (h : ∀ (st' : St), (∀ y, y ∈ o.op.operands → st.val y = st'.val y) → (∀ t ∈ tagsAt st o, st.ob t = st'.ob t) → ∀ (c : Ctx) Γ m a w, c.P = P → TabOk c.P tab → RRW c Γ m st' a w → okOper c.N o = true →
    ∀ g, ∃ v, (execOp a.eval ({ o with guard := g } : Oper)).run c.P w = .ok (.value v) w ∧ Rep Γ m v x) : ExtOk P tab st o (putEff o.dst x) := by
  intro g st' h1 h2 c Γ m a w hP ht hr hok hf Q
  obtain ⟨v, h3, h4⟩ := h st' h1 h2 c Γ m a w hP ht hr hok g
  unfold Oper.wp
  rw [h3]
  have := hr.put o.dst h4
  refine ⟨Γ, m, ?_⟩
  cases hd : o.dst with
  | none => rw [hd] at this; exact this
  | some d => rw [hd] at this; exact this
theorem ok_ops {N : Nat} {o : Oper} (h : okOper N o = true) {x : Operand} (hx : x ∈ o.op.operands) : okOp N x = true := by
  simp only [okOper, Bool.and_eq_true] at h
  have := h.2
  rw [Array.all_eq_true_iff_forall_mem] at this
  exact this x hx
theorem tag_op {o : Oper} {x : Operand} (hx : x ∈ o.op.operands) {t : Nat} (ht : t ∈ (st.val x).refs) (hs : stillOp o.op = false := by exact rfl) : t ∈ tagsAt st o := by
  unfold tagsAt
  rw [hs]
  exact List.mem_append_left _ (mem_opRefs (by simpa using hx) ht)

section
variable {t : TypeId} {i j : TyI} {e : TypeId} {n g off : Nat} {x y : Operand}
/-- An array's elements asL a slice. -/
theorem slArr_ext (hi : look tab t = some i) (hd : i.d = .array n e) (hj : look tab e = some j) (hx : st.val x = .ptr g off) (hnm : decide (n ≤ 1000000) = true) :
    ExtOk P tab st ⟨some d, .slice t x none none none, ty, pos, after, none⟩ (putEff (some d) (.bsl g off n j.size)) :=
  ext_val (o := ⟨some d, .slice t x none none none, ty, pos, after, none⟩) fun st' h1 h2 c Γ m a w hP ht hr hok g' => by
    have hxm : x ∈ (Op.slice t x none none none).operands := by simp [Op.operands]
    have he := hr.eval x (ok_ops hok hxm)
    rw [← h1 x hxm, hx] at he
    have hu := (ht.at hi).run_und w
    rw [hd] at hu
    have hs := (ht.at hj).run_size w
    generalize hv : a.eval x = v at he
    cases he with
    | ptr hth =>
      refine ⟨.slice (some ⟨_, off, none⟩) n n, ?_, .bsl hth ⟨Nat.le_refl _, by have := of_decide_eq_true hnm; simp only [maxLen]; omega⟩⟩
      simp [execOp, hv, Instr.sliceAt, hu, Instr.sureAddr, Instr.sliceBounds, hs, Addr.add]
/-- A slice's first elements, asL an array. -/
theorem arrPtr_ext {rows : List (List AV)} {sz : Nat} (hi : look tab t = some i) (hd : i.d = .array n e) (hx : st.val x = .sh sz rows) (hn : n ≤ rows.length) (h0 : 0 < n) :
    ExtOk P tab st ⟨some d, .sliceToArrayPointer t x, ty, pos, after, none⟩ (putEff (some d) (.pel rows.flatten)) :=
  ext_val (o := ⟨some d, .sliceToArrayPointer t x, ty, pos, after, none⟩) fun st' h1 h2 c Γ m a w hP ht hr hok g' => by
    have hxm : x ∈ (Op.sliceToArrayPointer t x).operands := by simp [Op.operands]
    have he := hr.eval x (ok_ops hok hxm)
    rw [← h1 x hxm, hx] at he
    have hu := (ht.at hi).run_und w
    rw [hd] at hu
    rcases he.sh_inv with ⟨a', ha, hrows⟩ | ⟨a', cap, vs, ha, h3, h4, h5, h6, h7, h8⟩
    · subst hrows; simp at hn; omega
    · refine ⟨.pointer (some a'), ?_, .pel vs h8.1 h6 h7 h8.2⟩
      have : ¬ rows.length < n := by omega
      simp [execOp, ha, Instr.arrayAt, hu, this]
theorem BS_flat (l : List UInt8) : (BS l).flatten = cellsB l := by
  induction l with
  | nil => rfl
  | cons x l ih => simp only [BS, cellsB, List.map_cons, List.flatten_cons] at ih ⊢; rw [ih]; rfl

theorem lits_B {Γ m} (hP : TabOk P tab) (hj : look tab e = some j) (hjd : j.d = .int .u8) {vs : List Value} {l : List UInt8} (h : RepL Γ m vs (cellsB l)) : vs = l.map fun b => .int .u8 (b.toNat : Int) := by
  apply List.ext_getElem?
  intro q
  cases hq : l[q]? with
  | none =>
    have hq' := List.getElem?_eq_none_iff.1 hq
    have h1 := h.1
    simp only [cellsB, List.length_map] at h1
    rw [List.getElem?_eq_none (by omega), List.getElem?_map, hq]; rfl
  | some b =>
    have hlt := (List.getElem?_eq_some_iff.1 hq).1
    have h1 := h.1
    simp only [cellsB, List.length_map] at h1
    have h2 := h.2 q vs[q] (.i .u8 (b.toNat : Int)) (List.getElem?_eq_getElem (by omega)) (by simp [cellsB, hq])
    rw [List.getElem?_eq_getElem (by omega), List.getElem?_map, hq]
    generalize vs[q] = v at h2
    cases h2; rfl
theorem eqItems_B {e : TypeId} {w : World} (hu : P.underlying e = some (.int .u8)) (hs : P.cellsOf e = 1) (hag : ∀ w : World, (isAgg e).run P w = .ok false w) (dd : Nat) (asL bs : List UInt8) (hl : asL.length = bs.length) : ∀ (is : List Nat), (∀ q ∈ is, q < asL.length) →
    (Op.eqItems (dd + 1) e 1 ((asL.map fun b => Value.int .u8 (b.toNat : Int)).toArray) ((bs.map fun b => Value.int .u8 (b.toNat : Int)).toArray) is).run P w = .ok (is.all fun q => asL.getD q 0 == bs.getD q 0) w
  | [], _ => by simp [Op.eqItems]
  | q :: is, h => by
    have hq := h q (by simp)
    have hq2 : q < bs.length := by omega
    have ih := eqItems_B (w := w) hu hs hag dd asL bs hl is fun r hr => h r (by simp [hr])
    have p1 : ∀ (zs : List UInt8), q < zs.length → (Go.part e ((zs.map fun b => Value.int .u8 (b.toNat : Int)).toArray) (q * 1)).run P w = .ok (.int .u8 ((zs.getD q 0).toNat : Int)) w := fun zs hz => by
      unfold Go.part
      rw [Sem.run_bind, hag w]
      simp [List.getD, List.getElem?_eq_getElem hz]
    simp only [Op.eqItems, Sem.run_bind, p1 asL hq, p1 bs hq2, Result.andThen_ok, run_equalIn_int w dd e .u8 .u8 _ _ hu]
    have : (((asL.getD q 0).toNat : Int) == ((bs.getD q 0).toNat : Int)) = (asL.getD q 0 == bs.getD q 0) := by
      rw [Bool.eq_iff_iff]
      simp only [beq_iff_eq]
      exact ⟨fun e => UInt8.toNat_inj.1 (by omega), fun e => by rw [e]⟩
    rw [this]
    cases hb : (asL.getD q 0 == bs.getD q 0) with
    | true => simp only [Bool.not_true, Bool.false_eq_true, if_false, List.all_cons, hb, Bool.true_and]; exact ih
    | false => simp only [Bool.not_false, if_true, Sem.run_pure, List.all_cons, hb, Bool.false_and]
theorem all_eq_B {asL bs : List UInt8} (hl : asL.length = bs.length) : ((List.range asL.length).all fun q => asL.getD q 0 == bs.getD q 0) = (asL == bs) := by
  rw [Bool.eq_iff_iff]
  simp only [List.all_eq_true, List.mem_range, beq_iff_eq]
  constructor
  · intro h
    apply List.ext_getElem hl
    intro q h1 h2
    have := h q h1
    simpa [List.getD, List.getElem?_eq_getElem h1, List.getElem?_eq_getElem h2] using this
  · intro h q _; rw [h]
/-- '==' of two arrays of bytes. -/
theorem eqArr_ext {z : TypeId} {asL bs : List UInt8} (hi : look tab t = some i) (hd : i.d = .array n e) (hj : look tab e = some j) (hjd : j.d = .int .u8) (hjs : j.size = 1) (hx : st.val x = .agg (cellsB asL)) (hy : st.val y = .agg (cellsB bs)) (ha : asL.length = n) (hb : bs.length = n) (heg : P.eqGuardType P.depth t = false) :
    ExtOk P tab st ⟨some d, .binOp .eql t x y z, ty, pos, after, none⟩ (putEff (some d) (.b (asL == bs))) :=
  ext_val (o := ⟨some d, .binOp .eql t x y z, ty, pos, after, none⟩) fun st' h1 h2 c Γ m a w hP ht hr hok g' => by
    have hxm : x ∈ (Op.binOp .eql t x y z).operands := by simp [Op.operands]
    have hym : y ∈ (Op.binOp .eql t x y z).operands := by simp [Op.operands]
    have hxe := hr.eval x (ok_ops hok hxm)
    have hye := hr.eval y (ok_ops hok hym)
    rw [← h1 x hxm, hx] at hxe
    rw [← h1 y hym, hy] at hye
    obtain ⟨vs, hv1, hv2⟩ := hxe.agg_inv
    obtain ⟨us, hu1, hu2⟩ := hye.agg_inv
    have e1 := lits_B ht hj hjd hv2
    have e2 := lits_B ht hj hjd hu2
    have hu := (ht.at hi).und
    rw [hd] at hu
    have hue := (ht.at hj).und
    rw [hjd] at hue
    obtain ⟨f, hf, hfs, _⟩ := (ht.at hj).info
    have hcell : c.P.cellsOf e = 1 := by simp [Program.cellsOf, hf, hfs, hjs]
    have hag : ∀ w : World, (isAgg e).run c.P w = .ok false w := fun w => by
      have := (ht.at hj).run_agg w
      rw [this]; simp [TyI.agg, hjd]
    have hrun := run_equalIn_array (P := c.P) (w := w) 9999 vs.toArray us.toArray hu hf
    rw [hcell, e1, e2, eqItems_B hue hcell hag 9998 asL bs (by omega) _ (fun q hq => by rw [List.mem_range] at hq; omega), ← ha, all_eq_B (by omega)] at hrun
    refine ⟨.bool (asL == bs), ?_, .b⟩
    rw [← e1, ← e2] at hrun
    have hgd := run_eqGuard_agg (P := c.P) w .eql t x y us.toArray vs.toArray (by rw [hP]; exact heg)
    have hgd2 := run_eqGuard_agg (P := c.P) w .eql t x y vs.toArray us.toArray (by rw [hP]; exact heg)
    simp only [execOp, hv1, hu1]
    rw [Sem.run_bind, Sem.run_bind, hgd2]
    simp only [Result.andThen_ok, run_eql_struct, hrun, Sem.run_pure]

/-- Bytes of a box, appended. -/
theorem arg_bsl {Γ m} {w : World} {Q : Program} {t off n g cap : Nat} {l : List UInt8} (hob : ObOk Γ m w t (.bx (cellsB l))) (hg : m.th t = some g) (hn : off + n ≤ l.length) :
    Arg Q Γ w 1 (.slice (some ⟨g, off, none⟩) n cap) (((l.drop off).take n).map fun b => .int .u8 (b.toNat : Int)) (BS ((l.drop off).take n)) := by
  obtain ⟨k, c, E, q1, q2, q3, q4, q5, q6⟩ := hob
  rw [hg] at q1; cases q1
  have hlen : ((l.drop off).take n).length = n := by simp; omega
  have hcs : (cellsB l).length = l.length := by simp [cellsB]
  rw [hcs] at q3
  have hget : ∀ (j : Nat) (b : UInt8), ((l.drop off).take n)[j]? = some b → l[off + j]? = some b := fun j b hq => by
    rw [List.getElem?_take] at hq
    split at hq
    · rwa [List.getElem?_drop] at hq
    · cases hq
  generalize (l.drop off).take n = q at *
  refine ⟨by rw [BS_len, hlen]; simp [Builtin.lenOf], fun w' hw => ?_, fun v hv => ?_, fun r hr => ?_, ⟨by rw [BS_flat]; simp [cellsB], fun j v x hv hx => ?_⟩⟩
  · rw [BS_len, hlen]
    refine run_firstCells_some w' 1 n ⟨g, off, none⟩ n cap _ (by simp [hlen]) fun j v hv => ?_
    rw [List.getElem?_map] at hv
    cases hq : q[j]? with
    | none => rw [hq] at hv; cases hv
    | some b =>
      rw [hq] at hv; cases hv
      have hq := hget j b hq
      have hjl : off + j < c.size := by have := (List.getElem?_eq_some_iff.1 hq).1; omega
      have h4 := q4 (off + j) c[off + j] (.i .u8 (b.toNat : Int)) (Array.getElem?_eq_getElem hjl) (by simp [cellsB, hq])
      have hcell : w.cell? ⟨g, off + j, none⟩ = some c[off + j] := by
        rw [cell_of_row w g _ c E.1 E.2 q2]; exact Array.getElem?_eq_getElem hjl
      have : w'.cell? ⟨g, off + j, none⟩ = some c[off + j] := by
        rw [← hcell]; simp [World.cell?, hw]
      rw [add_lit, this]
      generalize c[off + j] = v at h4
      cases h4; rfl
  · obtain ⟨b, _, rfl⟩ := List.mem_map.1 hv; rfl
  · obtain ⟨b, _, rfl⟩ := List.mem_map.1 hr; rfl
  · rw [BS_flat] at hx
    simp only [cellsB, List.getElem?_map] at hv hx
    cases hq : q[j]? with
    | none => rw [hq] at hv; cases hv
    | some b => rw [hq] at hv hx; cases hv; cases hx; exact .i
section
variable {t u : TypeId} {i j iu : TyI} {e : TypeId} {n g off s' len : Nat} {x y : Operand} {rows : List (List AV)} {l' : List UInt8}
theorem growB_ext (hi : look tab t = some i) (hd : i.d = .slice e) (hj : look tab e = some j) (hu : look tab u = some iu) (hiu : isApp iu = true) (hx : st.val x = .gr g e j.size rows) (hg : st.ob g = .gw n) (hn : n = rows.length)
    (hy : st.val y = .bsl s' off len 1) (hs : st.ob s' = .bx (cellsB l')) (hl : off + len ≤ l'.length) (hz : (decide (j.size = 1) && decide (0 < j.bytes) && decide (j.bytes ≤ 1024)) = true) (hb : rows.length + len ≤ 137438953472) :
    ExtOk P tab st ⟨some d, .call { callee := .builtin .append, args := #[x, y], argTypes := #[t, u] }, ty, pos, after, none⟩ ⟨[(d, .gr g e j.size (rows ++ BS ((l'.drop off).take len)))], [(g, .gw (rows ++ BS ((l'.drop off).take len)).length)], []⟩ := by
  intro g' st' h1 h2 c Γ m a w hP ht hr hok hf Q
  simp only [Bool.and_eq_true, decide_eq_true_eq] at hz
  obtain ⟨⟨z1, z2⟩, z3⟩ := hz
  have hxm : x ∈ (Op.call { callee := .builtin .append, args := #[x, y], argTypes := #[t, u] }).operands := by simp [Op.operands, Call.operands]
  have hym : y ∈ (Op.call { callee := .builtin .append, args := #[x, y], argTypes := #[t, u] }).operands := by simp [Op.operands, Call.operands]
  have hxe := hr.eval x (ok_ops hok hxm)
  have hye := hr.eval y (ok_ops hok hym)
  rw [← h1 x hxm, hx] at hxe
  rw [← h1 y hym, hy] at hye
  have ho1 : st'.ob g = .gw rows.length := by rw [← h2 g (tag_op hxm (by rw [hx]; simp [AV.refs])), hg, hn]
  have ho2 : st'.ob s' = .bx (cellsB l') := by rw [← h2 s' (tag_op hym (by rw [hy]; simp [AV.refs])), hs]
  have hud' : ∀ k, iu.d ≠ .int k := fun k hk => by simp [isApp, hk] at hiu
  have hob := hr.obs s'
  rw [ho2] at hob
  generalize hv : a.eval y = v at hye
  cases hye with
  | bsl hth hcap =>
    rename_i gg cap
    have hA := arg_bsl (Q := c.P) (cap := cap) hob hth hl
    have hlen : (BS ((l'.drop off).take len)).length = len := by rw [BS_len]; simp; omega
    rw [← z1] at hA
    obtain ⟨v', w', Γ', m', q1, q2, q3⟩ := RRW.grow ht hi hd hj hu hud' hr (by omega) ho1 hxe hA (ty := ty) (by rw [hlen]; simp only [maxLen]; omega) (by rw [hlen]; exact Nat.le_trans (Nat.mul_le_mul hb z3) (by decide))
    rw [← hv] at q1
    unfold Oper.wp
    have hexec : (execOp a.eval { dst := some d, op := .call { callee := .builtin .append, args := #[x, y], argTypes := #[t, u] }, type := ty, pos, after, guard := g' }).run c.P w = .ok (.value v') w' := by
      simp only [execOp, resolve, invoke, builtin, Sem.run_bind, Sem.run_pure, Result.andThen_ok, List.map_toArray, List.map_cons, List.map_nil, q1]
    rw [hexec, List.length_append]
    exact q2.app1 (st := st') (B := [(g, .gw (rows.length + (BS ((l'.drop off).take len)).length))]) q3
end
end
theorem freeze_at (w : World) {g o : Nat} {cur : Array Value} {e : TypeId} (hg : w.heap[g]? = some (.cells cur e (0, 0))) : (w.freeze ⟨g, o, none⟩ 1).heap[g]? = some (.cells cur e (o, o + 1)) := by
  unfold World.freeze
  rw [if_neg (by decide)]
  simp [Array.getElem?_modify, hg]
theorem freeze_other (w : World) {g o k : Nat} (h : k ≠ g) : (w.freeze ⟨g, o, none⟩ 1).heap[k]? = w.heap[k]? := by
  unfold World.freeze
  rw [if_neg (by decide)]
  simp [Array.getElem?_modify, Ne.symm h]
theorem freeze_size (w : World) (a : Addr) : (w.freeze a 1).heap.size = w.heap.size := by
  unfold World.freeze
  rw [if_neg (by decide)]
  simp
theorem freeze_cell (w : World) {g o : Nat} {cur : Array Value} {e : TypeId} (hg : w.heap[g]? = some (.cells cur e (0, 0))) (ad : Addr) : (w.freeze ⟨g, o, none⟩ 1).cell? ad = w.cell? ad := by
  unfold World.cell?
  by_cases h : ad.block = g
  · rw [h, freeze_at w hg, hg]
  · rw [freeze_other w h]
section
variable {t u : TypeId} {i j iu : TyI} {e : TypeId} {n g off s' len : Nat} {x y : Operand} {rows ys : List (List AV)} {l' : List UInt8}
/-- A literal's bytes, once more: nobody appends to them any more. -/
theorem sameB_ext (hi : look tab t = some i) (hd : i.d = .slice e) (hj : look tab e = some j) (hjd : j.d = .int .u8) (hx : st.val x = .gr g e j.size rows) (hg : st.ob g = .gw n) (hn : n = rows.length) (h0 : 0 < rows.length) :
    ExtOk P tab st ⟨some d, .convert t t x, ty, pos, after, none⟩ ⟨[(d, .sh j.size rows)], [(g, .dead)], []⟩ := by
  intro g' st' h1 h2 c Γ m a w hP ht hr hok hf Q
  have hxm : x ∈ (Op.convert t t x).operands := by simp [Op.operands]
  have hxe := hr.eval x (ok_ops hok hxm)
  rw [← h1 x hxm, hx] at hxe
  have ho1 : st'.ob g = .gw rows.length := by rw [← h2 g (tag_op hxm (by rw [hx]; simp [AV.refs])), hg, hn]
  have hob := hr.obs g
  rw [ho1] at hob
  obtain ⟨v, e1, sz, xs, k1, k2, k3, k4⟩ := hob
  generalize hv : a.eval x = v' at hxe
  cases hxe with
  | gr hsh hka =>
    rw [hka] at k1; cases k1
    rcases k3.2 with ⟨_, hz⟩ | ⟨gb, cap, cur, rfl, _, hheap, hnc, hcm, hcs, htake⟩
    · omega
    · have hut := (ht.at hi).und
      rw [hd] at hut
      have hue := (ht.at hj).und
      rw [hjd] at hue
      have hrun : (convert t t (.slice (some ⟨gb, 0, none⟩) rows.length cap)).run c.P w = .ok (.slice (some ⟨gb, 0, none⟩) rows.length cap) (w.freeze ⟨gb, cur.size, none⟩ 1) := by
        have hsh' : w.shape? gb = some (e, cur.size) := by unfold World.shape?; rw [hheap]
        simp [convert, run_underlying hut, run_underlying hue, markStringish, hsh']
      have hblk : (st'.ob g).blk m g = some gb := by rw [ho1]; simp [Ob.blk, hka, Value.ownBlock]
      have hob' : ∀ s, (⟨st'.T, (g, .dead) :: st'.B⟩ : St).ob s = if g = s then .dead else st'.ob s := fun s => ob_cons _ _ _ _ _
      have hnew : RRW c Γ m ⟨st'.T, (g, .dead) :: st'.B⟩ a (w.freeze ⟨gb, cur.size, none⟩ 1) := by
        refine hr.mem (Sub.refl _) (fun _ _ _ => ⟨fun _ h => h, fun _ _ h => h⟩) (fun _ _ => ⟨fun _ h => h, fun _ _ h => h⟩) (fun ad v hv => by rw [freeze_cell w hheap]; exact hr.gok ad v hv) (fun s => ?_) (fun s b hb => ?_) (fun s s2 b hb hb2 => ?_) ?_ (fun ad q1 q2 => absurd q1 q2)
        · rw [hob']
          split
          · trivial
          · rename_i hne
            refine (hr.obs s).keep (Sub.refl _) rfl rfl (fun _ _ => ⟨fun _ h => h, fun _ _ h => h⟩) fun b hb => ⟨freeze_other w fun e' => ?_, fun _ _ => rfl⟩
            subst e'
            exact hne (hr.inj g s _ hblk hb)
        · rw [hob'] at hb
          split at hb
          · cases hb
          · exact hr.own s b hb
        · rw [hob'] at hb hb2
          split at hb
          · cases hb
          · split at hb2
            · cases hb2
            · exact hr.inj s s2 b hb hb2
        · refine hr.frame.trans' rfl rfl rfl (by rw [freeze_size]; exact Nat.le_refl _) fun k hk => ?_
          by_cases hkg : k = gb
          · exact .inl ⟨gb, hr.own g gb hblk, hkg⟩
          · exact .inr (freeze_other w hkg)
      unfold Oper.wp
      have hexec : (execOp a.eval { dst := some d, op := .convert t t x, type := ty, pos, after, guard := g' }).run c.P w = .ok (.value (.slice (some ⟨gb, 0, none⟩) rows.length cap)) (w.freeze ⟨gb, cur.size, none⟩ 1) := by
        simp [execOp, hv, hrun]
      rw [hexec]
      exact hnew.app1 (st := st') (B := [(g, .dead)]) hsh
/-- What is put into an empty slice: from here on a box. -/
theorem appBox_ext (hi : look tab t = some i) (hd : i.d = .slice e) (hj : look tab e = some j) (hu : look tab u = some iu) (hiu : isApp iu = true) (hx : st.val x = .gr g e j.size []) (hg : st.ob g = .gw 0)
    (hy : Ap j.size (st.val y) ys) (hys : 0 < ys.length) (hz : (decide (0 < j.size) && decide (0 < j.bytes) && decide (j.bytes ≤ 1024)) = true) (hb : ys.length ≤ 137438953472) :
    ExtOk P tab st ⟨some d, .call { callee := .builtin .append, args := #[x, y], argTypes := #[t, u] }, ty, pos, after, none⟩ ⟨[(d, .bsl d 0 ys.length j.size)], [(g, .dead), (d, .bx ys.flatten)], [d]⟩ := by
  intro g' st' h1 h2 c Γ m a w hP ht hr hok hf Q
  simp only [Bool.and_eq_true, decide_eq_true_eq] at hz
  obtain ⟨⟨z1, z2⟩, z3⟩ := hz
  have hfd := hf d (by simp)
  have hxm : x ∈ (Op.call { callee := .builtin .append, args := #[x, y], argTypes := #[t, u] }).operands := by simp [Op.operands, Call.operands]
  have hym : y ∈ (Op.call { callee := .builtin .append, args := #[x, y], argTypes := #[t, u] }).operands := by simp [Op.operands, Call.operands]
  have hxe := hr.eval x (ok_ops hok hxm)
  have hye := hr.eval y (ok_ops hok hym)
  rw [← h1 x hxm, hx] at hxe
  rw [← h1 y hym] at hye
  have ho1 : st'.ob g = .gw 0 := by rw [← h2 g (tag_op hxm (by rw [hx]; simp [AV.refs])), hg]
  have hud' : ∀ k, iu.d ≠ .int k := fun k hk => by simp [isApp, hk] at hiu
  obtain ⟨news, hA⟩ := argOk (P := c.P) (tab := tab) hr.gok hye hy.arg
  have hob := hr.obs g
  rw [ho1] at hob
  obtain ⟨v0, e0, sz0, xs, k1, k2, k3, k4⟩ := hob
  generalize hv : a.eval x = v at hxe
  cases hxe with
  | gr hsh hka =>
    rw [List.length_nil] at hka
    rw [hka] at k1; cases k1
    have hxs : xs = [] := List.eq_nil_of_length_eq_zero (by simpa using k3.1)
    subst hxs
    obtain ⟨v', w', q1, q2, q4, q5⟩ := append_core ht hi hd hj hu hud' z1 k3 hA.len hA.cells (by rw [hA.len']) hA.one (by simp only [maxLen]; omega) (Nat.le_trans (Nat.mul_le_mul (by omega : 0 + ys.length ≤ 137438953472) z3) (by decide)) (ty := ty)
    simp only [Nat.zero_add, List.nil_append] at q2
    rcases q2.2 with ⟨_, hz0⟩ | ⟨gb, cap, cur, hv', _, hheap, hnc, hcm, hcs, htake⟩
    · omega
    · skip
      have hblk : (st'.ob g).blk m g = v0.ownBlock := by rw [ho1]; simp [Ob.blk, hka]
      have hlt : ∀ s b, (st'.ob s).blk m s = some b → b < w.heap.size := fun s b hs => (hr.obs s).lt hs
      have hvb : v'.ownBlock = some gb := by rw [hv']; rfl
      have hstream : w'.os = w.os ∧ w'.tape = w.tape ∧ w'.output = w.output ∧ w.heap.size ≤ w'.heap.size := by
        rcases q4 with ⟨_, q3⟩ | ⟨_, _, _, q3⟩ <;> exact ⟨q3.os, q3.tape, q3.output, q3.size⟩
      -- the block is the old one, or a new one; others stay
      have hgb : v0.ownBlock = some gb ∨ w.heap.size ≤ gb := by
        rcases q4 with ⟨q4, _⟩ | ⟨g2, hg2, q4, _⟩
        · exact .inl (by rw [← q4, hvb])
        · rw [hvb] at q4; cases q4; exact .inr hg2
      have hkeep : ∀ k, k < w.heap.size → v0.ownBlock ≠ some k → w'.heap[k]? = w.heap[k]? := fun k hk hne => by
        rcases q4 with ⟨_, q3⟩ | ⟨_, _, _, q3⟩
        · exact q3.block k hk (Ne.symm hne)
        · exact q3.block k hk (by simp)
      have hnoΓ : ∀ k, v0.ownBlock = some k → ∀ ad : Addr, ad.block = k → Γ ad = none := fun k hk ad had => (k4 k hk).2 ad had (.inr (by omega))
      have hfree : ∀ ad : Addr, ad.block = gb → Γ ad = none := fun ad had => by
        rcases hgb with h | h
        · exact hnoΓ gb h ad had
        · cases hΓ : Γ ad with
          | none => rfl
          | some y => have := block_lt_of_cell (hr.gok ad y hΓ); omega
      have hgok : ∀ ad y, Γ ad = some y → w'.cell? ad = some y := fun ad y hy => by
        have hlt' := block_lt_of_cell (hr.gok ad y hy)
        rw [World.cell?_of_block (w := w) (hkeep ad.block hlt' fun e' => by rw [hnoΓ _ e' ad rfl] at hy; cases hy)]
        exact hr.gok ad y hy
      -- first: the old object is dead
      have hob' : ∀ s, (⟨st'.T, (g, .dead) :: st'.B⟩ : St).ob s = if g = s then .dead else st'.ob s := fun s => ob_cons _ _ _ _ _
      have hdg : d ≠ g := fun e' => by
        subst e'
        have : d ∈ (st'.val x).refs := by rw [← h1 x hxm, hx]; simp [AV.refs]
        exact hfd.2.1 (val_refs this)
      let m' : Nm := m.set d (some gb) fun _ => none
      have hext : ∀ r, r ≠ d → Ext m m' r := fun r hr => m.set_ext d _ _ hr
      have hob2 : ∀ s, (⟨st'.T, (g, .dead) :: (d, .bx ys.flatten) :: st'.B⟩ : St).ob s = if g = s then .dead else if d = s then .bx ys.flatten else st'.ob s := fun s => by rw [ob_cons, ob_cons]
      have hsame : ∀ s, s ≠ d → m'.th s = m.th s ∧ m'.ka s = m.ka s := fun s hs => by simp [m', Nm.set, hs]
      have hbd : (Ob.bx ys.flatten).blk m' d = some gb := by simp [Ob.blk, m', Nm.set]
      have hkey : ∀ s, g ≠ s → d ≠ s → ∀ b, (st'.ob s).blk m' s = some b → (st'.ob s).blk m s = some b ∧ b ≠ gb := fun s hs1 hs2 b hb' => by
        rw [blk_same (hsame s (Ne.symm hs2)).1 (hsame s (Ne.symm hs2)).2] at hb'
        refine ⟨hb', fun e' => ?_⟩
        subst e'
        rcases hgb with h | h
        · exact hs1 (hr.inj g s _ (by rw [hblk]; exact h) hb')
        · have := hlt s _ hb'; omega
      have hlen : ys.flatten.length = news.length := hA.rep.1.symm
      have hnl : news.length = ys.length * j.size := hA.len'
      have hnew : RRW c Γ m' ⟨st'.T, (g, .dead) :: (d, .bx ys.flatten) :: st'.B⟩ a w' := by
        refine hr.mem (Sub.refl _) (fun s r hr' => hext r fun e' => hfd.2.1 (e' ▸ St.get_refs hr')) (fun p hp => hext p fun e' => by have := c.big p hp; have := hfd.1; omega) hgok (fun s => ?_) (fun s b hb => ?_) (fun s s2 b hb hb2 => ?_) ?_ (fun ad q1 q2 => absurd q1 q2)
        · rw [hob2]
          split
          · trivial
          · rename_i hs1
            split
            · rename_i hs2; subst hs2
              refine ⟨gb, cur, (e, 0, 0), by simp [m', Nm.set], hheap, ⟨.inl (Nat.le_refl _), ?_⟩, fun q v z hv hz => ?_, fun q v hq hv => ?_, hfree⟩
              · rw [hlen, hnl, hcs]; exact Nat.mul_le_mul_right _ hnc
              · have hql : q < news.length := by rw [← hlen]; exact (List.getElem?_eq_some_iff.1 hz).1
                have hnv : news[q]? = some v := by
                  rw [← htake, List.getElem?_take, if_pos (by omega)]; simpa using hv
                exact (hA.rep.2 q v z hnv hz).up
              · rw [hlen] at hq
                have hnv : news[q]? = some v := by
                  rw [← htake, List.getElem?_take, if_pos (by omega)]; simpa using hv
                exact hA.one v (List.mem_of_getElem? hnv)
            · rename_i hs2
              refine (hr.obs s).keep (Sub.refl _) (hsame s (Ne.symm hs2)).1 (hsame s (Ne.symm hs2)).2 (fun r hr' => hext r fun e' => hfd.2.2 (e' ▸ St.ob_refs hr')) fun b hb' => ⟨hkeep b (hlt s b hb') fun e' => hs1 (hr.inj g s b (by rw [hblk]; exact e') hb'), fun _ _ => rfl⟩
        · rw [hob2] at hb
          split at hb
          · cases hb
          · rename_i hs1
            split at hb
            · rename_i hs2; subst hs2
              rw [hbd] at hb; cases hb
              rcases hgb with h | h
              · exact hr.own g gb (by rw [hblk]; exact h)
              · exact .inl (Nat.le_trans hr.frame.size h)
            · rename_i hs2; exact hr.own s b (hkey s hs1 hs2 b hb).1
        · rw [hob2] at hb hb2
          split at hb
          · cases hb
          · rename_i hs1
            split at hb2
            · cases hb2
            · rename_i hs3
              split at hb <;> split at hb2
              · rename_i e1 e2; rw [← e1, ← e2]
              · rename_i e1 e2
                subst e1
                rw [hbd] at hb; cases hb
                exact absurd rfl (hkey s2 hs3 e2 _ hb2).2
              · rename_i e1 e2
                subst e2
                rw [hbd] at hb2; cases hb2
                exact absurd rfl (hkey s hs1 e1 _ hb).2
              · rename_i e1 e2
                exact hr.inj s s2 b (hkey s hs1 e1 b hb).1 (hkey s2 hs3 e2 b hb2).1
        · refine hr.frame.trans' hstream.1 hstream.2.1 hstream.2.2.1 hstream.2.2.2 fun q hq => ?_
          by_cases e1 : v0.ownBlock = some q
          · exact .inl ⟨q, hr.own g q (by rw [hblk]; exact e1), rfl⟩
          · exact .inr (hkeep q hq e1)
      unfold Oper.wp
      have hexec : (execOp a.eval { dst := some d, op := .call { callee := .builtin .append, args := #[x, y], argTypes := #[t, u] }, type := ty, pos, after, guard := g' }).run c.P w = .ok (.value v') w' := by
        simp only [execOp, resolve, invoke, builtin, Sem.run_bind, Sem.run_pure, Result.andThen_ok, List.map_toArray, List.map_cons, List.map_nil, hv, q1]
      rw [hexec, hv']
      exact hnew.app1 (st := st') (B := [(g, .dead), (d, .bx ys.flatten)]) (.bsl (by simp [m', Nm.set]) ⟨hnc, hcm⟩)
end
end
end Go.Proofs.Ytocppeifkjdeiaa.Mv

/- A machine for proofs, steps for the further operations, in forms that unify. Under no condition. -/
namespace Go.Proofs.Ytocppeifkjdeiaa.Mv
open Go
set_option linter.unusedSimpArgs false
set_option linter.unusedVariables false

/-- Pieces of rows that stand for a list. -/
inductive Sv : AV → AV → Prop
  | bd {l : List UInt8} {n} : Sv (.sh 1 ((BS l).drop n)) (.sh 1 (BS (l.drop n)))
  | bt {l : List UInt8} {n} : Sv (.sh 1 ((BS l).take n)) (.sh 1 (BS (l.take n)))
  | btd {l : List UInt8} {n m} : Sv (.sh 1 (((BS l).take m).drop n)) (.sh 1 (BS ((l.take m).drop n)))
  | md {α : Type} {f : α → List AV} {l : List α} {sz n} : Sv (.sh sz ((l.map f).drop n)) (.sh sz ((l.drop n).map f))
  | mt {α : Type} {f : α → List AV} {l : List α} {sz n} : Sv (.sh sz ((l.map f).take n)) (.sh sz ((l.take n).map f))
  | mtd {α : Type} {f : α → List AV} {l : List α} {sz n m} : Sv (.sh sz (((l.map f).take m).drop n)) (.sh sz (((l.take m).drop n).map f))
  | s {l : List UInt8} : Sv (.s l) (.s l)
  | sh {sz rows} : Sv (.sh sz rows) (.sh sz rows)
theorem Sv.eq {x y} (h : Sv x y) : x = y := by cases h <;> simp [BS, List.map_drop, List.map_take]

/-- Cells that are bytes. -/
inductive CB : List AV → List UInt8 → Prop
  | nil : CB [] []
  | all {l} : CB (cellsB l) l
  | one {b : UInt8} {cs l} : CB cs l → CB (.i .u8 (b.toNat : Int) :: cs) (b :: l)
theorem CB.eq {cs l} (h : CB cs l) : cs = cellsB l := by
  induction h with
  | nil => rfl
  | all => rfl
  | one _ ih => rw [ih]; rfl
theorem cellsB_refs (l : List UInt8) : (Ob.bx (cellsB l)).refs = [] := by
  induction l with
  | nil => rfl
  | cons b l ih =>
    simp only [Ob.refs, cellsB, List.map_cons, AV.refs.refsL] at ih ⊢
    rw [ih]; rfl
/-- What two bytes differ in. -/
theorem xorB (x y : UInt8) : bits .xor .u8 (x.toNat : Int) (y.toNat : Int) = ((x ^^^ y).toNat : Int) := by
  have hx : BitVec.ofInt 8 (x.toNat : Int) = x.toBitVec := by
    rw [BitVec.ofInt_natCast]; simp
  have hy : BitVec.ofInt 8 (y.toNat : Int) = y.toBitVec := by
    rw [BitVec.ofInt_natCast]; simp
  have h1 : bits .xor .u8 (x.toNat : Int) (y.toNat : Int) = IntKind.wrap .u8 (((x.toBitVec ^^^ y.toBitVec : BitVec 8).toNat : Nat) : Int) := by
    simp only [bits]
    exact congrArg (fun z : BitVec 8 => IntKind.wrap .u8 (z.toNat : Int)) (by rw [← hx, ← hy]; rfl)
  rw [h1, wrapB]
  congr 2
  apply UInt8.toNat_inj.1
  have := (x ^^^ y).toNat_lt
  simp only [u8, UInt8.toNat_ofNat', UInt8.toNat_xor, BitVec.toNat_xor, UInt8.toNat_toBitVec] at *
  omega
theorem xorW (x : UInt8) (n : Int) : bits .xor .u8 (x.toNat : Int) (IntKind.wrap .u8 n) = ((x ^^^ u8 n).toNat : Int) := by rw [wrapB, xorB]
/-- The first four. -/
def take4 (l : List UInt8) : List UInt8 := [l.getD 0 0, l.getD 1 0, l.getD 2 0, l.getD 3 0]
theorem take4_eq {l : List UInt8} (h : 4 ≤ l.length) : take4 l = l.take 4 := by
  match l, h with
  | a :: b :: c :: d :: l, _ => rfl
section
variable {P : Program} {tab : Tab} {N : Nat} {D : St → Prop} {F : Fx P tab N D} {ops : Array Oper} {k : List It} {l : List Oper} {T : List (Nat × AV)} {B : List (Nat × Ob)}
  {d ty : Nat} {pos : String} {after : Array Edge} {op : Op} {acc : List Rec} {tg : List Nat}
section
variable {t u : TypeId} {i j iu : TyI} {e : TypeId} {n g off s' len : Nat} {x y : Operand} {rows ys : List (List AV)} {l' : List UInt8} {lo hi : Option Operand} {st : St}

theorem AO.sl {v v' : AV} {p : Prop} [Decidable p] (hp : pop tab ⟨T, B⟩ (.slice t x lo hi none) = if p then some v else none) (hv : Sv v v') (hq : p) (h : AO F ops k l ⟨(d, v') :: T, B⟩) : AO F ops k (⟨some d, .slice t x lo hi none, ty, pos, after, none⟩ :: l) ⟨T, B⟩ :=
  AO.p' (by rw [hp, if_pos hq, hv.eq]) h
theorem AR.sl {v v' : AV} {p : Prop} [Decidable p] (hp : pop tab ⟨T, B⟩ (.slice t x lo hi none) = if p then some v else none) (hv : Sv v v') (hq : p) (ht : LE (tagsAt ⟨T, B⟩ ⟨some d, .slice t x lo hi none, ty, pos, after, none⟩) tg)
    (h : AR F ops k l ⟨(d, v') :: T, B⟩ (⟨tg, ⟨[(d, v')], [], []⟩⟩ :: acc)) : AR F ops k (⟨some d, .slice t x lo hi none, ty, pos, after, none⟩ :: l) ⟨T, B⟩ acc :=
  AR.p' (by rw [hp, if_pos hq, hv.eq]) ht h

/-- An element of a list. -/
theorem ix_pop {α : Type} [Inhabited α] {f : α → List AV} {ls : List α} {kk : IntKind} {m : Int} {v : AV} (hi : look tab t = some i) (hd : i.d = .slice e) (hj : look tab e = some j) (hv : (⟨T, B⟩ : St).val x = v) (hr : rowsOf v = some (j.size, ls.map f)) (hb : (match v with | .bsl .. => false | _ => true) = true)
    (hy : (⟨T, B⟩ : St).val y = .i kk m) (hm : 0 ≤ m ∧ m < (ls.length : Int)) : pop tab ⟨T, B⟩ (.indexAddr t x y) = some (.pel (f (ls.getD m.toNat default))) := by
  have h1 : m.toNat < ls.length := by omega
  have h2 : ∀ sz rows, rowsOf v = some (sz, rows) → pop tab ⟨T, B⟩ (.indexAddr t x y) = if j.size = sz ∧ 0 ≤ m ∧ m < rows.length then some (.pel (rows.getD m.toNat [])) else none := by
    intro sz rows hrr
    cases v <;> simp [rowsOf] at hrr hb
    all_goals (obtain ⟨rfl, rfl⟩ := hrr; simp only [pop, hi, hd, hj, hv, hy, rowsOf])
  rw [h2 _ _ hr, if_pos ⟨rfl, hm.1, by simpa using hm.2⟩]
  congr 2
  rw [List.getD, List.getD, List.getElem?_map, List.getElem?_eq_getElem h1]; rfl
theorem AO.ix {α : Type} [Inhabited α] {f : α → List AV} {ls : List α} {kk : IntKind} {m : Int} {v : AV} (hi : look tab t = some i) (hd : i.d = .slice e) (hj : look tab e = some j) (hv : (⟨T, B⟩ : St).val x = v) (hr : rowsOf v = some (j.size, ls.map f)) (hb : (match v with | .bsl .. => false | _ => true) = true)
    (hy : (⟨T, B⟩ : St).val y = .i kk m) (hm : 0 ≤ m ∧ m < (ls.length : Int)) (h : AO F ops k l ⟨(d, .pel (f (ls.getD m.toNat default))) :: T, B⟩) : AO F ops k (⟨some d, .indexAddr t x y, ty, pos, after, none⟩ :: l) ⟨T, B⟩ :=
  AO.p' (ix_pop hi hd hj hv hr hb hy hm) h
theorem AR.ix {α : Type} [Inhabited α] {f : α → List AV} {ls : List α} {kk : IntKind} {m : Int} {v : AV} (hi : look tab t = some i) (hd : i.d = .slice e) (hj : look tab e = some j) (hv : (⟨T, B⟩ : St).val x = v) (hr : rowsOf v = some (j.size, ls.map f)) (hb : (match v with | .bsl .. => false | _ => true) = true)
    (hy : (⟨T, B⟩ : St).val y = .i kk m) (hm : 0 ≤ m ∧ m < (ls.length : Int)) (ht : LE (tagsAt ⟨T, B⟩ ⟨some d, .indexAddr t x y, ty, pos, after, none⟩) tg)
    (h : AR F ops k l ⟨(d, .pel (f (ls.getD m.toNat default))) :: T, B⟩ (⟨tg, ⟨[(d, .pel (f (ls.getD m.toNat default)))], [], []⟩⟩ :: acc)) : AR F ops k (⟨some d, .indexAddr t x y, ty, pos, after, none⟩ :: l) ⟨T, B⟩ acc :=
  AR.p' (ix_pop hi hd hj hv hr hb hy hm) ht h
theorem AO.ixN {α : Type} [Inhabited α] {f : α → List AV} {ls : List α} {kk : IntKind} {m : Nat} {v : AV} (hi : look tab t = some i) (hd : i.d = .slice e) (hj : look tab e = some j) (hv : (⟨T, B⟩ : St).val x = v) (hr : rowsOf v = some (j.size, ls.map f)) (hb : (match v with | .bsl .. => false | _ => true) = true)
    (hy : (⟨T, B⟩ : St).val y = .i kk (m : Int)) (hm : m < ls.length) (h : AO F ops k l ⟨(d, .pel (f (ls.getD m default))) :: T, B⟩) : AO F ops k (⟨some d, .indexAddr t x y, ty, pos, after, none⟩ :: l) ⟨T, B⟩ :=
  AO.p' (by rw [ix_pop hi hd hj hv hr hb hy (by omega)]; rfl) h
theorem AR.ixN {α : Type} [Inhabited α] {f : α → List AV} {ls : List α} {kk : IntKind} {m : Nat} {v : AV} (hi : look tab t = some i) (hd : i.d = .slice e) (hj : look tab e = some j) (hv : (⟨T, B⟩ : St).val x = v) (hr : rowsOf v = some (j.size, ls.map f)) (hb : (match v with | .bsl .. => false | _ => true) = true)
    (hy : (⟨T, B⟩ : St).val y = .i kk (m : Int)) (hm : m < ls.length) (ht : LE (tagsAt ⟨T, B⟩ ⟨some d, .indexAddr t x y, ty, pos, after, none⟩) tg)
    (h : AR F ops k l ⟨(d, .pel (f (ls.getD m default))) :: T, B⟩ (⟨tg, ⟨[(d, .pel (f (ls.getD m default)))], [], []⟩⟩ :: acc)) : AR F ops k (⟨some d, .indexAddr t x y, ty, pos, after, none⟩ :: l) ⟨T, B⟩ acc :=
  AR.p' (by rw [ix_pop hi hd hj hv hr hb hy (by omega)]; rfl) ht h

theorem AO.slArr (hi : look tab t = some i) (hd : i.d = .array n e) (hj : look tab e = some j) (hx : (⟨T, B⟩ : St).val x = .ptr g off) (hnm : decide (n ≤ 1000000) = true) (h : AO F ops k l ⟨(d, .bsl g off n j.size) :: T, B⟩) : AO F ops k (⟨some d, .slice t x none none none, ty, pos, after, none⟩ :: l) ⟨T, B⟩ :=
  AO.step rfl (.ext (slArr_ext hi hd hj hx hnm)) (fun d hd => by simp [putEff] at hd) h
theorem AR.slArr (hi : look tab t = some i) (hd : i.d = .array n e) (hj : look tab e = some j) (hx : (⟨T, B⟩ : St).val x = .ptr g off) (hnm : decide (n ≤ 1000000) = true) (ht : LE (tagsAt ⟨T, B⟩ ⟨some d, .slice t x none none none, ty, pos, after, none⟩) tg)
    (h : AR F ops k l ⟨(d, .bsl g off n j.size) :: T, B⟩ (⟨tg, ⟨[(d, .bsl g off n j.size)], [], []⟩⟩ :: acc)) : AR F ops k (⟨some d, .slice t x none none none, ty, pos, after, none⟩ :: l) ⟨T, B⟩ acc :=
  AR.st rfl (.ext (slArr_ext hi hd hj hx hnm)) (fun d hd => by simp [putEff] at hd) ht h
theorem arrB_ext (hi : look tab t = some i) (hd : i.d = .array n e) (hx : st.val x = .sh 1 (BS l')) (hn : n ≤ l'.length) (h0 : decide (0 < n) = true) : ExtOk P tab st ⟨some d, .sliceToArrayPointer t x, ty, pos, after, none⟩ (putEff (some d) (.pel (cellsB l'))) := by
  have := arrPtr_ext (P := P) (d := d) (ty := ty) (pos := pos) (after := after) hi hd hx (by rw [BS_len]; exact hn) (of_decide_eq_true h0)
  rwa [BS_flat] at this
theorem AO.arrB (hi : look tab t = some i) (hd : i.d = .array n e) (hx : (⟨T, B⟩ : St).val x = .sh 1 (BS l')) (hn : n ≤ l'.length) (h0 : decide (0 < n) = true) (h : AO F ops k l ⟨(d, .pel (cellsB l')) :: T, B⟩) : AO F ops k (⟨some d, .sliceToArrayPointer t x, ty, pos, after, none⟩ :: l) ⟨T, B⟩ :=
  AO.step rfl (.ext (arrB_ext hi hd hx hn h0)) (fun d hd => by simp [putEff] at hd) h
theorem AR.arrB (hi : look tab t = some i) (hd : i.d = .array n e) (hx : (⟨T, B⟩ : St).val x = .sh 1 (BS l')) (hn : n ≤ l'.length) (h0 : decide (0 < n) = true) (ht : LE (tagsAt ⟨T, B⟩ ⟨some d, .sliceToArrayPointer t x, ty, pos, after, none⟩) tg)
    (h : AR F ops k l ⟨(d, .pel (cellsB l')) :: T, B⟩ (⟨tg, ⟨[(d, .pel (cellsB l'))], [], []⟩⟩ :: acc)) : AR F ops k (⟨some d, .sliceToArrayPointer t x, ty, pos, after, none⟩ :: l) ⟨T, B⟩ acc :=
  AR.st rfl (.ext (arrB_ext hi hd hx hn h0)) (fun d hd => by simp [putEff] at hd) ht h
theorem loadA_pop (hi : look tab t = some i) (ha : i.agg = true) (hx : (⟨T, B⟩ : St).val x = .pel (cellsB l')) (hn : i.size ≤ l'.length) : pop tab ⟨T, B⟩ (.load t x) = some (.agg (cellsB (l'.take i.size))) := by
  simp only [pop, hi, hx, part, ha, if_true]
  rw [if_pos (by simpa [cellsB] using hn)]
  simp [cellsB]
theorem AO.loadA (hi : look tab t = some i) (ha : i.agg = true) (hd : i.d = .array n e) (hs : i.size = n) (h4 : n = 4) (hx : (⟨T, B⟩ : St).val x = .pel (cellsB l')) (hn : n ≤ l'.length) (h : AO F ops k l ⟨(d, .agg (cellsB (take4 l'))) :: T, B⟩) : AO F ops k (⟨some d, .load t x, ty, pos, after, none⟩ :: l) ⟨T, B⟩ :=
  AO.p' (by subst hs; rw [loadA_pop hi ha hx hn, h4, take4_eq (by omega)]) h
theorem AR.loadA (hi : look tab t = some i) (ha : i.agg = true) (hd : i.d = .array n e) (hs : i.size = n) (h4 : n = 4) (hx : (⟨T, B⟩ : St).val x = .pel (cellsB l')) (hn : n ≤ l'.length) (ht : LE (tagsAt ⟨T, B⟩ ⟨some d, .load t x, ty, pos, after, none⟩) tg)
    (h : AR F ops k l ⟨(d, .agg (cellsB (take4 l'))) :: T, B⟩ (⟨tg, ⟨[(d, .agg (cellsB (take4 l')))], [], []⟩⟩ :: acc)) : AR F ops k (⟨some d, .load t x, ty, pos, after, none⟩ :: l) ⟨T, B⟩ acc :=
  AR.p' (by subst hs; rw [loadA_pop hi ha hx hn, h4, take4_eq (by omega)]) ht h
theorem AO.eqArr {z : TypeId} {asL bs : List UInt8} (hi : look tab t = some i) (hd : i.d = .array n e) (hj : look tab e = some j) (hjd : j.d = .int .u8) (hjs : j.size = 1) (hx : (⟨T, B⟩ : St).val x = .agg (cellsB asL)) (hy : (⟨T, B⟩ : St).val y = .agg (cellsB bs)) (ha : asL.length = n) (hb : bs.length = n) (heg : P.eqGuardType P.depth t = false)
    (h : AO F ops k l ⟨(d, .b (asL == bs)) :: T, B⟩) : AO F ops k (⟨some d, .binOp .eql t x y z, ty, pos, after, none⟩ :: l) ⟨T, B⟩ :=
  AO.step rfl (.ext (eqArr_ext hi hd hj hjd hjs hx hy ha hb heg)) (fun d hd => by simp [putEff] at hd) h
theorem AR.eqArr {z : TypeId} {asL bs : List UInt8} (hi : look tab t = some i) (hd : i.d = .array n e) (hj : look tab e = some j) (hjd : j.d = .int .u8) (hjs : j.size = 1) (hx : (⟨T, B⟩ : St).val x = .agg (cellsB asL)) (hy : (⟨T, B⟩ : St).val y = .agg (cellsB bs)) (ha : asL.length = n) (hb : bs.length = n) (heg : P.eqGuardType P.depth t = false)
    (ht : LE (tagsAt ⟨T, B⟩ ⟨some d, .binOp .eql t x y z, ty, pos, after, none⟩) tg) (h : AR F ops k l ⟨(d, .b (asL == bs)) :: T, B⟩ (⟨tg, ⟨[(d, .b (asL == bs))], [], []⟩⟩ :: acc)) : AR F ops k (⟨some d, .binOp .eql t x y z, ty, pos, after, none⟩ :: l) ⟨T, B⟩ acc :=
  AR.st rfl (.ext (eqArr_ext hi hd hj hjd hjs hx hy ha hb heg)) (fun d hd => by simp [putEff] at hd) ht h
theorem AO.growB (hi : look tab t = some i) (hd : i.d = .slice e) (hj : look tab e = some j) (hu : look tab u = some iu) (hiu : isApp iu = true) (hx : (⟨T, B⟩ : St).val x = .gr g e j.size rows) (hg : (⟨T, B⟩ : St).ob g = .gw n) (hn : n = rows.length)
    (hy : (⟨T, B⟩ : St).val y = .bsl s' off len 1) (hs : (⟨T, B⟩ : St).ob s' = .bx (cellsB l')) (hl : off + len ≤ l'.length) (hz : (decide (j.size = 1) && decide (0 < j.bytes) && decide (j.bytes ≤ 1024)) = true) (hb : rows.length + len ≤ 137438953472)
    (h : AO F ops k l ⟨(d, .gr g e j.size (rows ++ BS ((l'.drop off).take len))) :: T, (g, .gw (rows ++ BS ((l'.drop off).take len)).length) :: B⟩) : AO F ops k (⟨some d, .call { callee := .builtin .append, args := #[x, y], argTypes := #[t, u] }, ty, pos, after, none⟩ :: l) ⟨T, B⟩ :=
  AO.step (e := ⟨[(d, .gr g e j.size (rows ++ BS ((l'.drop off).take len)))], [(g, .gw (rows ++ BS ((l'.drop off).take len)).length)], []⟩) rfl (.ext (growB_ext hi hd hj hu hiu hx hg hn hy hs hl hz hb)) (fun d hd => by simp at hd) h
theorem AR.growB (hi : look tab t = some i) (hd : i.d = .slice e) (hj : look tab e = some j) (hu : look tab u = some iu) (hiu : isApp iu = true) (hx : (⟨T, B⟩ : St).val x = .gr g e j.size rows) (hg : (⟨T, B⟩ : St).ob g = .gw n) (hn : n = rows.length)
    (hy : (⟨T, B⟩ : St).val y = .bsl s' off len 1) (hs : (⟨T, B⟩ : St).ob s' = .bx (cellsB l')) (hl : off + len ≤ l'.length) (hz : (decide (j.size = 1) && decide (0 < j.bytes) && decide (j.bytes ≤ 1024)) = true) (hb : rows.length + len ≤ 137438953472)
    (ht : LE (tagsAt ⟨T, B⟩ ⟨some d, .call { callee := .builtin .append, args := #[x, y], argTypes := #[t, u] }, ty, pos, after, none⟩) tg)
    (h : AR F ops k l ⟨(d, .gr g e j.size (rows ++ BS ((l'.drop off).take len))) :: T, (g, .gw (rows ++ BS ((l'.drop off).take len)).length) :: B⟩ (⟨tg, ⟨[(d, .gr g e j.size (rows ++ BS ((l'.drop off).take len)))], [(g, .gw (rows ++ BS ((l'.drop off).take len)).length)], []⟩⟩ :: acc)) :
    AR F ops k (⟨some d, .call { callee := .builtin .append, args := #[x, y], argTypes := #[t, u] }, ty, pos, after, none⟩ :: l) ⟨T, B⟩ acc :=
  AR.st (e := ⟨[(d, .gr g e j.size (rows ++ BS ((l'.drop off).take len)))], [(g, .gw (rows ++ BS ((l'.drop off).take len)).length)], []⟩) rfl (.ext (growB_ext hi hd hj hu hiu hx hg hn hy hs hl hz hb)) (fun d hd => by simp at hd) ht h
theorem AO.sameB (hi : look tab t = some i) (hd : i.d = .slice e) (hj : look tab e = some j) (hjd : j.d = .int .u8) (hx : (⟨T, B⟩ : St).val x = .gr g e j.size rows) (hg : (⟨T, B⟩ : St).ob g = .gw n) (hn : n = rows.length) (h0 : 0 < rows.length)
    (h : AO F ops k l ⟨(d, .sh j.size rows) :: T, (g, .dead) :: B⟩) : AO F ops k (⟨some d, .convert t t x, ty, pos, after, none⟩ :: l) ⟨T, B⟩ :=
  AO.step (e := ⟨[(d, .sh j.size rows)], [(g, .dead)], []⟩) rfl (.ext (sameB_ext hi hd hj hjd hx hg hn h0)) (fun d hd => by simp at hd) h
theorem AO.appBox (hi : look tab t = some i) (hd : i.d = .slice e) (hj : look tab e = some j) (hu : look tab u = some iu) (hiu : isApp iu = true) (hx : (⟨T, B⟩ : St).val x = .gr g e j.size []) (hg : (⟨T, B⟩ : St).ob g = .gw 0)
    (hy : Ap j.size ((⟨T, B⟩ : St).val y) ys) (hys : 0 < ys.length) (hz : (decide (0 < j.size) && decide (0 < j.bytes) && decide (j.bytes ≤ 1024)) = true) (hb : ys.length ≤ 137438953472) (hf : (⟨T, B⟩ : St).freeB d = true)
    (h : AO F ops k l ⟨(d, .bsl d 0 ys.length j.size) :: T, (g, .dead) :: (d, .bx ys.flatten) :: B⟩) : AO F ops k (⟨some d, .call { callee := .builtin .append, args := #[x, y], argTypes := #[t, u] }, ty, pos, after, none⟩ :: l) ⟨T, B⟩ :=
  AO.step (e := ⟨[(d, .bsl d 0 ys.length j.size)], [(g, .dead), (d, .bx ys.flatten)], [d]⟩) rfl (.ext (appBox_ext hi hd hj hu hiu hx hg hy hys hz hb)) (fun e he => by simp at he; subst he; exact St.freeB_ok hf) h
theorem AO.growT {a b : List UInt8} (hi : look tab t = some i) (hd : i.d = .slice e) (hj : look tab e = some j) (hu : look tab u = some iu) (hiu : isApp iu = true) (hx : (⟨T, B⟩ : St).val x = .gr g e j.size rows) (hr : TB rows a) (hg : (⟨T, B⟩ : St).ob g = .gw n) (hn : n = rows.length)
    (hy : Ap j.size ((⟨T, B⟩ : St).val y) ys) (hs : TB ys b) (hz : (decide (0 < j.size) && decide (0 < j.bytes) && decide (j.bytes ≤ 1024)) = true) (hb : a.length + b.length ≤ 137438953472)
    (h : AO F ops k l ⟨(d, .gr g e j.size (BS (a ++ b))) :: T, (g, .gw (BS (a ++ b)).length) :: B⟩) : AO F ops k (⟨some d, .call { callee := .builtin .append, args := #[x, y], argTypes := #[t, u] }, ty, pos, after, none⟩ :: l) ⟨T, B⟩ := by
  have h1 := hr.eq; have h2 := hs.eq; subst h1; subst h2
  exact AO.grow hi hd hj hu hiu hx hg hn hy hz (by rw [BS_len, BS_len]; exact hb) (by rw [← BS_app]; exact h)
theorem AO.newT {b : List UInt8} (hi : look tab t = some i) (hd : i.d = .slice e) (hj : look tab e = some j) (hu : look tab u = some iu) (hiu : isApp iu = true) (hx : (⟨T, B⟩ : St).val x = .nil)
    (hy : Ap j.size ((⟨T, B⟩ : St).val y) ys) (hs : TB ys b) (hz : (decide (0 < j.size) && decide (0 < j.bytes) && decide (j.bytes ≤ 1024)) = true) (hb : b.length ≤ 137438953472) (hf : (⟨T, B⟩ : St).freeB d = true)
    (h : AO F ops k l ⟨(d, .gr d e j.size (BS b)) :: T, (d, .gw (BS b).length) :: B⟩) : AO F ops k (⟨some d, .call { callee := .builtin .append, args := #[x, y], argTypes := #[t, u] }, ty, pos, after, none⟩ :: l) ⟨T, B⟩ := by
  have h2 := hs.eq; subst h2
  exact AO.newr hi hd hj hu hiu hx hy hz (by rw [BS_len]; exact hb) hf h
theorem AO.growBT {a : List UInt8} {cs : List AV} (hi : look tab t = some i) (hd : i.d = .slice e) (hj : look tab e = some j) (hu : look tab u = some iu) (hiu : isApp iu = true) (hx : (⟨T, B⟩ : St).val x = .gr g e j.size rows) (hr : TB rows a) (hg : (⟨T, B⟩ : St).ob g = .gw n) (hn : n = rows.length)
    (hy : (⟨T, B⟩ : St).val y = .bsl s' off len 1) (hs : (⟨T, B⟩ : St).ob s' = .bx cs) (hcb : CB cs l') (hl : off + len ≤ l'.length) (hz : (decide (j.size = 1) && decide (0 < j.bytes) && decide (j.bytes ≤ 1024)) = true) (hb : a.length + len ≤ 137438953472)
    (h : AO F ops k l ⟨(d, .gr g e j.size (BS (a ++ (l'.drop off).take len))) :: T, (g, .gw (BS (a ++ (l'.drop off).take len)).length) :: B⟩) : AO F ops k (⟨some d, .call { callee := .builtin .append, args := #[x, y], argTypes := #[t, u] }, ty, pos, after, none⟩ :: l) ⟨T, B⟩ := by
  have h1 := hr.eq; subst h1; have h2 := hcb.eq; subst h2
  exact AO.growB hi hd hj hu hiu hx hg hn hy hs hl hz (by rw [BS_len]; exact hb) (by rw [← BS_app]; exact h)
theorem AO.buildT {ps : Array (Nat × Operand)} {b : List UInt8} (hi : look tab t = some i) (hd : i.d = .slice e) (hj : look tab e = some j) (h1 : ps.toList.map (·.1) = List.range len) (h2 : ps.toList.all (fun p => fitsIn j.size ((⟨T, B⟩ : St).val p.2) && ((⟨T, B⟩ : St).val p.2).cells.all AV.shut) = true)
    (h3 : (decide (len * j.size ≤ 16777216) && decide (0 < j.size)) = true) (hr : Wr (ps.toList.map fun p => ((⟨T, B⟩ : St).val p.2).cells.map AV.close) rows) (hs : TB rows b) (hf : (⟨T, B⟩ : St).freeB d = true)
    (h : AO F ops k l ⟨(d, .gr d e j.size (BS b)) :: T, (d, .gw (BS b).length) :: B⟩) : AO F ops k (⟨some d, .buildSlice t len ps, ty, pos, after, none⟩ :: l) ⟨T, B⟩ := by
  have h2' := hs.eq; subst h2'
  exact AO.buildS hi hd hj h1 h2 h3 hr hf h
theorem AR.growT {a b : List UInt8} (hi : look tab t = some i) (hd : i.d = .slice e) (hj : look tab e = some j) (hu : look tab u = some iu) (hiu : isApp iu = true) (hx : (⟨T, B⟩ : St).val x = .gr g e j.size rows) (hr : TB rows a) (hg : (⟨T, B⟩ : St).ob g = .gw n) (hn : n = rows.length)
    (hy : Ap j.size ((⟨T, B⟩ : St).val y) ys) (hs : TB ys b) (hz : (decide (0 < j.size) && decide (0 < j.bytes) && decide (j.bytes ≤ 1024)) = true) (hb : a.length + b.length ≤ 137438953472) (ht : LE (tagsAt ⟨T, B⟩ ⟨some d, .call { callee := .builtin .append, args := #[x, y], argTypes := #[t, u] }, ty, pos, after, none⟩) tg)
    (h : AR F ops k l ⟨(d, .gr g e j.size (BS (a ++ b))) :: T, (g, .gw (BS (a ++ b)).length) :: B⟩ (⟨tg, ⟨[(d, .gr g e j.size (BS (a ++ b)))], [(g, .gw (BS (a ++ b)).length)], []⟩⟩ :: acc)) : AR F ops k (⟨some d, .call { callee := .builtin .append, args := #[x, y], argTypes := #[t, u] }, ty, pos, after, none⟩ :: l) ⟨T, B⟩ acc := by
  have h1 := hr.eq; have h2 := hs.eq; subst h1; subst h2
  exact AR.grow hi hd hj hu hiu hx hg hn hy hz (by rw [BS_len, BS_len]; exact hb) ht (by rw [← BS_app]; exact h)
theorem AR.newT {b : List UInt8} (hi : look tab t = some i) (hd : i.d = .slice e) (hj : look tab e = some j) (hu : look tab u = some iu) (hiu : isApp iu = true) (hx : (⟨T, B⟩ : St).val x = .nil)
    (hy : Ap j.size ((⟨T, B⟩ : St).val y) ys) (hs : TB ys b) (hz : (decide (0 < j.size) && decide (0 < j.bytes) && decide (j.bytes ≤ 1024)) = true) (hb : b.length ≤ 137438953472) (hf : (⟨T, B⟩ : St).freeB d = true) (ht : LE (tagsAt ⟨T, B⟩ ⟨some d, .call { callee := .builtin .append, args := #[x, y], argTypes := #[t, u] }, ty, pos, after, none⟩) tg)
    (h : AR F ops k l ⟨(d, .gr d e j.size (BS b)) :: T, (d, .gw (BS b).length) :: B⟩ (⟨tg, ⟨[(d, .gr d e j.size (BS b))], [(d, .gw (BS b).length)], [d]⟩⟩ :: acc)) : AR F ops k (⟨some d, .call { callee := .builtin .append, args := #[x, y], argTypes := #[t, u] }, ty, pos, after, none⟩ :: l) ⟨T, B⟩ acc := by
  have h2 := hs.eq; subst h2
  exact AR.newr hi hd hj hu hiu hx hy hz (by rw [BS_len]; exact hb) hf ht h
theorem AR.growBT {a : List UInt8} {cs : List AV} (hi : look tab t = some i) (hd : i.d = .slice e) (hj : look tab e = some j) (hu : look tab u = some iu) (hiu : isApp iu = true) (hx : (⟨T, B⟩ : St).val x = .gr g e j.size rows) (hr : TB rows a) (hg : (⟨T, B⟩ : St).ob g = .gw n) (hn : n = rows.length)
    (hy : (⟨T, B⟩ : St).val y = .bsl s' off len 1) (hs : (⟨T, B⟩ : St).ob s' = .bx cs) (hcb : CB cs l') (hl : off + len ≤ l'.length) (hz : (decide (j.size = 1) && decide (0 < j.bytes) && decide (j.bytes ≤ 1024)) = true) (hb : a.length + len ≤ 137438953472) (ht : LE (tagsAt ⟨T, B⟩ ⟨some d, .call { callee := .builtin .append, args := #[x, y], argTypes := #[t, u] }, ty, pos, after, none⟩) tg)
    (h : AR F ops k l ⟨(d, .gr g e j.size (BS (a ++ (l'.drop off).take len))) :: T, (g, .gw (BS (a ++ (l'.drop off).take len)).length) :: B⟩ (⟨tg, ⟨[(d, .gr g e j.size (BS (a ++ (l'.drop off).take len)))], [(g, .gw (BS (a ++ (l'.drop off).take len)).length)], []⟩⟩ :: acc)) : AR F ops k (⟨some d, .call { callee := .builtin .append, args := #[x, y], argTypes := #[t, u] }, ty, pos, after, none⟩ :: l) ⟨T, B⟩ acc := by
  have h1 := hr.eq; subst h1; have h2 := hcb.eq; subst h2
  exact AR.growB hi hd hj hu hiu hx hg hn hy hs hl hz (by rw [BS_len]; exact hb) ht (by rw [← BS_app]; exact h)
theorem AR.buildT {ps : Array (Nat × Operand)} {b : List UInt8} (hi : look tab t = some i) (hd : i.d = .slice e) (hj : look tab e = some j) (h1 : ps.toList.map (·.1) = List.range len) (h2 : ps.toList.all (fun p => fitsIn j.size ((⟨T, B⟩ : St).val p.2) && ((⟨T, B⟩ : St).val p.2).cells.all AV.shut) = true)
    (h3 : (decide (len * j.size ≤ 16777216) && decide (0 < j.size)) = true) (hr : Wr (ps.toList.map fun p => ((⟨T, B⟩ : St).val p.2).cells.map AV.close) rows) (hs : TB rows b) (hf : (⟨T, B⟩ : St).freeB d = true) (ht : LE (tagsAt ⟨T, B⟩ ⟨some d, .buildSlice t len ps, ty, pos, after, none⟩) tg)
    (h : AR F ops k l ⟨(d, .gr d e j.size (BS b)) :: T, (d, .gw (BS b).length) :: B⟩ (⟨tg, ⟨[(d, .gr d e j.size (BS b))], [(d, .gw (BS b).length)], [d]⟩⟩ :: acc)) : AR F ops k (⟨some d, .buildSlice t len ps, ty, pos, after, none⟩ :: l) ⟨T, B⟩ acc := by
  have h2' := hs.eq; subst h2'
  exact AR.buildS hi hd hj h1 h2 h3 hr hf ht h
theorem mk0_mop {m : Int} (hi : look tab t = some i) (hd : i.d = .slice e) (hj : look tab e = some j) (hx : (⟨T, B⟩ : St).val x = .i .i64 0) (hy : (⟨T, B⟩ : St).val y = .i .i64 m) (hz : (decide (0 < j.size) && decide (j.bytes ≤ 1024) && (j.zero.map ofVal).all AV.shut) = true) (hm : 0 ≤ m ∧ m ≤ 137438953472) :
    mop tab ⟨T, B⟩ ⟨some d, .makeSlice t x y, ty, pos, after, none⟩ = some ⟨[(d, .gr d e j.size [])], [(d, .gw 0)], [d]⟩ := by
  simp only [Bool.and_eq_true, decide_eq_true_eq] at hz
  simp only [mop, hi, hd, hj, hx, hy]
  have hb : (j.bytes : Int) * m ≤ 140737488355328 := by
    have h1 : (j.bytes : Int) * m ≤ 1024 * 137438953472 := Int.mul_le_mul (by omega) hm.2 hm.1 (by decide)
    omega
  rw [if_pos ⟨by decide, hm.1, by omega, hb, hz.1.1, hz.2⟩]
  rfl
theorem AO.mk0 {m : Int} (hi : look tab t = some i) (hd : i.d = .slice e) (hj : look tab e = some j) (hx : (⟨T, B⟩ : St).val x = .i .i64 0) (hy : (⟨T, B⟩ : St).val y = .i .i64 m) (hz : (decide (0 < j.size) && decide (j.bytes ≤ 1024) && (j.zero.map ofVal).all AV.shut) = true) (hm : 0 ≤ m ∧ m ≤ 137438953472) (hf : (⟨T, B⟩ : St).freeB d = true)
    (h : AO F ops k l ⟨(d, .gr d e j.size []) :: T, (d, .gw 0) :: B⟩) : AO F ops k (⟨some d, .makeSlice t x y, ty, pos, after, none⟩ :: l) ⟨T, B⟩ :=
  AO.step (e := ⟨[(d, .gr d e j.size [])], [(d, .gw 0)], [d]⟩) rfl (.mem (mk0_mop hi hd hj hx hy hz hm)) (fun e he => by simp at he; subst he; exact St.freeB_ok hf) h
theorem AO.appBoxB {b : List UInt8} (hi : look tab t = some i) (hd : i.d = .slice e) (hj : look tab e = some j) (hu : look tab u = some iu) (hiu : isApp iu = true) (hx : (⟨T, B⟩ : St).val x = .gr g e j.size []) (hg : (⟨T, B⟩ : St).ob g = .gw 0)
    (hy : Ap j.size ((⟨T, B⟩ : St).val y) ys) (hs : TB ys b) (hys : 0 < b.length) (hz : (decide (0 < j.size) && decide (0 < j.bytes) && decide (j.bytes ≤ 1024)) = true) (hb : b.length ≤ 137438953472) (hf : (⟨T, B⟩ : St).freeB d = true)
    (h : AO F ops k l ⟨(d, .bsl d 0 b.length j.size) :: T, (g, .dead) :: (d, .bx (cellsB b)) :: B⟩) : AO F ops k (⟨some d, .call { callee := .builtin .append, args := #[x, y], argTypes := #[t, u] }, ty, pos, after, none⟩ :: l) ⟨T, B⟩ := by
  have h1 := hs.eq
  subst h1
  refine AO.appBox hi hd hj hu hiu hx hg hy (by rw [BS_len]; exact hys) hz (by rw [BS_len]; exact hb) hf ?_
  rw [BS_len, BS_flat]; exact h
theorem AO.kIx (h : AO F ops k (⟨some d, .indexAddr t x y, ty, pos, after, none⟩ :: l) ⟨T, B⟩) : AO F ops k (⟨some d, .indexAddr t x y, ty, pos, after, none⟩ :: l) ⟨T, B⟩ := h
theorem AR.kIx (h : AR F ops k (⟨some d, .indexAddr t x y, ty, pos, after, none⟩ :: l) ⟨T, B⟩ acc) : AR F ops k (⟨some d, .indexAddr t x y, ty, pos, after, none⟩ :: l) ⟨T, B⟩ acc := h
theorem AO.kSl (h : AO F ops k (⟨some d, .slice t x lo hi none, ty, pos, after, none⟩ :: l) ⟨T, B⟩) : AO F ops k (⟨some d, .slice t x lo hi none, ty, pos, after, none⟩ :: l) ⟨T, B⟩ := h
theorem AR.kSl (h : AR F ops k (⟨some d, .slice t x lo hi none, ty, pos, after, none⟩ :: l) ⟨T, B⟩ acc) : AR F ops k (⟨some d, .slice t x lo hi none, ty, pos, after, none⟩ :: l) ⟨T, B⟩ acc := h
end
end
end Go.Proofs.Ytocppeifkjdeiaa.Mv

/- What a statement hands in: lists of a kind. Under no condition. -/
namespace Go.Proofs.Ytocppeifkjdeiaa.Mv
open Go
set_option linter.unusedSimpArgs false
set_option linter.unusedVariables false

theorem sh_map {α : Type} {tab : Tab} {e : Nat} {f : α → List AV} (hf : ∀ r, Sh tab e r → ∃ x, r = f x) : ∀ {rows : List (List AV)}, (∀ r ∈ rows, Sh tab e r) → ∃ l : List α, rows = l.map f
  | [], _ => ⟨[], rfl⟩
  | r :: rows, h => by
    obtain ⟨x, hx⟩ := hf r (h r (by simp))
    obtain ⟨l, hl⟩ := sh_map hf (rows := rows) fun q hq => h q (by simp [hq])
    exact ⟨x :: l, by rw [hx, hl]; rfl⟩
theorem wf_u8 {n : Int} (h : (Lit.int .u8 n).wf = true) : 0 ≤ n ∧ n ≤ 255 := by
  simp only [Lit.wf, Bool.and_eq_true, decide_eq_true_eq] at h
  have e1 : IntKind.u8.min = 0 := by decide
  have e2 : IntKind.u8.max = 255 := by decide
  rw [e1, e2] at h
  exact h
theorem wf_u16 {n : Int} (h : (Lit.int .u16 n).wf = true) : 0 ≤ n ∧ n ≤ 65535 := by
  simp only [Lit.wf, Bool.and_eq_true, decide_eq_true_eq] at h
  have e1 : IntKind.u16.min = 0 := by decide
  have e2 : IntKind.u16.max = 65535 := by decide
  rw [e1, e2] at h
  exact h
theorem wf_u32 {n : Int} (h : (Lit.int .u32 n).wf = true) : 0 ≤ n ∧ n ≤ 4294967295 := by
  simp only [Lit.wf, Bool.and_eq_true, decide_eq_true_eq] at h
  have e1 : IntKind.u32.min = 0 := by decide
  have e2 : IntKind.u32.max = 4294967295 := by decide
  rw [e1, e2] at h
  exact h
theorem wf_u64 {n : Int} (h : (Lit.int .u64 n).wf = true) : 0 ≤ n ∧ n ≤ 18446744073709551615 := by
  simp only [Lit.wf, Bool.and_eq_true, decide_eq_true_eq] at h
  have e1 : IntKind.u64.min = 0 := by decide
  have e2 : IntKind.u64.max = 18446744073709551615 := by decide
  rw [e1, e2] at h
  exact h
theorem wf_i64 {n : Int} (h : (Lit.int .i64 n).wf = true) : -9223372036854775808 ≤ n ∧ n ≤ 9223372036854775807 := by
  simp only [Lit.wf, Bool.and_eq_true, decide_eq_true_eq] at h
  have e1 : IntKind.i64.min = -9223372036854775808 := by decide
  have e2 : IntKind.i64.max = 9223372036854775807 := by decide
  rw [e1, e2] at h
  exact h
theorem by_u8 {n : Int} (h : (Lit.int .u8 n).wf = true) : ∃ b : UInt8, n = (b.toNat : Int) := by
  have h' := wf_u8 h
  exact ⟨UInt8.ofNat n.toNat, by rw [UInt8.toNat_ofNat']; omega⟩
theorem by_u32 {n : Int} (h : (Lit.int .u32 n).wf = true) : ∃ b : BitVec 32, n = (b.toNat : Int) := by
  have h' := wf_u32 h
  exact ⟨BitVec.ofNat 32 n.toNat, by rw [BitVec.toNat_ofNat]; omega⟩
theorem sh_BS {tab : Tab} {e : Nat} {i : TyI} (hi : look tab e = some i) (hd : i.d = .int .u8) {rows : List (List AV)} (h : ∀ r ∈ rows, Sh tab e r) : ∃ l, rows = BS l :=
  sh_map (fun r hr => by
    obtain ⟨n, rfl, hw⟩ := hr.inv_int hi hd
    obtain ⟨b, rfl⟩ := by_u8 hw
    exact ⟨b, rfl⟩) h
end Go.Proofs.Ytocppeifkjdeiaa.Mv
