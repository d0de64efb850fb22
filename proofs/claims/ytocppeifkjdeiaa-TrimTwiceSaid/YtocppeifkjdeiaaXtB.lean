/- A machine for proofs, more operations: arrays, bytes of boxes, rows that become boxes. Under no condition. -/
import Derived.Test.YtocppeifkjdeiaaXtA
import Derived.ChangeKeysEq
import Derived.Lib.SlBytesConst
namespace Go.Proofs.Ytocppeifkjdeiaa.Mv
open Go
set_option linter.unusedSimpArgs false
set_option linter.unusedVariables false

section
variable {P : Program} {tab : Tab} {N : Nat} {D : St → Prop} {F : Fx P tab N D} {ops : Array Oper} {k : List It} {l : List Oper} {T : List (Nat × AV)} {B : List (Nat × Ob)}
  {d ty : Nat} {pos : String} {after : Array Edge} {op : Op} {acc : List Rec} {tg : List Nat} {st : St}

theorem ext_val {o : Oper} {x : AV} (h : ∀ (st' : St), (∀ y, y ∈ o.op.operands → st.val y = st'.val y) → (∀ t ∈ tagsAt st o, st.ob t = st'.ob t) → ∀ (c : Ctx) Γ m a w, c.P = P → TabOk c.P tab → RRW c Γ m st' a w → okOper c.N o = true →
    ∀ g, ∃ v, (execOp a.eval ({ o with guard := g } : Oper)).run c.P w = .ok (.value v) w ∧ Rep Γ m v x) : ExtOk P tab st o (putEff o.dst x) := by
  intro g st' h1 h2 c Γ m a w hP ht hr hok hf Q
  obtain ⟨v, h3, h4⟩ := h st' h1 h2 c Γ m a w hP ht hr hok g
  unfold Oper.wp
  rw [h3]
  have := hr.put o.dst h4
  refine ⟨Γ, m, ?_⟩
  cases hd : o.dst with
  | none => rw [hd] at this; exact this
  | some d => rw [hd] at this; exact this
theorem ok_ops {N : Nat} {o : Oper} (h : okOper N o = true) {x : Operand} (hx : x ∈ o.op.operands) : okOp N x = true := by
  simp only [okOper, Bool.and_eq_true] at h
  have := h.2
  rw [Array.all_eq_true_iff_forall_mem] at this
  exact this x hx
theorem tag_op {o : Oper} {x : Operand} (hx : x ∈ o.op.operands) {t : Nat} (ht : t ∈ (st.val x).refs) : t ∈ tagsAt st o := List.mem_append_left _ (mem_opRefs (by simpa using hx) ht)

section
variable {t : TypeId} {i j : TyI} {e : TypeId} {n g off : Nat} {x y : Operand}
/-- An array's elements as a slice. -/
theorem slArr_ext (hi : look tab t = some i) (hd : i.d = .array n e) (hj : look tab e = some j) (hx : st.val x = .ptr g off) (hnm : decide (n ≤ 1000000) = true) :
    ExtOk P tab st ⟨some d, .slice t x none none none, ty, pos, after, none⟩ (putEff (some d) (.bsl g off n j.size)) :=
  ext_val (o := ⟨some d, .slice t x none none none, ty, pos, after, none⟩) fun st' h1 h2 c Γ m a w hP ht hr hok g' => by
    have hxm : x ∈ (Op.slice t x none none none).operands := by simp [Op.operands]
    have he := hr.eval x (ok_ops hok hxm)
    rw [← h1 x hxm, hx] at he
    have hu := (ht.at hi).run_und w
    rw [hd] at hu
    have hs := (ht.at hj).run_size w
    generalize hv : a.eval x = v at he
    cases he with
    | ptr hth =>
      refine ⟨.slice (some ⟨_, off, none⟩) n n, ?_, .bsl hth ⟨Nat.le_refl _, by have := of_decide_eq_true hnm; simp only [maxLen]; omega⟩⟩
      simp [execOp, hv, Instr.sliceAt, hu, Instr.sureAddr, Instr.sliceBounds, hs, Addr.add]
/-- A slice's first elements, as an array. -/
theorem arrPtr_ext {rows : List (List AV)} {sz : Nat} (hi : look tab t = some i) (hd : i.d = .array n e) (hx : st.val x = .sh sz rows) (hn : n ≤ rows.length) (h0 : 0 < n) :
    ExtOk P tab st ⟨some d, .sliceToArrayPointer t x, ty, pos, after, none⟩ (putEff (some d) (.pel rows.flatten)) :=
  ext_val (o := ⟨some d, .sliceToArrayPointer t x, ty, pos, after, none⟩) fun st' h1 h2 c Γ m a w hP ht hr hok g' => by
    have hxm : x ∈ (Op.sliceToArrayPointer t x).operands := by simp [Op.operands]
    have he := hr.eval x (ok_ops hok hxm)
    rw [← h1 x hxm, hx] at he
    have hu := (ht.at hi).run_und w
    rw [hd] at hu
    rcases he.sh_inv with ⟨a', ha, hrows⟩ | ⟨a', cap, vs, ha, h3, h4, h5, h6, h7, h8⟩
    · subst hrows; simp at hn; omega
    · refine ⟨.pointer (some a'), ?_, .pel vs h8.1 h6 h7 h8.2⟩
      have : ¬ rows.length < n := by omega
      simp [execOp, ha, Instr.arrayAt, hu, this]
theorem BS_flat (l : List UInt8) : (BS l).flatten = cellsB l := by
  induction l with
  | nil => rfl
  | cons x l ih => simp only [BS, cellsB, List.map_cons, List.flatten_cons] at ih ⊢; rw [ih]; rfl

theorem lits_B {Γ m} (hP : TabOk P tab) (hj : look tab e = some j) (hjd : j.d = .int .u8) {vs : List Value} {l : List UInt8} (h : RepL Γ m vs (cellsB l)) : vs = l.map fun b => .int .u8 (b.toNat : Int) := by
  apply List.ext_getElem?
  intro q
  cases hq : l[q]? with
  | none =>
    have hq' := List.getElem?_eq_none_iff.1 hq
    have h1 := h.1
    simp only [cellsB, List.length_map] at h1
    rw [List.getElem?_eq_none (by omega), List.getElem?_map, hq]; rfl
  | some b =>
    have hlt := (List.getElem?_eq_some_iff.1 hq).1
    have h1 := h.1
    simp only [cellsB, List.length_map] at h1
    have h2 := h.2 q vs[q] (.i .u8 (b.toNat : Int)) (List.getElem?_eq_getElem (by omega)) (by simp [cellsB, hq])
    rw [List.getElem?_eq_getElem (by omega), List.getElem?_map, hq]
    generalize vs[q] = v at h2
    cases h2; rfl
theorem eqItems_B {e : TypeId} {w : World} (hu : P.underlying e = some (.int .u8)) (hs : P.cellsOf e = 1) (hag : ∀ w : World, (isAgg e).run P w = .ok false w) (dd : Nat) (as bs : List UInt8) (hl : as.length = bs.length) : ∀ (is : List Nat), (∀ q ∈ is, q < as.length) →
    (Op.eqItems (dd + 1) e 1 ((as.map fun b => Value.int .u8 (b.toNat : Int)).toArray) ((bs.map fun b => Value.int .u8 (b.toNat : Int)).toArray) is).run P w = .ok (is.all fun q => as.getD q 0 == bs.getD q 0) w
  | [], _ => by simp [Op.eqItems]
  | q :: is, h => by
    have hq := h q (by simp)
    have hq2 : q < bs.length := by omega
    have ih := eqItems_B (w := w) hu hs hag dd as bs hl is fun r hr => h r (by simp [hr])
    have p1 : ∀ (zs : List UInt8), q < zs.length → (Go.part e ((zs.map fun b => Value.int .u8 (b.toNat : Int)).toArray) (q * 1)).run P w = .ok (.int .u8 ((zs.getD q 0).toNat : Int)) w := fun zs hz => by
      unfold Go.part
      rw [Sem.run_bind, hag w]
      simp [List.getD, List.getElem?_eq_getElem hz]
    simp only [Op.eqItems, Sem.run_bind, p1 as hq, p1 bs hq2, Result.andThen_ok, run_equalIn_int w dd e .u8 .u8 _ _ hu]
    have : (((as.getD q 0).toNat : Int) == ((bs.getD q 0).toNat : Int)) = (as.getD q 0 == bs.getD q 0) := by
      rw [Bool.eq_iff_iff]
      simp only [beq_iff_eq]
      exact ⟨fun e => UInt8.toNat_inj.1 (by omega), fun e => by rw [e]⟩
    rw [this]
    cases hb : (as.getD q 0 == bs.getD q 0) with
    | true => simp only [Bool.not_true, Bool.false_eq_true, if_false, List.all_cons, hb, Bool.true_and]; exact ih
    | false => simp only [Bool.not_false, if_true, Sem.run_pure, List.all_cons, hb, Bool.false_and]
theorem all_eq_B {as bs : List UInt8} (hl : as.length = bs.length) : ((List.range as.length).all fun q => as.getD q 0 == bs.getD q 0) = (as == bs) := by
  rw [Bool.eq_iff_iff]
  simp only [List.all_eq_true, List.mem_range, beq_iff_eq]
  constructor
  · intro h
    apply List.ext_getElem hl
    intro q h1 h2
    have := h q h1
    simpa [List.getD, List.getElem?_eq_getElem h1, List.getElem?_eq_getElem h2] using this
  · intro h q _; rw [h]
/-- '==' of two arrays of bytes. -/
theorem eqArr_ext {z : TypeId} {as bs : List UInt8} (hi : look tab t = some i) (hd : i.d = .array n e) (hj : look tab e = some j) (hjd : j.d = .int .u8) (hjs : j.size = 1) (hx : st.val x = .agg (cellsB as)) (hy : st.val y = .agg (cellsB bs)) (ha : as.length = n) (hb : bs.length = n) (heg : P.eqGuardType P.depth t = false) :
    ExtOk P tab st ⟨some d, .binOp .eql t x y z, ty, pos, after, none⟩ (putEff (some d) (.b (as == bs))) :=
  ext_val (o := ⟨some d, .binOp .eql t x y z, ty, pos, after, none⟩) fun st' h1 h2 c Γ m a w hP ht hr hok g' => by
    have hxm : x ∈ (Op.binOp .eql t x y z).operands := by simp [Op.operands]
    have hym : y ∈ (Op.binOp .eql t x y z).operands := by simp [Op.operands]
    have hxe := hr.eval x (ok_ops hok hxm)
    have hye := hr.eval y (ok_ops hok hym)
    rw [← h1 x hxm, hx] at hxe
    rw [← h1 y hym, hy] at hye
    obtain ⟨vs, hv1, hv2⟩ := hxe.agg_inv
    obtain ⟨us, hu1, hu2⟩ := hye.agg_inv
    have e1 := lits_B ht hj hjd hv2
    have e2 := lits_B ht hj hjd hu2
    have hu := (ht.at hi).und
    rw [hd] at hu
    have hue := (ht.at hj).und
    rw [hjd] at hue
    obtain ⟨f, hf, hfs, _⟩ := (ht.at hj).info
    have hcell : c.P.cellsOf e = 1 := by simp [Program.cellsOf, hf, hfs, hjs]
    have hag : ∀ w : World, (isAgg e).run c.P w = .ok false w := fun w => by
      have := (ht.at hj).run_agg w
      rw [this]; simp [TyI.agg, hjd]
    have hrun := run_equalIn_array (P := c.P) (w := w) 9999 vs.toArray us.toArray hu hf
    rw [hcell, e1, e2, eqItems_B hue hcell hag 9998 as bs (by omega) _ (fun q hq => by rw [List.mem_range] at hq; omega), ← ha, all_eq_B (by omega)] at hrun
    refine ⟨.bool (as == bs), ?_, .b⟩
    rw [← e1, ← e2] at hrun
    have hgd := run_eqGuard_agg (P := c.P) w .eql t x y us.toArray vs.toArray (by rw [hP]; exact heg)
    have hgd2 := run_eqGuard_agg (P := c.P) w .eql t x y vs.toArray us.toArray (by rw [hP]; exact heg)
    simp only [execOp, hv1, hu1]
    rw [Sem.run_bind, Sem.run_bind, hgd2]
    simp only [Result.andThen_ok, run_eql_struct, hrun, Sem.run_pure]

/-- Bytes of a box, appended. -/
theorem arg_bsl {Γ m} {w : World} {Q : Program} {t off n g cap : Nat} {l : List UInt8} (hob : ObOk Γ m w t (.bx (cellsB l))) (hg : m.th t = some g) (hn : off + n ≤ l.length) :
    Arg Q Γ w 1 (.slice (some ⟨g, off, none⟩) n cap) (((l.drop off).take n).map fun b => .int .u8 (b.toNat : Int)) (BS ((l.drop off).take n)) := by
  obtain ⟨k, c, E, q1, q2, q3, q4, q5, q6⟩ := hob
  rw [hg] at q1; cases q1
  have hlen : ((l.drop off).take n).length = n := by simp; omega
  have hcs : (cellsB l).length = l.length := by simp [cellsB]
  rw [hcs] at q3
  have hget : ∀ (j : Nat) (b : UInt8), ((l.drop off).take n)[j]? = some b → l[off + j]? = some b := fun j b hq => by
    rw [List.getElem?_take] at hq
    split at hq
    · rwa [List.getElem?_drop] at hq
    · cases hq
  generalize (l.drop off).take n = q at *
  refine ⟨by rw [BS_len, hlen]; simp [Builtin.lenOf], fun w' hw => ?_, fun v hv => ?_, fun r hr => ?_, ⟨by rw [BS_flat]; simp [cellsB], fun j v x hv hx => ?_⟩⟩
  · rw [BS_len, hlen]
    refine run_firstCells_some w' 1 n ⟨g, off, none⟩ n cap _ (by simp [hlen]) fun j v hv => ?_
    rw [List.getElem?_map] at hv
    cases hq : q[j]? with
    | none => rw [hq] at hv; cases hv
    | some b =>
      rw [hq] at hv; cases hv
      have hq := hget j b hq
      have hjl : off + j < c.size := by have := (List.getElem?_eq_some_iff.1 hq).1; omega
      have h4 := q4 (off + j) c[off + j] (.i .u8 (b.toNat : Int)) (Array.getElem?_eq_getElem hjl) (by simp [cellsB, hq])
      have hcell : w.cell? ⟨g, off + j, none⟩ = some c[off + j] := by
        rw [cell_of_row w g _ c E.1 E.2 q2]; exact Array.getElem?_eq_getElem hjl
      have : w'.cell? ⟨g, off + j, none⟩ = some c[off + j] := by
        rw [← hcell]; simp [World.cell?, hw]
      rw [add_lit, this]
      generalize c[off + j] = v at h4
      cases h4; rfl
  · obtain ⟨b, _, rfl⟩ := List.mem_map.1 hv; rfl
  · obtain ⟨b, _, rfl⟩ := List.mem_map.1 hr; rfl
  · rw [BS_flat] at hx
    simp only [cellsB, List.getElem?_map] at hv hx
    cases hq : q[j]? with
    | none => rw [hq] at hv; cases hv
    | some b => rw [hq] at hv hx; cases hv; cases hx; exact .i
section
variable {t u : TypeId} {i j iu : TyI} {e : TypeId} {n g off s' len : Nat} {x y : Operand} {rows : List (List AV)} {l' : List UInt8}
theorem growB_ext (hi : look tab t = some i) (hd : i.d = .slice e) (hj : look tab e = some j) (hu : look tab u = some iu) (hiu : isApp iu = true) (hx : st.val x = .gr g e j.size rows) (hg : st.ob g = .gw n) (hn : n = rows.length)
    (hy : st.val y = .bsl s' off len 1) (hs : st.ob s' = .bx (cellsB l')) (hl : off + len ≤ l'.length) (hz : (decide (j.size = 1) && decide (0 < j.bytes) && decide (j.bytes ≤ 1024)) = true) (hb : rows.length + len ≤ 137438953472) :
    ExtOk P tab st ⟨some d, .call { callee := .builtin .append, args := #[x, y], argTypes := #[t, u] }, ty, pos, after, none⟩ ⟨[(d, .gr g e j.size (rows ++ BS ((l'.drop off).take len)))], [(g, .gw (rows ++ BS ((l'.drop off).take len)).length)], []⟩ := by
  intro g' st' h1 h2 c Γ m a w hP ht hr hok hf Q
  simp only [Bool.and_eq_true, decide_eq_true_eq] at hz
  obtain ⟨⟨z1, z2⟩, z3⟩ := hz
  have hxm : x ∈ (Op.call { callee := .builtin .append, args := #[x, y], argTypes := #[t, u] }).operands := by simp [Op.operands, Call.operands]
  have hym : y ∈ (Op.call { callee := .builtin .append, args := #[x, y], argTypes := #[t, u] }).operands := by simp [Op.operands, Call.operands]
  have hxe := hr.eval x (ok_ops hok hxm)
  have hye := hr.eval y (ok_ops hok hym)
  rw [← h1 x hxm, hx] at hxe
  rw [← h1 y hym, hy] at hye
  have ho1 : st'.ob g = .gw rows.length := by rw [← h2 g (tag_op hxm (by rw [hx]; simp [AV.refs])), hg, hn]
  have ho2 : st'.ob s' = .bx (cellsB l') := by rw [← h2 s' (tag_op hym (by rw [hy]; simp [AV.refs])), hs]
  have hud' : ∀ k, iu.d ≠ .int k := fun k hk => by simp [isApp, hk] at hiu
  have hob := hr.obs s'
  rw [ho2] at hob
  generalize hv : a.eval y = v at hye
  cases hye with
  | bsl hth hcap =>
    rename_i gg cap
    have hA := arg_bsl (Q := c.P) (cap := cap) hob hth hl
    have hlen : (BS ((l'.drop off).take len)).length = len := by rw [BS_len]; simp; omega
    rw [← z1] at hA
    obtain ⟨v', w', Γ', m', q1, q2, q3⟩ := RRW.grow ht hi hd hj hu hud' hr (by omega) ho1 hxe hA (ty := ty) (by rw [hlen]; simp only [maxLen]; omega) (by rw [hlen]; exact Nat.le_trans (Nat.mul_le_mul hb z3) (by decide))
    rw [← hv] at q1
    unfold Oper.wp
    have hexec : (execOp a.eval { dst := some d, op := .call { callee := .builtin .append, args := #[x, y], argTypes := #[t, u] }, type := ty, pos, after, guard := g' }).run c.P w = .ok (.value v') w' := by
      simp only [execOp, resolve, invoke, builtin, Sem.run_bind, Sem.run_pure, Result.andThen_ok, List.map_toArray, List.map_cons, List.map_nil, q1]
    rw [hexec, List.length_append]
    exact q2.app1 (st := st') (B := [(g, .gw (rows.length + (BS ((l'.drop off).take len)).length))]) q3
end
end
theorem freeze_at (w : World) {g o : Nat} {cur : Array Value} {e : TypeId} (hg : w.heap[g]? = some (.cells cur e (0, 0))) : (w.freeze ⟨g, o, none⟩ 1).heap[g]? = some (.cells cur e (o, o + 1)) := by
  unfold World.freeze
  rw [if_neg (by decide)]
  simp [Array.getElem?_modify, hg]
theorem freeze_other (w : World) {g o k : Nat} (h : k ≠ g) : (w.freeze ⟨g, o, none⟩ 1).heap[k]? = w.heap[k]? := by
  unfold World.freeze
  rw [if_neg (by decide)]
  simp [Array.getElem?_modify, Ne.symm h]
theorem freeze_size (w : World) (a : Addr) : (w.freeze a 1).heap.size = w.heap.size := by
  unfold World.freeze
  rw [if_neg (by decide)]
  simp
theorem freeze_cell (w : World) {g o : Nat} {cur : Array Value} {e : TypeId} (hg : w.heap[g]? = some (.cells cur e (0, 0))) (ad : Addr) : (w.freeze ⟨g, o, none⟩ 1).cell? ad = w.cell? ad := by
  unfold World.cell?
  by_cases h : ad.block = g
  · rw [h, freeze_at w hg, hg]
  · rw [freeze_other w h]
section
variable {t u : TypeId} {i j iu : TyI} {e : TypeId} {n g off s' len : Nat} {x y : Operand} {rows ys : List (List AV)} {l' : List UInt8}
/-- A literal's bytes, once more: nobody appends to them any more. -/
theorem sameB_ext (hi : look tab t = some i) (hd : i.d = .slice e) (hj : look tab e = some j) (hjd : j.d = .int .u8) (hx : st.val x = .gr g e j.size rows) (hg : st.ob g = .gw n) (hn : n = rows.length) (h0 : 0 < rows.length) :
    ExtOk P tab st ⟨some d, .convert t t x, ty, pos, after, none⟩ ⟨[(d, .sh j.size rows)], [(g, .dead)], []⟩ := by
  intro g' st' h1 h2 c Γ m a w hP ht hr hok hf Q
  have hxm : x ∈ (Op.convert t t x).operands := by simp [Op.operands]
  have hxe := hr.eval x (ok_ops hok hxm)
  rw [← h1 x hxm, hx] at hxe
  have ho1 : st'.ob g = .gw rows.length := by rw [← h2 g (tag_op hxm (by rw [hx]; simp [AV.refs])), hg, hn]
  have hob := hr.obs g
  rw [ho1] at hob
  obtain ⟨v, e1, sz, xs, k1, k2, k3, k4⟩ := hob
  generalize hv : a.eval x = v' at hxe
  cases hxe with
  | gr hsh hka =>
    rw [hka] at k1; cases k1
    rcases k3.2 with ⟨_, hz⟩ | ⟨gb, cap, cur, rfl, _, hheap, hnc, hcm, hcs, htake⟩
    · omega
    · have hut := (ht.at hi).und
      rw [hd] at hut
      have hue := (ht.at hj).und
      rw [hjd] at hue
      have hrun : (convert t t (.slice (some ⟨gb, 0, none⟩) rows.length cap)).run c.P w = .ok (.slice (some ⟨gb, 0, none⟩) rows.length cap) (w.freeze ⟨gb, cur.size, none⟩ 1) := by
        have hsh' : w.shape? gb = some (e, cur.size) := by unfold World.shape?; rw [hheap]
        simp [convert, run_underlying hut, run_underlying hue, markStringish, hsh']
      have hblk : (st'.ob g).blk m g = some gb := by rw [ho1]; simp [Ob.blk, hka, Value.ownBlock]
      have hob' : ∀ s, (⟨st'.T, (g, .dead) :: st'.B⟩ : St).ob s = if g = s then .dead else st'.ob s := fun s => ob_cons _ _ _ _ _
      have hnew : RRW c Γ m ⟨st'.T, (g, .dead) :: st'.B⟩ a (w.freeze ⟨gb, cur.size, none⟩ 1) := by
        refine hr.mem (Sub.refl _) (fun _ _ _ => ⟨fun _ h => h, fun _ _ h => h⟩) (fun _ _ => ⟨fun _ h => h, fun _ _ h => h⟩) (fun ad v hv => by rw [freeze_cell w hheap]; exact hr.gok ad v hv) (fun s => ?_) (fun s b hb => ?_) (fun s s2 b hb hb2 => ?_) ?_ (fun ad q1 q2 => absurd q1 q2)
        · rw [hob']
          split
          · trivial
          · rename_i hne
            refine (hr.obs s).keep (Sub.refl _) rfl rfl (fun _ _ => ⟨fun _ h => h, fun _ _ h => h⟩) fun b hb => ⟨freeze_other w fun e' => ?_, fun _ _ => rfl⟩
            subst e'
            exact hne (hr.inj g s _ hblk hb)
        · rw [hob'] at hb
          split at hb
          · cases hb
          · exact hr.own s b hb
        · rw [hob'] at hb hb2
          split at hb
          · cases hb
          · split at hb2
            · cases hb2
            · exact hr.inj s s2 b hb hb2
        · refine hr.frame.trans' rfl rfl rfl (by rw [freeze_size]; exact Nat.le_refl _) fun k hk => ?_
          by_cases hkg : k = gb
          · exact .inl ⟨gb, hr.own g gb hblk, hkg⟩
          · exact .inr (freeze_other w hkg)
      unfold Oper.wp
      have hexec : (execOp a.eval { dst := some d, op := .convert t t x, type := ty, pos, after, guard := g' }).run c.P w = .ok (.value (.slice (some ⟨gb, 0, none⟩) rows.length cap)) (w.freeze ⟨gb, cur.size, none⟩ 1) := by
        simp [execOp, hv, hrun]
      rw [hexec]
      exact hnew.app1 (st := st') (B := [(g, .dead)]) hsh
/-- What is put into an empty slice: from here on a box. -/
theorem appBox_ext (hi : look tab t = some i) (hd : i.d = .slice e) (hj : look tab e = some j) (hu : look tab u = some iu) (hiu : isApp iu = true) (hx : st.val x = .gr g e j.size []) (hg : st.ob g = .gw 0)
    (hy : Ap j.size (st.val y) ys) (hys : 0 < ys.length) (hz : (decide (0 < j.size) && decide (0 < j.bytes) && decide (j.bytes ≤ 1024)) = true) (hb : ys.length ≤ 137438953472) :
    ExtOk P tab st ⟨some d, .call { callee := .builtin .append, args := #[x, y], argTypes := #[t, u] }, ty, pos, after, none⟩ ⟨[(d, .bsl d 0 ys.length j.size)], [(g, .dead), (d, .bx ys.flatten)], [d]⟩ := by
  intro g' st' h1 h2 c Γ m a w hP ht hr hok hf Q
  simp only [Bool.and_eq_true, decide_eq_true_eq] at hz
  obtain ⟨⟨z1, z2⟩, z3⟩ := hz
  have hfd := hf d (by simp)
  have hxm : x ∈ (Op.call { callee := .builtin .append, args := #[x, y], argTypes := #[t, u] }).operands := by simp [Op.operands, Call.operands]
  have hym : y ∈ (Op.call { callee := .builtin .append, args := #[x, y], argTypes := #[t, u] }).operands := by simp [Op.operands, Call.operands]
  have hxe := hr.eval x (ok_ops hok hxm)
  have hye := hr.eval y (ok_ops hok hym)
  rw [← h1 x hxm, hx] at hxe
  rw [← h1 y hym] at hye
  have ho1 : st'.ob g = .gw 0 := by rw [← h2 g (tag_op hxm (by rw [hx]; simp [AV.refs])), hg]
  have hud' : ∀ k, iu.d ≠ .int k := fun k hk => by simp [isApp, hk] at hiu
  obtain ⟨news, hA⟩ := argOk (P := c.P) (tab := tab) hr.gok hye hy.arg
  have hob := hr.obs g
  rw [ho1] at hob
  obtain ⟨v0, e0, sz0, xs, k1, k2, k3, k4⟩ := hob
  generalize hv : a.eval x = v at hxe
  cases hxe with
  | gr hsh hka =>
    rw [List.length_nil] at hka
    rw [hka] at k1; cases k1
    have hxs : xs = [] := List.eq_nil_of_length_eq_zero (by simpa using k3.1)
    subst hxs
    obtain ⟨v', w', q1, q2, q4, q5⟩ := append_core ht hi hd hj hu hud' z1 k3 hA.len hA.cells (by rw [hA.len']) hA.one (by simp only [maxLen]; omega) (Nat.le_trans (Nat.mul_le_mul (by omega : 0 + ys.length ≤ 137438953472) z3) (by decide)) (ty := ty)
    simp only [Nat.zero_add, List.nil_append] at q2
    rcases q2.2 with ⟨_, hz0⟩ | ⟨gb, cap, cur, hv', _, hheap, hnc, hcm, hcs, htake⟩
    · omega
    · skip
      have hblk : (st'.ob g).blk m g = v0.ownBlock := by rw [ho1]; simp [Ob.blk, hka]
      have hlt : ∀ s b, (st'.ob s).blk m s = some b → b < w.heap.size := fun s b hs => (hr.obs s).lt hs
      have hvb : v'.ownBlock = some gb := by rw [hv']; rfl
      have hstream : w'.os = w.os ∧ w'.tape = w.tape ∧ w'.output = w.output ∧ w.heap.size ≤ w'.heap.size := by
        rcases q4 with ⟨_, q3⟩ | ⟨_, _, _, q3⟩ <;> exact ⟨q3.os, q3.tape, q3.output, q3.size⟩
      -- the block is the old one, or a new one; others stay
      have hgb : v0.ownBlock = some gb ∨ w.heap.size ≤ gb := by
        rcases q4 with ⟨q4, _⟩ | ⟨g2, hg2, q4, _⟩
        · exact .inl (by rw [← q4, hvb])
        · rw [hvb] at q4; cases q4; exact .inr hg2
      have hkeep : ∀ k, k < w.heap.size → v0.ownBlock ≠ some k → w'.heap[k]? = w.heap[k]? := fun k hk hne => by
        rcases q4 with ⟨_, q3⟩ | ⟨_, _, _, q3⟩
        · exact q3.block k hk (Ne.symm hne)
        · exact q3.block k hk (by simp)
      have hnoΓ : ∀ k, v0.ownBlock = some k → ∀ ad : Addr, ad.block = k → Γ ad = none := fun k hk ad had => (k4 k hk).2 ad had (.inr (by omega))
      have hfree : ∀ ad : Addr, ad.block = gb → Γ ad = none := fun ad had => by
        rcases hgb with h | h
        · exact hnoΓ gb h ad had
        · cases hΓ : Γ ad with
          | none => rfl
          | some y => have := block_lt_of_cell (hr.gok ad y hΓ); omega
      have hgok : ∀ ad y, Γ ad = some y → w'.cell? ad = some y := fun ad y hy => by
        have hlt' := block_lt_of_cell (hr.gok ad y hy)
        rw [World.cell?_of_block (w := w) (hkeep ad.block hlt' fun e' => by rw [hnoΓ _ e' ad rfl] at hy; cases hy)]
        exact hr.gok ad y hy
      -- first: the old object is dead
      have hob' : ∀ s, (⟨st'.T, (g, .dead) :: st'.B⟩ : St).ob s = if g = s then .dead else st'.ob s := fun s => ob_cons _ _ _ _ _
      have hdg : d ≠ g := fun e' => by
        subst e'
        have : d ∈ (st'.val x).refs := by rw [← h1 x hxm, hx]; simp [AV.refs]
        exact hfd.2.1 (val_refs this)
      let m' : Nm := m.set d (some gb) fun _ => none
      have hext : ∀ r, r ≠ d → Ext m m' r := fun r hr => m.set_ext d _ _ hr
      have hob2 : ∀ s, (⟨st'.T, (g, .dead) :: (d, .bx ys.flatten) :: st'.B⟩ : St).ob s = if g = s then .dead else if d = s then .bx ys.flatten else st'.ob s := fun s => by rw [ob_cons, ob_cons]
      have hsame : ∀ s, s ≠ d → m'.th s = m.th s ∧ m'.ka s = m.ka s := fun s hs => by simp [m', Nm.set, hs]
      have hbd : (Ob.bx ys.flatten).blk m' d = some gb := by simp [Ob.blk, m', Nm.set]
      have hkey : ∀ s, g ≠ s → d ≠ s → ∀ b, (st'.ob s).blk m' s = some b → (st'.ob s).blk m s = some b ∧ b ≠ gb := fun s hs1 hs2 b hb' => by
        rw [blk_same (hsame s (Ne.symm hs2)).1 (hsame s (Ne.symm hs2)).2] at hb'
        refine ⟨hb', fun e' => ?_⟩
        subst e'
        rcases hgb with h | h
        · exact hs1 (hr.inj g s _ (by rw [hblk]; exact h) hb')
        · have := hlt s _ hb'; omega
      have hlen : ys.flatten.length = news.length := hA.rep.1.symm
      have hnl : news.length = ys.length * j.size := hA.len'
      have hnew : RRW c Γ m' ⟨st'.T, (g, .dead) :: (d, .bx ys.flatten) :: st'.B⟩ a w' := by
        refine hr.mem (Sub.refl _) (fun s r hr' => hext r fun e' => hfd.2.1 (e' ▸ St.get_refs hr')) (fun p hp => hext p fun e' => by have := c.big p hp; have := hfd.1; omega) hgok (fun s => ?_) (fun s b hb => ?_) (fun s s2 b hb hb2 => ?_) ?_ (fun ad q1 q2 => absurd q1 q2)
        · rw [hob2]
          split
          · trivial
          · rename_i hs1
            split
            · rename_i hs2; subst hs2
              refine ⟨gb, cur, (e, 0, 0), by simp [m', Nm.set], hheap, ⟨.inl (Nat.le_refl _), ?_⟩, fun q v z hv hz => ?_, fun q v hq hv => ?_, hfree⟩
              · rw [hlen, hnl, hcs]; exact Nat.mul_le_mul_right _ hnc
              · have hql : q < news.length := by rw [← hlen]; exact (List.getElem?_eq_some_iff.1 hz).1
                have hnv : news[q]? = some v := by
                  rw [← htake, List.getElem?_take, if_pos (by omega)]; simpa using hv
                exact (hA.rep.2 q v z hnv hz).up
              · rw [hlen] at hq
                have hnv : news[q]? = some v := by
                  rw [← htake, List.getElem?_take, if_pos (by omega)]; simpa using hv
                exact hA.one v (List.mem_of_getElem? hnv)
            · rename_i hs2
              refine (hr.obs s).keep (Sub.refl _) (hsame s (Ne.symm hs2)).1 (hsame s (Ne.symm hs2)).2 (fun r hr' => hext r fun e' => hfd.2.2 (e' ▸ St.ob_refs hr')) fun b hb' => ⟨hkeep b (hlt s b hb') fun e' => hs1 (hr.inj g s b (by rw [hblk]; exact e') hb'), fun _ _ => rfl⟩
        · rw [hob2] at hb
          split at hb
          · cases hb
          · rename_i hs1
            split at hb
            · rename_i hs2; subst hs2
              rw [hbd] at hb; cases hb
              rcases hgb with h | h
              · exact hr.own g gb (by rw [hblk]; exact h)
              · exact .inl (Nat.le_trans hr.frame.size h)
            · rename_i hs2; exact hr.own s b (hkey s hs1 hs2 b hb).1
        · rw [hob2] at hb hb2
          split at hb
          · cases hb
          · rename_i hs1
            split at hb2
            · cases hb2
            · rename_i hs3
              split at hb <;> split at hb2
              · rename_i e1 e2; rw [← e1, ← e2]
              · rename_i e1 e2
                subst e1
                rw [hbd] at hb; cases hb
                exact absurd rfl (hkey s2 hs3 e2 _ hb2).2
              · rename_i e1 e2
                subst e2
                rw [hbd] at hb2; cases hb2
                exact absurd rfl (hkey s hs1 e1 _ hb).2
              · rename_i e1 e2
                exact hr.inj s s2 b (hkey s hs1 e1 b hb).1 (hkey s2 hs3 e2 b hb2).1
        · refine hr.frame.trans' hstream.1 hstream.2.1 hstream.2.2.1 hstream.2.2.2 fun q hq => ?_
          by_cases e1 : v0.ownBlock = some q
          · exact .inl ⟨q, hr.own g q (by rw [hblk]; exact e1), rfl⟩
          · exact .inr (hkeep q hq e1)
      unfold Oper.wp
      have hexec : (execOp a.eval { dst := some d, op := .call { callee := .builtin .append, args := #[x, y], argTypes := #[t, u] }, type := ty, pos, after, guard := g' }).run c.P w = .ok (.value v') w' := by
        simp only [execOp, resolve, invoke, builtin, Sem.run_bind, Sem.run_pure, Result.andThen_ok, List.map_toArray, List.map_cons, List.map_nil, hv, q1]
      rw [hexec, hv']
      exact hnew.app1 (st := st') (B := [(g, .dead), (d, .bx ys.flatten)]) (.bsl (by simp [m', Nm.set]) ⟨hnc, hcm⟩)
end
end
end Go.Proofs.Ytocppeifkjdeiaa.Mv
