/- What the statement MeanGets needs, part 13. Under no condition. -/
import Derived.Laws.IdiomCopy
import Derived.Test.YtocppeifkjdeiaaMMeanGets12
/- Slices whose capacity is known. Under no condition. -/
namespace Go.Proofs.Ytocppeifkjdeiaa.Mv
open Go Go.Proofs
set_option linter.unusedSimpArgs false
set_option linter.unusedVariables false
theorem Rep.shc_all {Γ m v sz rows more} (h : Rep Γ m v (.shc sz rows more)) : ∃ a n cap, v = .slice a n cap ∧ Rep Γ m (.slice a cap cap) (.sh sz (rows ++ more)) := by
  cases h with
  | shc h hn hc => exact ⟨_, _, _, rfl, h⟩
/-- A slice in a box, once it is written no more. -/
theorem Lx.fzC {t n cap : Nat} {l z : List UInt8} (hn : n = l.length) (hc : cap = l.length + z.length) : Lx (FzG t (cellsB (l ++ z))) (.bsc t 0 n cap 1) (.shc 1 (BS l) (BS z)) := fun Γ m v hh hr => by
  cases hr with
  | bsc hth hb =>
    have := hh _ hth 0
    rw [List.drop_zero, closeL_flat (by rw [← BS_flat]; exact flatB _)] at this
    cases this with
    | pel vs h1 h2 h3 h4 =>
      have e : BS l ++ BS z = BS (l ++ z) := (BS_app l z).symm
      refine .shc (.sh vs (Nat.le_refl _) hb.2 (by rw [List.length_append, BS_len, BS_len, hc]) (fun r hr => ?_) (by rw [e, BS_flat]; exact h1) h2 h3 (by rw [e, BS_flat]; exact h4)) (by rw [BS_len, hn]) hb.1
      rw [e] at hr
      simp only [BS, List.mem_map] at hr
      obtain ⟨b, _, rfl⟩ := hr; rfl
theorem RRW.same {c Γ m a w} {st st' : St} (hT : st'.T = st.T) (hB : ∀ t, st'.ob t = st.ob t) (h : RRW c Γ m st a w) : RRW c Γ m st' a w :=
  ⟨h.defers, h.size, h.gok, fun t ht => by rw [show st'.get t = st.get t by simp [St.get, hT]]; exact h.tmps t ht, fun t => by rw [hB]; exact h.obs t, fun t g hg => h.own t g (by rwa [hB] at hg), fun t t' g h1 h2 => h.inj t t' g (by rwa [hB] at h1) (by rwa [hB] at h2), h.frame, h.sub, h.fresh, h.ext⟩
section
variable {P : Program} {tab : Tab} {N : Nat} {D : St → Prop} {F : Fx P tab N D} {ops : Array Oper} {k : List It} {l : List Oper} {T : List (Nat × AV)} {B : List (Nat × Ob)} {d ty : Nat} {pos : String} {after : Array Edge} {st : St}
  {t u : TypeId} {i j iu : TyI} {e : TypeId} {x y : Operand}
theorem mk_ext {n c : Int} (hi : look tab t = some i) (hd : i.d = .slice e) (hj : look tab e = some j) (hjs : j.size = 1) (hjz : j.zero = [.int .u8 0]) (hjb : j.bytes ≤ 1) (hx : st.val x = .i .i64 n) (hy : st.val y = .i .i64 c) (h0 : 0 ≤ n ∧ n ≤ c ∧ c ≤ 1000000) :
    ExtOk P tab st ⟨some d, .makeSlice t x y, ty, pos, after, none⟩ ⟨[(d, .bsc d 0 n.toNat c.toNat 1)], [(d, .bx (cellsB (List.replicate c.toNat 0)))], [d]⟩ := by
  intro g' st' h1 h2 cc Γ m a w hP ht hr hok hf Q
  have hfd := hf d (by simp)
  have hxm : x ∈ (Op.makeSlice t x y).operands := by simp [Op.operands]
  have hym : y ∈ (Op.makeSlice t x y).operands := by simp [Op.operands]
  have hxe := hr.eval x (ok_ops hok hxm)
  have hye := hr.eval y (ok_ops hok hym)
  rw [← h1 x hxm, hx] at hxe
  rw [← h1 y hym, hy] at hye
  have ex : a.eval x = .int .i64 n := by cases hq : a.eval x <;> rw [hq] at hxe <;> cases hxe <;> rfl
  have ey : a.eval y = .int .i64 c := by cases hq : a.eval y <;> rw [hq] at hye <;> cases hye <;> rfl
  obtain ⟨f, hf', hfs, hfb, z, hz, hzl⟩ := (ht.at hj).info
  have hzc : z.cells = j.zero.toArray := by rw [← hzl]
  have emk : madeCells j.zero.toArray (c.toNat * j.size) = (List.replicate c.toNat (Value.int .u8 0)).toArray := by
    apply Array.toList_inj.1
    have := made_take (zs := j.zero) (sz := 1) (n := c.toNat) (N := c.toNat * 1) (by rw [hjz]; rfl) (Nat.le_refl _)
    rw [hjs]
    rw [List.take_of_length_le (by simp [madeCells])] at this
    rw [this, hjz]
    clear this
    induction c.toNat with
    | zero => rfl
    | succ q ih => rw [List.replicate_succ, List.flatten_cons, ih]; simp [List.replicate_succ]
  have hrun : (execOp a.eval { dst := some d, op := .makeSlice t x y, type := ty, pos, after, guard := g' }).run cc.P w = .ok (.value (.slice (some ⟨w.heap.size, 0, none⟩) n.toNat c.toNat)) (w.alloc (.cells (List.replicate c.toNat (Value.int .u8 0)).toArray e)) := by
    have := run_make (P := cc.P) w t e f z (by rw [(ht.at hi).und, hd]) hf' hz .i64 .i64 n c h0.1 h0.2.1 (by rw [hfb]; have : (j.bytes : Int) * c ≤ 1 * c := Int.mul_le_mul_of_nonneg_right (by omega) (by omega); omega) (by omega)
    rw [hzc, hfs, emk] at this
    simp only [execOp, ex, ey, Sem.run_bind, this, Result.andThen_ok, Sem.run_pure]
  have hrep : RepL Γ m (List.replicate c.toNat (Value.int .u8 0)) (cellsB (List.replicate c.toNat 0)) := ⟨by simp [cellsB], fun q v x hv hx => by
    rw [List.getElem?_replicate] at hv
    simp only [cellsB, List.map_replicate, List.getElem?_replicate] at hx
    split at hv
    · rename_i hq
      rw [if_pos hq] at hx
      cases hv; cases hx; exact .i
    · cases hv⟩
  have hfl : (cellsB (List.replicate c.toNat 0)).all AV.flat = true := by rw [← BS_flat]; exact flatB _
  have hlf : (cellsB (List.replicate c.toNat 0)).all AV.leaf = true := by simp [cellsB, AV.leaf]
  have hrf : ∀ (cs : List AV), cs.all AV.flat = true → AV.refs.refsL cs = [] := fun cs => by
    induction cs with
    | nil => intro _; rfl
    | cons q cs ih =>
      intro h
      rw [List.all_cons, Bool.and_eq_true] at h
      rw [AV.refs.refsL, ih h.2]
      cases q <;> simp [AV.flat] at h <;> rfl
  obtain ⟨m', q1, q2⟩ := hr.box (d := d) hfd.1 hfd.2.1 hfd.2.2 e hrep hlf (by rw [hrf _ hfl]; simp)
  unfold Oper.wp
  rw [hrun]
  exact q1.app1 (st := st') (B := [(d, .bx (cellsB (List.replicate c.toNat 0)))]) (.bsc q2 ⟨by omega, by simp only [maxLen]; omega⟩)
theorem AO.mkB {n c : Int} (hi : look tab t = some i) (hd : i.d = .slice e) (hj : look tab e = some j) (hjs : j.size = 1) (hjz : j.zero = [.int .u8 0]) (hjb : j.bytes ≤ 1) (hx : (⟨T, B⟩ : St).val x = .i .i64 n) (hy : (⟨T, B⟩ : St).val y = .i .i64 c) (h0 : 0 ≤ n ∧ n ≤ c ∧ c ≤ 1000000) (hf : (⟨T, B⟩ : St).freeB d = true)
    (h : AO F ops k l ⟨(d, .bsc d 0 n.toNat c.toNat 1) :: T, (d, .bx (cellsB (List.replicate c.toNat 0))) :: B⟩) : AO F ops k (⟨some d, .makeSlice t x y, ty, pos, after, none⟩ :: l) ⟨T, B⟩ :=
  AO.step (e := ⟨[(d, .bsc d 0 n.toNat c.toNat 1)], [(d, .bx (cellsB (List.replicate c.toNat 0)))], [d]⟩) rfl (.ext (mk_ext hi hd hj hjs hjz hjb hx hy h0)) (fun e he => by simp at he; subst he; exact St.freeB_ok hf) h
theorem run_copy_to {P : Program} (w w' : World) (dT sT ty elem : TypeId) (dp : Addr) (dLen dCap : Nat) (a : Addr) (sLen sCap : Nat) (cs : List Value) (hu : P.underlying dT = some (.slice elem)) (hs : (P.info? elem).map (·.size) = some 1) (hn : cs.length = Nat.min sLen dLen)
    (hsrc : ∀ j v, cs[j]? = some v → w.cell? (a.add j) = some v) (hst : (storeCells dp cs).run P w = .ok () w') :
    (Builtin.copy_ #[dT, sT] ty #[.slice (some dp) dLen dCap, .slice (some a) sLen sCap]).run P w = .ok (goInt cs.length) w' := by
  have hl := run_loadCells_list (P := P) w a cs hsrc
  cases hq : P.info? elem with
  | none => simp [hq] at hs
  | some i =>
    have hi : i.size = 1 := by simpa [hq] using hs
    simp [Builtin.copy_, run_underlying hu, Builtin.lenOf, Builtin.firstCells, sizeOf, typeInfo, hq, hi, ← hn, hl, hst]
theorem copy_ext {g n cap : Nat} {cs : List AV} {b : List UInt8} (hi : look tab t = some i) (hd : i.d = .slice e) (hj : look tab e = some j) (hjs : j.size = 1) (hx : st.val x = .bsc g 0 n cap 1) (hg : st.ob g = .bx cs) (hy : st.val y = .sh 1 (BS b)) (hn : n = b.length) (hc : b.length ≤ cs.length) :
    ExtOk P tab st ⟨some d, .call { callee := .builtin .copy, args := #[x, y], argTypes := #[t, u] }, ty, pos, after, none⟩ ⟨[(d, .i .i64 b.length)], [(g, .bx (splice cs 0 (cellsB b)))], []⟩ := by
  intro g' st' h1 h2 cc Γ m a w hP ht hr hok hf Q
  have hxm : x ∈ (Op.call { callee := .builtin .copy, args := #[x, y], argTypes := #[t, u] }).operands := by simp [Op.operands, Call.operands]
  have hym : y ∈ (Op.call { callee := .builtin .copy, args := #[x, y], argTypes := #[t, u] }).operands := by simp [Op.operands, Call.operands]
  have hxe := hr.eval x (ok_ops hok hxm)
  have hye := hr.eval y (ok_ops hok hym)
  rw [← h1 x hxm, hx] at hxe
  rw [← h1 y hym, hy] at hye
  have ho1 : st'.ob g = .bx cs := by rw [← h2 g (tag_op hxm (by rw [hx]; simp [AV.refs])), hg]
  have hu : cc.P.underlying t = some (.slice e) := by rw [(ht.at hi).und, hd]
  have hsz : (cc.P.info? e).map (·.size) = some 1 := by
    obtain ⟨f, hf', hfs, _⟩ := (ht.at hj).info
    rw [hf']; simp [hfs, hjs]
  generalize hvx : a.eval x = vx at hxe
  generalize hvy : a.eval y = vy at hye
  cases hxe with
  | bsc hth hb =>
    rename_i gb
    have zero : b = [] → ∀ sp sLen sCap, vy = .slice sp sLen sCap → sLen = 0 → Oper.wp cc.P ⟨some d, .call { callee := .builtin .copy, args := #[x, y], argTypes := #[t, u] }, ty, pos, after, g'⟩ a w (fun a' w' => RR cc (st'.app ⟨[(d, .i .i64 b.length)], [(g, .bx (splice cs 0 (cellsB b)))], []⟩) a' w') Q := fun hb0 sp sLen sCap hv hs0 => by
      subst hb0; subst hs0
      have hrun := run_copy_none (P := cc.P) w t u ty e (some ⟨gb, 0, none⟩) sp n cap 0 sCap hu hsz (by simp)
      have es : splice cs 0 (cellsB []) = cs := by simp [splice, cellsB]
      unfold Oper.wp
      rw [hv] at hvy
      simp [execOp, resolve, invoke, builtin, hvx, hvy, hrun, Result.andThen]
      rw [es]
      have hsame : RRW cc Γ m ⟨st'.T, (g, .bx cs) :: st'.B⟩ a w := RRW.same (st := st') (st' := ⟨st'.T, (g, .bx cs) :: st'.B⟩) rfl (fun s => by
        rw [ob_cons]; split
        · rename_i q; subst q; exact ho1.symm
        · rfl) hr
      exact hsame.app1 (st := st') (B := [(g, .bx cs)]) .i
    rcases hye.sh_inv with ⟨a', ha, hrows⟩ | ⟨ad, scap, vs, ha, h3, h4, h5, h6, h7, h8⟩
    · exact zero (by simpa [BS] using hrows) _ _ _ ha rfl
    · subst ha
      have lc : (cellsB b).length = b.length := by simp [cellsB]
      rw [BS_flat] at h8
      have q5 : vs.length = (cellsB b).length := h8.1
      have hrl : RepL Γ m vs (cellsB b) := ⟨q5, fun j v c hv hc => (h8.2 j v c hv hc).flat (by
        have hfl : (cellsB b).all AV.flat = true := by rw [← BS_flat]; exact flatB _
        exact List.all_eq_true.1 hfl c (List.mem_of_getElem? hc))⟩
      obtain ⟨w', k1, k2⟩ := hr.store (t := g) ho1 hth (off := 0) hrl (by simp [cellsB, AV.leaf]) (by rw [lc]; omega)
      have hrun := run_copy_to (P := cc.P) w w' t u ty e ⟨gb, 0, none⟩ n cap ad (BS b).length scap vs hu hsz (by rw [q5, lc, BS_len, hn]; simp) (fun j v hv => hr.gok _ _ (h6 j v hv)) k1
      unfold Oper.wp
      have hexec : (execOp a.eval { dst := some d, op := .call { callee := .builtin .copy, args := #[x, y], argTypes := #[t, u] }, type := ty, pos, after, guard := g' }).run cc.P w = .ok (.value (goInt vs.length)) w' := by
        simp [execOp, resolve, invoke, builtin, hvx, hvy, hrun, Result.andThen]
      rw [hexec]
      have e1 : vs.length = b.length := by rw [q5, lc]
      rw [e1]
      exact k2.app1 (st := st') (B := [(g, .bx (splice cs 0 (cellsB b)))]) .i
theorem AO.copyB {g n cap : Nat} {cs : List AV} {b : List UInt8} (hi : look tab t = some i) (hd : i.d = .slice e) (hj : look tab e = some j) (hjs : j.size = 1) (hx : (⟨T, B⟩ : St).val x = .bsc g 0 n cap 1) (hg : (⟨T, B⟩ : St).ob g = .bx cs) (hy : (⟨T, B⟩ : St).val y = .sh 1 (BS b)) (hn : n = b.length) (hc : b.length ≤ cs.length)
    (h : AO F ops k l ⟨(d, .i .i64 b.length) :: T, (g, .bx (splice cs 0 (cellsB b))) :: B⟩) : AO F ops k (⟨some d, .call { callee := .builtin .copy, args := #[x, y], argTypes := #[t, u] }, ty, pos, after, none⟩ :: l) ⟨T, B⟩ :=
  AO.step (e := ⟨[(d, .i .i64 b.length)], [(g, .bx (splice cs 0 (cellsB b)))], []⟩) rfl (.ext (copy_ext hi hd hj hjs hx hg hy hn hc)) (fun e he => by simp at he) h
theorem slC_ext {sz : Nat} {rows more : List (List AV)} {q : Int} (hi : look tab t = some i) (hd : i.d = .slice e) (hj : look tab e = some j) (hjs : j.size = sz) (hx : st.val x = .shc sz rows more) (hy : st.val y = .i .i64 q) (hq : 0 ≤ q ∧ q ≤ ((rows ++ more).length : Int)) :
    ExtOk P tab st ⟨some d, .slice t x none (some y) none, ty, pos, after, none⟩ (putEff (some d) (.sh sz ((rows ++ more).take q.toNat))) :=
  ext_val (o := ⟨some d, .slice t x none (some y) none, ty, pos, after, none⟩) fun st' h1 h2 c Γ m a w hP ht hr hok g' => by
    have hxm : x ∈ (Op.slice t x none (some y) none).operands := by simp [Op.operands]
    have hym : y ∈ (Op.slice t x none (some y) none).operands := by simp [Op.operands]
    have hxe := hr.eval x (ok_ops hok hxm)
    have hye := hr.eval y (ok_ops hok hym)
    rw [← h1 x hxm, hx] at hxe
    rw [← h1 y hym, hy] at hye
    obtain ⟨ad, n, cap, hv, hall⟩ := hxe.shc_all
    have ey : a.eval y = .int .i64 q := by cases hq : a.eval y <;> rw [hq] at hye <;> cases hye <;> rfl
    have hlen : cap = (rows ++ more).length := by
      rcases hall.sh_inv with ⟨a', ha, hrows⟩ | ⟨a', cap', vs, ha, h3, h4, h5, h6, h7, h8⟩
      · cases ha; rw [hrows]; rfl
      · cases ha; rfl
    have hu := (ht.at hi).run_und w
    rw [hd] at hu
    have hs := (ht.at hj).run_size w
    obtain ⟨a2, len2, cap2, e2, e3, e4, e5⟩ := sh_piece hall 0 q.toNat (Nat.zero_le _) (by omega)
    cases e2
    refine ⟨_, ?_, e5⟩
    simp [execOp, hv, ey, Instr.sliceAt, Instr.slice, hu, hs, Instr.sliceBounds, sliceBound_run (w := w) (P := c.P) (k := .i64) (code := .sliceAcap) hq.1 (show q ≤ (cap : Int) by rw [hlen]; exact hq.2), hjs]
theorem AO.slC {sz : Nat} {rows more : List (List AV)} {q : Int} (hi : look tab t = some i) (hd : i.d = .slice e) (hj : look tab e = some j) (hjs : j.size = sz) (hx : (⟨T, B⟩ : St).val x = .shc sz rows more) (hy : (⟨T, B⟩ : St).val y = .i .i64 q) (hq : 0 ≤ q ∧ q ≤ ((rows ++ more).length : Int))
    (h : AO F ops k l ⟨(d, .sh sz ((rows ++ more).take q.toNat)) :: T, B⟩) : AO F ops k (⟨some d, .slice t x none (some y) none, ty, pos, after, none⟩ :: l) ⟨T, B⟩ :=
  AO.step (e := ⟨[(d, .sh sz ((rows ++ more).take q.toNat))], [], []⟩) rfl (.ext (slC_ext hi hd hj hjs hx hy hq)) (fun e he => by simp at he) h
end
end Go.Proofs.Ytocppeifkjdeiaa.Mv
