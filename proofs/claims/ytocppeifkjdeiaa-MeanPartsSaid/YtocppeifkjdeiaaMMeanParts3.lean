/- What the statement MeanParts needs, part 3. Under no condition. -/
import Derived.Laws.BytesArg
import Derived.Laws.Pointers
import Derived.Test.YtocppeifkjdeiaaMMeanParts2
/- A machine for proofs, part F: what an operation that only reads answers, for each of them. Under no condition. -/
namespace Go.Proofs.Ytocppeifkjdeiaa.Mv
open Go
set_option linter.unusedSimpArgs false
set_option linter.unusedVariables false

theorem loadCells_run {P : Program} {w : World} {a : Addr} {vs : List Value} (h : ∀ (j : Nat) (v : Value), vs[j]? = some v → w.cell? (a.add j) = some v) {n : Nat} (hn : n ≤ vs.length) : (loadCells a n).run P w = .ok (vs.take n).toArray w := by
  have := run_loadCells_list (P := P) w a (vs.take n) (fun j v hv => by
    rw [List.getElem?_take] at hv
    split at hv
    · exact h j v hv
    · cases hv)
  simpa [Nat.min_eq_left hn] using this

theorem loadAt_run {P : Program} {tab : Tab} (ht : TabOk P tab) {w : World} {Γ m} {a : Addr} {vs : List Value} {cs : List AV} (h : ∀ (j : Nat) (v : Value), vs[j]? = some v → w.cell? (a.add j) = some v) (hr : RepL Γ m vs cs) {t : TypeId} {i : TyI} (hl : look tab t = some i) {c : AV} (hc : part i cs = some c) :
    ∃ val, (Instr.loadAt t (.pointer (some a))).run P w = .ok val w ∧ Rep Γ m val c := by
  unfold part at hc
  split at hc
  · rename_i ha
    split at hc <;> cases hc
    rename_i hn
    refine ⟨.agg (vs.take i.size).toArray, ?_, (hr.take i.size).agg⟩
    simp [Instr.loadAt, Instr.sureAddr, loadVar, (ht.at hl).run_agg w, ha, (ht.at hl).run_size w, loadCells_run h (by rw [hr.1]; exact hn)]
  · rename_i ha
    obtain ⟨v, hv, hr'⟩ := hr.get (j := 0) (by rw [List.head?_eq_getElem?] at hc; exact hc)
    have := h 0 v hv
    simp only [Addr.add, if_true] at this
    exact ⟨v, by simp [Instr.loadAt, Instr.sureAddr, loadVar, (ht.at hl).run_agg w, ha, this], hr'⟩

def byteOf' (v : Value) : UInt8 := match v with | .int .u8 n => UInt8.ofNat n.toNat | _ => 0
theorem bytes_run {P : Program} {w : World} {a : Addr} {len cap : Nat} {vs : List Value} (h : ∀ (j : Nat) (v : Value), vs[j]? = some v → w.cell? (a.add j) = some v) (hn : vs.length = len) (hv : ∀ v ∈ vs, ∃ n, v = .int .u8 n) :
    (Conv.bytesToString (.slice (some a) len cap)).run P w = .ok (.string ⟨(vs.map byteOf').toArray⟩) w := by
  have hl := loadCells_run (P := P) h (n := len) (by omega)
  rw [List.take_of_length_le (by omega)] at hl
  obtain ⟨ns, hns⟩ : ∃ ns : List Int, vs = ns.map (Value.int .u8) := by
    clear hl h hn
    induction vs with
    | nil => exact ⟨[], rfl⟩
    | cons v vs ih =>
      obtain ⟨n, rfl⟩ := hv v (by simp)
      obtain ⟨ns, rfl⟩ := ih fun v h => hv v (by simp [h])
      exact ⟨n :: ns, rfl⟩
  subst hns
  have := run_bytesToString (P := P) w a len cap ns (by simpa using hl)
  rw [this, foldl_push_bytes]
  congr 3
  simp [byteOf', Function.comp_def]

theorem toBytes_rows {Γ m} : ∀ {rows : List (List AV)} {l : List UInt8}, toBytes rows = some l → (∀ r ∈ rows, r.length = 1) → ∀ {vs : List Value}, RepL Γ m vs rows.flatten → vs.map byteOf' = l ∧ ∀ v ∈ vs, ∃ n, v = .int .u8 n
  | [], l, h, _, vs, hr => by
    simp [toBytes] at h; subst h
    have : vs = [] := List.eq_nil_of_length_eq_zero (by rw [hr.1]; rfl)
    subst this; simp
  | r :: rs, l, h, h1, vs, hr => by
    simp only [toBytes] at h
    split at h
    · rename_i x xs hx hxs
      cases h
      unfold toByte at hx
      split at hx
      · rename_i n
        cases hx
        cases vs with
        | nil => have := hr.1; simp at this
        | cons v vs =>
          have hv := hr.2 0 v (.i .u8 n) rfl rfl
          cases hv
          obtain ⟨h2, h3⟩ := toBytes_rows hxs (fun r hr => h1 r (by simp [hr])) (vs := vs) (by simpa using hr.drop 1)
          exact ⟨by simp [h2, byteOf'], fun v hv => by
            cases hv with
            | head => exact ⟨n, rfl⟩
            | tail _ hv => exact h3 v hv⟩
      · cases hx
    · cases h


theorem conv_run {P : Program} {tab : Tab} (ht : TabOk P tab) {w : World} {Γ m} (hg : ∀ ad v, Γ ad = some v → w.cell? ad = some v) {src dst : TypeId} {x c : AV} {v : Value} (hv : Rep Γ m v x) (h : conv tab src dst x = some c) :
    ∃ val, (convert src dst v).run P w = .ok val w ∧ Rep Γ m val c := by
  unfold conv at h
  split at h
  · rename_i i j hi hj
    have hui := (ht.at hi).run_und w
    have huj := (ht.at hj).run_und w
    have str : ∀ sz rows e ie, sz = 1 → Rep Γ m v (.sh sz rows) → i.d = .slice e → j.d = .string → look tab e = some ie → ie.d = .int .u8 → ∀ l, toBytes rows = some l → ∃ val, (convert src dst v).run P w = .ok val w ∧ Rep Γ m val (.s l) := by
      intro sz rows e ie hsz hr h1 h2 h3 h4 l hl
      subst hsz
      rw [h1] at hui; rw [h2] at huj
      have hue := (ht.at h3).run_und w
      rw [h4] at hue
      rcases hr.sh_inv with ⟨a, rfl, rfl⟩ | ⟨a, cap, vs, rfl, h5, h6, h7, h8, h9, h10⟩
      · simp [toBytes] at hl; subst hl
        refine ⟨.string ⟨([] : List UInt8).toArray⟩, ?_, .s⟩
        cases a with
        | none => simp [convert, hui, huj, hue, Conv.bytesToString]; rfl
        | some a =>
          have := bytes_run (P := P) (w := w) (a := a) (len := 0) (cap := 0) (vs := []) (by simp) rfl (by simp)
          simp [convert, hui, huj, hue, this]
      · obtain ⟨e1, e2⟩ := toBytes_rows hl h7 h10
        have hlen : vs.length = rows.length := by rw [h10.1, flat_len h7]; omega
        have := bytes_run (P := P) (w := w) (a := a) (len := rows.length) (cap := cap) (vs := vs) (fun j v hv => hg _ _ (h8 j v hv)) hlen e2
        rw [e1] at this
        exact ⟨.string ⟨l.toArray⟩, by simp [convert, hui, huj, hue, this], .s⟩
    split at h
    · rename_i k k' n h1 h2
      cases h
      cases hv
      rw [h1] at hui; rw [h2] at huj
      exact ⟨_, by simp [convert, hui, huj, Conv.intToInt], .i⟩
    · rename_i e rows h1 h2
      split at h
      · rename_i ie hie
        split at h
        · rename_i h4
          cases hl : toBytes rows with
          | none => rw [hl] at h; cases h
          | some l => rw [hl] at h; cases h; exact str 1 rows e ie rfl hv h1 h2 hie h4 l hl
        · cases h
      · cases h
    · rename_i e t' e' rows h1 h2
      split at h
      · rename_i ie hie
        split at h
        · rename_i h4
          cases hl : toBytes rows with
          | none => rw [hl] at h; cases h
          | some l => rw [hl] at h; cases h; cases hv with | gr hv _ => exact str 1 rows e ie rfl hv h1 h2 hie h4 l hl
        · cases h
      · cases h
    · rename_i e h1 h2
      split at h
      · rename_i ie hie
        split at h
        · rename_i h4
          cases h
          cases hv
          exact str 1 [] e ie rfl .sh0 h1 h2 hie h4 [] rfl
        · cases h
      · cases h
    · cases h
  · cases h

theorem bin_run {P : Program} {tab : Tab} (ht : TabOk P tab) {w : World} {Γ m} {op : BinOp} {t : TypeId} {x y c : AV} {u v : Value} (hu : Rep Γ m u x) (hv : Rep Γ m v y) (h : bin tab op t x y = some c) (ox oy : Operand) :
    ∃ val, (do eqGuard op t ox oy u v; binOp op t u v : Sem Value).run P w = .ok val w ∧ Rep Γ m val c := by
  unfold bin at h
  split at h
  · cases hu; cases hv
    split at h
    · rename_i hk
      obtain ⟨val, h1, h2⟩ := intBin_run (P := P) (w := w) (t := t) h (Γ := Γ) (m := m) _ hk
      refine ⟨val, ?_, h2⟩
      have : ∀ k k' a b, (eqGuard op t ox oy (.int k a) (.int k' b)).run P w = .ok () w := fun _ _ _ _ => by cases op <;> simp [eqGuard]
      simp [this, h1]
    · cases h
  · cases hu; cases hv
    obtain ⟨val, h1, h2⟩ := strBin_run (P := P) (w := w) (t := t) h (Γ := Γ) (m := m)
    refine ⟨val, ?_, h2⟩
    have : ∀ a b, (eqGuard op t ox oy (.string a) (.string b)).run P w = .ok () w := fun _ _ => by cases op <;> simp [eqGuard]
    simp [this, h1]
  · cases hu; cases hv
    rename_i p q
    have hgd : (eqGuard op t ox oy (.bool p) (.bool q)).run P w = .ok () w := by cases op <;> simp [eqGuard]
    split at h
    · rename_i i hi
      have hd := (ht.at hi).und
      split at h
      · rename_i e1
        cases h
        rw [e1] at hd
        exact ⟨.bool (p == q), by rw [Sem.run_bind, hgd]; simp [binOp, run_equal_bool w t p q hd], .b⟩
      · rename_i e1
        cases h
        rw [e1] at hd
        exact ⟨.bool (!(p == q)), by rw [Sem.run_bind, hgd]; simp [binOp, run_equal_bool w t p q hd], .b⟩
      · cases h
    · cases h
  · rename_i xs ys
    obtain ⟨us, rfl, hu'⟩ := hu.agg_inv
    obtain ⟨vs, rfl, hv'⟩ := hv.agg_inv
    split at h
    · rename_i i hi
      have hd := (ht.at hi).und
      split at h
      · rename_i fs e1
        rw [e1] at hd
        split at h
        · rename_i hok
          have hff : P.fieldsOf t = fs := by simp [Program.fieldsOf, hd]
          have heq : ∀ p, eqFlds tab xs ys 40 fs.toList = some p → (Op.equalIn 10000 t (.agg us.toArray) (.agg vs.toArray)).run P w = .ok p w := fun p hp => by
            rw [run_equalIn_agg w 9999 t _ _ (by rw [hd, hff]) ((ht.at hi).eq hok).1, hff]
            exact eqFlds_run ht 40 fs.toList xs ys us vs p w 9999 (by omega) hu' hv' hp
          have hgd := run_eqGuard_agg (P := P) w op t ox oy us.toArray vs.toArray ((ht.at hi).eq hok).2
          split at h
          · cases hp : eqFlds tab xs ys 40 fs.toList with
            | none => rw [hp] at h; cases h
            | some p => rw [hp] at h; cases h; exact ⟨.bool p, by rw [Sem.run_bind, hgd]; simp only [Result.andThen_ok, run_eql_struct, heq p hp], .b⟩
          · cases hp : eqFlds tab xs ys 40 fs.toList with
            | none => rw [hp] at h; cases h
            | some p => rw [hp] at h; cases h; exact ⟨.bool (!p), by rw [Sem.run_bind, hgd]; simp only [Result.andThen_ok, run_neq_struct, heq p hp], .b⟩
          · cases h
        · cases h
      · cases h
    · cases h
  · cases hu
    cases hv
    split at h
    · rename_i i hi
      have hd := (ht.at hi).und
      split at h
      · rename_i e e1
        cases h
        rw [e1] at hd
        have hp : P.underlying t = some (.pointer (P.pointee t)) := by rw [hd]; simp [Program.pointee, hd]
        refine ⟨.bool true, ?_, .b⟩
        simp [eqGuard, binOp, run_equal_pointer_nil w t _ hp]
      · rename_i e e1
        cases h
        rw [e1] at hd
        have hp : P.underlying t = some (.pointer (P.pointee t)) := by rw [hd]; simp [Program.pointee, hd]
        refine ⟨.bool false, ?_, .b⟩
        simp [eqGuard, binOp, run_equal_pointer_nil w t _ hp]
      · cases h
    · cases h
  · cases hv
    split at h
    · rename_i i hi
      have hd := (ht.at hi).und
      split at h
      · rename_i e e1
        cases h
        rw [e1] at hd
        have hp : P.underlying t = some (.pointer (P.pointee t)) := by rw [hd]; simp [Program.pointee, hd]
        cases hu
        refine ⟨.bool false, ?_, .b⟩
        simp [eqGuard, binOp, run_equal_pointer_nil w t _ hp]
      · rename_i e e1
        cases h
        rw [e1] at hd
        have hp : P.underlying t = some (.pointer (P.pointee t)) := by rw [hd]; simp [Program.pointee, hd]
        cases hu
        refine ⟨.bool true, ?_, .b⟩
        simp [eqGuard, binOp, run_equal_pointer_nil w t _ hp]
      · cases h
    · cases h
  · cases hv
    split at h
    · rename_i i hi
      have hd := (ht.at hi).und
      split at h
      · rename_i e e1
        cases h
        rw [e1] at hd
        have hp : P.underlying t = some (.pointer (P.pointee t)) := by rw [hd]; simp [Program.pointee, hd]
        cases hu
        refine ⟨.bool false, ?_, .b⟩
        simp [eqGuard, binOp, run_equal_pointer_nil w t _ hp]
      · rename_i e e1
        cases h
        rw [e1] at hd
        have hp : P.underlying t = some (.pointer (P.pointee t)) := by rw [hd]; simp [Program.pointee, hd]
        cases hu
        refine ⟨.bool true, ?_, .b⟩
        simp [eqGuard, binOp, run_equal_pointer_nil w t _ hp]
      · cases h
    · cases h
  · cases h

end Go.Proofs.Ytocppeifkjdeiaa.Mv

/- A machine for proofs, part G: each operation that only reads, asL the machine runs it. Under no condition. -/
namespace Go.Proofs.Ytocppeifkjdeiaa.Mv
open Go
set_option linter.unusedSimpArgs false
set_option linter.unusedVariables false

theorem un_run {P : Program} {w : World} {Γ m} {op : UnOp} {x c : AV} {v : Value} (hv : Rep Γ m v x) (h : un op x = some c) : ∃ val, (Op.unary op v).run P w = .ok val w ∧ Rep Γ m val c := by
  unfold un at h
  split at h
  · cases hv
    split at h <;> cases h
    · exact ⟨_, by simp [Op.unary, Op.intArith], .i⟩
    · refine ⟨_, ?_, .i⟩
      simp only [Op.unary, intBits_xor]
      exact Sem.run_pure _ _ _
  · cases hv
    split at h <;> cases h
    exact ⟨_, by simp [Op.unary], .b⟩
  · cases h

theorem min2_run {P : Program} {w : World} {Γ m} {x y c : AV} {u v : Value} (hu : Rep Γ m u x) (hv : Rep Γ m v y) (h : min2A x y = some c) : ∃ val, (Builtin.min2 u v).run P w = .ok val w ∧ Rep Γ m val c := by
  unfold min2A at h
  split at h
  · split at h <;> cases h
    rename_i e; subst e
    cases hu; cases hv
    exact ⟨_, by simp [Builtin.min2], .i⟩
  · cases h
    cases hu; cases hv
    rename_i a b
    refine ⟨.string ⟨(if (blt a b || a == b) = true then a else b).toArray⟩, ?_, .s⟩
    simp only [Builtin.min2, Op.stringOp, Sem.run_bind, Sem.run_pure, Result.andThen_ok, asBool, ByteArray.toList_eq]
    congr 2
    split <;> rfl
  · cases h
theorem max2_run {P : Program} {w : World} {Γ m} {x y c : AV} {u v : Value} (hu : Rep Γ m u x) (hv : Rep Γ m v y) (h : max2A x y = some c) : ∃ val, (Builtin.max2 u v).run P w = .ok val w ∧ Rep Γ m val c := by
  unfold max2A at h
  split at h
  · split at h <;> cases h
    rename_i e; subst e
    cases hu; cases hv
    exact ⟨_, by simp [Builtin.max2], .i⟩
  · cases h
    cases hu; cases hv
    rename_i a b
    refine ⟨.string ⟨(if (!blt a b) = true then a else b).toArray⟩, ?_, .s⟩
    simp only [Builtin.max2, Op.stringOp, Sem.run_bind, Sem.run_pure, Result.andThen_ok, asBool, ByteArray.toList_eq]
    congr 2
    split <;> rfl
  · cases h

theorem field_at {P : Program} {tab : Tab} (ht : TabOk P tab) {t : TypeId} {f off : Nat} {j : TyI} (h : fldOf tab t f = some (off, j)) : ∃ fs g, P.underlying t = some (.struct fs) ∧ fs[f]? = some g ∧ look tab g.type = some j ∧ g.offset = off ∧ j.size ≠ 0 := by
  unfold fldOf at h
  split at h
  · rename_i i hi
    split at h
    · rename_i fs hd
      split at h
      · rename_i g hg
        split at h
        · rename_i j' hj
          split at h
          · cases h
          · rename_i hs
            cases h
            exact ⟨fs, g, by rw [(ht.at hi).und, hd], hg, hj, rfl, hs⟩
        · cases h
      · cases h
    · cases h
  · cases h

theorem Bd.of {c Γ m st a w} (h : RRW c Γ m st a w) (x : Option Operand) (hx : ∀ y, x = some y → okOp c.N y = true) : Bd Γ m (x.map st.val) (x.map a.eval) := by
  cases x with
  | none => exact .no
  | some y => exact .yes (h.eval y (hx y rfl))

theorem toCells_vals {Γ m} : ∀ {cs : List AV} {vs : List Value} {l : List UInt8}, toCells cs = some l → RepL Γ m vs cs → vs.map byteOf' = l ∧ ∀ v ∈ vs, ∃ n, v = .int .u8 n
  | [], vs, l, hl, hr => toBytes_rows (rows := []) hl (by simp) hr
  | c :: cs, [], l, hl, hr => by have := hr.1; simp at this
  | c :: cs, v :: vs, l, hl, hr => by
    simp only [toCells] at hl
    split at hl
    · rename_i x xs hx hxs
      cases hl
      obtain ⟨h1, h2⟩ := toCells_vals hxs (vs := vs) (by simpa using hr.drop 1)
      obtain ⟨h3, h4⟩ := toBytes_rows (rows := [[c]]) (l := [x]) (by simp [toBytes, hx]) (by simp) (vs := [v]) ⟨rfl, fun j u d hu hd => by
        cases j with
        | zero => simp at hu hd; subst hu; subst hd; exact hr.2 0 v c rfl rfl
        | succ j => simp at hu⟩
      exact ⟨by simp at h3; simp [h1, h3], fun u hu => by
        cases hu with
        | head => exact h4 v (by simp)
        | tail _ hu => exact h2 u hu⟩
    · cases hl
theorem pop_sound {c Γ m st a w} {tab : Tab} (ht : TabOk c.P tab) (h : RRW c Γ m st a w) {o : Oper} {v : AV} (hok : o.op.operands.all (okOp c.N) = true) (hp : pop tab st o.op = some v) :
    ∃ val, (execOp a.eval o).run c.P w = .ok (.value val) w ∧ Rep Γ m val v := by
  obtain ⟨dst, op, type, pos, after, guard⟩ := o
  simp only at hok hp
  have ev : ∀ x, x ∈ op.operands → Rep Γ m (a.eval x) (st.val x) := fun x hx => h.eval x (by
    rw [Array.all_eq_true_iff_forall_mem] at hok; exact hok x hx)
  cases op with
  | move x => simp only [pop] at hp; cases hp; exact ⟨_, rfl, ev x (by simp [Op.operands])⟩
  | assign x => simp only [pop] at hp; cases hp; exact ⟨_, rfl, ev x (by simp [Op.operands])⟩
  | pick x y z =>
    simp only [pop] at hp
    split at hp <;> cases hp
    rename_i t e
    have h1 := ev x (by simp [Op.operands])
    have h2 := ev y (by simp [Op.operands])
    have h3 := ev z (by simp [Op.operands])
    rw [e] at h1
    cases h1e : a.eval x with
    | bool t' =>
      rw [h1e] at h1; cases h1
      cases t
      · exact ⟨_, by simp [execOp, h1e, asBool], h3⟩
      · exact ⟨_, by simp [execOp, h1e, asBool], h2⟩
    | _ => rw [h1e] at h1; cases h1
  | binOp op t x y t' =>
    simp only [pop] at hp
    obtain ⟨val, h1, h2⟩ := bin_run (w := w) ht (ev x (by simp [Op.operands])) (ev y (by simp [Op.operands])) hp x y
    exact ⟨val, by simp only [execOp, Sem.run_bind] at h1 ⊢; rw [h1]; rfl, h2⟩
  | unOp op t x =>
    simp only [pop] at hp
    obtain ⟨val, h1, h2⟩ := un_run (P := c.P) (w := w) (ev x (by simp [Op.operands])) hp
    exact ⟨val, by simp [execOp, h1], h2⟩
  | convert s d x =>
    simp only [pop] at hp
    have hx := ev x (by simp [Op.operands])
    split at hp
    · rename_i t off n e
      rw [e] at hx
      split at hp
      · rename_i i j hi hj
        split at hp
        · rename_i e' hd1 hd2
          split at hp
          · rename_i ie cs hie hob
            split at hp
            · rename_i hd3
              split at hp
              · rename_i hle
                have hb := h.obs t
                rw [hob] at hb
                obtain ⟨k, cc, E, q1, q2, q3, q4, q5, q6⟩ := hb
                cases hl : toCells ((cs.drop off).take n) with
                | none => rw [hl] at hp; cases hp
                | some l =>
                  rw [hl] at hp; cases hp
                  cases h1e : a.eval x with
                  | slice p len cap =>
                    rw [h1e] at hx
                    cases hx with
                    | bsl hth hn =>
                      rw [q1] at hth; cases hth
                      have hr : RepL Γ m (((cc.toList.take cs.length).drop off).take n) ((cs.drop off).take n) := (RepL.drop ⟨by have := q3.2; simp; omega, fun j v d hv hd => q4 j v d (by
                        rw [List.getElem?_take] at hv
                        split at hv
                        · simpa using hv
                        · cases hv) hd⟩ off).take n
                      obtain ⟨e1, e2⟩ := toCells_vals hl hr
                      have hlen : (((cc.toList.take cs.length).drop off).take n).length = n := by rw [hr.1]; simp; omega
                      have hrun := bytes_run (P := c.P) (w := w) (a := ⟨k, off, none⟩) (len := n) (cap := cap) (vs := ((cc.toList.take cs.length).drop off).take n) (fun j v hv => by
                        rw [add_lit, cell_of_row w k _ cc E.1 E.2 q2]
                        rw [List.getElem?_take, List.getElem?_drop, List.getElem?_take] at hv
                        split at hv
                        · split at hv
                          · simpa using hv
                          · cases hv
                        · cases hv) hlen e2
                      rw [e1] at hrun
                      have hui := (ht.at hi).run_und w
                      have huj := (ht.at hj).run_und w
                      have hue := (ht.at hie).run_und w
                      rw [hd1] at hui; rw [hd2] at huj; rw [hd3] at hue
                      exact ⟨.string ⟨l.toArray⟩, by simp [execOp, h1e, convert, hui, huj, hue, hrun], .s⟩
                  | _ => rw [h1e] at hx; cases hx
              · cases hp
            · cases hp
          · cases hp
        · cases hp
      · cases hp
    · obtain ⟨val, h1, h2⟩ := conv_run ht h.gok hx hp
      exact ⟨val, by simp [execOp, h1], h2⟩
  | extract x j =>
    simp only [pop] at hp
    split at hp
    · rename_i cs e
      have h1 := ev x (by simp [Op.operands])
      rw [e] at h1
      obtain ⟨vs, h2, h3⟩ := h1.tup_inv
      obtain ⟨val, h4, h5⟩ := h3.get hp
      exact ⟨val, by simp [execOp, h2, Instr.extract, h4], h5⟩
    · cases hp
  | nilCheck x =>
    simp only [pop] at hp
    have h1 := ev x (by simp [Op.operands])
    split at hp
    · rename_i t o' e
      cases hp
      rw [e] at h1
      cases h1e : a.eval x with
      | pointer p =>
        rw [h1e] at h1
        cases h1 with | ptr hth => exact ⟨_, by simp [execOp, h1e], .ptr hth⟩
      | _ => rw [h1e] at h1; cases h1
    · rename_i cs e
      cases hp
      rw [e] at h1
      cases h1e : a.eval x with
      | pointer p =>
        rw [h1e] at h1
        cases h1 with | pel vs q1 q2 q3 q4 => exact ⟨_, by simp [execOp, h1e], .pel vs q1 q2 q3 q4⟩
      | _ => rw [h1e] at h1; cases h1
    · cases hp
  | fieldAddr t x f =>
    simp only [pop] at hp
    split at hp
    · rename_i off j hf
      obtain ⟨fs, g, hu, hg, hj, hoff, hs⟩ := field_at ht hf
      have h1 := ev x (by simp [Op.operands])
      have hpl : ∀ ad : Addr, (fieldPlace ad g).run c.P w = .ok (ad.add g.offset) w := fun ad => by simp [fieldPlace, (ht.at hj).run_size w, hs]
      split at hp
      · rename_i t' o' e
        cases hp
        rw [e] at h1
        cases h1e : a.eval x with
        | pointer p =>
          rw [h1e] at h1
          cases h1 with | ptr hth => exact ⟨_, by simp [execOp, h1e, Instr.fieldAt, run_underlying hu, hg, Instr.sureAddr, hpl, add_lit, hoff], .ptr hth⟩
        | _ => rw [h1e] at h1; cases h1
      · rename_i cs e
        cases hp
        rw [e] at h1
        cases h1e : a.eval x with
        | pointer p =>
          rw [h1e] at h1
          cases h1 with
          | pel vs q1 q2 q3 q4 =>
            rename_i ad
            have := pel_mk (m := m) q2 q3 (⟨q1, q4⟩ : RepL Γ Nm.e vs cs) off cs.length
            rw [List.take_of_length_le (by simp)] at this
            exact ⟨_, by simp [execOp, h1e, Instr.fieldAt, run_underlying hu, hg, Instr.sureAddr, hpl, hoff], this⟩
        | _ => rw [h1e] at h1; cases h1
      · cases hp
    · cases hp
  | field t x f =>
    simp only [pop] at hp
    split at hp
    · rename_i off j hf
      obtain ⟨fs, g, hu, hg, hj, hoff, hs⟩ := field_at ht hf
      have h1 := ev x (by simp [Op.operands])
      split at hp
      · rename_i cs e
        rw [e] at h1
        obtain ⟨vs, h2, h3⟩ := h1.agg_inv
        obtain ⟨val, h4, h5⟩ := part_run (w := w) ht hj h3 off hp
        exact ⟨val, by simp [execOp, h2, Instr.field, run_underlying hu, hg, asAgg, hoff, h4], h5⟩
      · cases hp
    · cases hp
  | load t x =>
    simp only [pop] at hp
    split at hp
    · rename_i i hi
      have h1 := ev x (by simp [Op.operands])
      split at hp
      · rename_i g o' e
        rw [e] at h1
        split at hp
        · rename_i cs e2
          have hb := h.obs g
          rw [e2] at hb
          obtain ⟨k, cc, E, q1, q2, q3, q4, q5, q6⟩ := hb
          cases h1e : a.eval x with
          | pointer p =>
            rw [h1e] at h1
            cases h1 with
            | ptr hth =>
              rw [q1] at hth; cases hth
              have hr : RepL Γ m ((cc.toList.take cs.length).drop o') (cs.drop o') := RepL.drop ⟨by have := q3.2; simp; omega, fun j v d hv hd => q4 j v d (by
                rw [List.getElem?_take] at hv
                split at hv
                · simpa using hv
                · cases hv) hd⟩ o'
              obtain ⟨val, h2, h3⟩ := loadAt_run (a := ⟨k, o', none⟩) ht (fun j v hv => by
                rw [add_lit, cell_of_row w k _ cc E.1 E.2 q2]
                rw [List.getElem?_drop, List.getElem?_take] at hv
                split at hv
                · simpa using hv
                · cases hv) hr hi hp
              exact ⟨val, by simp [execOp, h1e, h2], h3⟩
          | _ => rw [h1e] at h1; cases h1
        · cases hp
      · rename_i cs e
        rw [e] at h1
        cases h1e : a.eval x with
        | pointer p =>
          rw [h1e] at h1
          cases h1 with
          | pel vs q1 q2 q3 q4 =>
            obtain ⟨val, h2, h3⟩ := loadAt_run ht (fun j v hv => h.gok _ _ (q2 j v hv)) (RepL.up (m := m) ⟨q1, q4⟩) hi hp
            exact ⟨val, by simp [execOp, h1e, h2], h3⟩
        | _ => rw [h1e] at h1; cases h1
      · cases hp
    · cases hp
  | build t ps =>
    simp only [pop] at hp
    split at hp
    · rename_i i hi
      split at hp
      · rename_i fs hd
        split at hp
        · rename_i l hl
          cases hf : fillA (i.zero.map ofVal) l with
          | none => rw [hf] at hp; cases hp
          | some ds =>
            rw [hf] at hp; cases hp
            obtain ⟨val, h1, h2⟩ := build_run ht h (ps := ps) (fun p hp' => by
              rw [Array.all_eq_true_iff_forall_mem] at hok
              exact hok p.2 (by simp only [Op.operands]; simpa using ⟨p.1, by simpa using hp'⟩)) hi hd hl hf
            exact ⟨val, by simp [execOp, h1], h2⟩
        · cases hp
      · cases hp
    · cases hp
  | indexAddr t x y =>
    simp only [pop] at hp
    split at hp
    · rename_i i hi
      have h1 := ev x (by simp [Op.operands])
      have h2 := ev y (by simp [Op.operands])
      split at hp
      · rename_i e k n hd e2
        rw [e2] at h2
        split at hp
        · rename_i j hj
          split at hp
          · rename_i tg off len sz e1
            split at hp <;> cases hp
            rename_i hc
            rw [e1] at h1
            cases h2e : a.eval y with
            | int k' n' =>
              rw [h2e] at h2; cases h2
              cases h1e : a.eval x with
              | slice p len' cap =>
                rw [h1e] at h1
                cases h1 with
                | bsl hth hn =>
                  have hu := (ht.at hi).run_und w
                  rw [hd] at hu
                  exact ⟨_, by simp [execOp, h2e, h1e, Instr.indexAt, asIntOf, hu, Instr.sureAddr, hc.2.1, hc.2.2, (ht.at hj).run_size w, hc.1, add_lit], .ptr hth⟩
              | _ => rw [h1e] at h1; cases h1
            | _ => rw [h2e] at h2; cases h2
          · split at hp
            · rename_i sz rows hr
              split at hp <;> cases hp
              rename_i hc
              cases h2e : a.eval y with
              | int k' n' =>
                rw [h2e] at h2; cases h2
                obtain ⟨val, h3, h4⟩ := indexAt_run (w := w) ht (rowsOf_rep h1 hr) hi hd hj hc.1 (k := k) hc.2.1 hc.2.2
                exact ⟨val, by simp [execOp, h2e, h3], h4⟩
              | _ => rw [h2e] at h2; cases h2
            · cases hp
        · cases hp
      · rename_i len e k n hd e2
        rw [e2] at h2
        split at hp
        · rename_i j g o' hj e1
          split at hp <;> cases hp
          rename_i hc
          rw [e1] at h1
          cases h2e : a.eval y with
          | int k' n' =>
            rw [h2e] at h2; cases h2
            cases h1e : a.eval x with
            | pointer p =>
              rw [h1e] at h1
              cases h1 with
              | ptr hth =>
                have hu := (ht.at hi).run_und w
                rw [hd] at hu
                exact ⟨_, by simp [execOp, h2e, h1e, Instr.indexAt, asIntOf, hu, Instr.sureAddr, hc.1, hc.2, (ht.at hj).run_size w, add_lit], .ptr hth⟩
            | _ => rw [h1e] at h1; cases h1
          | _ => rw [h2e] at h2; cases h2
        · cases hp
      · cases hp
    · cases hp
  | index t x y =>
    simp only [pop] at hp
    split at hp
    · rename_i i hi
      have h1 := ev x (by simp [Op.operands])
      have h2 := ev y (by simp [Op.operands])
      split at hp
      · rename_i l k n hd e1 e2
        split at hp <;> cases hp
        rename_i hc
        rw [e1] at h1; rw [e2] at h2
        have hu := (ht.at hi).run_und w
        rw [hd] at hu
        cases h2e : a.eval y with
        | int k' n' =>
          rw [h2e] at h2; cases h2
          cases h1e : a.eval x with
          | string s =>
            rw [h1e] at h1; cases h1
            have hn : n.toNat < l.length := by omega
            have hgb : (⟨l.toArray⟩ : ByteArray)[n.toNat]? = some l[n.toNat] := by
              rw [getElem?_pos _ _ (by simpa [ByteArray.size] using hn)]; rfl
            have hd' : l.getD n.toNat 0 = l[n.toNat] := by simp [List.getD, hn]
            exact ⟨.int .u8 (((l.getD n.toNat 0).toNat : Nat) : Int), by rw [hd']; simp [execOp, h1e, h2e, Instr.index, asIntOf, hu, hc.1, hgb], .i⟩
          | _ => rw [h1e] at h1; cases h1
        | _ => rw [h2e] at h2; cases h2
      · cases hp
    · cases hp
  | slice t x lo hi mx =>
    simp only [pop] at hp
    split at hp
    · cases hp
    · split at hp
      · rename_i i hi'
        have h1 := ev x (by simp [Op.operands])
        have hlo := Bd.of h lo fun y hy => by
          rw [Array.all_eq_true_iff_forall_mem] at hok; exact hok y (by subst hy; simp [Op.operands])
        have hhi := Bd.of h hi fun y hy => by
          rw [Array.all_eq_true_iff_forall_mem] at hok; exact hok y (by subst hy; simp [Op.operands])
        split at hp
        · rename_i hd
          split at hp
          · rename_i l e
            rw [e] at h1
            cases h1e : a.eval x with
            | string s =>
              rw [h1e] at h1; cases h1
              obtain ⟨val, h2, h3⟩ := sliceStr_run (w := w) ht hlo hhi hp hi' hd
              exact ⟨val, by simp [execOp, h1e, h2], h3⟩
            | _ => rw [h1e] at h1; cases h1
          · cases hp
        · rename_i e hd
          split at hp
          · rename_i j sz rows hj hr
            split at hp
            · rename_i hsz
              obtain ⟨val, h2, h3⟩ := sliceRows_run (w := w) ht (rowsOf_rep h1 hr) hlo hhi hp hi' hd hj hsz
              exact ⟨val, by simp [execOp, h2], h3⟩
            · cases hp
          · cases hp
        · cases hp
      · cases hp
  | makeFunc fn first caps =>
    simp only [pop] at hp
    split at hp
    · rename_i f
      split at hp <;> cases hp
      rename_i hz
      have hfirst : first = #[] := Array.eq_empty_of_size_eq_zero hz
      subst hfirst
      refine ⟨.func (.func f) #[] (caps.toList.map a.eval).toArray, ?_, .clo _ (by simp) fun j v d hv hd => ?_⟩
      · simp only [execOp, Instr.makeFunc]
        have : (caps.toList.map a.eval).toArray = caps.map a.eval := by apply Array.ext'; simp
        rw [this]; simp
      · rw [List.getElem?_map] at hv hd
        cases hq : caps.toList[j]? with
        | none => rw [hq] at hv; cases hv
        | some y =>
          rw [hq] at hv hd
          cases hv; cases hd
          exact ev y (by simp only [Op.operands]; simpa using List.mem_of_getElem? hq)
    · cases hp
  | call cl =>
    obtain ⟨callee, args, argTypes⟩ := cl
    simp only [pop] at hp
    split at hp
    · split at hp
      · rename_i x t e1 e2
        have hx : args = #[x] := by rw [← Array.toArray_toList (xs := args), e1]
        have htt : argTypes = #[t] := by rw [← Array.toArray_toList (xs := argTypes), e2]
        subst hx; subst htt
        have h1 := ev x (by simp [Op.operands, Call.operands])
        split at hp
        · rename_i i hi
          have hu := (ht.at hi).run_und w
          split at hp
          · rename_i l hd e
            cases hp
            rw [hd] at hu; rw [e] at h1
            cases h1e : a.eval x with
            | string s =>
              rw [h1e] at h1; cases h1
              have hsz : ByteArray.size ⟨l.toArray⟩ = l.length := by simp [ByteArray.size]
              exact ⟨_, by simp [execOp, resolve, invoke, builtin, h1e, Builtin.len_, hu, goInt, hsz], .i⟩
            | _ => rw [h1e] at h1; cases h1
          · rename_i e sz rows hd e'
            cases hp
            rw [hd] at hu; rw [e'] at h1
            rcases h1.sh_inv with ⟨ad, h2, rfl⟩ | ⟨ad, cap, vs, h2, _⟩
            · exact ⟨.int .i64 0, by simp [execOp, resolve, invoke, builtin, h2, Builtin.len_, hu, goInt], .i⟩
            · exact ⟨_, by simp [execOp, resolve, invoke, builtin, h2, Builtin.len_, hu, goInt], .i⟩
          · rename_i e t' e'' sz rows hd e'
            cases hp
            rw [hd] at hu; rw [e'] at h1
            have h1 := rowsOf_rep h1 (sz := sz) (rows := rows) rfl
            · rcases h1.sh_inv with ⟨ad, h2, rfl⟩ | ⟨ad, cap, vs, h2, _⟩
              · exact ⟨.int .i64 0, by simp [execOp, resolve, invoke, builtin, h2, Builtin.len_, hu, goInt], .i⟩
              · exact ⟨_, by simp [execOp, resolve, invoke, builtin, h2, Builtin.len_, hu, goInt], .i⟩
          · rename_i e hd e'
            cases hp
            rw [hd] at hu; rw [e'] at h1
            cases h1e : a.eval x with
            | slice p l c' =>
              rw [h1e] at h1; cases h1
              exact ⟨.int .i64 0, by simp [execOp, resolve, invoke, builtin, h1e, Builtin.len_, hu, goInt], .i⟩
            | _ => rw [h1e] at h1; cases h1
          · rename_i e t' off n sz hd e'
            cases hp
            rw [hd] at hu; rw [e'] at h1
            cases h1e : a.eval x with
            | slice p l c' =>
              rw [h1e] at h1; cases h1
              exact ⟨_, by simp [execOp, resolve, invoke, builtin, h1e, Builtin.len_, hu, goInt], .i⟩
            | _ => rw [h1e] at h1; cases h1
          · cases hp
        · cases hp
      · cases hp
    · split at hp
      · rename_i x y e1
        have hx : args = #[x, y] := by rw [← Array.toArray_toList (xs := args), e1]
        subst hx
        obtain ⟨val, h2, h3⟩ := min2_run (P := c.P) (w := w) (ev x (by simp [Op.operands, Call.operands])) (ev y (by simp [Op.operands, Call.operands])) hp
        exact ⟨val, by simp [execOp, resolve, invoke, builtin, Builtin.min_, h2], h3⟩
      · cases hp
    · split at hp
      · rename_i x y e1
        have hx : args = #[x, y] := by rw [← Array.toArray_toList (xs := args), e1]
        subst hx
        obtain ⟨val, h2, h3⟩ := max2_run (P := c.P) (w := w) (ev x (by simp [Op.operands, Call.operands])) (ev y (by simp [Op.operands, Call.operands])) hp
        exact ⟨val, by simp [execOp, resolve, invoke, builtin, Builtin.max_, h2], h3⟩
      · cases hp
    · cases hp
  | _ => simp [pop] at hp

end Go.Proofs.Ytocppeifkjdeiaa.Mv

/- A machine for proofs, part H: memory turns: objects that stay, new ones, stores. Under no condition. -/
namespace Go.Proofs.Ytocppeifkjdeiaa.Mv
open Go
set_option linter.unusedSimpArgs false
set_option linter.unusedVariables false

theorem ObOk.lt {Γ m w t ob g} (h : ObOk Γ m w t ob) (hb : ob.blk m t g) : g < w.heap.size := by
  cases ob with
  | bx cs =>
    obtain ⟨k, c, E, h1, h2, _⟩ := h
    have hb : m.th t = some g := hb
    rw [h1] at hb; cases hb
    exact (Array.getElem?_eq_some_iff.1 h2).1
  | gw n =>
    obtain ⟨v, e, sz, xs, h1, h2, h3, h4⟩ := h
    simp only [Ob.blk, h1, Option.bind_some] at hb
    exact (h3.lt g hb).2
  | mp kk vk ents =>
    obtain ⟨k, es, cl, h1, h2, _⟩ := h
    have hb : m.th t = some g := hb
    rw [h1] at hb; cases hb
    exact (Array.getElem?_eq_some_iff.1 h2).1
  | fo d rows b => exact d.lt _ _ _ _ _ h.1 hb
  | dead => cases hb

theorem ownsRow_keep {w w' : World} {e sz v n xs} (h : w.ownsRow 0 e sz v n xs) (hw : ∀ g, v.ownBlock = some g → w'.heap[g]? = w.heap[g]?) : w'.ownsRow 0 e sz v n xs := by
  obtain ⟨h1, h2⟩ := h
  refine ⟨h1, ?_⟩
  rcases h2 with h2 | ⟨g, cap, cur, rfl, h3, h4, h5⟩
  · exact .inl h2
  · exact .inr ⟨g, cap, cur, rfl, h3, by rw [hw g rfl]; exact h4, h5⟩

theorem ObOk.keep {Γ Γ' m m' w w' t ob} (h : ObOk Γ m w t ob) (hs : Sub Γ Γ') (hth : m'.th t = m.th t) (hka : m'.ka t = m.ka t) (hfy : m'.fy t = m.fy t) (hsz : w.heap.size ≤ w'.heap.size) (hst : w'.os = w.os ∧ w'.tape = w.tape ∧ w'.output = w.output) (hr : ∀ r ∈ ob.refs, Ext m m' r)
    (hw : ∀ g, ob.blk m t g → w'.heap[g]? = w.heap[g]? ∧ ∀ a : Addr, a.block = g → Γ' a = Γ a) : ObOk Γ' m' w' t ob := by
  cases ob with
  | bx cs =>
    obtain ⟨k, c, E, h1, h2, h3, h4, h5, h6⟩ := h
    obtain ⟨hk, hk'⟩ := hw k h1
    exact ⟨k, c, E, by rw [hth, h1], by rw [hk, h2], h3, fun j v d hv hd => (h4 j v d hv hd).mono hs fun r hr' => hr r (mem_refsL (List.mem_of_getElem? hd) hr'), h5, fun a ha => by rw [hk' a ha, h6 a ha]⟩
  | gw n =>
    obtain ⟨v, e, sz, xs, h1, h2, h3, h4⟩ := h
    have hb : ∀ g, v.ownBlock = some g → (Ob.gw n).blk m t g := fun g hg => by show ((m.ka t n).bind _) = _; rw [h1]; exact hg
    refine ⟨v, e, sz, xs, by rw [hka, h1], by rw [hka]; exact h2, ownsRow_keep h3 fun g hg => (hw g (hb g hg)).1, fun g hg => ?_⟩
    obtain ⟨h5, h6⟩ := h4 g hg
    have hk := (hw g (hb g hg)).2
    exact ⟨fun j hj => by rw [hk _ rfl]; exact h5 j hj, fun a ha hq => by rw [hk a ha]; exact h6 a ha hq⟩
  | mp kk vk ents =>
    obtain ⟨k, es, cl, h1, h2, h3, h6⟩ := h
    obtain ⟨hk, hk'⟩ := hw k h1
    exact ⟨k, es, cl, by rw [hth, h1], by rw [hk, h2], h3, fun a ha => by rw [hk' a ha, h6 a ha]⟩
  | fo d rows b =>
    obtain ⟨h1, h2⟩ := h
    refine ⟨by rw [hfy]; exact d.own _ _ _ _ _ h1 (fun k hk => (hw k hk).1) hsz hst, fun a ha => ?_⟩
    rw [hfy] at ha
    rw [(hw _ ha).2 a rfl, h2 a ha]
  | dead => trivial

theorem blk_same {m m' : Nm} {t : Nat} {ob : Ob} (hth : m'.th t = m.th t) (hka : m'.ka t = m.ka t) (hfy : m'.fy t = m.fy t) : ob.blk m' t = ob.blk m t := by
  funext g; cases ob <;> simp [Ob.blk, hth, hka, hfy]

/-- The tag d stands for something new. -/
def Nm.set (m : Nm) (d : Nat) (g : Option Nat) (k : Nat → Option (Value × TypeId × Nat)) : Nm := ⟨fun t => if t = d then g else m.th t, fun t => if t = d then k else m.ka t, m.fy⟩
theorem Nm.set_ext (m : Nm) (d : Nat) (g k) {r : Nat} (h : r ≠ d) : Ext m (m.set d g k) r := ⟨fun _ hx => by simpa [Nm.set, h] using hx, fun _ _ hx => by simpa [Nm.set, h] using hx⟩
theorem ob_cons (T : List (Nat × AV)) (B : List (Nat × Ob)) (d : Nat) (ob : Ob) (t : Nat) : (⟨T, (d, ob) :: B⟩ : St).ob t = if d = t then ob else (⟨T, B⟩ : St).ob t := by
  simp only [St.ob, look]
  split <;> rfl

theorem Fr.trans' {S : Nat → Prop} {w0 w w' : World} (h : Fr S w0 w) (hos : w'.os = w.os) (htape : w'.tape = w.tape) (hout : w'.output = w.output) (hsz : w.heap.size ≤ w'.heap.size)
    (hb : ∀ k, k < w.heap.size → (∃ g, (w0.heap.size ≤ g ∨ S g) ∧ k = g) ∨ w'.heap[k]? = w.heap[k]?) : Fr S w0 w' :=
  ⟨hos.trans h.os, htape.trans h.tape, hout.trans h.output, Nat.le_trans h.size hsz, fun k hk hn => by
    rcases hb k (Nat.lt_of_lt_of_le hk h.size) with ⟨g, hg, rfl⟩ | e
    · rcases hg with hg | hg
      · omega
      · exact absurd hg hn
    · exact e.trans (h.block k hk hn)⟩

/-- A new object: its block is new, or it has none. -/
theorem RRW.new {c Γ m st a w} (h : RRW c Γ m st a w) {d : Nat} (hd : d < 1000000) (hT : d ∉ St.refsT st.T) (hB : d ∉ St.refsB st.B) {Γ' : Gam} {w' : World} {g : Option Nat} {k : Nat → Option (Value × TypeId × Nat)} {ob : Ob}
    (hs : Sub Γ Γ') (hos : w'.os = w.os) (htape : w'.tape = w.tape) (hout : w'.output = w.output) (hsz : w.heap.size ≤ w'.heap.size) (hheap : ∀ i, i < w.heap.size → w'.heap[i]? = w.heap[i]?)
    (hΓ : ∀ ad : Addr, ad.block < w.heap.size → Γ' ad = Γ ad) (gok : ∀ ad v, Γ' ad = some v → w'.cell? ad = some v)
    (hob : ObOk Γ' (m.set d g k) w' d ob) (hnew : ∀ i, ob.blk (m.set d g k) d i → w.heap.size ≤ i) : RRW c Γ' (m.set d g k) ⟨st.T, (d, ob) :: st.B⟩ a w' := by
  have hsame : ∀ t, t ≠ d → (m.set d g k).th t = m.th t ∧ (m.set d g k).ka t = m.ka t ∧ (m.set d g k).fy t = m.fy t := fun t ht => by simp [Nm.set, ht]
  have hlt : ∀ t i, (st.ob t).blk m t i → i < w.heap.size := fun t i hi => (h.obs t).lt hi
  have hobs : ∀ t, t ≠ d → ObOk Γ' (m.set d g k) w' t (st.ob t) := fun t ht =>
    (h.obs t).keep hs (hsame t ht).1 (hsame t ht).2.1 (hsame t ht).2.2 hsz ⟨hos, htape, hout⟩ (fun r hr => m.set_ext d g k (fun e => hB (e ▸ St.ob_refs hr))) fun i hi => ⟨hheap i (hlt t i hi), fun ad had => hΓ ad (by rw [had]; exact hlt t i hi)⟩
  have hob' : ∀ t, (⟨st.T, (d, ob) :: st.B⟩ : St).ob t = if d = t then ob else st.ob t := fun t => ob_cons _ _ _ _ _
  refine h.mem (B' := (d, ob) :: st.B) hs (fun t r hr => m.set_ext d g k (fun e => hT (e ▸ St.get_refs hr))) (fun p hp => m.set_ext d g k (fun e => by have := c.big p hp; omega)) gok (fun t => ?_) (fun t i hi => ?_) (fun t t' i hi hi' => ?_) ?_ (fun ad h0 h1 => ?_)
  · rw [hob']
    split
    · rename_i e; subst e; exact hob
    · rename_i e; exact hobs t (Ne.symm e)
  · rw [hob'] at hi
    split at hi
    · rename_i e; subst e; exact .inl (Nat.le_trans h.frame.size (hnew i hi))
    · rename_i e
      rw [blk_same (hsame t (Ne.symm e)).1 (hsame t (Ne.symm e)).2.1 (hsame t (Ne.symm e)).2.2] at hi
      exact h.own t i hi
  · rw [hob'] at hi hi'
    split at hi <;> split at hi'
    · rename_i e e'; rw [← e, ← e']
    · rename_i e e'
      subst e
      rw [blk_same (hsame t' (Ne.symm e')).1 (hsame t' (Ne.symm e')).2.1 (hsame t' (Ne.symm e')).2.2] at hi'
      have := hnew i hi; have := hlt t' i hi'; omega
    · rename_i e e'
      subst e'
      rw [blk_same (hsame t (Ne.symm e)).1 (hsame t (Ne.symm e)).2.1 (hsame t (Ne.symm e)).2.2] at hi
      have := hnew i hi'; have := hlt t i hi; omega
    · rename_i e e'
      rw [blk_same (hsame t (Ne.symm e)).1 (hsame t (Ne.symm e)).2.1 (hsame t (Ne.symm e)).2.2] at hi
      rw [blk_same (hsame t' (Ne.symm e')).1 (hsame t' (Ne.symm e')).2.1 (hsame t' (Ne.symm e')).2.2] at hi'
      exact h.inj t t' i hi hi'
  · exact h.frame.trans' hos htape hout hsz fun i hi => .inr (hheap i hi)
  · by_cases hb : ad.block < w.heap.size
    · rw [hΓ ad hb] at h1; exact absurd h0 h1
    · exact .inl (Nat.le_trans h.frame.size (by omega))

theorem cell_alloc {w : World} {o : Obj} {ad : Addr} {v : Value} (h : w.cell? ad = some v) : (w.alloc o).cell? ad = some v := by
  rw [World.cell?_alloc_lt w o ad (block_lt_of_cell h)]; exact h

/-- A new box. -/
theorem RRW.box {c Γ m st a w} (h : RRW c Γ m st a w) {d : Nat} (hd' : d < 1000000) (hT : d ∉ St.refsT st.T) (hB : d ∉ St.refsB st.B) (E : TypeId) {vs : List Value} {cs : List AV} (hr : RepL Γ m vs cs) (hl : cs.all AV.leaf = true) (hd : d ∉ AV.refs.refsL cs) :
    ∃ m', RRW c Γ m' ⟨st.T, (d, .bx cs) :: st.B⟩ a (w.alloc (.cells vs.toArray E)) ∧ m'.th d = some w.heap.size := by
  refine ⟨m.set d (some w.heap.size) fun _ => none, h.new hd' hT hB (Sub.refl _) rfl rfl rfl (by simp) (fun i hi => heap_alloc_old w _ i hi) (fun _ _ => rfl) (fun ad v hv => cell_alloc (h.gok ad v hv)) ?_ (fun i hi => ?_), by simp [Nm.set]⟩
  · refine ⟨w.heap.size, vs.toArray, (E, 0, 0), by simp [Nm.set], heap_alloc_new w _, ⟨.inl (Nat.le_refl _), by simp [hr.1]⟩, fun j v x hv hx => ?_, fun j v hj hv => ?_, fun ad had => ?_⟩
    · exact (hr.2 j v x (by simpa using hv) hx).mono (Sub.refl _) fun r hr' => m.set_ext d _ _ (fun e => hd (e ▸ mem_refsL (List.mem_of_getElem? hx) hr'))
    · have hx : cs[j]? = some cs[j] := List.getElem?_eq_getElem hj
      exact (hr.2 j v _ (by simpa using hv) hx).one (List.all_eq_true.1 hl _ (List.mem_of_getElem? hx))
    · cases hv : Γ ad with
      | none => rfl
      | some v => have := block_lt_of_cell (h.gok ad v hv); omega
  · simp only [Ob.blk, Nm.set, if_true] at hi
    cases hi; exact Nat.le_refl _

theorem FrOk.not {w : World} {g j : Nat} {cur : Array Value} {t : TypeId} {fr : Nat × Nat} (hg : w.heap[g]? = some (.cells cur t fr)) (h : FrOk cur.size fr) (hj : j < cur.size) : w.frozen? ⟨g, j, none⟩ = false := by
  obtain ⟨lo, hi⟩ := fr
  simp only [World.frozen?, hg, Bool.and_eq_false_iff, decide_eq_false_iff_not]
  simp only [FrOk] at h
  omega
theorem run_storeCells_fr (P : Program) (g o : Nat) (t : TypeId) (fr : Nat × Nat) : ∀ (vs : List Value) (i : Nat) (cur : Array Value) (w : World), w.heap[g]? = some (.cells cur t fr) → FrOk cur.size fr → o + i + vs.length ≤ cur.size → (∀ v ∈ vs, v.oneCell' = true) →
    (storeCells ⟨g, o, none⟩ vs i).run P w = .ok () (w.setRow g (cur.toList.take (o + i) ++ vs ++ cur.toList.drop (o + i + vs.length)).toArray)
  | [], i, cur, w, hg, _, _, _ => by
    simp only [storeCells, List.append_nil, List.length_nil, Nat.add_zero, List.take_append_drop, Array.toArray_toList]
    rw [setRow_self w g cur t fr hg]
    rfl
  | v :: rest, i, cur, w, hg, hfr, hl, h1 => by
    have hi : o + i < cur.size := by simp at hl; omega
    have hadd : (⟨g, o, none⟩ : Addr).add i = ⟨g, o + i, none⟩ := by unfold Addr.add; split <;> simp_all
    have hcell : w.cell? ⟨g, o + i, none⟩ = some cur[o + i] := by simp [World.cell?, hg, hi]
    have hfro := hfr.not hg hi
    have hst : (store ((⟨g, o, none⟩ : Addr).add i) v).run P w = .ok () (w.setRow g (cur.setIfInBounds (o + i) v)) := by
      rw [hadd, run_store P w _ v _ (h1 v (by simp)), hcell]
      simp [hfro, setCell_eq_setRow w g (o + i) cur t fr v hg]
    have ih := run_storeCells_fr P g o t fr rest (i + 1) (cur.setIfInBounds (o + i) v) (w.setRow g (cur.setIfInBounds (o + i) v)) (setRow_heap w g cur _ t _ hg) (by simpa using hfr) (by simp at hl ⊢; omega) (fun x hx => h1 x (by simp [hx]))
    simp only [storeCells, Sem.run_bind, hst, Result.andThen_ok, ih, setRow_setRow]
    congr 3
    have e := list_seg_step cur.toList (o + i) v rest (by simp at hl ⊢; omega)
    simpa [Array.toList_setIfInBounds, Nat.add_assoc] using e
/-- A store into a box. -/
theorem RRW.store {c Γ m st a w} (h : RRW c Γ m st a w) {t g off : Nat} {cs : List AV} (hb : st.ob t = .bx cs) (hg : m.th t = some g) {vs : List Value} {ds : List AV} (hr : RepL Γ m vs ds) (hl : ds.all AV.leaf = true) (hoff : off + ds.length ≤ cs.length) :
    ∃ w', (storeCells ⟨g, off, none⟩ vs).run c.P w = .ok () w' ∧ RRW c Γ m ⟨st.T, (t, .bx (splice cs off ds)) :: st.B⟩ a w' := by
  have hobt := h.obs t
  rw [hb] at hobt
  obtain ⟨k, cc, E, q1, q2, q3, q4, q5, q6⟩ := hobt
  rw [hg] at q1; cases q1
  have h1 : ∀ v ∈ vs, v.oneCell' = true := fun v hv => by
    obtain ⟨j, hj⟩ := List.getElem?_of_mem hv
    have hjl : j < ds.length := by rw [← hr.1]; exact (List.getElem?_eq_some_iff.1 hj).1
    have hx : ds[j]? = some ds[j] := List.getElem?_eq_getElem hjl
    exact (hr.2 j v _ hj hx).one (List.all_eq_true.1 hl _ (List.mem_of_getElem? hx))
  have hlen : vs.length = ds.length := hr.1
  have hrun := run_storeCells_fr c.P g off E.1 E.2 vs 0 cc w q2 q3.1 (by rw [hlen]; have := q3.2; omega) h1
  simp only [Nat.add_zero] at hrun
  refine ⟨_, hrun, ?_⟩
  have hq3 := q3.2
  have hlen1 : (splice cs off ds).length = cs.length := by simp [splice]; omega
  have hlen2 : (cc.toList.take off ++ vs ++ cc.toList.drop (off + vs.length)).length = cc.size := by simp; omega
  have hnew : ∀ (j : Nat) (v : Value) (x : AV), (cc.toList.take off ++ vs ++ cc.toList.drop (off + vs.length))[j]? = some v → (splice cs off ds)[j]? = some x → Rep Γ m v x := fun j v x hv hx => by
    unfold splice at hx
    have l1 : (cc.toList.take off).length = off := by simp; omega
    have l2 : (cs.take off).length = off := by simp; omega
    by_cases hj : j < off
    · rw [List.append_assoc, List.getElem?_append_left (by omega), List.getElem?_take, if_pos hj] at hv hx
      exact q4 j v x (by simpa using hv) hx
    · by_cases hj2 : j < off + ds.length
      · rw [List.append_assoc, List.getElem?_append_right (by omega), l1, List.getElem?_append_left (by omega)] at hv
        rw [List.append_assoc, List.getElem?_append_right (by omega), l2, List.getElem?_append_left (by omega)] at hx
        exact hr.2 _ v x hv hx
      · rw [List.getElem?_append_right (by simp; omega), List.getElem?_drop] at hv hx
        have e1 : off + vs.length + (j - (cc.toList.take off ++ vs).length) = j := by simp only [List.length_append, l1]; omega
        have e2 : off + ds.length + (j - (cs.take off ++ ds).length) = j := by simp only [List.length_append, l2]; omega
        rw [e1] at hv
        rw [e2] at hx
        exact q4 j v x (by simpa using hv) hx
  have hob' : ∀ s, (⟨st.T, (t, .bx (splice cs off ds)) :: st.B⟩ : St).ob s = if t = s then .bx (splice cs off ds) else st.ob s := fun s => ob_cons _ _ _ _ _
  have hblk : ∀ s, ((⟨st.T, (t, .bx (splice cs off ds)) :: st.B⟩ : St).ob s).blk m s = (st.ob s).blk m s := fun s => by
    rw [hob']
    split
    · rename_i e; subst e; rw [hb]; rfl
    · rfl
  refine h.mem (B' := (t, .bx (splice cs off ds)) :: st.B) (Sub.refl _) (fun _ _ _ => ⟨fun _ h => h, fun _ _ h => h⟩) (fun _ _ => ⟨fun _ h => h, fun _ _ h => h⟩) (fun ad v hv => ?_) (fun s => ?_) (fun s i hi => h.own s i (by rwa [hblk] at hi)) (fun s s' i hi hi' => h.inj s s' i (by rwa [hblk] at hi) (by rwa [hblk] at hi')) ?_ (fun ad h0 h1 => absurd h0 h1)
  · have hne : ad.block ≠ g := fun e => by rw [q6 ad e] at hv; cases hv
    rw [cell_setRow_other w g _ ad hne]
    exact h.gok ad v hv
  · rw [hob']
    split
    · rename_i e; subst e
      refine ⟨g, _, E, hg, setRow_heap w g cc _ E.1 _ q2, ?_, fun j v x hv hx => hnew j v x (by simpa using hv) hx, fun j v hjl hv => ?_, q6⟩
      · rw [List.size_toArray, hlen2, hlen1]; exact q3
      · rw [hlen1] at hjl
        have hv : (cc.toList.take off ++ vs ++ cc.toList.drop (off + vs.length))[j]? = some v := by simpa using hv
        have l1 : (cc.toList.take off).length = off := by simp; omega
        by_cases hj : j < off
        · rw [List.append_assoc, List.getElem?_append_left (by omega), List.getElem?_take, if_pos hj] at hv
          exact q5 j v hjl (by simpa using hv)
        · by_cases hj2 : j < off + vs.length
          · rw [List.append_assoc, List.getElem?_append_right (by omega), l1, List.getElem?_append_left (by omega)] at hv
            exact h1 v (List.mem_of_getElem? hv)
          · rw [List.getElem?_append_right (by simp; omega), List.getElem?_drop] at hv
            have e1 : off + vs.length + (j - (cc.toList.take off ++ vs).length) = j := by simp only [List.length_append, l1]; omega
            rw [e1] at hv
            exact q5 j v hjl (by simpa using hv)
    · rename_i e
      refine (h.obs s).keep (Sub.refl _) rfl rfl rfl (by simp) ⟨rfl, rfl, rfl⟩ (fun _ _ => ⟨fun _ h => h, fun _ _ h => h⟩) fun i hi => ⟨setRow_other w g i _ fun e' => ?_, fun _ _ => rfl⟩
      subst e'
      exact e (h.inj t s i (by rw [hb]; exact hg) hi)
  · refine h.frame.trans' rfl rfl rfl (by simp) fun i hi => ?_
    by_cases e : i = g
    · exact .inl ⟨g, h.own t g (by rw [hb]; exact hg), e⟩
    · exact .inr (setRow_other w g i _ e)

end Go.Proofs.Ytocppeifkjdeiaa.Mv

/- A machine for proofs, part I: slices that grow. Under no condition. -/
namespace Go.Proofs.Ytocppeifkjdeiaa.Mv
open Go
set_option linter.unusedSimpArgs false
set_option linter.unusedVariables false

section
variable {P : Program} {tab : Tab} (ht : TabOk P tab) {t u e : TypeId} {i j iu : TyI} (hi : look tab t = some i) (hd : i.d = .slice e) (hj : look tab e = some j) (hu : look tab u = some iu) (hud : ∀ k, iu.d ≠ .int k)
include ht hi hd hj hu hud

theorem append_core {w : World} (hsz : 0 < j.size) {v : Value} {n : Nat} {xs : List Value} (hown : w.ownsRow 0 e j.size v n xs) {x : Value} {m : Nat} {news : List Value} {ty : TypeId}
    (hlen : (Builtin.lenOf x).run P w = .ok m w) (hfc : ∀ w' : World, w'.heap = w.heap → (Builtin.firstCells j.size m x).run P w' = .ok news.toArray w') (hl : news.length = m * j.size) (h1 : ∀ v ∈ news, v.oneCell' = true)
    (h63 : n + m ≤ maxLen) (hb : (n + m) * j.bytes ≤ 140737488355328) :
    ∃ v' w', (Builtin.append_ #[t, u] ty #[v, x]).run P w = .ok v' w' ∧ w'.ownsRow 0 e j.size v' (n + m) (xs ++ news) ∧
      ((v'.ownBlock = v.ownBlock ∧ w.grownBy w' v.ownBlock) ∨ ∃ g, w.heap.size ≤ g ∧ v'.ownBlock = some g ∧ w.grownBy w' none) ∧ (m = 0 → v' = v ∧ w' = w) := by
  have hut := (ht.at hi).und
  rw [hd] at hut
  have huu := fun w => (ht.at hu).run_und w
  obtain ⟨f, hf, hfs, hfb, z, hz, hzl⟩ := (ht.at hj).info
  have hzs : z.cells.size = j.size := by
    rw [← (ht.at hj).one.2, ← hzl]; simp
  have hzero : (iu.d matches .int _) = false := by
    cases hq : iu.d <;> first | rfl | exact absurd hq (hud _)
  have hsmall : n + m ≤ 9223372036854775807 := by simp only [maxLen] at h63; omega
  have hlen' : (xs ++ news).length = (n + m) * j.size := by rw [List.length_append, hown.1, hl, Nat.add_mul]
  have grown : ∀ (old : Nat), old < n + m → ∀ (row : Option Nat),
      (w.drew.alloc (.cells (xs.toArray ++ news.toArray ++ Builtin.zeroCells z.cells (grownCap w (n + m) old e - (n + m))) e)).ownsRow 0 e j.size
        (.slice (some ⟨w.heap.size, 0, none⟩) (n + m) (grownCap w (n + m) old e)) (n + m) (xs ++ news) ∧
      w.grownBy (w.drew.alloc (.cells (xs.toArray ++ news.toArray ++ Builtin.zeroCells z.cells (grownCap w (n + m) old e - (n + m))) e)) row := by
    intro old ho row
    have hge := grownCap_ge w (n + m) old e
    have hcm : grownCap w (n + m) old e ≤ maxLen := grownCap_le_maxLen w (n + m) old e h63
    refine ⟨⟨hlen', .inr ⟨w.heap.size, _, _, rfl, Nat.zero_le _, heap_alloc_new w.drew _, hge, hcm, ?_, ?_⟩⟩, ⟨rfl, rfl, rfl, by simp, fun k hk _ => heap_alloc_old w.drew _ k hk⟩⟩
    · simp only [Array.size_append, List.size_toArray, size_zeroCells, hzs, hown.1, hl, ← Nat.add_mul]
      congr 1
      omega
    · simp only [Array.toList_append, List.append_assoc]
      rw [← List.append_assoc, ← hlen']
      exact List.take_left
  rcases hown.2 with ⟨rfl, rfl⟩ | ⟨g, cap, cur, rfl, hbg, hg, hnc, hcm, hcs, htake⟩
  · have hx : xs = [] := List.eq_nil_of_length_eq_zero (by simpa using hown.1)
    subst hx
    by_cases hm : m = 0
    · subst hm
      have hn : news = [] := List.eq_nil_of_length_eq_zero (by simpa using hl)
      subst hn
      refine ⟨.slice none 0 0, w, ?_, World.ownsRow_nil w 0 e j.size, .inl ⟨rfl, rfl, rfl, rfl, Nat.le_refl _, fun _ _ _ => rfl⟩, fun _ => ⟨rfl, rfl⟩⟩
      simp [Builtin.append_, run_underlying hut, huu, sizeOf, typeInfo, hf, hfs, hlen, hfc w rfl, hzero]
    · have hgr := grown 0 (by omega) none
      simp only [Nat.zero_add, List.nil_append, Array.empty_append] at hgr hsmall hb ⊢
      have h63' : ¬ (9223372036854775807 < (m : Int)) := by omega
      have h48' : ¬ (281474976710656 < Builtin.nextslicecap m 0 * f.bytes) := by rw [nextslicecap_zero (by omega), hfb]; omega
      refine ⟨_, _, ?_, hgr.1, .inr ⟨w.heap.size, Nat.le_refl _, rfl, hgr.2⟩, fun h => absurd h hm⟩
      have hfc' := hfc w.drew rfl
      simp [Builtin.append_, run_underlying hut, huu, sizeOf, typeInfo, zeroValue, hf, hfs, hfb, hz, hlen, hm, h63', Question.forced, run_firstCells_none, newRow, grownCap, hzero]
      rw [hfb] at h48'
      simp only [h48', if_false, hfc', grownCap] at *
      simp [hfc', newRow]
  · by_cases hroom : n + m ≤ cap
    · have hfit : n * j.size + news.length ≤ cur.size := by rw [hl, hcs, ← Nat.add_mul]; exact Nat.mul_le_mul_right _ hroom
      have hst := run_storeCells_at P g (n * j.size) e news 0 cur w hg (by simpa using hfit) h1
      simp only [Nat.add_zero] at hst
      have hr : (Builtin.append_ #[t, u] ty #[.slice (some ⟨g, 0, none⟩) n cap, x]).run P w =
          .ok (.slice (some ⟨g, 0, none⟩) (n + m) cap) (w.setRow g (cur.toList.take (n * j.size) ++ news ++ cur.toList.drop (n * j.size + news.length)).toArray) := by
        simp [Builtin.append_, run_underlying hut, huu, sizeOf, typeInfo, hf, hfs, hlen, hroom, hfc w rfl, Addr.add_lit, hst, hzero]
      refine ⟨_, _, hr, ⟨hlen', .inr ⟨g, cap, _, rfl, hbg, setRow_heap w g cur _ e _ hg, hroom, hcm, ?_, ?_⟩⟩, .inl ⟨rfl, rfl, rfl, rfl, by simp, fun k _ hk => setRow_other w g k _ (fun e => hk (by simp [Value.ownBlock, e]))⟩, fun hm => ?_⟩
      · simp only [List.size_toArray, List.length_append, List.length_take, List.length_drop, Array.length_toList]
        omega
      · rw [htake, ← hlen']
        exact List.take_left
      · subst hm
        have hn : news = [] := List.eq_nil_of_length_eq_zero (by simpa using hl)
        subst hn
        refine ⟨rfl, ?_⟩
        simp only [List.append_nil, List.length_nil, Nat.add_zero, List.take_append_drop]
        exact setRow_self w g cur e (0, 0) hg
    · have holds : ∀ j' u, xs[j']? = some u → w.cell? ((⟨g, 0, none⟩ : Addr).add j') = some u := hown.cells (g := g) rfl
      have hgr := grown cap (by omega) none
      have hn : ¬ (n + m ≤ cap) := hroom
      have h63' : ¬ (9223372036854775807 < ((n : Int) + (m : Int))) := by omega
      have h48' : ¬ (281474976710656 < Builtin.nextslicecap (n + m) cap * j.bytes) := by
        have := growslice_fits (need := n + m) (old := cap) (bytes := j.bytes) (by omega) hb
        omega
      have hfo := run_firstCells_some (P := P) w.drew j.size n ⟨g, 0, none⟩ n cap xs hown.1 (by simpa using holds)
      have hfc' := hfc w.drew rfl
      refine ⟨_, _, ?_, hgr.1, .inr ⟨w.heap.size, Nat.le_refl _, rfl, hgr.2⟩, fun h => by omega⟩
      simp [Builtin.append_, run_underlying hut, huu, sizeOf, typeInfo, zeroValue, hf, hfs, hfb, hz, hlen, hn, h63', h48', Question.forced, hfc', hfo, newRow, grownCap, hzero]
      congr 2
      apply Array.ext'
      simp [List.append_assoc]
end

end Go.Proofs.Ytocppeifkjdeiaa.Mv

/- A machine for proofs, part J: slices that grow, in the relation. Under no condition. -/
namespace Go.Proofs.Ytocppeifkjdeiaa.Mv
open Go
set_option linter.unusedSimpArgs false
set_option linter.unusedVariables false

/-- More is kept: a row's first cells. -/
def prot (Γ : Gam) (b : Option Nat) (l : List Value) : Gam := fun ad => if b = some ad.block ∧ ad.spot = none ∧ ad.off < l.length then l[ad.off]? else Γ ad

/-- What is appended: an argument of append, its cells, its rows. -/
structure Arg (P : Program) (Γ : Gam) (w : World) (sz : Nat) (x : Value) (news : List Value) (ys : List (List AV)) : Prop where
  len : (Builtin.lenOf x).run P w = .ok ys.length w
  cells : ∀ w' : World, w'.heap = w.heap → (Builtin.firstCells sz ys.length x).run P w' = .ok news.toArray w'
  one : ∀ v ∈ news, v.oneCell' = true
  rows : ∀ r ∈ ys, r.length = sz
  rep : RepL Γ Nm.e news ys.flatten

theorem Arg.len' {P Γ w sz x news ys} (h : Arg P Γ w sz x news ys) : news.length = ys.length * sz := by rw [h.rep.1, flat_len h.rows]

theorem arg_sh {P : Program} {Γ m} {w : World} (hg : ∀ ad v, Γ ad = some v → w.cell? ad = some v) {x : Value} {sz : Nat} {ys : List (List AV)} (h : Rep Γ m x (.sh sz ys)) : ∃ news, Arg P Γ w sz x news ys := by
  rcases h.sh_inv with ⟨a, rfl, rfl⟩ | ⟨a, cap, vs, rfl, h2, h3, h4, h5, h6, h7⟩
  · refine ⟨[], ⟨by simp [Builtin.lenOf], fun w' _ => ?_, by simp, by simp, .nil⟩⟩
    cases a with
    | none => simp [Builtin.firstCells]
    | some a => simp [Builtin.firstCells, loadCells, loadCellsFrom]
  · refine ⟨vs, ⟨by simp [Builtin.lenOf], fun w' hw => ?_, h6, h4, h7⟩⟩
    refine run_firstCells_some w' sz ys.length a ys.length cap vs (by rw [h7.1, flat_len h4]) fun j v hv => ?_
    have := hg _ _ (h5 j v hv)
    simpa [World.cell?, hw] using this

theorem arg_str {P : Program} {Γ} {w : World} (l : List UInt8) : Arg P Γ w 1 (.string ⟨l.toArray⟩) (l.map fun b => .int .u8 (b.toNat : Int)) (BS l) := by
  have hf : (BS l).flatten = l.map fun b => AV.i .u8 (b.toNat : Int) := by
    induction l with
    | nil => rfl
    | cons x l ih => simp [BS] at ih ⊢; exact ih
  have hs : ByteArray.size ⟨l.toArray⟩ = l.length := by simp [ByteArray.size]
  refine ⟨by simp [Builtin.lenOf, hs, BS], fun w' _ => ?_, by simp [Value.oneCell'], by simp [BS], ⟨by simp [hf], fun j v c hv hc => ?_⟩⟩
  · have hx : (⟨l.toArray⟩ : ByteArray).extract 0 l.length = ⟨l.toArray⟩ := by
      apply ByteArray.ext; simp
    simp [Builtin.firstCells, BS, hx]
  · rw [hf] at hc
    rw [List.getElem?_map] at hv hc
    cases hq : l[j]? with
    | none => rw [hq] at hv; cases hv
    | some b => rw [hq] at hv hc; cases hv; cases hc; exact .i

theorem owns_cell {w : World} {e sz v n xs g} (h : w.ownsRow 0 e sz v n xs) (hg : v.ownBlock = some g) {j : Nat} {u : Value} (hu : xs[j]? = some u) : w.cell? ⟨g, j, none⟩ = some u := by
  have := h.cells hg j u hu
  rwa [add_lit, Nat.zero_add] at this
theorem owns_nil {w : World} {e sz v n xs} (h : w.ownsRow 0 e sz v n xs) (hg : v.ownBlock = none) : v = .slice none 0 0 ∧ n = 0 ∧ xs = [] := by
  rcases h.2 with ⟨rfl, rfl⟩ | ⟨g, cap, cur, rfl, _⟩
  · exact ⟨rfl, rfl, List.eq_nil_of_length_eq_zero (by simpa using h.1)⟩
  · cases hg
theorem owns_val {w : World} {e sz v n xs g} (h : w.ownsRow 0 e sz v n xs) (hg : v.ownBlock = some g) : ∃ cap, v = .slice (some ⟨g, 0, none⟩) n cap ∧ n ≤ cap ∧ cap ≤ maxLen := by
  rcases h.2 with ⟨rfl, rfl⟩ | ⟨g', cap, cur, rfl, _, _, h1, h2, _⟩
  · cases hg
  · cases hg; exact ⟨cap, rfl, h1, h2⟩

/-- A row that is owned, kept, and read asL rows: what it stands for. -/
theorem rep_own {Γ m} {w : World} {e : TypeId} {sz : Nat} {v : Value} {xs : List Value} {rows : List (List AV)} (h : w.ownsRow 0 e sz v rows.length xs) (hr : RepL Γ Nm.e xs rows.flatten) (hl : ∀ r ∈ rows, r.length = sz) (h1 : ∀ v ∈ xs, v.oneCell' = true)
    (hp : ∀ g, v.ownBlock = some g → ∀ j, j < rows.length * sz → Γ ⟨g, j, none⟩ = xs[j]?) : Rep Γ m v (.sh sz rows) := by
  cases hb : v.ownBlock with
  | none =>
    obtain ⟨rfl, hn, rfl⟩ := owns_nil h hb
    rw [List.eq_nil_of_length_eq_zero hn]
    exact .sh0
  | some g =>
    obtain ⟨cap, rfl, hc, hm⟩ := owns_val h hb
    refine .sh xs hc hm rfl hl hr.1 (fun j v hv => ?_) h1 hr.2
    rw [add_lit, Nat.zero_add, hp g rfl j (by rw [← h.1]; exact (List.getElem?_eq_some_iff.1 hv).1)]
    exact hv

/-- What the cells of a slice that grows are. -/
theorem own_rep {Γ m} {w : World} {e : TypeId} {sz : Nat} {v : Value} {xs : List Value} {rows : List (List AV)} (h : w.ownsRow 0 e sz v rows.length xs) (hr : Rep Γ m v (.sh sz rows))
    (hp : ∀ g, v.ownBlock = some g → ∀ j, j < rows.length * sz → Γ ⟨g, j, none⟩ = xs[j]?) : RepL Γ Nm.e xs rows.flatten ∧ (∀ r ∈ rows, r.length = sz) ∧ ∀ v ∈ xs, v.oneCell' = true := by
  rcases hr.sh_inv with ⟨a, rfl, rfl⟩ | ⟨a, cap, vs, rfl, h2, h3, h4, h5, h6, h7⟩
  · have : xs = [] := List.eq_nil_of_length_eq_zero (by simpa using h.1)
    subst this
    exact ⟨.nil, by simp, by simp⟩
  · have hx : vs = xs := by
      have hlen : vs.length = xs.length := by rw [h7.1, flat_len h4, h.1]
      cases hb : Value.ownBlock (.slice (some a) rows.length cap) with
      | none => cases hb
      | some g =>
        obtain ⟨cap', he, _⟩ := owns_val h hb
        cases he
        apply List.ext_getElem?
        intro j
        by_cases hj : j < vs.length
        · have h8 := h5 j vs[j] (List.getElem?_eq_getElem hj)
          rw [add_lit, Nat.zero_add, hp g rfl j (by rw [← flat_len h4, ← h7.1]; exact hj)] at h8
          rw [List.getElem?_eq_getElem hj, h8]
        · rw [List.getElem?_eq_none (by omega), List.getElem?_eq_none (by omega)]
    subst hx
    exact ⟨h7, h4, h6⟩

theorem prot_at {Γ : Gam} {g : Nat} {l : List Value} {j : Nat} (hj : j < l.length) : prot Γ (some g) l ⟨g, j, none⟩ = l[j]? := by simp [prot, hj]
theorem prot_other {Γ : Gam} {b : Option Nat} {l : List Value} {ad : Addr} (h : b ≠ some ad.block) : prot Γ b l ad = Γ ad := by simp [prot, h]

section
variable {c : Ctx} {tab : Tab} (ht : TabOk c.P tab) {t u e : TypeId} {i j iu : TyI} (hi : look tab t = some i) (hd : i.d = .slice e) (hj : look tab e = some j) (hu : look tab u = some iu) (hud : ∀ k, iu.d ≠ .int k)
include ht hi hd hj hu hud

/-- Append to what grows. -/
theorem RRW.grow {Γ m st a w} (h : RRW c Γ m st a w) (hsz : 0 < j.size) {tg : Nat} {rows ys : List (List AV)} (hob : st.ob tg = .gw rows.length) {v x : Value} (hv : Rep Γ m v (.gr tg e j.size rows)) {news : List Value} (hx : Arg c.P Γ w j.size x news ys) {ty : TypeId}
    (h63 : rows.length + ys.length ≤ maxLen) (hb : (rows.length + ys.length) * j.bytes ≤ 140737488355328) :
    ∃ v' w' Γ' m', (Builtin.append_ #[t, u] ty #[v, x]).run c.P w = .ok v' w' ∧ RRW c Γ' m' ⟨st.T, (tg, .gw (rows.length + ys.length)) :: st.B⟩ a w' ∧ Rep Γ' m' v' (.gr tg e j.size (rows ++ ys)) := by
  have hobk := h.obs tg
  rw [hob] at hobk
  obtain ⟨v0, e0, sz0, xs, k1, k2, k3, k4⟩ := hobk
  cases hv with | gr hv hka => ?_
  rw [hka] at k1; cases k1
  have hp := fun g hg => (k4 g hg).1
  obtain ⟨r1, r2, r3⟩ := own_rep k3 hv hp
  obtain ⟨v', w', q1, q2, q4, q5⟩ := append_core ht hi hd hj hu hud hsz k3 hx.len hx.cells (by rw [hx.len']) hx.one h63 hb (ty := ty)
  let Γ' := prot Γ v'.ownBlock (xs ++ news)
  let m' : Nm := ⟨m.th, fun s k => if s = tg ∧ k = rows.length + ys.length then some (v', e, j.size) else m.ka s k, m.fy⟩
  have hblk : ∀ g, (st.ob tg).blk m tg g = (v.ownBlock = some g) := fun g => by rw [hob]; simp [Ob.blk, hka]
  have hxl : xs.length = rows.length * j.size := k3.1
  have hlen : (xs ++ news).length = (rows.length + ys.length) * j.size := q2.1
  have hlt : ∀ s b, (st.ob s).blk m s b → b < w.heap.size := fun s b hs => (h.obs s).lt hs
  -- other blocks stay
  have hkeep : ∀ k, k < w.heap.size → v.ownBlock ≠ some k → w'.heap[k]? = w.heap[k]? := fun k hk hne => by
    rcases q4 with ⟨_, q3⟩ | ⟨_, _, _, q3⟩
    · exact q3.block k hk (Ne.symm hne)
    · exact q3.block k hk (by simp)
  have hstream : w'.os = w.os ∧ w'.tape = w.tape ∧ w'.output = w.output ∧ w.heap.size ≤ w'.heap.size := by
    rcases q4 with ⟨_, q3⟩ | ⟨_, _, _, q3⟩ <;> exact ⟨q3.os, q3.tape, q3.output, q3.size⟩
  -- where the row lies, nothing else is kept
  have hfree : ∀ g, v'.ownBlock = some g → ∀ ad : Addr, ad.block = g → (ad.spot ≠ none ∨ rows.length * j.size ≤ ad.off ∨ v.ownBlock ≠ some g) → Γ ad = none := by
    intro g hg ad had hcase
    by_cases e1 : v.ownBlock = some g
    · refine (k4 g e1).2 ad had ?_
      rcases hcase with hc | hc | hc
      · exact .inl hc
      · exact .inr hc
      · exact absurd e1 hc
    · rcases q4 with ⟨q4, _⟩ | ⟨g', hg', q4, _⟩
      · rw [q4] at hg; exact absurd hg e1
      · rw [q4] at hg; cases hg
        cases hΓ : Γ ad with
        | none => rfl
        | some y => have := block_lt_of_cell (h.gok ad y hΓ); omega
  have hsub : Sub Γ Γ' := fun ad y hy => by
    show prot Γ _ _ ad = some y
    unfold prot
    split
    · rename_i hc
      obtain ⟨c1, c2, c3⟩ := hc
      by_cases e1 : ad.off < rows.length * j.size ∧ v.ownBlock = some ad.block
      · have := (k4 _ e1.2).1 ad.off e1.1
        obtain ⟨ab, ao, asL⟩ := ad
        simp only at c2 this e1 ⊢
        subst c2
        rw [this] at hy
        rw [List.getElem?_append_left (by rw [hxl]; exact e1.1)]
        exact hy
      · have := hfree _ c1 ad rfl (by
          by_cases e2 : ad.off < rows.length * j.size
          · exact .inr (.inr fun e3 => e1 ⟨e2, e3⟩)
          · exact .inr (.inl (by omega)))
        rw [this] at hy; cases hy
    · exact hy
  have hgok : ∀ ad y, Γ' ad = some y → w'.cell? ad = some y := fun ad y hy => by
    change prot Γ _ _ ad = some y at hy
    unfold prot at hy
    split at hy
    · rename_i hc
      obtain ⟨c1, c2, c3⟩ := hc
      obtain ⟨ab, ao, asL⟩ := ad
      simp only at c1 c2 c3 hy ⊢
      subst c2
      exact owns_cell q2 c1 hy
    · rename_i hc
      have hlt' := block_lt_of_cell (h.gok ad y hy)
      by_cases e1 : v.ownBlock = some ad.block
      · rcases q4 with ⟨q4, _⟩ | ⟨g', hg', q4, q3⟩
        · exfalso
          rw [q4] at hc
          by_cases e2 : ad.spot = none ∧ ad.off < rows.length * j.size
          · exact hc ⟨e1, e2.1, by rw [hlen, Nat.add_mul]; omega⟩
          · have := (k4 _ e1).2 ad rfl (by
              by_cases e3 : ad.spot = none
              · exact .inr (by have := e2; simp [e3] at this; omega)
              · exact .inl e3)
            rw [this] at hy; cases hy
        · rw [World.cell?_of_block (w := w) (q3.block ad.block hlt' (by simp))]
          exact h.gok ad y hy
      · rw [World.cell?_of_block (w := w) (hkeep ad.block hlt' e1)]
        exact h.gok ad y hy
  have hext : ∀ r, Ext m m' r := fun r => ⟨fun _ hx => hx, fun k x hx => by
    show (if r = tg ∧ k = rows.length + ys.length then _ else _) = _
    split
    · rename_i hc
      obtain ⟨rfl, rfl⟩ := hc
      have := k2 _ _ hx
      have h0 : ys.length = 0 := by omega
      obtain ⟨rfl, _⟩ := q5 h0
      rw [h0, Nat.add_zero, hka] at hx
      exact hx
    · exact hx⟩
  have hob' : ∀ s, (⟨st.T, (tg, .gw (rows.length + ys.length)) :: st.B⟩ : St).ob s = if tg = s then .gw (rows.length + ys.length) else st.ob s := fun s => ob_cons _ _ _ _ _
  have hka' : m'.ka tg (rows.length + ys.length) = some (v', e, j.size) := by simp [m']
  have hblk' : ∀ g, (Ob.gw (rows.length + ys.length)).blk m' tg g = (v'.ownBlock = some g) := fun g => by simp [Ob.blk, hka']
  have hstream : w'.os = w.os ∧ w'.tape = w.tape ∧ w'.output = w.output ∧ w.heap.size ≤ w'.heap.size := by
    rcases q4 with ⟨_, q3⟩ | ⟨_, _, _, q3⟩ <;> exact ⟨q3.os, q3.tape, q3.output, q3.size⟩
  have hother : ∀ s, s ≠ tg → m'.th s = m.th s ∧ m'.ka s = m.ka s ∧ m'.fy s = m.fy s := fun s hs => ⟨rfl, by funext k; simp [m', hs], rfl⟩
  have hrep : RepL Γ' Nm.e (xs ++ news) (rows ++ ys).flatten := by
    rw [List.flatten_append]
    have h1 := r1.append hx.rep
    exact ⟨h1.1, fun a b c d f => (h1.2 a b c d f).sub hsub⟩
  have hrows : ∀ r ∈ rows ++ ys, r.length = j.size := fun r hr => by
    rcases List.mem_append.1 hr with hr | hr
    · exact r2 r hr
    · exact hx.rows r hr
  refine ⟨v', w', Γ', m', q1, ?_, .gr (rep_own (by rw [List.length_append]; exact q2) hrep hrows (fun v hv => ?_) fun g hg k hk => ?_) (by rw [List.length_append]; exact hka')⟩
  · refine h.mem hsub (fun t r _ => hext r) (fun p _ => hext p) hgok (fun s => ?_) (fun s g hg => ?_) (fun s s' g hg hg' => ?_) ?_ (fun ad h0 h1 => ?_)
    · rw [hob']
      split
      · rename_i e1; subst e1
        refine ⟨v', e, j.size, xs ++ news, hka', fun k y hy => ?_, q2, fun g hg => ⟨fun k hk => ?_, fun ad had hq => ?_⟩⟩
        · by_cases e2 : k = rows.length + ys.length
          · omega
          · have : m'.ka tg k = m.ka tg k := by simp [m', e2]
            rw [this] at hy
            have := k2 k y hy; omega
        · show prot Γ v'.ownBlock _ _ = _
          rw [hg]
          exact prot_at (by rw [hlen]; exact hk)
        · show prot Γ v'.ownBlock _ _ = _
          unfold prot
          rw [if_neg (fun hc => by
            rcases hq with hq | hq
            · exact hq hc.2.1
            · have := hc.2.2; rw [hlen] at this; omega)]
          exact hfree g hg ad had (by
            rcases hq with hq | hq
            · exact .inl hq
            · exact .inr (.inl (by rw [Nat.add_mul] at hq; omega)))
      · rename_i e1
        have hne : s ≠ tg := Ne.symm e1
        refine (h.obs s).keep hsub (hother s hne).1 (hother s hne).2.1 (hother s hne).2.2 hstream.2.2.2 ⟨hstream.1, hstream.2.1, hstream.2.2.1⟩ (fun r _ => hext r) fun b hb' => ?_
        have hnb : v.ownBlock ≠ some b := fun e2 => hne (h.inj s tg b hb' (by rw [hblk, e2]))
        refine ⟨hkeep b (hlt s b hb') hnb, fun ad had => prot_other fun e2 => ?_⟩
        rcases q4 with ⟨q4, _⟩ | ⟨g', hg', q4, _⟩
        · rw [q4, had] at e2; exact hnb e2
        · rw [q4, had] at e2; cases e2; have := hlt s b hb'; omega
    · rw [hob'] at hg
      split at hg
      · rename_i e1; subst e1
        rw [hblk'] at hg
        rcases q4 with ⟨q4, _⟩ | ⟨g', hg', q4, _⟩
        · rw [q4] at hg; exact h.own tg g (by rw [hblk]; exact hg)
        · rw [q4] at hg; cases hg; exact .inl (Nat.le_trans h.frame.size hg')
      · rename_i e1
        rw [blk_same (hother s (Ne.symm e1)).1 (hother s (Ne.symm e1)).2.1 (hother s (Ne.symm e1)).2.2] at hg
        exact h.own s g hg
    · have key : ∀ s, s ≠ tg → ∀ b, (st.ob s).blk m s b → v'.ownBlock = some b → False := fun s hs b hb' hv' => by
        rcases q4 with ⟨q4, _⟩ | ⟨g', hg', q4, _⟩
        · rw [q4] at hv'; exact hs (h.inj s tg b hb' (by rw [hblk]; exact hv'))
        · rw [q4] at hv'; cases hv'; have := hlt s b hb'; omega
      rw [hob'] at hg hg'
      split at hg <;> split at hg'
      · rename_i e1 e2; rw [← e1, ← e2]
      · rename_i e1 e2
        subst e1
        rw [hblk'] at hg
        rw [blk_same (hother s' (Ne.symm e2)).1 (hother s' (Ne.symm e2)).2.1 (hother s' (Ne.symm e2)).2.2] at hg'
        exact (key s' (Ne.symm e2) g hg' hg).elim
      · rename_i e1 e2
        subst e2
        rw [hblk'] at hg'
        rw [blk_same (hother s (Ne.symm e1)).1 (hother s (Ne.symm e1)).2.1 (hother s (Ne.symm e1)).2.2] at hg
        exact (key s (Ne.symm e1) g hg hg').elim
      · rename_i e1 e2
        rw [blk_same (hother s (Ne.symm e1)).1 (hother s (Ne.symm e1)).2.1 (hother s (Ne.symm e1)).2.2] at hg
        rw [blk_same (hother s' (Ne.symm e2)).1 (hother s' (Ne.symm e2)).2.1 (hother s' (Ne.symm e2)).2.2] at hg'
        exact h.inj s s' g hg hg'
    · refine h.frame.trans' hstream.1 hstream.2.1 hstream.2.2.1 hstream.2.2.2 fun k hk => ?_
      by_cases e1 : v.ownBlock = some k
      · exact .inl ⟨k, h.own tg k (by rw [hblk]; exact e1), rfl⟩
      · exact .inr (hkeep k hk e1)
    · change prot Γ _ _ ad ≠ none at h1
      unfold prot at h1
      split at h1
      · rename_i hc
        rcases q4 with ⟨q4, _⟩ | ⟨g', hg', q4, _⟩
        · exact h.own tg ad.block (by rw [hblk, ← q4]; exact hc.1)
        · have := hc.1; rw [q4] at this; cases this; exact .inl (Nat.le_trans h.frame.size hg')
      · exact absurd h0 h1
  · rcases List.mem_append.1 hv with hv | hv
    · exact r3 v hv
    · exact hx.one v hv
  · show prot Γ v'.ownBlock _ _ = _
    rw [hg]
    exact prot_at (by rw [hlen]; rwa [List.length_append] at hk)
end

end Go.Proofs.Ytocppeifkjdeiaa.Mv

/- A machine for proofs, part K: operations that turn memory. Under no condition. -/
namespace Go.Proofs.Ytocppeifkjdeiaa.Mv
open Go
set_option linter.unusedSimpArgs false
set_option linter.unusedVariables false

/-- What append is handed, asL rows. -/
def argOf : AV → Option (Nat × List (List AV))
  | .sh sz ys => some (sz, ys)
  | .gr _ _ sz ys => some (sz, ys)
  | .s l => some (1, BS l)
  | _ => none
def argNil : AV → Bool
  | .nil => true
  | _ => false

/-- Operations that turn memory: what they do. -/
def mop (tab : Tab) (st : St) (o : Oper) : Option Eff :=
  match o.op with
  | .store t x y => match look tab t, st.val x, o.dst with
    | some i, .ptr g off, none => match st.ob g with
      | .bx cs => if fitsIn i.size (st.val y) = true ∧ (st.val y).cells.all AV.leaf = true ∧ off + i.size ≤ cs.length then some ⟨[], [(g, .bx (splice cs off (st.val y).cells))], []⟩ else none
      | _ => none
    | _, _, _ => none
  | .box _ x => match o.dst with
    | some d => if fitsIn (st.val x).cells.length (st.val x) = true ∧ (st.val x).cells.all AV.leaf = true then some ⟨[(d, .ptr d 0)], [(d, .bx (st.val x).cells)], [d]⟩ else none
    | none => none
  | .alloc t => match look tab t, o.dst with
    | some i, some d => some ⟨[(d, .ptr d 0)], [(d, .bx (i.zero.map ofVal))], [d]⟩
    | _, _ => none
  | .buildSlice t len ps => match look tab t, o.dst with
    | some i, some d => match i.d with
      | .slice e => match look tab e with
        | some j => if ps.toList.map (·.1) = List.range len ∧ ps.toList.all (fun p => fitsIn j.size (st.val p.2) && (st.val p.2).cells.all AV.shut) = true ∧ len * j.size ≤ 16777216 ∧ 0 < j.size then
            some ⟨[(d, .gr d e j.size (ps.toList.map fun p => (st.val p.2).cells.map AV.close))], [(d, .gw len)], [d]⟩ else none
        | none => none
      | _ => none
    | _, _ => none
  | .convert s d' x => match look tab s, look tab d', st.val x, o.dst with
    | some i, some j, .s l, some d => match i.d, j.d with
      | .string, .slice e => match look tab e with
        | some ie => match ie.d with
          | .int .u8 => if l.length ≤ 137438953472 then some ⟨[(d, .bsl d 0 l.length 1)], [(d, .bx (cellsB l))], [d]⟩ else none
          | _ => none
        | none => none
      | _, _ => none
    | _, _, _, _ => none
  | .makeSlice t x y => match look tab t, o.dst with
    | some i, some d => match i.d, st.val x, st.val y with
      | .slice e, .i .i64 n, .i .i64 k => match look tab e with
        | some j => if 0 ≤ n ∧ n ≤ k ∧ k ≤ 140737488355328 ∧ j.bytes * k ≤ 140737488355328 ∧ 0 < j.size ∧ (j.zero.map ofVal).all AV.shut = true then
            some ⟨[(d, .gr d e j.size (List.replicate n.toNat (j.zero.map ofVal)))], [(d, .gw n.toNat)], [d]⟩ else none
        | none => none
      | _, _, _ => none
    | _, _ => none
  | .call cl => match cl.callee with
    | .builtin .append => match cl.args.toList, cl.argTypes.toList, o.dst with
      | [s, x], [t, u], some d => match look tab t, look tab u with
        | some i, some iu => match i.d with
          | .slice e => match look tab e, (match iu.d with | .slice _ => true | .string => true | _ => false) with
            | some j, true => match (if argNil (st.val x) then some (j.size, []) else argOf (st.val x)) with
              | some (sz, ys) => match st.val s with
                | .gr tg e' sz' rows => match st.ob tg with
                  | .gw n => if e' = e ∧ sz' = j.size ∧ sz = j.size ∧ 0 < j.size ∧ n = rows.length ∧ 0 < j.bytes ∧ (rows.length + ys.length) * j.bytes ≤ 140737488355328 then
                      some ⟨[(d, .gr tg e j.size (rows ++ ys))], [(tg, .gw (rows.length + ys.length))], []⟩ else none
                  | _ => none
                | .nil => if sz = j.size ∧ 0 < j.size ∧ 0 < j.bytes ∧ ys.length * j.bytes ≤ 140737488355328 then
                      some ⟨[(d, .gr d e j.size ys)], [(d, .gw ys.length)], [d]⟩ else none
                | _ => none
              | none => none
            | _, _ => none
          | _ => none
        | _, _ => none
      | _, _, _ => none
    | _ => none
  | _ => none

/-- A tag that nothing leads to. -/
def St.free (s : St) (d : Nat) : Prop := d < 1000000 ∧ d ∉ St.refsT s.T ∧ d ∉ St.refsB s.B

/-- A new row. -/
theorem RRW.row {c Γ m st a w} (h : RRW c Γ m st a w) {d : Nat} (hf : st.free d) {e : TypeId} {sz cap : Nat} {cur : Array Value} {xs : List Value} {rows : List (List AV)} (hcap : rows.length ≤ cap) (hm : cap ≤ maxLen) (hs : cur.size = cap * sz)
    (ht : cur.toList.take (rows.length * sz) = xs) (hr : RepL Γ Nm.e xs rows.flatten) (hl : ∀ r ∈ rows, r.length = sz) (h1 : ∀ v ∈ xs, v.oneCell' = true) :
    ∃ Γ' m', RRW c Γ' m' ⟨st.T, (d, .gw rows.length) :: st.B⟩ a (w.alloc (.cells cur e)) ∧ Rep Γ' m' (.slice (some ⟨w.heap.size, 0, none⟩) rows.length cap) (.gr d e sz rows) := by
  let v : Value := .slice (some ⟨w.heap.size, 0, none⟩) rows.length cap
  let Γ' := prot Γ (some w.heap.size) xs
  have hxl : xs.length = rows.length * sz := by rw [hr.1, flat_len hl]
  have hown : (w.alloc (.cells cur e)).ownsRow 0 e sz v rows.length xs := ⟨hxl, .inr ⟨w.heap.size, cap, cur, rfl, Nat.zero_le _, heap_alloc_new w _, hcap, hm, hs, ht⟩⟩
  have hnone : ∀ ad : Addr, ad.block = w.heap.size → Γ ad = none := fun ad had => by
    cases hΓ : Γ ad with
    | none => rfl
    | some y => have := block_lt_of_cell (h.gok ad y hΓ); omega
  have hsub : Sub Γ Γ' := fun ad y hy => by
    show prot Γ _ _ ad = some y
    rw [prot_other]
    · exact hy
    · intro e; have e := Option.some.inj e; rw [hnone ad e.symm] at hy; cases hy
  have hp : ∀ j, j < rows.length * sz → Γ' ⟨w.heap.size, j, none⟩ = xs[j]? := fun j hj => prot_at (by omega)
  let m' := m.set d none fun k => if k = rows.length then some (v, e, sz) else none
  have hka : m'.ka d rows.length = some (v, e, sz) := by simp [m', Nm.set]
  refine ⟨Γ', m', h.new hf.1 hf.2.1 hf.2.2 hsub rfl rfl rfl (by simp) (fun i hi => heap_alloc_old w _ i hi) (fun ad had => prot_other (by intro e; have e := Option.some.inj e; omega)) (fun ad y hy => ?_) ?_ (fun i hi => ?_), .gr (rep_own hown ⟨hr.1, fun a b c d f => (hr.2 a b c d f).sub hsub⟩ hl h1 fun g hg j hj => ?_) hka⟩
  · change prot Γ _ _ ad = some y at hy
    unfold prot at hy
    split at hy
    · rename_i hc
      obtain ⟨ab, ao, asL⟩ := ad
      simp only at hc hy
      obtain ⟨c1, c2, c3⟩ := hc
      subst c2; cases c1
      exact owns_cell hown rfl hy
    · exact cell_alloc (h.gok ad y hy)
  · refine ⟨v, e, sz, xs, hka, fun k y hy => ?_, hown, fun g hg => ?_⟩
    · simp only [Nm.set, if_true] at hy
      split at hy
      · omega
      · cases hy
    · cases hg
      refine ⟨hp, fun ad had hq => ?_⟩
      show prot Γ _ _ ad = none
      unfold prot
      rw [if_neg (fun hc => by
        rcases hq with hq | hq
        · exact hq hc.2.1
        · have := hc.2.2; omega)]
      exact hnone ad had
  · simp only [Ob.blk] at hi
    change (m'.ka d rows.length).bind _ = _ at hi
    rw [hka] at hi
    cases hi; exact Nat.le_refl _
  · cases hg; exact hp j hj

/-- The nil slice, asL one that grows. -/
theorem RRW.nilrow {c Γ m st a w} (h : RRW c Γ m st a w) {d : Nat} (hf : st.free d) (e : TypeId) (sz : Nat) :
    ∃ m', RRW c Γ m' ⟨st.T, (d, .gw 0) :: st.B⟩ a w ∧ Rep Γ m' (.slice none 0 0) (.gr d e sz []) ∧ (∀ t, t ≠ d → Ext m m' t) := by
  let m' := m.set d none fun k => if k = 0 then some (.slice none 0 0, e, sz) else none
  have hka : m'.ka d 0 = some (.slice none 0 0, e, sz) := by simp [m', Nm.set]
  refine ⟨m', h.new hf.1 hf.2.1 hf.2.2 (Sub.refl _) rfl rfl rfl (Nat.le_refl _) (fun _ _ => rfl) (fun _ _ => rfl) h.gok ⟨_, e, sz, [], hka, fun k y hy => ?_, World.ownsRow_nil w 0 e sz, fun g hg => by cases hg⟩ (fun i hi => ?_), .gr .sh0 hka, fun t ht => m.set_ext d _ _ ht⟩
  · simp only [Nm.set, if_true] at hy
    split at hy
    · omega
    · cases hy
  · simp only [Ob.blk] at hi
    change (m'.ka d 0).bind _ = _ at hi
    rw [hka] at hi; cases hi

end Go.Proofs.Ytocppeifkjdeiaa.Mv

/- A machine for proofs, part L: each operation that turns memory, asL the machine runs it. Under no condition. -/
namespace Go.Proofs.Ytocppeifkjdeiaa.Mv
open Go
set_option linter.unusedSimpArgs false
set_option linter.unusedVariables false

def putEff (d : Option Nat) (v : AV) : Eff := ⟨match d with | some d => [(d, v)] | none => [], [], []⟩

theorem pop_wp {c Γ m st a w} {tab : Tab} (ht : TabOk c.P tab) (h : RRW c Γ m st a w) {o : Oper} {v : AV} (hok : o.op.operands.all (okOp c.N) = true) (hp : pop tab st o.op = some v) {Q : Exit → Act → World → Prop} :
    o.wp c.P a w (fun a' w' => RR c (st.app (putEff o.dst v)) a' w') Q := by
  obtain ⟨val, h1, h2⟩ := pop_sound ht h hok hp
  unfold Oper.wp
  rw [h1]
  have := h.put o.dst h2
  refine ⟨Γ, m, ?_⟩
  cases hd : o.dst with
  | none => rw [hd] at this; exact this
  | some d => rw [hd] at this; exact this

theorem alloc_eq (w : World) (o : Obj) : ({ w with heap := w.heap.push o } : World) = w.alloc o := rfl

theorem zeros_fit {P : Program} {tab : Tab} (ht : TabOk P tab) {t : Nat} {i : TyI} (hi : look tab t = some i) (Γ m) : RepL Γ m i.zero (i.zero.map ofVal) := ⟨by simp, fun j v x hv hx => by
  rw [List.getElem?_map, hv] at hx; cases hx; exact ofVal_rep _ _ _⟩
theorem zeros_leaf {P : Program} {tab : Tab} (ht : TabOk P tab) {t : Nat} {i : TyI} (hi : look tab t = some i) : (i.zero.map ofVal).all AV.leaf = true := by
  have := (ht.at hi).one.1
  rw [List.all_eq_true] at this ⊢
  intro x hx
  obtain ⟨v, hv, rfl⟩ := List.mem_map.1 hx
  exact ofVal_leaf (this v hv)
theorem zeros_refs {i : TyI} : AV.refs.refsL (i.zero.map ofVal) = [] := by
  induction i.zero with
  | nil => rfl
  | cons v vs ih => simp [AV.refs.refsL, ofVal_refs, ih]

theorem RRW.app1 {c : Ctx} {Γ m} {st : St} {a w} {d : Nat} {x : AV} {B : List (Nat × Ob)} {new : List Nat} {v : Value} (h : RRW c Γ m ⟨st.T, B ++ st.B⟩ a w) (hv : Rep Γ m v x) : RR c (st.app ⟨[(d, x)], B, new⟩) (a.put (some d) v) w :=
  ⟨Γ, m, h.put (some d) hv⟩

theorem cells_refs {c : AV} {t : Nat} (h : t ∈ AV.refs.refsL c.cells) : t ∈ c.refs := by
  unfold AV.cells at h
  split at h
  · exact h
  · simpa [AV.refs.refsL] using h
theorem val_refs {st : St} {x : Operand} {t : Nat} (h : t ∈ (st.val x).refs) : t ∈ St.refsT st.T := by
  cases x with
  | tmp j => exact St.get_refs h
  | const v => simp [St.val, ofVal_refs] at h
  | func f => simp [St.val, AV.refs, AV.refs.refsL] at h
  | global g => simp [St.val, AV.refs] at h

/-- Parts in order fill a row. -/
theorem fill_all {sz : Nat} : ∀ (l : List AV) (pre zs : List AV), zs.length = l.length * sz → (∀ c ∈ l, fitsIn sz c = true ∧ c.cells.length = sz) →
    fillA (pre ++ zs) ((l.zipIdx).map fun p => (pre.length + p.2 * sz, sz, p.1)) = some (pre ++ (l.map AV.cells).flatten)
  | [], pre, zs, hz, _ => by
    have : zs = [] := List.eq_nil_of_length_eq_zero (by simpa using hz)
    subst this; simp [fillA]
  | c :: l, pre, zs, hz, hc => by
    obtain ⟨h1, h2⟩ := hc c (by simp)
    simp only [List.zipIdx_cons, List.map_cons, fillA]
    rw [if_pos ⟨h1, by simp [hz, Nat.add_mul]⟩]
    have hsp : splice (pre ++ zs) (pre.length + 0 * sz) c.cells = (pre ++ c.cells) ++ zs.drop sz := by
      unfold splice
      simp [h2, List.take_append, List.drop_append]
    rw [hsp]
    have ih := fill_all l (pre ++ c.cells) (zs.drop sz) (by simp [hz, Nat.add_mul]) fun d hd => hc d (by simp [hd])
    have hmap : ((l.zipIdx (0 + 1)).map fun p => (pre.length + p.2 * sz, sz, p.1)) = (l.zipIdx).map fun p => ((pre ++ c.cells).length + p.2 * sz, sz, p.1) := by
      rw [List.zipIdx_succ, List.map_map]
      apply List.map_congr_left
      intro p _
      simp [h2, Nat.add_mul]
      omega
    rw [hmap, ih]
    simp

theorem fits_len {sz : Nat} {c : AV} (h : fitsIn sz c = true) : c.cells.length = sz := by
  cases c <;> simp_all [fitsIn, AV.cells]

theorem close_list {Γ m vs cs} (h : RepL Γ m vs cs) (hs : cs.all AV.shut = true) : RepL Γ Nm.e vs (cs.map AV.close) :=
  ⟨by simp [h.1], fun j v c hv hc => by
    rw [List.getElem?_map] at hc
    cases hq : cs[j]? with
    | none => rw [hq] at hc; cases hc
    | some d =>
      rw [hq] at hc; cases hc
      exact (h.2 j v d hv hq).close (List.all_eq_true.1 hs d (List.mem_of_getElem? hq))⟩
theorem one_list {Γ m vs cs} (h : RepL Γ m vs cs) (hs : cs.all AV.leaf = true) : ∀ v ∈ vs, v.oneCell' = true := fun v hv => by
  obtain ⟨j, hj⟩ := List.getElem?_of_mem hv
  have hjl : j < cs.length := by rw [← h.1]; exact (List.getElem?_eq_some_iff.1 hj).1
  have hx : cs[j]? = some cs[j] := List.getElem?_eq_getElem hjl
  exact (h.2 j v _ hj hx).one (List.all_eq_true.1 hs _ (List.mem_of_getElem? hx))
theorem shut_leaf_all {cs : List AV} (h : cs.all AV.shut = true) : cs.all AV.leaf = true := by
  rw [List.all_eq_true] at h ⊢
  exact fun c hc => AV.shut_leaf (h c hc)
end Go.Proofs.Ytocppeifkjdeiaa.Mv

/- A machine for proofs, part M: each operation that turns memory does what part K says. Under no condition. -/
namespace Go.Proofs.Ytocppeifkjdeiaa.Mv
open Go
set_option linter.unusedSimpArgs false
set_option linter.unusedVariables false

theorem store_wp {c Γ m st a w} {tab : Tab} (ht : TabOk c.P tab) (h : RRW c Γ m st a w) {o : Oper} {t : TypeId} {x y : Operand} (ho : o.op = .store t x y) (hok : o.op.operands.all (okOp c.N) = true) {e : Eff} (hp : mop tab st o = some e) {Q : Exit → Act → World → Prop} :
    o.wp c.P a w (fun a' w' => RR c (st.app e) a' w') Q := by
  obtain ⟨dst, op, type, pos, after, guard⟩ := o
  simp only at ho; subst ho
  have ev : ∀ z, z ∈ (Op.store t x y).operands → Rep Γ m (a.eval z) (st.val z) := fun z hz => h.eval z (by
    rw [Array.all_eq_true_iff_forall_mem] at hok; exact hok z hz)
  have hx := ev x (by simp [Op.operands])
  have hy := ev y (by simp [Op.operands])
  simp only [mop] at hp
  split at hp
  · rename_i o1 i g off hi hv
    rw [hv] at hx
    split at hp
    · rename_i cs hb
      split at hp <;> cases hp
      rename_i hc
      obtain ⟨c1, c2, c3⟩ := hc
      obtain ⟨vs, hvs, hvl, hvr⟩ := fits_cells hy c1
      cases hxe : a.eval x with
      | pointer p =>
        rw [hxe] at hx
        cases hx with
        | ptr hth =>
          obtain ⟨w', hrun, hrr⟩ := h.store hb hth hvr c2 (by rw [fits_len c1]; exact c3)
          unfold Oper.wp
          have : (execOp a.eval { dst := none, op := .store t x y, type, pos, after, guard }).run c.P w = .ok .skip w' := by
            simp only [execOp, hxe, Instr.storeAt, Instr.sureAddr, storeVar, Sem.run_bind, Sem.run_pure, Result.andThen_ok, (ht.at hi).run_size w, hvs]
            rw [if_neg (by simp [hvl])]
            simp only [hrun, Result.andThen_ok]
          rw [this]
          exact ⟨Γ, m, hrr⟩
      | _ => rw [hxe] at hx; cases hx
    · cases hp
  · cases hp

theorem box_wp {c Γ m st a w} {tab : Tab} (ht : TabOk c.P tab) (h : RRW c Γ m st a w) {o : Oper} {t : TypeId} {x : Operand} (ho : o.op = .box t x) (hok : o.op.operands.all (okOp c.N) = true) {e : Eff} (hp : mop tab st o = some e) (hf : ∀ d ∈ e.new, st.free d) {Q : Exit → Act → World → Prop} :
    o.wp c.P a w (fun a' w' => RR c (st.app e) a' w') Q := by
  obtain ⟨dst, op, type, pos, after, guard⟩ := o
  simp only at ho; subst ho
  have hx := h.eval x (by rw [Array.all_eq_true_iff_forall_mem] at hok; exact hok x (by simp [Op.operands]))
  simp only [mop] at hp
  split at hp
  · rename_i d
    split at hp <;> cases hp
    rename_i hc
    obtain ⟨vs, hvs, hvl, hvr⟩ := fits_cells hx hc.1
    have hfd := hf d (by simp)
    obtain ⟨m', h1, h2⟩ := h.box hfd.1 hfd.2.1 hfd.2.2 t hvr hc.2 (fun hr => hfd.2.1 (val_refs (cells_refs hr)))
    unfold Oper.wp
    have : (execOp a.eval { dst := some d, op := .box t x, type, pos, after, guard }).run c.P w = .ok (.value (.pointer (some ⟨w.heap.size, 0, none⟩))) (w.alloc (.cells vs.toArray t)) := by
      simp [execOp, Instr.box, newVar, newRow, hvs, alloc_eq]
    rw [this]
    exact h1.app1 (st := st) (B := [(d, .bx (st.val x).cells)]) (.ptr h2)
  · cases hp

theorem alloc_wp {c Γ m st a w} {tab : Tab} (ht : TabOk c.P tab) (h : RRW c Γ m st a w) {o : Oper} {t : TypeId} (ho : o.op = .alloc t) {e : Eff} (hp : mop tab st o = some e) (hf : ∀ d ∈ e.new, st.free d) {Q : Exit → Act → World → Prop} :
    o.wp c.P a w (fun a' w' => RR c (st.app e) a' w') Q := by
  obtain ⟨dst, op, type, pos, after, guard⟩ := o
  simp only at ho; subst ho
  simp only [mop] at hp
  split at hp
  · rename_i i d hi
    cases hp
    have hfd := hf d (by simp)
    obtain ⟨z, hz, hzl⟩ := (ht.at hi).run_zero w
    obtain ⟨m', h1, h2⟩ := h.box hfd.1 hfd.2.1 hfd.2.2 t (zeros_fit ht hi Γ m) (zeros_leaf ht hi) (by rw [zeros_refs]; simp)
    have hzc : z.cells = i.zero.toArray := by rw [← hzl]
    unfold Oper.wp
    have : (execOp a.eval { dst := some d, op := .alloc t, type, pos, after, guard }).run c.P w = .ok (.value (.pointer (some ⟨w.heap.size, 0, none⟩))) (w.alloc (.cells i.zero.toArray t)) := by
      simp [execOp, Instr.alloc, newVar, newRow, hz, hzc, alloc_eq]
    rw [this]
    exact h1.app1 (st := st) (B := [(d, .bx (i.zero.map ofVal))]) (.ptr h2)
  · cases hp

theorem made_take {zs : List Value} {sz : Nat} (hz : zs.length = sz) {n N : Nat} (h : n * sz ≤ N) : (madeCells zs.toArray N).toList.take (n * sz) = (List.replicate n zs).flatten := by
  have key : ∀ n, (List.range (n * sz)).map (fun j => zs[j % sz]?.getD default) = (List.replicate n zs).flatten := by
    intro n
    induction n with
    | zero => simp
    | succ n ih =>
      rw [List.replicate_succ', List.flatten_append, ← ih, Nat.add_mul, Nat.one_mul, List.range_add, List.map_append, List.map_map]
      congr 1
      apply List.ext_getElem?
      intro j
      by_cases hj : j < sz
      · have : (n * sz + j) % sz = j := by rw [Nat.add_comm, Nat.add_mul_mod_self_right]; exact Nat.mod_eq_of_lt hj
        have hj' : j < zs.length := by omega
        simp [List.getElem?_range, hj, this, hj']
      · simp [hj, hz]
  rw [← key n]
  simp only [madeCells, Array.toList_map, Array.toList_range, ← List.map_take, List.take_range, Nat.min_eq_left h]
  apply List.map_congr_left
  intro j _
  simp [hz]
theorem zeros_rows {Γ : Gam} {zs : List Value} (n : Nat) (h : (zs.map ofVal).all AV.shut = true) : RepL Γ Nm.e (List.replicate n zs).flatten (List.replicate n (zs.map ofVal)).flatten := by
  induction n with
  | zero => exact .nil
  | succ n ih =>
    rw [List.replicate_succ, List.replicate_succ, List.flatten_cons, List.flatten_cons]
    exact RepL.append ⟨by simp, fun j v x hv hx => by
      rw [List.getElem?_map, hv] at hx; cases hx; exact ofVal_rep _ _ _⟩ ih

theorem makeSlice_wp {c Γ m st a w} {tab : Tab} (ht : TabOk c.P tab) (h : RRW c Γ m st a w) {o : Oper} {t : TypeId} {x y : Operand} (ho : o.op = .makeSlice t x y) (hok : o.op.operands.all (okOp c.N) = true) {e : Eff} (hp : mop tab st o = some e) (hf : ∀ d ∈ e.new, st.free d) {Q : Exit → Act → World → Prop} :
    o.wp c.P a w (fun a' w' => RR c (st.app e) a' w') Q := by
  obtain ⟨dst, op, type, pos, after, guard⟩ := o
  simp only at ho; subst ho
  have ev : ∀ z, z ∈ (Op.makeSlice t x y).operands → Rep Γ m (a.eval z) (st.val z) := fun z hz => h.eval z (by
    rw [Array.all_eq_true_iff_forall_mem] at hok; exact hok z hz)
  have hx := ev x (by simp [Op.operands])
  have hy := ev y (by simp [Op.operands])
  simp only [mop] at hp
  split at hp
  · rename_i i d hi
    split at hp
    · rename_i e' n k hd hxv hyv
      rw [hxv] at hx; rw [hyv] at hy
      split at hp
      · rename_i j hj
        split at hp <;> cases hp
        rename_i hc
        obtain ⟨c1, c2, c3, c4, c5, c6⟩ := hc
        have hxe : a.eval x = .int .i64 n := by cases hq : a.eval x <;> rw [hq] at hx <;> cases hx <;> rfl
        have hye : a.eval y = .int .i64 k := by cases hq : a.eval y <;> rw [hq] at hy <;> cases hy <;> rfl
        have hut := (ht.at hi).run_und w
        rw [hd] at hut
        obtain ⟨f, hf', hfs, hfb, z, hz, hzl⟩ := (ht.at hj).info
        have hzz := (ht.at hj).one
        have hzc : z.cells = j.zero.toArray := by rw [← hzl]
        have hrun : (execOp a.eval { dst := some d, op := .makeSlice t x y, type, pos, after, guard }).run c.P w = .ok (.value (.slice (some ⟨w.heap.size, 0, none⟩) n.toNat k.toNat)) (w.alloc (.cells (madeCells j.zero.toArray (k.toNat * j.size)) e')) := by
          have := run_make (P := c.P) w t e' f z (by rw [(ht.at hi).und, hd]) hf' hz .i64 .i64 n k c1 c2 (by rw [hfb]; omega) (by omega)
          simp only [execOp, hxe, hye, Sem.run_bind, this, Result.andThen_ok, Sem.run_pure, hzc, hfs]
        have hk : n.toNat * j.size ≤ k.toNat * j.size := Nat.mul_le_mul_right _ (by omega)
        have hrl : ∀ r ∈ List.replicate n.toNat (j.zero.map ofVal), r.length = j.size := fun r hr => by rw [(List.mem_replicate.1 hr).2]; simp [hzz.2]
        have hfl : (List.replicate n.toNat j.zero).flatten.length = (List.replicate n.toNat (j.zero.map ofVal)).flatten.length := by
          simp
        obtain ⟨Γ', m', h1, h2⟩ := h.row (d := d) (hf d (by simp)) (e := e') (sz := j.size) (cap := k.toNat) (cur := madeCells j.zero.toArray (k.toNat * j.size)) (xs := (List.replicate n.toNat j.zero).flatten) (rows := List.replicate n.toNat (j.zero.map ofVal))
          (by simp; omega) (by simp only [maxLen]; omega) (by simp [madeCells]) (by rw [List.length_replicate]; exact made_take hzz.2 hk) (zeros_rows n.toNat c6) hrl (fun v hv => by
            obtain ⟨l, hl, hvl⟩ := List.mem_flatten.1 hv
            rw [(List.mem_replicate.1 hl).2] at hvl
            exact (List.all_eq_true.1 hzz.1) v hvl)
        rw [List.length_replicate] at h1 h2
        unfold Oper.wp
        rw [hrun]
        exact h1.app1 (st := st) (B := [(d, .gw n.toNat)]) h2
      · cases hp
    · cases hp
  · cases hp

end Go.Proofs.Ytocppeifkjdeiaa.Mv
