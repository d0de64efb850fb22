/- A machine for proofs, part F: what an operation that only reads answers, for each of them. Under no condition. -/
import Derived.Test.YtocppeifkjdeiaaCoreE
import Derived.Laws.BytesArg
import Derived.Laws.Pointers
namespace Go.Proofs.Ytocppeifkjdeiaa.Mv
open Go
set_option linter.unusedSimpArgs false
set_option linter.unusedVariables false

theorem loadCells_run {P : Program} {w : World} {a : Addr} {vs : List Value} (h : ∀ (j : Nat) (v : Value), vs[j]? = some v → w.cell? (a.add j) = some v) {n : Nat} (hn : n ≤ vs.length) : (loadCells a n).run P w = .ok (vs.take n).toArray w := by
  have := run_loadCells_list (P := P) w a (vs.take n) (fun j v hv => by
    rw [List.getElem?_take] at hv
    split at hv
    · exact h j v hv
    · cases hv)
  simpa [Nat.min_eq_left hn] using this

theorem loadAt_run {P : Program} {tab : Tab} (ht : TabOk P tab) {w : World} {Γ m} {a : Addr} {vs : List Value} {cs : List AV} (h : ∀ (j : Nat) (v : Value), vs[j]? = some v → w.cell? (a.add j) = some v) (hr : RepL Γ m vs cs) {t : TypeId} {i : TyI} (hl : look tab t = some i) {c : AV} (hc : part i cs = some c) :
    ∃ val, (Instr.loadAt t (.pointer (some a))).run P w = .ok val w ∧ Rep Γ m val c := by
  unfold part at hc
  split at hc
  · rename_i ha
    split at hc <;> cases hc
    rename_i hn
    refine ⟨.agg (vs.take i.size).toArray, ?_, (hr.take i.size).agg⟩
    simp [Instr.loadAt, Instr.sureAddr, loadVar, (ht.at hl).run_agg w, ha, (ht.at hl).run_size w, loadCells_run h (by rw [hr.1]; exact hn)]
  · rename_i ha
    obtain ⟨v, hv, hr'⟩ := hr.get (j := 0) (by rw [List.head?_eq_getElem?] at hc; exact hc)
    have := h 0 v hv
    simp only [Addr.add, if_true] at this
    exact ⟨v, by simp [Instr.loadAt, Instr.sureAddr, loadVar, (ht.at hl).run_agg w, ha, this], hr'⟩

def byteOf' (v : Value) : UInt8 := match v with | .int .u8 n => UInt8.ofNat n.toNat | _ => 0
theorem bytes_run {P : Program} {w : World} {a : Addr} {len cap : Nat} {vs : List Value} (h : ∀ (j : Nat) (v : Value), vs[j]? = some v → w.cell? (a.add j) = some v) (hn : vs.length = len) (hv : ∀ v ∈ vs, ∃ n, v = .int .u8 n) :
    (Conv.bytesToString (.slice (some a) len cap)).run P w = .ok (.string ⟨(vs.map byteOf').toArray⟩) w := by
  have hl := loadCells_run (P := P) h (n := len) (by omega)
  rw [List.take_of_length_le (by omega)] at hl
  obtain ⟨ns, hns⟩ : ∃ ns : List Int, vs = ns.map (Value.int .u8) := by
    clear hl h hn
    induction vs with
    | nil => exact ⟨[], rfl⟩
    | cons v vs ih =>
      obtain ⟨n, rfl⟩ := hv v (by simp)
      obtain ⟨ns, rfl⟩ := ih fun v h => hv v (by simp [h])
      exact ⟨n :: ns, rfl⟩
  subst hns
  have := run_bytesToString (P := P) w a len cap ns (by simpa using hl)
  rw [this, foldl_push_bytes]
  congr 3
  simp [byteOf', Function.comp_def]

theorem toBytes_rows {Γ m} : ∀ {rows : List (List AV)} {l : List UInt8}, toBytes rows = some l → (∀ r ∈ rows, r.length = 1) → ∀ {vs : List Value}, RepL Γ m vs rows.flatten → vs.map byteOf' = l ∧ ∀ v ∈ vs, ∃ n, v = .int .u8 n
  | [], l, h, _, vs, hr => by
    simp [toBytes] at h; subst h
    have : vs = [] := List.eq_nil_of_length_eq_zero (by rw [hr.1]; rfl)
    subst this; simp
  | r :: rs, l, h, h1, vs, hr => by
    simp only [toBytes] at h
    split at h
    · rename_i x xs hx hxs
      cases h
      unfold toByte at hx
      split at hx
      · rename_i n
        cases hx
        cases vs with
        | nil => have := hr.1; simp at this
        | cons v vs =>
          have hv := hr.2 0 v (.i .u8 n) rfl rfl
          cases hv
          obtain ⟨h2, h3⟩ := toBytes_rows hxs (fun r hr => h1 r (by simp [hr])) (vs := vs) (by simpa using hr.drop 1)
          exact ⟨by simp [h2, byteOf'], fun v hv => by
            cases hv with
            | head => exact ⟨n, rfl⟩
            | tail _ hv => exact h3 v hv⟩
      · cases hx
    · cases h


theorem conv_run {P : Program} {tab : Tab} (ht : TabOk P tab) {w : World} {Γ m} (hg : ∀ ad v, Γ ad = some v → w.cell? ad = some v) {src dst : TypeId} {x c : AV} {v : Value} (hv : Rep Γ m v x) (h : conv tab src dst x = some c) :
    ∃ val, (convert src dst v).run P w = .ok val w ∧ Rep Γ m val c := by
  unfold conv at h
  split at h
  · rename_i i j hi hj
    have hui := (ht.at hi).run_und w
    have huj := (ht.at hj).run_und w
    have str : ∀ sz rows e ie, sz = 1 → Rep Γ m v (.sh sz rows) → i.d = .slice e → j.d = .string → look tab e = some ie → ie.d = .int .u8 → ∀ l, toBytes rows = some l → ∃ val, (convert src dst v).run P w = .ok val w ∧ Rep Γ m val (.s l) := by
      intro sz rows e ie hsz hr h1 h2 h3 h4 l hl
      subst hsz
      rw [h1] at hui; rw [h2] at huj
      have hue := (ht.at h3).run_und w
      rw [h4] at hue
      rcases hr.sh_inv with ⟨a, rfl, rfl⟩ | ⟨a, cap, vs, rfl, h5, h6, h7, h8, h9, h10⟩
      · simp [toBytes] at hl; subst hl
        refine ⟨.string ⟨([] : List UInt8).toArray⟩, ?_, .s⟩
        cases a with
        | none => simp [convert, hui, huj, hue, Conv.bytesToString]; rfl
        | some a =>
          have := bytes_run (P := P) (w := w) (a := a) (len := 0) (cap := 0) (vs := []) (by simp) rfl (by simp)
          simp [convert, hui, huj, hue, this]
      · obtain ⟨e1, e2⟩ := toBytes_rows hl h7 h10
        have hlen : vs.length = rows.length := by rw [h10.1, flat_len h7]; omega
        have := bytes_run (P := P) (w := w) (a := a) (len := rows.length) (cap := cap) (vs := vs) (fun j v hv => hg _ _ (h8 j v hv)) hlen e2
        rw [e1] at this
        exact ⟨.string ⟨l.toArray⟩, by simp [convert, hui, huj, hue, this], .s⟩
    split at h
    · rename_i k k' n h1 h2
      cases h
      cases hv
      rw [h1] at hui; rw [h2] at huj
      exact ⟨_, by simp [convert, hui, huj, Conv.intToInt], .i⟩
    · rename_i e rows h1 h2
      split at h
      · rename_i ie hie
        split at h
        · rename_i h4
          cases hl : toBytes rows with
          | none => rw [hl] at h; cases h
          | some l => rw [hl] at h; cases h; exact str 1 rows e ie rfl hv h1 h2 hie h4 l hl
        · cases h
      · cases h
    · rename_i e t' e' rows h1 h2
      split at h
      · rename_i ie hie
        split at h
        · rename_i h4
          cases hl : toBytes rows with
          | none => rw [hl] at h; cases h
          | some l => rw [hl] at h; cases h; cases hv with | gr hv _ => exact str 1 rows e ie rfl hv h1 h2 hie h4 l hl
        · cases h
      · cases h
    · rename_i e h1 h2
      split at h
      · rename_i ie hie
        split at h
        · rename_i h4
          cases h
          cases hv
          exact str 1 [] e ie rfl .sh0 h1 h2 hie h4 [] rfl
        · cases h
      · cases h
    · cases h
  · cases h

theorem bin_run {P : Program} {tab : Tab} (ht : TabOk P tab) {w : World} {Γ m} {op : BinOp} {t : TypeId} {x y c : AV} {u v : Value} (hu : Rep Γ m u x) (hv : Rep Γ m v y) (h : bin tab op t x y = some c) (ox oy : Operand) :
    ∃ val, (do eqGuard op t ox oy u v; binOp op t u v : Sem Value).run P w = .ok val w ∧ Rep Γ m val c := by
  unfold bin at h
  split at h
  · cases hu; cases hv
    split at h
    · rename_i hk
      obtain ⟨val, h1, h2⟩ := intBin_run (P := P) (w := w) (t := t) h (Γ := Γ) (m := m) _ hk
      refine ⟨val, ?_, h2⟩
      have : ∀ k k' a b, (eqGuard op t ox oy (.int k a) (.int k' b)).run P w = .ok () w := fun _ _ _ _ => by cases op <;> simp [eqGuard]
      simp [this, h1]
    · cases h
  · cases hu; cases hv
    obtain ⟨val, h1, h2⟩ := strBin_run (P := P) (w := w) (t := t) h (Γ := Γ) (m := m)
    refine ⟨val, ?_, h2⟩
    have : ∀ a b, (eqGuard op t ox oy (.string a) (.string b)).run P w = .ok () w := fun _ _ => by cases op <;> simp [eqGuard]
    simp [this, h1]
  · cases hu; cases hv
    rename_i p q
    have hgd : (eqGuard op t ox oy (.bool p) (.bool q)).run P w = .ok () w := by cases op <;> simp [eqGuard]
    split at h
    · rename_i i hi
      have hd := (ht.at hi).und
      split at h
      · rename_i e1
        cases h
        rw [e1] at hd
        exact ⟨.bool (p == q), by rw [Sem.run_bind, hgd]; simp [binOp, run_equal_bool w t p q hd], .b⟩
      · rename_i e1
        cases h
        rw [e1] at hd
        exact ⟨.bool (!(p == q)), by rw [Sem.run_bind, hgd]; simp [binOp, run_equal_bool w t p q hd], .b⟩
      · cases h
    · cases h
  · rename_i xs ys
    obtain ⟨us, rfl, hu'⟩ := hu.agg_inv
    obtain ⟨vs, rfl, hv'⟩ := hv.agg_inv
    split at h
    · rename_i i hi
      have hd := (ht.at hi).und
      split at h
      · rename_i fs e1
        rw [e1] at hd
        split at h
        · rename_i hok
          have hff : P.fieldsOf t = fs := by simp [Program.fieldsOf, hd]
          have heq : ∀ p, eqFlds tab xs ys 40 fs.toList = some p → (Op.equalIn 10000 t (.agg us.toArray) (.agg vs.toArray)).run P w = .ok p w := fun p hp => by
            rw [run_equalIn_agg w 9999 t _ _ (by rw [hd, hff]) ((ht.at hi).eq hok).1, hff]
            exact eqFlds_run ht 40 fs.toList xs ys us vs p w 9999 (by omega) hu' hv' hp
          have hgd := run_eqGuard_agg (P := P) w op t ox oy us.toArray vs.toArray ((ht.at hi).eq hok).2
          split at h
          · cases hp : eqFlds tab xs ys 40 fs.toList with
            | none => rw [hp] at h; cases h
            | some p => rw [hp] at h; cases h; exact ⟨.bool p, by rw [Sem.run_bind, hgd]; simp only [Result.andThen_ok, run_eql_struct, heq p hp], .b⟩
          · cases hp : eqFlds tab xs ys 40 fs.toList with
            | none => rw [hp] at h; cases h
            | some p => rw [hp] at h; cases h; exact ⟨.bool (!p), by rw [Sem.run_bind, hgd]; simp only [Result.andThen_ok, run_neq_struct, heq p hp], .b⟩
          · cases h
        · cases h
      · cases h
    · cases h
  · cases hv
    split at h
    · rename_i i hi
      have hd := (ht.at hi).und
      split at h
      · rename_i e e1
        cases h
        rw [e1] at hd
        have hp : P.underlying t = some (.pointer (P.pointee t)) := by rw [hd]; simp [Program.pointee, hd]
        cases hu
        refine ⟨.bool false, ?_, .b⟩
        simp [eqGuard, binOp, run_equal_pointer_nil w t _ hp]
      · rename_i e e1
        cases h
        rw [e1] at hd
        have hp : P.underlying t = some (.pointer (P.pointee t)) := by rw [hd]; simp [Program.pointee, hd]
        cases hu
        refine ⟨.bool true, ?_, .b⟩
        simp [eqGuard, binOp, run_equal_pointer_nil w t _ hp]
      · cases h
    · cases h
  · cases hv
    split at h
    · rename_i i hi
      have hd := (ht.at hi).und
      split at h
      · rename_i e e1
        cases h
        rw [e1] at hd
        have hp : P.underlying t = some (.pointer (P.pointee t)) := by rw [hd]; simp [Program.pointee, hd]
        cases hu
        refine ⟨.bool false, ?_, .b⟩
        simp [eqGuard, binOp, run_equal_pointer_nil w t _ hp]
      · rename_i e e1
        cases h
        rw [e1] at hd
        have hp : P.underlying t = some (.pointer (P.pointee t)) := by rw [hd]; simp [Program.pointee, hd]
        cases hu
        refine ⟨.bool true, ?_, .b⟩
        simp [eqGuard, binOp, run_equal_pointer_nil w t _ hp]
      · cases h
    · cases h
  · cases h

end Go.Proofs.Ytocppeifkjdeiaa.Mv
