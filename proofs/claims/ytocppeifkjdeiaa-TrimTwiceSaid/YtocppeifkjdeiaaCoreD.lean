/- A machine for proofs, part D: operations that only read answer what part C says. Under no condition. -/
import Derived.Test.YtocppeifkjdeiaaCoreC
namespace Go.Proofs.Ytocppeifkjdeiaa.Mv
open Go

theorem add_add (a : Addr) (x y : Nat) : (a.add x).add y = a.add (x + y) := by
  unfold Addr.add
  by_cases hx : x = 0
  · simp [hx]
  · by_cases hy : y = 0
    · simp [hx, hy]
    · have : ¬ (x + y = 0) := by omega
      simp [hx, hy, Nat.add_assoc]
theorem add_lit (g off k : Nat) : (⟨g, off, none⟩ : Addr).add k = ⟨g, off + k, none⟩ := by
  unfold Addr.add
  split <;> simp_all

theorem Rep.up {Γ m v c} (h : Rep Γ Nm.e v c) : Rep Γ m v c := h.mono (Sub.refl _) fun _ _ => ⟨fun _ h => by simp [Nm.e] at h, fun _ _ h => by simp [Nm.e] at h⟩

theorem s_of (s : ByteArray) : s = ⟨s.data.toList.toArray⟩ := by cases s; simp

/-! ### whole numbers and strings -/
theorem intBin_run {P : Program} {w : World} {op : BinOp} {t : TypeId} {k : IntKind} {x y : Int} {v : AV} (h : intBin op k x y = some v) {Γ m} (k' : IntKind) (hk : k = k' ∨ isShift op = true) :
    ∃ val, (binOp op t (.int k x) (.int k' y)).run P w = .ok val w ∧ Rep Γ m val v := by
  have hk' : isShift op = false → k = k' := fun e => hk.resolve_right (by simp [e])
  cases op <;> simp only [intBin] at h
  case quo => split at h <;> cases h; obtain rfl := hk' rfl; rename_i e; exact ⟨_, by simp [binOp, Op.intDiv, e], .i⟩
  case rem => split at h <;> cases h; obtain rfl := hk' rfl; rename_i e; exact ⟨_, by simp [binOp, Op.intDiv, e], .i⟩
  case shl => split at h <;> cases h; rename_i e; exact ⟨_, by simp only [binOp, shift_shl k k' x y e.1 e.2]; exact Sem.run_pure _ _ _, .i⟩
  case shr => split at h <;> cases h; rename_i e; exact ⟨_, by simp only [binOp, shift_shr k k' x y e.1 e.2]; exact Sem.run_pure _ _ _, .i⟩
  all_goals
    obtain rfl := hk' rfl
    cases h
  case and => exact ⟨_, by simp only [binOp, ne_eq, not_true_eq_false, if_false, intBits_and]; rfl, .i⟩
  case or => exact ⟨_, by simp only [binOp, ne_eq, not_true_eq_false, if_false, intBits_or]; rfl, .i⟩
  case xor => exact ⟨_, by simp only [binOp, ne_eq, not_true_eq_false, if_false, intBits_xor]; rfl, .i⟩
  case andNot => exact ⟨_, by simp only [binOp, ne_eq, not_true_eq_false, if_false, intBits_andNot]; rfl, .i⟩
  all_goals exact ⟨_, by simp [binOp, Op.intArith, Op.intCmp]; rfl, by constructor⟩

theorem strBin_run {P : Program} {w : World} {op : BinOp} {t : TypeId} {x y : List UInt8} {v : AV} (h : strBin op x y = some v) {Γ m} :
    ∃ val, (binOp op t (.string ⟨x.toArray⟩) (.string ⟨y.toArray⟩)).run P w = .ok val w ∧ Rep Γ m val v := by
  have hb : ∀ l : List UInt8, ByteArray.toList ⟨l.toArray⟩ = l := fun l => by rw [ByteArray.toList_eq]
  have hs : ∀ l : List UInt8, ByteArray.size ⟨l.toArray⟩ = l.length := fun l => by simp [ByteArray.size]
  cases op <;> simp only [strBin] at h
  case add =>
    split at h <;> cases h
    rename_i e
    refine ⟨.string ⟨(x ++ y).toArray⟩, ?_, .s⟩
    have e1 : ¬ ((9223372036854775807 : Int) < (x.length : Int) + (y.length : Int)) := by omega
    have hm : IntKind.i64.max = 9223372036854775807 := by decide
    simp only [binOp, Op.stringOp, hs, hm]
    rw [if_neg (by omega), Sem.run_pure]
    congr 2
  all_goals first | (cases h; done) | (cases h; exact ⟨_, by simp only [binOp, Op.stringOp, hb]; rfl, .b⟩)

/-! ### equality of structs -/
theorem eqLeaf_run {P : Program} {tab : Tab} (ht : TabOk P tab) {w : World} {Γ m} {t : TypeId} {x y : AV} {p : Bool} {u v : Value} (hu : Rep Γ m u x) (hv : Rep Γ m v y)
    (hx : leafTy tab t x = true) (hy : leafTy tab t y = true) (h : eqLeaf x y = some p) (d : Nat) : (Op.equalIn (d + 1) t u v).run P w = .ok p w := by
  unfold eqLeaf at h
  split at h <;> cases h
  · cases hu; cases hv
    simp only [leafTy] at hx hy
    split at hx
    · rename_i i hl
      rw [hl] at hy
      have hd := (ht.at hl).und
      simp only at hy
      split at hx
      · rename_i k' e
        rw [e] at hy hd
        simp only [beq_iff_eq] at hx hy
        subst hx; subst hy
        exact run_equalIn_int w d t _ _ _ _ hd
      · cases hx
    · cases hx
  · cases hu; cases hv
    simp only [leafTy] at hx
    split at hx
    · rename_i i hl
      have hd := (ht.at hl).und
      split at hx
      · rename_i e
        rw [e] at hd
        exact run_equalIn_bool w d t _ _ hd
      · cases hx
    · cases hx
  · cases hu; cases hv
    simp only [leafTy] at hx
    split at hx
    · rename_i i hl
      have hd := (ht.at hl).und
      split at hx
      · rename_i e
        rw [e] at hd
        rw [run_equalIn_string w d t _ _ hd]
        simp [ByteArray.toList_eq]
      · cases hx
    · cases hx

theorem run_part_agg {P : Program} {tab : Tab} (ht : TabOk P tab) {w : World} {t : TypeId} {i : TyI} (hl : look tab t = some i) (ha : i.agg = true) (vs : List Value) (off : Nat) :
    (Go.part t vs.toArray off).run P w = .ok (.agg ((vs.drop off).take i.size).toArray) w := by
  unfold Go.part
  rw [Sem.run_bind, (ht.at hl).run_agg w, ha]
  simp only [Result.andThen_ok, if_true, Sem.run_bind, (ht.at hl).run_size w, Sem.run_pure]
  congr 2
  apply Array.ext'
  simp
theorem run_part_one {P : Program} {tab : Tab} (ht : TabOk P tab) {w : World} {t : TypeId} {i : TyI} (hl : look tab t = some i) (ha : i.agg = false) (vs : List Value) (off : Nat) {v : Value} (hv : vs[off]? = some v) :
    (Go.part t vs.toArray off).run P w = .ok v w := by
  unfold Go.part
  rw [Sem.run_bind, (ht.at hl).run_agg w, ha]
  simp [hv]

/-- Pieces of a list of values stand for pieces of what they stand for. -/
def RepL (Γ : Gam) (m : Nm) (vs : List Value) (cs : List AV) : Prop := vs.length = cs.length ∧ ∀ (j : Nat) (v : Value) (c : AV), vs[j]? = some v → cs[j]? = some c → Rep Γ m v c
theorem RepL.drop {Γ m vs cs} (h : RepL Γ m vs cs) (n : Nat) : RepL Γ m (vs.drop n) (cs.drop n) :=
  ⟨by simp [h.1], fun j v c hv hc => h.2 (n + j) v c (by simpa using hv) (by simpa using hc)⟩
theorem RepL.take {Γ m vs cs} (h : RepL Γ m vs cs) (n : Nat) : RepL Γ m (vs.take n) (cs.take n) :=
  ⟨by simp [h.1], fun j v c hv hc => by
    rw [List.getElem?_take] at hv hc
    split at hv
    · rename_i e; rw [if_pos e] at hc; exact h.2 j v c hv hc
    · cases hv⟩
theorem RepL.append {Γ m vs cs vs' cs'} (h : RepL Γ m vs cs) (h' : RepL Γ m vs' cs') : RepL Γ m (vs ++ vs') (cs ++ cs') :=
  ⟨by simp [h.1, h'.1], fun j v c hv hc => by
    rw [List.getElem?_append] at hv hc
    split at hv
    · rename_i e; rw [if_pos (by rw [← h.1]; exact e)] at hc; exact h.2 j v c hv hc
    · rename_i e; rw [if_neg (by rw [← h.1]; exact e)] at hc; rw [← h.1] at hc; exact h'.2 _ v c hv hc⟩
theorem RepL.agg {Γ m vs cs} (h : RepL Γ m vs cs) : Rep Γ m (.agg vs.toArray) (.agg cs) := .agg vs h.1 h.2
theorem RepL.get {Γ m vs cs} (h : RepL Γ m vs cs) {j : Nat} {c : AV} (hc : cs[j]? = some c) : ∃ v, vs[j]? = some v ∧ Rep Γ m v c := by
  have hj : j < vs.length := by rw [h.1]; exact (List.getElem?_eq_some_iff.1 hc).1
  exact ⟨vs[j], List.getElem?_eq_getElem hj, h.2 j _ c (List.getElem?_eq_getElem hj) hc⟩
theorem Rep.agg_inv {Γ m v cs} (h : Rep Γ m v (.agg cs)) : ∃ vs : List Value, v = .agg vs.toArray ∧ RepL Γ m vs cs := by
  cases h with | agg vs h1 h2 => exact ⟨vs, rfl, h1, h2⟩
theorem Rep.tup_inv {Γ m v cs} (h : Rep Γ m v (.tup cs)) : ∃ vs : List Value, v = .tuple vs.toArray ∧ RepL Γ m vs cs := by
  cases h with | tup vs h1 h2 => exact ⟨vs, rfl, h1, h2⟩
theorem RepL.up {Γ m vs cs} (h : RepL Γ Nm.e vs cs) : RepL Γ m vs cs := ⟨h.1, fun j v c hv hc => (h.2 j v c hv hc).up⟩
theorem RepL.nil {Γ m} : RepL Γ m [] [] := ⟨rfl, fun j v c hv => by simp at hv⟩
theorem RepL.cons {Γ m v c vs cs} (h : Rep Γ m v c) (h' : RepL Γ m vs cs) : RepL Γ m (v :: vs) (c :: cs) :=
  ⟨by simp [h'.1], fun j x y hx hy => by
    cases j with
    | zero => simp at hx hy; subst hx; subst hy; exact h
    | succ j => exact h'.2 j x y (by simpa using hx) (by simpa using hy)⟩

theorem part_run {P : Program} {tab : Tab} (ht : TabOk P tab) {w : World} {Γ m} {t : TypeId} {i : TyI} (hl : look tab t = some i) {vs : List Value} {cs : List AV} (h : RepL Γ m vs cs) (off : Nat) {c : AV} (hc : part i (cs.drop off) = some c) :
    ∃ v, (Go.part t vs.toArray off).run P w = .ok v w ∧ Rep Γ m v c := by
  unfold part at hc
  split at hc
  · rename_i ha
    split at hc <;> cases hc
    exact ⟨_, run_part_agg ht hl ha vs off, ((h.drop off).take i.size).agg⟩
  · rename_i ha
    have hc' : cs[off]? = some c := by simpa [List.head?_drop] using hc
    obtain ⟨v, hv, hr⟩ := h.get hc'
    exact ⟨v, run_part_one ht hl (by simpa using ha) vs off hv, hr⟩

theorem eqFlds_run {P : Program} {tab : Tab} (ht : TabOk P tab) {Γ m} : ∀ (n : Nat) (fs : List Field) (xs ys : List AV) (us vs : List Value) (p : Bool) (w : World) (d : Nat), n ≤ d + 1 →
    RepL Γ m us xs → RepL Γ m vs ys → eqFlds tab xs ys n fs = some p → (Op.eqFields d us.toArray vs.toArray fs).run P w = .ok p w
  | 0, fs, xs, ys, us, vs, p, w, d, hd, hu, hv, h => by simp [eqFlds] at h
  | n + 1, [], xs, ys, us, vs, p, w, d, hd, hu, hv, h => by simp [eqFlds] at h; subst h; simp [Op.eqFields]
  | n + 1, f :: fs, xs, ys, us, vs, p, w, d, hd, hu, hv, h => by
    simp only [eqFlds] at h
    split at h
    · cases h
    · rename_i hn
      split at h
      · cases h
      · rename_i i hl
        have hfs := fun q (hq : eqFlds tab xs ys n fs = some q) => eqFlds_run ht n fs xs ys us vs q w d (by omega) hu hv hq
        simp only [Op.eqFields, ne_eq, hn, not_false_eq_true, if_true, Sem.run_bind]
        split at h
        · rename_i gs hgs
          split at h
          · rename_i hc
            simp only [Bool.and_eq_true, decide_eq_true_eq] at hc
            split at h
            · rename_i p1 q1 e1 e2
              cases h
              have ha : i.agg = true := by simp [TyI.agg, hgs]
              rw [run_part_agg ht hl ha us f.offset]
              simp only [Result.andThen_ok]
              rw [run_part_agg ht hl ha vs f.offset]
              simp only [Result.andThen_ok]
              have hn1 : n ≠ 0 := by intro e; subst e; simp [eqFlds] at e1
              obtain ⟨d', rfl⟩ : ∃ d', d = d' + 1 := ⟨d - 1, by omega⟩
              have hund := (ht.at hl).und
              have hff : P.fieldsOf f.type = gs := by simp [Program.fieldsOf, hund, hgs]
              rw [run_equalIn_agg w d' f.type _ _ (by rw [hund, hgs, hff]) ((ht.at hl).eq hc.1.1).1, hff]
              rw [eqFlds_run ht n gs.toList _ _ _ _ p1 w d' (by omega) ((hu.drop f.offset).take i.size) ((hv.drop f.offset).take i.size) e1]
              simp only [Result.andThen_ok]
              cases p1
              · simp
              · simp [hfs q1 e2]
            · cases h
          · cases h
        · rename_i hag
          split at h
          · rename_i x y hx hy
            split at h
            · rename_i hlt
              simp only [Bool.and_eq_true] at hlt
              split at h
              · rename_i p1 q1 e1 e2
                cases h
                have ha : i.agg = false := by
                  have h1 := hlt.1
                  cases x <;> simp [leafTy, hl] at h1
                  all_goals (simp only [TyI.agg]; split <;> simp_all)
                obtain ⟨u, hu1, hu2⟩ := hu.get hx
                obtain ⟨v, hv1, hv2⟩ := hv.get hy
                rw [run_part_one ht hl ha us f.offset hu1]
                simp only [Result.andThen_ok]
                rw [run_part_one ht hl ha vs f.offset hv1]
                simp only [Result.andThen_ok]
                have hn1 : n ≠ 0 := by intro e; subst e; simp [eqFlds] at e2
                obtain ⟨d', rfl⟩ : ∃ d', d = d' + 1 := ⟨d - 1, by omega⟩
                rw [eqLeaf_run ht hu2 hv2 hlt.1 hlt.2 e1 d']
                simp only [Result.andThen_ok]
                cases p1
                · simp
                · simp [hfs q1 e2]
              · cases h
            · cases h
          · cases h

end Go.Proofs.Ytocppeifkjdeiaa.Mv
