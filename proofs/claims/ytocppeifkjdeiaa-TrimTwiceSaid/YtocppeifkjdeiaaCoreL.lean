/- A machine for proofs, part L: each operation that turns memory, as the machine runs it. Under no condition. -/
import Derived.Test.YtocppeifkjdeiaaCoreK
namespace Go.Proofs.Ytocppeifkjdeiaa.Mv
open Go
set_option linter.unusedSimpArgs false
set_option linter.unusedVariables false

def putEff (d : Option Nat) (v : AV) : Eff := ⟨match d with | some d => [(d, v)] | none => [], [], []⟩

theorem pop_wp {c Γ m st a w} {tab : Tab} (ht : TabOk c.P tab) (h : RRW c Γ m st a w) {o : Oper} {v : AV} (hok : o.op.operands.all (okOp c.N) = true) (hp : pop tab st o.op = some v) {Q : Exit → Act → World → Prop} :
    o.wp c.P a w (fun a' w' => RR c (st.app (putEff o.dst v)) a' w') Q := by
  obtain ⟨val, h1, h2⟩ := pop_sound ht h hok hp
  unfold Oper.wp
  rw [h1]
  have := h.put o.dst h2
  refine ⟨Γ, m, ?_⟩
  cases hd : o.dst with
  | none => rw [hd] at this; exact this
  | some d => rw [hd] at this; exact this

theorem alloc_eq (w : World) (o : Obj) : ({ w with heap := w.heap.push o } : World) = w.alloc o := rfl

theorem put_undef {c : Ctx} {st : St} {a : Act} {w : World} (h : RR c st a w) : RR c st (a.put none undef) w := h

theorem zeros_fit {P : Program} {tab : Tab} (ht : TabOk P tab) {t : Nat} {i : TyI} (hi : look tab t = some i) (Γ m) : RepL Γ m i.zero (i.zero.map ofVal) := ⟨by simp, fun j v x hv hx => by
  rw [List.getElem?_map, hv] at hx; cases hx; exact ofVal_rep _ _ _⟩
theorem zeros_leaf {P : Program} {tab : Tab} (ht : TabOk P tab) {t : Nat} {i : TyI} (hi : look tab t = some i) : (i.zero.map ofVal).all AV.leaf = true := by
  have := (ht.at hi).one.1
  rw [List.all_eq_true] at this ⊢
  intro x hx
  obtain ⟨v, hv, rfl⟩ := List.mem_map.1 hx
  exact ofVal_leaf (this v hv)
theorem zeros_refs {i : TyI} : AV.refs.refsL (i.zero.map ofVal) = [] := by
  induction i.zero with
  | nil => rfl
  | cons v vs ih => simp [AV.refs.refsL, ofVal_refs, ih]

theorem RRW.app1 {c : Ctx} {Γ m} {st : St} {a w} {d : Nat} {x : AV} {B : List (Nat × Ob)} {new : List Nat} {v : Value} (h : RRW c Γ m ⟨st.T, B ++ st.B⟩ a w) (hv : Rep Γ m v x) : RR c (st.app ⟨[(d, x)], B, new⟩) (a.put (some d) v) w :=
  ⟨Γ, m, h.put (some d) hv⟩

theorem refsL_sub {cs : List AV} {t : Nat} (h : t ∈ AV.refs.refsL cs) : ∃ c ∈ cs, t ∈ c.refs := by
  induction cs with
  | nil => cases h
  | cons c cs ih =>
    simp only [AV.refs.refsL, List.mem_append] at h
    rcases h with h | h
    · exact ⟨c, by simp, h⟩
    · obtain ⟨d, hd, hr⟩ := ih h
      exact ⟨d, by simp [hd], hr⟩
theorem cells_refs {c : AV} {t : Nat} (h : t ∈ AV.refs.refsL c.cells) : t ∈ c.refs := by
  unfold AV.cells at h
  split at h
  · exact h
  · simpa [AV.refs.refsL] using h
theorem val_refs {st : St} {x : Operand} {t : Nat} (h : t ∈ (st.val x).refs) : t ∈ St.refsT st.T := by
  cases x with
  | tmp j => exact St.get_refs h
  | const v => simp [St.val, ofVal_refs] at h
  | func f => simp [St.val, AV.refs, AV.refs.refsL] at h
  | global g => simp [St.val, AV.refs] at h

/-- Parts in order fill a row. -/
theorem fill_all {sz : Nat} : ∀ (l : List AV) (pre zs : List AV), zs.length = l.length * sz → (∀ c ∈ l, fitsIn sz c = true ∧ c.cells.length = sz) →
    fillA (pre ++ zs) ((l.zipIdx).map fun p => (pre.length + p.2 * sz, sz, p.1)) = some (pre ++ (l.map AV.cells).flatten)
  | [], pre, zs, hz, _ => by
    have : zs = [] := List.eq_nil_of_length_eq_zero (by simpa using hz)
    subst this; simp [fillA]
  | c :: l, pre, zs, hz, hc => by
    obtain ⟨h1, h2⟩ := hc c (by simp)
    simp only [List.zipIdx_cons, List.map_cons, fillA]
    rw [if_pos ⟨h1, by simp [hz, Nat.add_mul]⟩]
    have hsp : splice (pre ++ zs) (pre.length + 0 * sz) c.cells = (pre ++ c.cells) ++ zs.drop sz := by
      unfold splice
      simp [h2, List.take_append, List.drop_append]
    rw [hsp]
    have ih := fill_all l (pre ++ c.cells) (zs.drop sz) (by simp [hz, Nat.add_mul]) fun d hd => hc d (by simp [hd])
    have hmap : ((l.zipIdx (0 + 1)).map fun p => (pre.length + p.2 * sz, sz, p.1)) = (l.zipIdx).map fun p => ((pre ++ c.cells).length + p.2 * sz, sz, p.1) := by
      rw [List.zipIdx_succ, List.map_map]
      apply List.map_congr_left
      intro p _
      simp [h2, Nat.add_mul]
      omega
    rw [hmap, ih]
    simp

theorem fits_len {sz : Nat} {c : AV} (h : fitsIn sz c = true) : c.cells.length = sz := by
  cases c <;> simp_all [fitsIn, AV.cells]

theorem close_list {Γ m vs cs} (h : RepL Γ m vs cs) (hs : cs.all AV.shut = true) : RepL Γ Nm.e vs (cs.map AV.close) :=
  ⟨by simp [h.1], fun j v c hv hc => by
    rw [List.getElem?_map] at hc
    cases hq : cs[j]? with
    | none => rw [hq] at hc; cases hc
    | some d =>
      rw [hq] at hc; cases hc
      exact (h.2 j v d hv hq).close (List.all_eq_true.1 hs d (List.mem_of_getElem? hq))⟩
theorem one_list {Γ m vs cs} (h : RepL Γ m vs cs) (hs : cs.all AV.leaf = true) : ∀ v ∈ vs, v.oneCell' = true := fun v hv => by
  obtain ⟨j, hj⟩ := List.getElem?_of_mem hv
  have hjl : j < cs.length := by rw [← h.1]; exact (List.getElem?_eq_some_iff.1 hj).1
  have hx : cs[j]? = some cs[j] := List.getElem?_eq_getElem hjl
  exact (h.2 j v _ hj hx).one (List.all_eq_true.1 hs _ (List.mem_of_getElem? hx))
theorem shut_leaf_all {cs : List AV} (h : cs.all AV.shut = true) : cs.all AV.leaf = true := by
  rw [List.all_eq_true] at h ⊢
  exact fun c hc => AV.shut_leaf (h c hc)
theorem flat_map (f : AV → AV) (l : List (List AV)) : (l.map fun r => r.map f).flatten = l.flatten.map f := by
  rw [List.map_flatten]

end Go.Proofs.Ytocppeifkjdeiaa.Mv
