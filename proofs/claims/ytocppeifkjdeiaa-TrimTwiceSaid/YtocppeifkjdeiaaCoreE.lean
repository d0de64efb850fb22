/- A machine for proofs, part E: operations that only read, all of them. Under no condition. -/
import Derived.Test.YtocppeifkjdeiaaCoreD
namespace Go.Proofs.Ytocppeifkjdeiaa.Mv
open Go
set_option linter.unusedSimpArgs false
set_option linter.unusedVariables false

/-! ### rows -/
theorem flat_at {rows : List (List AV)} {sz : Nat} (h : ∀ r ∈ rows, r.length = sz) : ∀ {i : Nat} {row : List AV}, rows[i]? = some row → (rows.flatten.drop (i * sz)).take sz = row := by
  induction rows with
  | nil => intro i row hi; simp at hi
  | cons r rs ih =>
    intro i row hi
    have hr : r.length = sz := h r (by simp)
    cases i with
    | zero =>
      simp at hi; subst hi
      simp [← hr]
    | succ i =>
      have := ih (fun r hr => h r (by simp [hr])) (i := i) (row := row) (by simpa using hi)
      rw [List.flatten_cons, List.drop_append]
      have e1 : r.drop ((i + 1) * sz) = [] := List.drop_eq_nil_of_le (by rw [hr, Nat.add_mul]; omega)
      have e2 : (i + 1) * sz - r.length = i * sz := by rw [hr, Nat.add_mul]; omega
      rw [e1, e2, List.nil_append]
      exact this
theorem flat_len {rows : List (List AV)} {sz : Nat} (h : ∀ r ∈ rows, r.length = sz) : rows.flatten.length = rows.length * sz := by
  induction rows with
  | nil => simp
  | cons r rs ih =>
    rw [List.flatten_cons, List.length_append, ih (fun r hr => h r (by simp [hr])), h r (by simp), List.length_cons, Nat.add_mul]
    omega
theorem flat_take {rows : List (List AV)} {sz : Nat} (h : ∀ r ∈ rows, r.length = sz) (n : Nat) : (rows.take n).flatten = rows.flatten.take (n * sz) := by
  induction rows generalizing n with
  | nil => simp
  | cons r rs ih =>
    have hr : r.length = sz := h r (by simp)
    cases n with
    | zero => simp
    | succ n =>
      rw [List.take_succ_cons, List.flatten_cons, ih (fun r hr => h r (by simp [hr])), List.flatten_cons, List.take_append]
      have e1 : r.take ((n + 1) * sz) = r := List.take_of_length_le (by rw [hr, Nat.add_mul]; omega)
      have e2 : (n + 1) * sz - r.length = n * sz := by rw [hr, Nat.add_mul]; omega
      rw [e1, e2]
theorem flat_drop {rows : List (List AV)} {sz : Nat} (h : ∀ r ∈ rows, r.length = sz) (n : Nat) : (rows.drop n).flatten = rows.flatten.drop (n * sz) := by
  induction rows generalizing n with
  | nil => simp
  | cons r rs ih =>
    have hr : r.length = sz := h r (by simp)
    cases n with
    | zero => simp
    | succ n =>
      rw [List.drop_succ_cons, ih (fun r hr => h r (by simp [hr])), List.flatten_cons, List.drop_append]
      have e1 : r.drop ((n + 1) * sz) = [] := List.drop_eq_nil_of_le (by rw [hr, Nat.add_mul]; omega)
      have e2 : (n + 1) * sz - r.length = n * sz := by rw [hr, Nat.add_mul]; omega
      rw [e1, e2, List.nil_append]

/-- What a readable slice is, in parts. -/
theorem Rep.sh_inv {Γ m v sz rows} (h : Rep Γ m v (.sh sz rows)) : (∃ a, v = .slice a 0 0 ∧ rows = []) ∨
    ∃ (a : Addr) (cap : Nat) (vs : List Value), v = .slice (some a) rows.length cap ∧ rows.length ≤ cap ∧ cap ≤ maxLen ∧ (∀ r ∈ rows, r.length = sz) ∧
      (∀ (j : Nat) (v : Value), vs[j]? = some v → Γ (a.add j) = some v) ∧ (∀ v ∈ vs, v.oneCell' = true) ∧ RepL Γ Nm.e vs rows.flatten := by
  cases h with
  | sh0 => exact .inl ⟨_, rfl, rfl⟩
  | sh vs h1 h2 h3 h4 h5 h6 h7 h8 => subst h3; exact .inr ⟨_, _, vs, rfl, h1, h2, h4, h6, h7, h5, h8⟩
theorem rowsOf_rep {Γ m v c sz rows} (h : Rep Γ m v c) (hr : rowsOf c = some (sz, rows)) : Rep Γ m v (.sh sz rows) := by
  cases c <;> simp [rowsOf] at hr
  · obtain ⟨rfl, rfl⟩ := hr; exact h
  · obtain ⟨rfl, rfl⟩ := hr; cases h with | gr h _ => exact h

theorem pel_mk {Γ m} {a : Addr} {vs : List Value} {cs : List AV} (hg : ∀ (j : Nat) (v : Value), vs[j]? = some v → Γ (a.add j) = some v) (h1 : ∀ v ∈ vs, v.oneCell' = true) (hr : RepL Γ Nm.e vs cs) (off n : Nat) :
    Rep Γ m (.pointer (some (a.add off))) (.pel ((cs.drop off).take n)) := by
  have h := (hr.drop off).take n
  refine .pel ((vs.drop off).take n) h.1 (fun j v hv => ?_) (fun v hv => h1 v (List.mem_of_mem_drop (List.mem_of_mem_take hv))) h.2
  rw [add_add]
  rw [List.getElem?_take] at hv
  split at hv
  · exact hg _ _ (by simpa using hv)
  · cases hv

theorem indexAt_run {P : Program} {tab : Tab} (ht : TabOk P tab) {w : World} {Γ m v sz rows} (h : Rep Γ m v (.sh sz rows)) {t e : TypeId} {i j : TyI} (hl : look tab t = some i) (hd : i.d = .slice e) (he : look tab e = some j) (hsz : j.size = sz)
    {k : IntKind} {n : Int} (h0 : 0 ≤ n) (h1 : n < rows.length) : ∃ val, (Instr.indexAt t v (.int k n)).run P w = .ok val w ∧ Rep Γ m val (.pel (rows.getD n.toNat [])) := by
  rcases h.sh_inv with ⟨a, rfl, rfl⟩ | ⟨a, cap, vs, rfl, h2, h3, h4, h5, h6, h7⟩
  · simp at h1; omega
  · refine ⟨.pointer (some (a.add (n.toNat * sz))), ?_, ?_⟩
    · have hu := (ht.at hl).run_und w
      rw [hd] at hu
      simp [Instr.indexAt, asIntOf, hu, h0, h1, (ht.at he).run_size w, hsz]
    · have hn : n.toNat < rows.length := by omega
      have hr : rows[n.toNat]? = some (rows.getD n.toNat []) := by simp [List.getD, List.getElem?_eq_getElem hn]
      have := pel_mk (m := m) h5 h6 h7 (n.toNat * sz) sz
      rwa [flat_at h4 hr] at this

/-! ### parts put in -/
theorem foldl_set (vs : List Value) : ∀ (cs : List Value) (off i : Nat), off + i + vs.length ≤ cs.length →
    ((vs.zipIdx i).foldl (fun (cs : Array Value) (p : Value × Nat) => cs.setIfInBounds (off + p.2) p.1) cs.toArray) = (cs.take (off + i) ++ vs ++ cs.drop (off + i + vs.length)).toArray := by
  induction vs with
  | nil => intro cs off i h; simp
  | cons v vs ih =>
    intro cs off i h
    simp only [List.zipIdx_cons, List.foldl_cons, List.setIfInBounds_toArray]
    rw [ih (cs.set (off + i) v) off (i + 1) (by simp at h ⊢; omega)]
    congr 1
    have := list_seg_step cs (off + i) v vs (by simp at h ⊢; omega)
    simpa [Nat.add_assoc, Nat.add_comm, Nat.add_left_comm] using this

theorem fits_cells {Γ m v c sz} (h : Rep Γ m v c) (hf : fitsIn sz c = true) : ∃ vs : List Value, v.cells = vs.toArray ∧ vs.length = sz ∧ RepL Γ m vs c.cells := by
  cases c with
  | agg ds =>
    obtain ⟨vs, rfl, hr⟩ := h.agg_inv
    simp only [fitsIn, beq_iff_eq] at hf
    exact ⟨vs, rfl, by rw [hr.1, hf], hr⟩
  | _ =>
    simp only [fitsIn, Bool.and_eq_true, beq_iff_eq] at hf
    have h1 := h.one hf.1
    have : v.cells = #[v] := by cases v <;> simp_all [Value.cells, Value.oneCell']
    exact ⟨[v], by rw [this], by simp [hf.2], .cons h .nil⟩

theorem fill_run {Γ m} {place : Nat → Option (Nat × Nat)} : ∀ (l : List (Nat × Nat × AV)) (ps : List (Nat × Value)) (us : List Value) (cs ds : List AV), RepL Γ m us cs → fillA cs l = some ds →
    l.length = ps.length → (∀ (j : Nat) o s c f v, l[j]? = some (o, s, c) → ps[j]? = some (f, v) → place f = some (o, s) ∧ Rep Γ m v c) →
    ∃ vs : List Value, Instr.fill place us.toArray ps = some vs.toArray ∧ RepL Γ m vs ds
  | [], ps, us, cs, ds, hr, h, hl, _ => by
    cases ps with
    | nil => simp [fillA] at h; subst h; exact ⟨us, rfl, hr⟩
    | cons p ps => simp at hl
  | (o, s, c) :: l, ps, us, cs, ds, hr, h, hl, hp => by
    cases ps with
    | nil => simp at hl
    | cons p ps =>
      obtain ⟨f, v⟩ := p
      simp only [fillA] at h
      split at h
      · rename_i hc
        obtain ⟨hpl, hv⟩ := hp 0 o s c f v rfl rfl
        obtain ⟨vs, hvs, hvl, hvr⟩ := fits_cells hv hc.1
        have hus : us.length = cs.length := hr.1
        have hcl : c.cells.length = s := by rw [← hvr.1, hvl]
        have hstep : RepL Γ m (us.take o ++ vs ++ us.drop (o + vs.length)) (splice cs o c.cells) := by
          unfold splice
          rw [hcl, hvl]
          exact ((hr.take o).append hvr).append (hr.drop _)
        obtain ⟨ws, hw, hwr⟩ := fill_run l ps (us.take o ++ vs ++ us.drop (o + vs.length)) _ ds hstep h (by simpa using hl) fun j o s c f v h1 h2 => hp (j + 1) o s c f v (by simpa using h1) (by simpa using h2)
        refine ⟨ws, ?_, hwr⟩
        simp only [Instr.fill, hpl]
        have e1 : ¬ ((v.cells.size ≠ s || decide (o + v.cells.size > us.toArray.size)) = true) := by
          simp [hvs, hvl, hus]
          have := hc.2
          omega
        rw [if_neg e1]
        have hz : v.cells.zipIdx.foldl (fun (cs : Array Value) (p : Value × Nat) => cs.setIfInBounds (o + p.2) p.1) us.toArray = (us.take o ++ vs ++ us.drop (o + vs.length)).toArray := by
          rw [hvs, ← Array.foldl_toList]
          have := foldl_set vs us o 0 (by rw [hvl, hus]; have := hc.2; omega)
          simpa using this
        exact (congrArg (fun z => Instr.fill place z ps) hz).trans hw
      · cases h

theorem mapM_fields {P : Program} {tab : Tab} (ht : TabOk P tab) (w : World) : ∀ (fs : List Field), (∀ f ∈ fs, (look tab f.type).isSome = true) →
    ∃ ls : List (Nat × Nat), ((fs.mapM fun f => do pure (f.offset, ← sizeOf f.type) : Sem (List (Nat × Nat)))).run P w = .ok ls w ∧ ls.length = fs.length ∧
      ∀ (j : Nat) f, fs[j]? = some f → ∃ i, look tab f.type = some i ∧ ls[j]? = some (f.offset, i.size)
  | [], _ => ⟨[], by simp, rfl, by simp⟩
  | f :: fs, h => by
    obtain ⟨ls, h1, h2, h3⟩ := mapM_fields ht w fs fun g hg => h g (by simp [hg])
    obtain ⟨i, hi⟩ := Option.isSome_iff_exists.1 (h f (by simp))
    refine ⟨(f.offset, i.size) :: ls, ?_, by simp [h2], ?_⟩
    · simp only [List.mapM_cons, Sem.run_bind, (ht.at hi).run_size w, Result.andThen_ok, Sem.run_pure, h1]
    · intro j g hg
      cases j with
      | zero => simp at hg; subst hg; exact ⟨i, hi, rfl⟩
      | succ j => simpa using h3 j g (by simpa using hg)

theorem plan_spec {tab : Tab} {fs : Array Field} {st : St} : ∀ {ps : List (Nat × Operand)} {l : List (Nat × Nat × AV)}, plan tab fs st ps = some l → l.length = ps.length ∧
    ∀ (j : Nat) o s c f x, l[j]? = some (o, s, c) → ps[j]? = some (f, x) → ∃ g i, fs[f]? = some g ∧ look tab g.type = some i ∧ o = g.offset ∧ s = i.size ∧ c = st.val x
  | [], l, h => by simp [plan] at h; subst h; simp
  | (f, x) :: ps, l, h => by
    simp only [plan] at h
    split at h
    · rename_i g l' hg hl'
      split at h
      · rename_i i hi
        cases h
        obtain ⟨h1, h2⟩ := plan_spec hl'
        refine ⟨by simp [h1], fun j o s c f' x' ho hp => ?_⟩
        cases j with
        | zero => simp at ho hp; obtain ⟨rfl, rfl, rfl⟩ := ho; obtain ⟨rfl, rfl⟩ := hp; exact ⟨g, i, hg, hi, rfl, rfl, rfl⟩
        | succ j => exact h2 j o s c f' x' (by simpa using ho) (by simpa using hp)
      · cases h
    · cases h

theorem build_run {c : Ctx} {Γ m st a w} {tab : Tab} (ht : TabOk c.P tab) (h : RRW c Γ m st a w) {t : TypeId} {ps : Array (Nat × Operand)} (hok : ∀ p ∈ ps.toList, okOp c.N p.2 = true) {fs : Array Field} {i : TyI} (hl : look tab t = some i) (hd : i.d = .struct fs)
    {l : List (Nat × Nat × AV)} (hp : plan tab fs st ps.toList = some l) {ds : List AV} (hf : fillA (i.zero.map ofVal) l = some ds) :
    ∃ val, (Instr.build t (ps.map fun (i, x) => (i, a.eval x))).run c.P w = .ok val w ∧ Rep Γ m val (.agg ds) := by
  obtain ⟨z, hz, hzl⟩ := (ht.at hl).run_zero w
  have hu := (ht.at hl).run_und w
  rw [hd] at hu
  obtain ⟨ls, hm, hml, hmj⟩ := mapM_fields ht w fs.toList (ht.fields hl hd)
  obtain ⟨hpl, hpj⟩ := plan_spec hp
  have hzr : RepL Γ m i.zero (i.zero.map ofVal) := ⟨by simp, fun j v x hv hx => by
    rw [List.getElem?_map, hv] at hx; cases hx; exact ofVal_rep _ _ _⟩
  have hfill := fill_run (place := fun k => ls.toArray[k]?) l ((ps.map fun (i, x) => (i, a.eval x)).toList) i.zero _ ds hzr hf (by simp [hpl]) fun j o s x f v ho hv => by
    simp only [Array.toList_map, List.getElem?_map] at hv
    cases hq : ps.toList[j]? with
    | none => rw [hq] at hv; simp at hv
    | some q =>
      obtain ⟨f', x'⟩ := q
      rw [hq] at hv
      simp at hv
      obtain ⟨rfl, rfl⟩ := hv
      obtain ⟨g, ig, hg, hig, rfl, rfl, rfl⟩ := hpj j o s x f' x' ho hq
      obtain ⟨ig', hig', hls⟩ := hmj f' g (by simpa using hg)
      rw [hig] at hig'; cases hig'
      exact ⟨by simpa using hls, h.eval x' (hok (f', x') (List.mem_of_getElem? hq))⟩
  obtain ⟨vs, hvs, hvr⟩ := hfill
  refine ⟨.agg vs.toArray, ?_, hvr.agg⟩
  have hm' : (fs.mapM fun f => do pure (f.offset, ← sizeOf f.type) : Sem (Array (Nat × Nat))).run c.P w = .ok ls.toArray w := by
    rw [← Array.toArray_toList (xs := fs), List.mapM_toArray]
    simp only [Sem.run_map, hm, Result.andThen_ok]
  have hzc : z.cells = i.zero.toArray := by rw [← hzl]
  unfold Instr.build
  simp only [Sem.run_bind, hz, Result.andThen_ok, hu, hm', hzc]
  rw [hvs]
  simp


/-! ### pieces -/
theorem sliceBound_run {P : Program} {w : World} {k : IntKind} {n : Int} {y : Nat} {code : BoundsCode} (h0 : 0 ≤ n) (h1 : n ≤ y) : (Instr.sliceBound (.int k n) y code).run P w = .ok n.toNat w := by
  simp [Instr.sliceBound, asIntOf, h0, h1]

/-- A bound, as an answer and as a value. -/
inductive Bd (Γ : Gam) (m : Nm) : Option AV → Option Value → Prop
  | no : Bd Γ m none none
  | yes {v c} : Rep Γ m v c → Bd Γ m (some c) (some v)

theorem sliceStr_run {P : Program} {tab : Tab} (ht : TabOk P tab) {w : World} {Γ m} {l : List UInt8} {lo hi : Option AV} {lv hv : Option Value} (hlo : Bd Γ m lo lv) (hhi : Bd Γ m hi hv) {c : AV} (h : sliceStr l lo hi = some c)
    {t : TypeId} {i : TyI} (hl : look tab t = some i) (hd : i.d = .string) : ∃ val, (Instr.sliceAt t (.string ⟨l.toArray⟩) lv hv none).run P w = .ok val w ∧ Rep Γ m val c := by
  have hu := (ht.at hl).run_und w
  rw [hd] at hu
  have hs : ByteArray.size ⟨l.toArray⟩ = l.length := by simp [ByteArray.size]
  have he : ∀ x y : Nat, (⟨l.toArray⟩ : ByteArray).extract x y = ⟨((l.take y).drop x).toArray⟩ := fun x y => by
    apply ByteArray.ext
    simp [List.extract_eq_take_drop, List.drop_take]
  unfold sliceStr at h
  split at h
  · cases h; cases hlo; cases hhi
    refine ⟨.string ⟨l.toArray⟩, ?_, .s⟩
    have := he 0 l.length
    simp [Instr.sliceAt, Instr.slice, Instr.sliceBounds, hu] at this ⊢
  · cases hhi
    split at h <;> cases h
    rename_i k x hx
    cases hlo with | yes hr => ?_
    cases hr
    refine ⟨.string ⟨(l.drop x.toNat).toArray⟩, ?_, .s⟩
    have := he x.toNat l.length
    simp [Instr.sliceAt, Instr.slice, Instr.sliceBounds, hu, hs, sliceBound_run hx.1 hx.2]
    simpa using this
  · cases hlo
    split at h <;> cases h
    rename_i k y hx
    cases hhi with | yes hr => ?_
    cases hr
    refine ⟨.string ⟨(l.take y.toNat).toArray⟩, ?_, .s⟩
    have := he 0 y.toNat
    simp [Instr.sliceAt, Instr.slice, Instr.sliceBounds, hu, hs, sliceBound_run hx.1 hx.2]
    simpa using this
  · split at h <;> cases h
    rename_i k x k' y hx
    cases hlo with | yes hr => ?_
    cases hhi with | yes hr' => ?_
    cases hr; cases hr'
    refine ⟨.string ⟨((l.take y.toNat).drop x.toNat).toArray⟩, ?_, .s⟩
    have := he x.toNat y.toNat
    have hy : y.toNat ≤ l.length := by omega
    simp [Instr.sliceAt, Instr.slice, Instr.sliceBounds, hu, hs, sliceBound_run (w := w) (P := P) (k := k') (code := .sliceAlen) (show 0 ≤ y by omega) hx.2.2, sliceBound_run (w := w) (P := P) (k := k) (code := .sliceB) hx.1 (show x ≤ ((y.toNat : Nat) : Int) by omega)]
    simpa using this
  · cases h

theorem sh_piece {Γ m v sz rows} (h : Rep Γ m v (.sh sz rows)) (x y : Nat) (hxy : x ≤ y) (hy : y ≤ rows.length) :
    ∃ a len cap, v = .slice a len cap ∧ len = rows.length ∧ y ≤ cap ∧ Rep Γ m (.slice (if cap = x then a else a.map (·.add (x * sz))) (y - x) (cap - x)) (.sh sz ((rows.take y).drop x)) := by
  rcases h.sh_inv with ⟨a, rfl, rfl⟩ | ⟨a, cap, vs, rfl, h2, h3, h4, h5, h6, h7⟩
  · simp at hy; subst hy
    obtain rfl : x = 0 := by omega
    exact ⟨a, 0, 0, rfl, rfl, Nat.le_refl _, by simpa using Rep.sh0⟩
  · refine ⟨some a, _, cap, rfl, rfl, by omega, ?_⟩
    have hlen : ((rows.take y).drop x).length = y - x := by simp; omega
    by_cases e : cap = x
    · have e0 : y - x = 0 := by omega
      have e1 : cap - x = 0 := by omega
      have e2 : (rows.take y).drop x = [] := by rw [← List.length_eq_zero_iff, hlen, e0]
      rw [e0, e1, e2]
      exact .sh0
    · rw [if_neg e]
      refine .sh ((vs.take (y * sz)).drop (x * sz)) (by omega) (by omega) hlen (fun r hr => h4 r (List.mem_of_mem_take (List.mem_of_mem_drop hr))) ?_ (fun j v hv => ?_) (fun v hv => h6 v (List.mem_of_mem_take (List.mem_of_mem_drop hv))) ?_
      · rw [flat_drop (fun r hr => h4 r (List.mem_of_mem_take hr)), flat_take h4]
        simp [h7.1]
      · rw [List.getElem?_drop, List.getElem?_take] at hv
        split at hv
        · rw [add_add]; exact h5 _ _ hv
        · cases hv
      · rw [flat_drop (fun r hr => h4 r (List.mem_of_mem_take hr)), flat_take h4]
        exact ((h7.take _).drop _).2

theorem sliceRows_run {P : Program} {tab : Tab} (ht : TabOk P tab) {w : World} {Γ m v sz rows} (h : Rep Γ m v (.sh sz rows)) {lo hi : Option AV} {lv hv : Option Value} (hlo : Bd Γ m lo lv) (hhi : Bd Γ m hi hv) {c : AV} (hc : sliceRows sz rows lo hi = some c)
    {t e : TypeId} {i j : TyI} (hl : look tab t = some i) (hd : i.d = .slice e) (he : look tab e = some j) (hsz : j.size = sz) : ∃ val, (Instr.sliceAt t v lv hv none).run P w = .ok val w ∧ Rep Γ m val c := by
  have hu := (ht.at hl).run_und w
  rw [hd] at hu
  have hs := (ht.at he).run_size w
  rw [hsz] at hs
  have go : ∀ x y : Nat, x ≤ y → y ≤ rows.length → (∀ len cap : Nat, len = rows.length → y ≤ cap → (Instr.sliceBounds true len cap lv hv none).run P w = .ok (x, y, cap) w) →
      ∃ val, (Instr.sliceAt t v lv hv none).run P w = .ok val w ∧ Rep Γ m val (.sh sz ((rows.take y).drop x)) := fun x y hxy hy hb => by
    obtain ⟨a, len, cap, rfl, hlen, hcap, hr⟩ := sh_piece h x y hxy hy
    exact ⟨_, by simp [Instr.sliceAt, Instr.slice, hu, hb len cap hlen hcap, hs], hr⟩
  unfold sliceRows at hc
  split at hc
  · cases hc; cases hlo; cases hhi
    have := go 0 rows.length (Nat.zero_le _) (Nat.le_refl _) (fun len cap hlen _ => by simp [Instr.sliceBounds, hlen])
    simpa using this
  · cases hhi
    split at hc <;> cases hc
    rename_i hx
    cases hlo with | yes hr => ?_
    cases hr
    rename_i k x
    have := go x.toNat rows.length (by omega) (Nat.le_refl _) (fun len cap hlen _ => by
      subst hlen
      simp [Instr.sliceBounds, sliceBound_run (w := w) (P := P) (k := k) (code := .sliceB) hx.1 hx.2])
    simpa using this
  · cases hlo
    split at hc <;> cases hc
    rename_i hx
    cases hhi with | yes hr => ?_
    cases hr
    rename_i k y
    have := go 0 y.toNat (Nat.zero_le _) (by omega) (fun len cap hlen hcap => by
      simp [Instr.sliceBounds, sliceBound_run (w := w) (P := P) (k := k) (code := .sliceAcap) hx.1 (show y ≤ (cap : Int) by omega)])
    simpa using this
  · split at hc <;> cases hc
    rename_i hx
    cases hlo with | yes hr => ?_
    cases hhi with | yes hr' => ?_
    cases hr; cases hr'
    rename_i k x k' y
    exact go x.toNat y.toNat (by omega) (by omega) (fun len cap hlen hcap => by
      simp [Instr.sliceBounds, sliceBound_run (w := w) (P := P) (k := k') (code := .sliceAcap) (show 0 ≤ y by omega) (show y ≤ (cap : Int) by omega), sliceBound_run (w := w) (P := P) (k := k) (code := .sliceB) hx.1 (show x ≤ ((y.toNat : Nat) : Int) by omega)])
  · cases hc

end Go.Proofs.Ytocppeifkjdeiaa.Mv
