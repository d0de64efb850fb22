/- A machine for proofs, part H: memory turns: objects that stay, new ones, stores. Under no condition. -/
import Derived.Test.YtocppeifkjdeiaaCoreG
namespace Go.Proofs.Ytocppeifkjdeiaa.Mv
open Go
set_option linter.unusedSimpArgs false
set_option linter.unusedVariables false

theorem ObOk.lt {Γ m w t ob g} (h : ObOk Γ m w t ob) (hb : ob.blk m t = some g) : g < w.heap.size := by
  cases ob with
  | bx cs =>
    obtain ⟨k, c, E, h1, h2, _⟩ := h
    simp only [Ob.blk] at hb
    rw [h1] at hb; cases hb
    exact (Array.getElem?_eq_some_iff.1 h2).1
  | gw n =>
    obtain ⟨v, e, sz, xs, h1, h2, h3, h4⟩ := h
    simp only [Ob.blk, h1, Option.bind_some] at hb
    exact (h3.lt g hb).2
  | dead => cases hb

theorem ownsRow_keep {w w' : World} {e sz v n xs} (h : w.ownsRow 0 e sz v n xs) (hw : ∀ g, v.ownBlock = some g → w'.heap[g]? = w.heap[g]?) : w'.ownsRow 0 e sz v n xs := by
  obtain ⟨h1, h2⟩ := h
  refine ⟨h1, ?_⟩
  rcases h2 with h2 | ⟨g, cap, cur, rfl, h3, h4, h5⟩
  · exact .inl h2
  · exact .inr ⟨g, cap, cur, rfl, h3, by rw [hw g rfl]; exact h4, h5⟩

theorem ObOk.keep {Γ Γ' m m' w w' t ob} (h : ObOk Γ m w t ob) (hs : Sub Γ Γ') (hth : m'.th t = m.th t) (hka : m'.ka t = m.ka t) (hr : ∀ r ∈ ob.refs, Ext m m' r)
    (hw : ∀ g, ob.blk m t = some g → w'.heap[g]? = w.heap[g]? ∧ ∀ a : Addr, a.block = g → Γ' a = Γ a) : ObOk Γ' m' w' t ob := by
  cases ob with
  | bx cs =>
    obtain ⟨k, c, E, h1, h2, h3, h4, h5, h6⟩ := h
    obtain ⟨hk, hk'⟩ := hw k h1
    exact ⟨k, c, E, by rw [hth, h1], by rw [hk, h2], h3, fun j v d hv hd => (h4 j v d hv hd).mono hs fun r hr' => hr r (mem_refsL (List.mem_of_getElem? hd) hr'), h5, fun a ha => by rw [hk' a ha, h6 a ha]⟩
  | gw n =>
    obtain ⟨v, e, sz, xs, h1, h2, h3, h4⟩ := h
    have hb : (Ob.gw n).blk m t = v.ownBlock := by simp [Ob.blk, h1]
    refine ⟨v, e, sz, xs, by rw [hka, h1], by rw [hka]; exact h2, ownsRow_keep h3 fun g hg => (hw g (by rw [hb, hg])).1, fun g hg => ?_⟩
    obtain ⟨h5, h6⟩ := h4 g hg
    have hk := (hw g (by rw [hb, hg])).2
    exact ⟨fun j hj => by rw [hk _ rfl]; exact h5 j hj, fun a ha hq => by rw [hk a ha]; exact h6 a ha hq⟩
  | dead => trivial

theorem blk_same {m m' : Nm} {t : Nat} {ob : Ob} (hth : m'.th t = m.th t) (hka : m'.ka t = m.ka t) : ob.blk m' t = ob.blk m t := by
  cases ob <;> simp [Ob.blk, hth, hka]

theorem gok_lt {Γ : Gam} {w : World} (h : ∀ ad v, Γ ad = some v → w.cell? ad = some v) {ad : Addr} (hn : Γ ad ≠ none) : ad.block < w.heap.size := by
  cases hv : Γ ad with
  | none => exact absurd hv hn
  | some v => exact block_lt_of_cell (h ad v hv)

/-- The tag d stands for something new. -/
def Nm.set (m : Nm) (d : Nat) (g : Option Nat) (k : Nat → Option (Value × TypeId × Nat)) : Nm := ⟨fun t => if t = d then g else m.th t, fun t => if t = d then k else m.ka t⟩
theorem Nm.set_ext (m : Nm) (d : Nat) (g k) {r : Nat} (h : r ≠ d) : Ext m (m.set d g k) r := ⟨fun _ hx => by simpa [Nm.set, h] using hx, fun _ _ hx => by simpa [Nm.set, h] using hx⟩
theorem ob_cons (T : List (Nat × AV)) (B : List (Nat × Ob)) (d : Nat) (ob : Ob) (t : Nat) : (⟨T, (d, ob) :: B⟩ : St).ob t = if d = t then ob else (⟨T, B⟩ : St).ob t := by
  simp only [St.ob, look]
  split <;> rfl

theorem Fr.trans' {S : Nat → Prop} {w0 w w' : World} (h : Fr S w0 w) (hos : w'.os = w.os) (htape : w'.tape = w.tape) (hout : w'.output = w.output) (hsz : w.heap.size ≤ w'.heap.size)
    (hb : ∀ k, k < w.heap.size → (∃ g, (w0.heap.size ≤ g ∨ S g) ∧ k = g) ∨ w'.heap[k]? = w.heap[k]?) : Fr S w0 w' :=
  ⟨hos.trans h.os, htape.trans h.tape, hout.trans h.output, Nat.le_trans h.size hsz, fun k hk hn => by
    rcases hb k (Nat.lt_of_lt_of_le hk h.size) with ⟨g, hg, rfl⟩ | e
    · rcases hg with hg | hg
      · omega
      · exact absurd hg hn
    · exact e.trans (h.block k hk hn)⟩

/-- A new object: its block is new, or it has none. -/
theorem RRW.new {c Γ m st a w} (h : RRW c Γ m st a w) {d : Nat} (hd : d < 1000000) (hT : d ∉ St.refsT st.T) (hB : d ∉ St.refsB st.B) {Γ' : Gam} {w' : World} {g : Option Nat} {k : Nat → Option (Value × TypeId × Nat)} {ob : Ob}
    (hs : Sub Γ Γ') (hos : w'.os = w.os) (htape : w'.tape = w.tape) (hout : w'.output = w.output) (hsz : w.heap.size ≤ w'.heap.size) (hheap : ∀ i, i < w.heap.size → w'.heap[i]? = w.heap[i]?)
    (hΓ : ∀ ad : Addr, ad.block < w.heap.size → Γ' ad = Γ ad) (gok : ∀ ad v, Γ' ad = some v → w'.cell? ad = some v)
    (hob : ObOk Γ' (m.set d g k) w' d ob) (hnew : ∀ i, ob.blk (m.set d g k) d = some i → w.heap.size ≤ i) : RRW c Γ' (m.set d g k) ⟨st.T, (d, ob) :: st.B⟩ a w' := by
  have hsame : ∀ t, t ≠ d → (m.set d g k).th t = m.th t ∧ (m.set d g k).ka t = m.ka t := fun t ht => by simp [Nm.set, ht]
  have hlt : ∀ t i, (st.ob t).blk m t = some i → i < w.heap.size := fun t i hi => (h.obs t).lt hi
  have hobs : ∀ t, t ≠ d → ObOk Γ' (m.set d g k) w' t (st.ob t) := fun t ht =>
    (h.obs t).keep hs (hsame t ht).1 (hsame t ht).2 (fun r hr => m.set_ext d g k (fun e => hB (e ▸ St.ob_refs hr))) fun i hi => ⟨hheap i (hlt t i hi), fun ad had => hΓ ad (by rw [had]; exact hlt t i hi)⟩
  have hob' : ∀ t, (⟨st.T, (d, ob) :: st.B⟩ : St).ob t = if d = t then ob else st.ob t := fun t => ob_cons _ _ _ _ _
  refine h.mem (B' := (d, ob) :: st.B) hs (fun t r hr => m.set_ext d g k (fun e => hT (e ▸ St.get_refs hr))) (fun p hp => m.set_ext d g k (fun e => by have := c.big p hp; omega)) gok (fun t => ?_) (fun t i hi => ?_) (fun t t' i hi hi' => ?_) ?_ (fun ad h0 h1 => ?_)
  · rw [hob']
    split
    · rename_i e; subst e; exact hob
    · rename_i e; exact hobs t (Ne.symm e)
  · rw [hob'] at hi
    split at hi
    · rename_i e; subst e; exact .inl (Nat.le_trans h.frame.size (hnew i hi))
    · rename_i e
      rw [blk_same (hsame t (Ne.symm e)).1 (hsame t (Ne.symm e)).2] at hi
      exact h.own t i hi
  · rw [hob'] at hi hi'
    split at hi <;> split at hi'
    · rename_i e e'; rw [← e, ← e']
    · rename_i e e'
      subst e
      rw [blk_same (hsame t' (Ne.symm e')).1 (hsame t' (Ne.symm e')).2] at hi'
      have := hnew i hi; have := hlt t' i hi'; omega
    · rename_i e e'
      subst e'
      rw [blk_same (hsame t (Ne.symm e)).1 (hsame t (Ne.symm e)).2] at hi
      have := hnew i hi'; have := hlt t i hi; omega
    · rename_i e e'
      rw [blk_same (hsame t (Ne.symm e)).1 (hsame t (Ne.symm e)).2] at hi
      rw [blk_same (hsame t' (Ne.symm e')).1 (hsame t' (Ne.symm e')).2] at hi'
      exact h.inj t t' i hi hi'
  · exact h.frame.trans' hos htape hout hsz fun i hi => .inr (hheap i hi)
  · by_cases hb : ad.block < w.heap.size
    · rw [hΓ ad hb] at h1; exact absurd h0 h1
    · exact .inl (Nat.le_trans h.frame.size (by omega))

theorem cell_alloc {w : World} {o : Obj} {ad : Addr} {v : Value} (h : w.cell? ad = some v) : (w.alloc o).cell? ad = some v := by
  rw [World.cell?_alloc_lt w o ad (block_lt_of_cell h)]; exact h

/-- A new box. -/
theorem RRW.box {c Γ m st a w} (h : RRW c Γ m st a w) {d : Nat} (hd' : d < 1000000) (hT : d ∉ St.refsT st.T) (hB : d ∉ St.refsB st.B) (E : TypeId) {vs : List Value} {cs : List AV} (hr : RepL Γ m vs cs) (hl : cs.all AV.leaf = true) (hd : d ∉ AV.refs.refsL cs) :
    ∃ m', RRW c Γ m' ⟨st.T, (d, .bx cs) :: st.B⟩ a (w.alloc (.cells vs.toArray E)) ∧ m'.th d = some w.heap.size := by
  refine ⟨m.set d (some w.heap.size) fun _ => none, h.new hd' hT hB (Sub.refl _) rfl rfl rfl (by simp) (fun i hi => heap_alloc_old w _ i hi) (fun _ _ => rfl) (fun ad v hv => cell_alloc (h.gok ad v hv)) ?_ (fun i hi => ?_), by simp [Nm.set]⟩
  · refine ⟨w.heap.size, vs.toArray, (E, 0, 0), by simp [Nm.set], heap_alloc_new w _, ⟨.inl (Nat.le_refl _), by simp [hr.1]⟩, fun j v x hv hx => ?_, fun j v hj hv => ?_, fun ad had => ?_⟩
    · exact (hr.2 j v x (by simpa using hv) hx).mono (Sub.refl _) fun r hr' => m.set_ext d _ _ (fun e => hd (e ▸ mem_refsL (List.mem_of_getElem? hx) hr'))
    · have hx : cs[j]? = some cs[j] := List.getElem?_eq_getElem hj
      exact (hr.2 j v _ (by simpa using hv) hx).one (List.all_eq_true.1 hl _ (List.mem_of_getElem? hx))
    · cases hv : Γ ad with
      | none => rfl
      | some v => have := block_lt_of_cell (h.gok ad v hv); omega
  · simp only [Ob.blk, Nm.set, if_true] at hi
    cases hi; exact Nat.le_refl _

theorem FrOk.not {w : World} {g j : Nat} {cur : Array Value} {t : TypeId} {fr : Nat × Nat} (hg : w.heap[g]? = some (.cells cur t fr)) (h : FrOk cur.size fr) (hj : j < cur.size) : w.frozen? ⟨g, j, none⟩ = false := by
  obtain ⟨lo, hi⟩ := fr
  simp only [World.frozen?, hg, Bool.and_eq_false_iff, decide_eq_false_iff_not]
  simp only [FrOk] at h
  omega
theorem run_storeCells_fr (P : Program) (g o : Nat) (t : TypeId) (fr : Nat × Nat) : ∀ (vs : List Value) (i : Nat) (cur : Array Value) (w : World), w.heap[g]? = some (.cells cur t fr) → FrOk cur.size fr → o + i + vs.length ≤ cur.size → (∀ v ∈ vs, v.oneCell' = true) →
    (storeCells ⟨g, o, none⟩ vs i).run P w = .ok () (w.setRow g (cur.toList.take (o + i) ++ vs ++ cur.toList.drop (o + i + vs.length)).toArray)
  | [], i, cur, w, hg, _, _, _ => by
    simp only [storeCells, List.append_nil, List.length_nil, Nat.add_zero, List.take_append_drop, Array.toArray_toList]
    rw [setRow_self w g cur t fr hg]
    rfl
  | v :: rest, i, cur, w, hg, hfr, hl, h1 => by
    have hi : o + i < cur.size := by simp at hl; omega
    have hadd : (⟨g, o, none⟩ : Addr).add i = ⟨g, o + i, none⟩ := by unfold Addr.add; split <;> simp_all
    have hcell : w.cell? ⟨g, o + i, none⟩ = some cur[o + i] := by simp [World.cell?, hg, hi]
    have hfro := hfr.not hg hi
    have hst : (store ((⟨g, o, none⟩ : Addr).add i) v).run P w = .ok () (w.setRow g (cur.setIfInBounds (o + i) v)) := by
      rw [hadd, run_store P w _ v _ (h1 v (by simp)), hcell]
      simp [hfro, setCell_eq_setRow w g (o + i) cur t fr v hg]
    have ih := run_storeCells_fr P g o t fr rest (i + 1) (cur.setIfInBounds (o + i) v) (w.setRow g (cur.setIfInBounds (o + i) v)) (setRow_heap w g cur _ t _ hg) (by simpa using hfr) (by simp at hl ⊢; omega) (fun x hx => h1 x (by simp [hx]))
    simp only [storeCells, Sem.run_bind, hst, Result.andThen_ok, ih, setRow_setRow]
    congr 3
    have e := list_seg_step cur.toList (o + i) v rest (by simp at hl ⊢; omega)
    simpa [Array.toList_setIfInBounds, Nat.add_assoc] using e
/-- A store into a box. -/
theorem RRW.store {c Γ m st a w} (h : RRW c Γ m st a w) {t g off : Nat} {cs : List AV} (hb : st.ob t = .bx cs) (hg : m.th t = some g) {vs : List Value} {ds : List AV} (hr : RepL Γ m vs ds) (hl : ds.all AV.leaf = true) (hoff : off + ds.length ≤ cs.length) :
    ∃ w', (storeCells ⟨g, off, none⟩ vs).run c.P w = .ok () w' ∧ RRW c Γ m ⟨st.T, (t, .bx (splice cs off ds)) :: st.B⟩ a w' := by
  have hobt := h.obs t
  rw [hb] at hobt
  obtain ⟨k, cc, E, q1, q2, q3, q4, q5, q6⟩ := hobt
  rw [hg] at q1; cases q1
  have h1 : ∀ v ∈ vs, v.oneCell' = true := fun v hv => by
    obtain ⟨j, hj⟩ := List.getElem?_of_mem hv
    have hjl : j < ds.length := by rw [← hr.1]; exact (List.getElem?_eq_some_iff.1 hj).1
    have hx : ds[j]? = some ds[j] := List.getElem?_eq_getElem hjl
    exact (hr.2 j v _ hj hx).one (List.all_eq_true.1 hl _ (List.mem_of_getElem? hx))
  have hlen : vs.length = ds.length := hr.1
  have hrun := run_storeCells_fr c.P g off E.1 E.2 vs 0 cc w q2 q3.1 (by rw [hlen]; have := q3.2; omega) h1
  simp only [Nat.add_zero] at hrun
  refine ⟨_, hrun, ?_⟩
  have hq3 := q3.2
  have hlen1 : (splice cs off ds).length = cs.length := by simp [splice]; omega
  have hlen2 : (cc.toList.take off ++ vs ++ cc.toList.drop (off + vs.length)).length = cc.size := by simp; omega
  have hnew : ∀ (j : Nat) (v : Value) (x : AV), (cc.toList.take off ++ vs ++ cc.toList.drop (off + vs.length))[j]? = some v → (splice cs off ds)[j]? = some x → Rep Γ m v x := fun j v x hv hx => by
    unfold splice at hx
    have l1 : (cc.toList.take off).length = off := by simp; omega
    have l2 : (cs.take off).length = off := by simp; omega
    by_cases hj : j < off
    · rw [List.append_assoc, List.getElem?_append_left (by omega), List.getElem?_take, if_pos hj] at hv hx
      exact q4 j v x (by simpa using hv) hx
    · by_cases hj2 : j < off + ds.length
      · rw [List.append_assoc, List.getElem?_append_right (by omega), l1, List.getElem?_append_left (by omega)] at hv
        rw [List.append_assoc, List.getElem?_append_right (by omega), l2, List.getElem?_append_left (by omega)] at hx
        exact hr.2 _ v x hv hx
      · rw [List.getElem?_append_right (by simp; omega), List.getElem?_drop] at hv hx
        have e1 : off + vs.length + (j - (cc.toList.take off ++ vs).length) = j := by simp only [List.length_append, l1]; omega
        have e2 : off + ds.length + (j - (cs.take off ++ ds).length) = j := by simp only [List.length_append, l2]; omega
        rw [e1] at hv
        rw [e2] at hx
        exact q4 j v x (by simpa using hv) hx
  have hob' : ∀ s, (⟨st.T, (t, .bx (splice cs off ds)) :: st.B⟩ : St).ob s = if t = s then .bx (splice cs off ds) else st.ob s := fun s => ob_cons _ _ _ _ _
  have hblk : ∀ s, ((⟨st.T, (t, .bx (splice cs off ds)) :: st.B⟩ : St).ob s).blk m s = (st.ob s).blk m s := fun s => by
    rw [hob']
    split
    · rename_i e; subst e; rw [hb]; rfl
    · rfl
  refine h.mem (B' := (t, .bx (splice cs off ds)) :: st.B) (Sub.refl _) (fun _ _ _ => ⟨fun _ h => h, fun _ _ h => h⟩) (fun _ _ => ⟨fun _ h => h, fun _ _ h => h⟩) (fun ad v hv => ?_) (fun s => ?_) (fun s i hi => h.own s i (by rwa [hblk] at hi)) (fun s s' i hi hi' => h.inj s s' i (by rwa [hblk] at hi) (by rwa [hblk] at hi')) ?_ (fun ad h0 h1 => absurd h0 h1)
  · have hne : ad.block ≠ g := fun e => by rw [q6 ad e] at hv; cases hv
    rw [cell_setRow_other w g _ ad hne]
    exact h.gok ad v hv
  · rw [hob']
    split
    · rename_i e; subst e
      refine ⟨g, _, E, hg, setRow_heap w g cc _ E.1 _ q2, ?_, fun j v x hv hx => hnew j v x (by simpa using hv) hx, fun j v hjl hv => ?_, q6⟩
      · rw [List.size_toArray, hlen2, hlen1]; exact q3
      · rw [hlen1] at hjl
        have hv : (cc.toList.take off ++ vs ++ cc.toList.drop (off + vs.length))[j]? = some v := by simpa using hv
        have l1 : (cc.toList.take off).length = off := by simp; omega
        by_cases hj : j < off
        · rw [List.append_assoc, List.getElem?_append_left (by omega), List.getElem?_take, if_pos hj] at hv
          exact q5 j v hjl (by simpa using hv)
        · by_cases hj2 : j < off + vs.length
          · rw [List.append_assoc, List.getElem?_append_right (by omega), l1, List.getElem?_append_left (by omega)] at hv
            exact h1 v (List.mem_of_getElem? hv)
          · rw [List.getElem?_append_right (by simp; omega), List.getElem?_drop] at hv
            have e1 : off + vs.length + (j - (cc.toList.take off ++ vs).length) = j := by simp only [List.length_append, l1]; omega
            rw [e1] at hv
            exact q5 j v hjl (by simpa using hv)
    · rename_i e
      refine (h.obs s).keep (Sub.refl _) rfl rfl (fun _ _ => ⟨fun _ h => h, fun _ _ h => h⟩) fun i hi => ⟨setRow_other w g i _ fun e' => ?_, fun _ _ => rfl⟩
      subst e'
      exact e (h.inj t s i (by rw [hb]; exact hg) hi)
  · refine h.frame.trans' rfl rfl rfl (by simp) fun i hi => ?_
    by_cases e : i = g
    · exact .inl ⟨g, h.own t g (by rw [hb]; exact hg), e⟩
    · exact .inr (setRow_other w g i _ e)

end Go.Proofs.Ytocppeifkjdeiaa.Mv
