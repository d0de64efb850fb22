/- A machine for proofs, part Q: a call by a contract, in the relation. Under no condition. -/
import Derived.Test.YtocppeifkjdeiaaCoreP
namespace Go.Proofs.Ytocppeifkjdeiaa.Mv
open Go
set_option linter.unusedSimpArgs false
set_option linter.unusedVariables false

def Nm.glue (m m' : Nm) (ρ : Nat → Nat) (ts : List Nat) : Nm :=
  ⟨fun s => match ts.find? (fun t => ρ t == s) with | some t => m'.th t | none => m.th s,
   fun s => match ts.find? (fun t => ρ t == s) with | some t => m'.ka t | none => m.ka s⟩

theorem find_at {ρ : Nat → Nat} {ts : List Nat} (hi : ∀ s ∈ ts, ∀ t ∈ ts, ρ s = ρ t → s = t) {t : Nat} (ht : t ∈ ts) : ts.find? (fun x => ρ x == ρ t) = some t := by
  cases h : ts.find? (fun x => ρ x == ρ t) with
  | none => have := List.find?_eq_none.1 h t ht; simp at this
  | some x =>
    have h1 := List.mem_of_find?_eq_some h
    have h2 := List.find?_some h
    simp only [beq_iff_eq] at h2
    rw [hi x h1 t ht h2]
theorem glue_at {m m' : Nm} {ρ ts} (hi : ∀ s ∈ ts, ∀ t ∈ ts, ρ s = ρ t → s = t) {t : Nat} (ht : t ∈ ts) : (m.glue m' ρ ts).th (ρ t) = m'.th t ∧ (m.glue m' ρ ts).ka (ρ t) = m'.ka t := by
  simp only [Nm.glue, find_at hi ht, and_self]
theorem glue_off {m m' : Nm} {ρ ts} {s : Nat} (h : ∀ t ∈ ts, ρ t ≠ s) : (m.glue m' ρ ts).th s = m.th s ∧ (m.glue m' ρ ts).ka s = m.ka s := by
  have : ts.find? (fun x => ρ x == s) = none := List.find?_eq_none.2 fun t ht => by simp [h t ht]
  simp only [Nm.glue, this, and_self]

theorem look_app {α : Type} (l r : List (Nat × α)) (s : Nat) : look (l ++ r) s = match look l s with | some x => some x | none => look r s := by
  induction l with
  | nil => simp [look]
  | cons p l ih =>
    obtain ⟨j, x⟩ := p
    simp only [List.cons_append, look]
    split
    · rfl
    · exact ih
theorem look_none {α : Type} {l : List (Nat × α)} {s : Nat} (h : ∀ p ∈ l, p.1 ≠ s) : look l s = none := by
  induction l with
  | nil => rfl
  | cons p l ih =>
    obtain ⟨j, x⟩ := p
    simp only [look]
    rw [if_neg (h (j, x) (by simp))]
    exact ih fun p hp => h p (by simp [hp])
theorem look_map {ρ : Nat → Nat} {outs : List (Nat × Ob)} (hi : ∀ s ∈ outs.map (·.1), ∀ t ∈ outs.map (·.1), ρ s = ρ t → s = t) (hn : (outs.map (·.1)).Nodup) {p : Nat × Ob} (hp : p ∈ outs) : look (outs.map fun p => (ρ p.1, p.2.ren ρ)) (ρ p.1) = some (p.2.ren ρ) := by
  induction outs with
  | nil => cases hp
  | cons q qs ih =>
    simp only [List.map_cons, look]
    simp only [List.map_cons, List.nodup_cons] at hn
    cases hp with
    | head => rw [if_pos rfl]
    | tail _ hp =>
      rw [if_neg (fun e => by
        have := hi q.1 (by simp) p.1 (List.mem_map.2 ⟨p, List.mem_cons_of_mem _ hp, rfl⟩) e
        exact hn.1 (this ▸ List.mem_map.2 ⟨p, hp, rfl⟩))]
      exact ih (fun s hs t ht e => hi s (by simp only [List.map_cons, List.mem_cons]; exact .inr hs) t (by simp only [List.map_cons, List.mem_cons]; exact .inr ht) e) hn.2 hp

theorem call_wp {c Γ m st a w} (h : RRW c Γ m st a w) {o : Oper} {e : Eff} (hok : o.op.operands.all (okOp c.N) = true) (hc : CallOk c.P st o e) (hf : ∀ d ∈ e.new, st.free d) {Q : Exit → Act → World → Prop} :
    o.wp c.P a w (fun a' w' => RR c (st.app e) a' w') Q := by
  obtain ⟨dst, op, type, pos, after, guard⟩ := o
  obtain ⟨fx, xs, ts, d, f, caps, args, ins, res, outs, ρ, h1, h2, h3, hg, h4, h5, h6, h7, h8, h9, h10, rfl⟩ := hc
  simp only at h1 h2; subst h1; subst h2
  have ev : ∀ z, z ∈ (Op.call { callee := .value fx, args := xs, argTypes := ts }).operands → Rep Γ m (a.eval z) (st.val z) := fun z hz => h.eval z (by
    rw [Array.all_eq_true_iff_forall_mem] at hok; exact hok z hz)
  have hfx := ev fx (by simp [Op.operands, Call.operands])
  rw [h3] at hfx
  obtain ⟨cv, hcv, hcr⟩ : ∃ cv : List Value, a.eval fx = .func (.func f) #[] cv.toArray ∧ RepL Γ m cv caps := by
    cases hq : a.eval fx with
    | func fn first cap => rw [hq] at hfx; cases hfx with | clo vs q1 q2 => exact ⟨vs, rfl, q1, q2⟩
    | _ => rw [hq] at hfx; cases hfx
  let vals := xs.toList.map a.eval ++ cv
  have hxr : RepL Γ m (xs.toList.map a.eval) (xs.toList.map st.val) := by
    refine ⟨by simp, fun j v y hv hy => ?_⟩
    rw [List.getElem?_map] at hv hy
    cases hq : xs.toList[j]? with
    | none => rw [hq] at hv; cases hv
    | some z =>
      rw [hq] at hv hy; cases hv; cases hy
      exact ev z (by simp only [Op.operands, Call.operands]; simpa using .inr (by simpa using List.mem_of_getElem? hq))
  have hvals : RepL Γ (m.pull ρ) vals args := by
    have := h4.rep (hxr.append hcr)
    refine ⟨by rw [this.1, List.length_map], fun j v y hv hy => ren_rep (this.2 j v (y.ren ρ) hv (by rw [List.getElem?_map, hy]; rfl)) rfl⟩
  have hfn := hg.fn.fn
  obtain ⟨fn, k1, k2, k3⟩ := hfn
  have hrun : (execOp a.eval { dst := some d, op := .call { callee := .value fx, args := xs, argTypes := ts }, type, pos, after, guard }).run c.P w = .ok (.enter f vals.toArray) w := by
    have hv : xs.map a.eval ++ cv.toArray = vals.toArray := by apply Array.ext'; simp [vals]
    simp only [execOp, resolve, hcv, Deferred.ofValue, Sem.run_bind, Sem.run_pure, Result.andThen_ok, invoke, callFunc, run_program, k1]
    simp only [k2, k3, Bool.false_eq_true, if_false, Array.empty_append, Sem.run_pure, hv]
  have hins : ∀ p ∈ ins, ObOk Γ (m.pull ρ) w p.1 p.2 := fun p hp => ob_ren.1 (by rw [← (h5 p hp).1]; exact h.obs (ρ p.1))
  have hblkin : ∀ p ∈ ins, p.2.blk (m.pull ρ) p.1 = (st.ob (ρ p.1)).blk m (ρ p.1) := fun p hp => by rw [(h5 p hp).1, blk_ren]
  have hT1 : ∀ s ∈ outs.map (·.1), ∀ t ∈ outs.map (·.1), ρ s = ρ t → s = t := fun s hs t ht => h6 s (List.mem_append_right _ hs) t (List.mem_append_right _ ht)
  have hinj : Inj (m.pull ρ) ins := fun p hp q hq g hpg hqg => by
    rw [hblkin p hp] at hpg; rw [hblkin q hq] at hqg
    exact h6 p.1 (List.mem_append_left _ (List.mem_map.2 ⟨p, hp, rfl⟩)) q.1 (List.mem_append_left _ (List.mem_map.2 ⟨q, hq, rfl⟩)) (h.inj _ _ g hpg hqg)
  unfold Oper.wp
  rw [hrun]
  refine (hg.calls w Γ (m.pull ρ) vals h.gok hvals hins hinj).mono ?_
  rintro e w' ⟨v, Γ', m', rfl, hp⟩
  show RR c _ (a.put (some d) v) w'
  let m2 := m.glue m' ρ (outs.map (·.1))
  have hnew : ∀ t ∈ outs.map (·.1), t ∉ ins.map (·.1) → st.free (ρ t) := fun t ht hn => hf _ (List.mem_filterMap.2 ⟨t, ht, by rw [if_neg hn]⟩)
  have hlt : ∀ s b, (st.ob s).blk m s = some b → b < w.heap.size := fun s b hs => (h.obs s).lt hs
  have hownin : ∀ g, Owns (m.pull ρ) ins g → ∃ p ∈ ins, (st.ob (ρ p.1)).blk m (ρ p.1) = some g := fun g ⟨p, hpi, hg⟩ => ⟨p, hpi, by rw [← hblkin p hpi]; exact hg⟩
  have hext : ∀ r, (∀ t ∈ outs.map (·.1), t ∉ ins.map (·.1) → ρ t ≠ r) → Ext m m2 r := fun r hr => by
    by_cases hq : ∃ t ∈ outs.map (·.1), ρ t = r
    · obtain ⟨t, ht, rfl⟩ := hq
      have hin : t ∈ ins.map (·.1) := Classical.byContradiction fun hn => hr t ht hn rfl
      obtain ⟨p, hpi, rfl⟩ := List.mem_map.1 hin
      have he := hp.ext p hpi
      have hgl := glue_at (m := m) (m' := m') hT1 ht
      exact ⟨fun g hg => by rw [hgl.1]; exact he.1 g hg, fun k x hx => by rw [hgl.2]; exact he.2 k x hx⟩
    · have hgl := glue_off (m := m) (m' := m') (ρ := ρ) (ts := outs.map (·.1)) (s := r) fun t ht e => hq ⟨t, ht, e⟩
      exact ⟨fun g hg => by rw [hgl.1]; exact hg, fun k x hx => by rw [hgl.2]; exact hx⟩
  have hpull : ∀ t ∈ outs.map (·.1), Ext m' (m2.pull ρ) t := fun t ht => by
    have hgl := glue_at (m := m) (m' := m') hT1 ht
    exact ⟨fun g hg => by show m2.th (ρ t) = _; rw [hgl.1]; exact hg, fun k x hx => by show m2.ka (ρ t) k = _; rw [hgl.2]; exact hx⟩
  have hres : Rep Γ' m2 v (res.ren ρ) := rep_ren (hp.rep.mono (Sub.refl _) fun t ht => hpull t (h9 t ht))
  have hob1 : ∀ p ∈ outs, (⟨st.T, (outs.map fun p => (ρ p.1, p.2.ren ρ)) ++ st.B⟩ : St).ob (ρ p.1) = p.2.ren ρ := fun p hp => by
    simp only [St.ob]
    rw [look_app, look_map hT1 h8 hp]
    rfl
  have hob2 : ∀ s, (∀ t ∈ outs.map (·.1), ρ t ≠ s) → (⟨st.T, (outs.map fun p => (ρ p.1, p.2.ren ρ)) ++ st.B⟩ : St).ob s = st.ob s := fun s hs => by
    simp only [St.ob]
    rw [look_app, look_none]
    intro q hq
    obtain ⟨p, hp, rfl⟩ := List.mem_map.1 hq
    exact hs p.1 (List.mem_map.2 ⟨p, hp, rfl⟩)
  have hblk1 : ∀ p ∈ outs, (p.2.ren ρ).blk m2 (ρ p.1) = p.2.blk m' p.1 := fun p hp => by
    rw [blk_ren]
    have hgl := glue_at (m := m) (m' := m') hT1 (List.mem_map.2 ⟨p, hp, rfl⟩)
    exact blk_same hgl.1 hgl.2
  have hblk2 : ∀ s, (∀ t ∈ outs.map (·.1), ρ t ≠ s) → (st.ob s).blk m2 s = (st.ob s).blk m s := fun s hs => blk_same (glue_off hs).1 (glue_off hs).2
  have hcase : ∀ s, (∃ p ∈ outs, ρ p.1 = s) ∨ ∀ t ∈ outs.map (·.1), ρ t ≠ s := fun s => by
    by_cases hq : ∃ p ∈ outs, ρ p.1 = s
    · exact .inl hq
    · exact .inr fun t ht e => by
        obtain ⟨p, hp, rfl⟩ := List.mem_map.1 ht
        exact hq ⟨p, hp, e⟩
  -- an object that is no part of the call: its block is not the call's
  have hapart : ∀ s, (∀ t ∈ outs.map (·.1), ρ t ≠ s) → ∀ g, (st.ob s).blk m s = some g → ¬ Owns (m.pull ρ) ins g := fun s hs g hg ho => by
    obtain ⟨p, hpi, hpg⟩ := hownin g ho
    exact hs p.1 (h7 _ (List.mem_map.2 ⟨p, hpi, rfl⟩)) (h.inj _ _ g hpg hg)
  have hΓ : ∀ ad : Addr, ad.block < w.heap.size → ¬ Owns (m.pull ρ) ins ad.block → Γ' ad = Γ ad := fun ad h1 h2 => by
    cases hq : Γ ad with
    | some y => exact hp.sub ad y hq
    | none =>
      cases hq' : Γ' ad with
      | none => rfl
      | some y =>
        rcases hp.fresh ad hq (by simp [hq']) with h3 | h3
        · omega
        · exact absurd h3 h2
  refine ⟨Γ', m2, RRW.put (st := ⟨st.T, (outs.map fun p => (ρ p.1, p.2.ren ρ)) ++ st.B⟩) (h.mem hp.sub (fun t r hr => hext r fun t' ht' hn e => (hnew t' ht' hn).2.1 (e ▸ St.get_refs hr)) (fun p hpi => hext p fun t' ht' hn e => by
    have := (hnew t' ht' hn).1; have := c.big p hpi; omega) hp.gok (fun s => ?_) (fun s g hg => ?_) (fun s s' g hg hg' => ?_) ?_ (fun ad h0 h1 => ?_)) (some d) hres⟩
  · rcases hcase s with ⟨p, hpo, rfl⟩ | hs
    · rw [hob1 p hpo]
      have hgl := glue_at (m := m) (m' := m') hT1 (List.mem_map.2 ⟨p, hpo, rfl⟩)
      exact ob_ren.2 ((hp.obs p hpo).keep (Sub.refl _) hgl.1 hgl.2 (fun r hr => hpull r (h10 p hpo r hr)) fun _ _ => ⟨rfl, fun _ _ => rfl⟩)
    · rw [hob2 s hs]
      refine (h.obs s).keep hp.sub (glue_off hs).1 (glue_off hs).2 (fun r hr => hext r fun t' ht' hn e => (hnew t' ht' hn).2.2 (e ▸ St.ob_refs hr)) fun g hg => ?_
      exact ⟨hp.frame.block g (hlt s g hg) (hapart s hs g hg), fun ad had => hΓ ad (by rw [had]; exact hlt s g hg) (by rw [had]; exact hapart s hs g hg)⟩
  · rcases hcase s with ⟨p, hpo, rfl⟩ | hs
    · rw [hob1 p hpo, hblk1 p hpo] at hg
      rcases hp.own g ⟨p, hpo, hg⟩ with h1 | h1
      · exact .inl (Nat.le_trans h.frame.size h1)
      · obtain ⟨q, hq, hqg⟩ := hownin g h1
        exact h.own _ g hqg
    · rw [hob2 s hs, hblk2 s hs] at hg
      exact h.own s g hg
  · have key : ∀ p ∈ outs, ∀ s, (∀ t ∈ outs.map (·.1), ρ t ≠ s) → p.2.blk m' p.1 = some g → (st.ob s).blk m s = some g → False := fun p hpo s hs h1 h2 => by
      rcases hp.own g ⟨p, hpo, h1⟩ with h3 | h3
      · have := hlt s g h2; omega
      · exact hapart s hs g h2 h3
    rcases hcase s with ⟨p, hpo, rfl⟩ | hs <;> rcases hcase s' with ⟨p', hpo', rfl⟩ | hs'
    · rw [hob1 p hpo, hblk1 p hpo] at hg
      rw [hob1 p' hpo', hblk1 p' hpo'] at hg'
      rw [hp.inj p hpo p' hpo' g hg hg']
    · rw [hob1 p hpo, hblk1 p hpo] at hg
      rw [hob2 s' hs', hblk2 s' hs'] at hg'
      exact (key p hpo s' hs' hg hg').elim
    · rw [hob2 s hs, hblk2 s hs] at hg
      rw [hob1 p' hpo', hblk1 p' hpo'] at hg'
      exact (key p' hpo' s hs hg' hg).elim
    · rw [hob2 s hs, hblk2 s hs] at hg
      rw [hob2 s' hs', hblk2 s' hs'] at hg'
      exact h.inj s s' g hg hg'
  · refine h.frame.trans' hp.frame.os hp.frame.tape hp.frame.output hp.frame.size fun k hk => ?_
    by_cases ho : Owns (m.pull ρ) ins k
    · obtain ⟨q, hq, hqg⟩ := hownin k ho
      exact .inl ⟨k, h.own _ k hqg, rfl⟩
    · exact .inr (hp.frame.block k hk ho)
  · rcases hp.fresh ad h0 h1 with h2 | h2
    · exact .inl (Nat.le_trans h.frame.size h2)
    · obtain ⟨q, hq, hqg⟩ := hownin _ h2
      exact h.own _ _ hqg

end Go.Proofs.Ytocppeifkjdeiaa.Mv
