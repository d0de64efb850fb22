/- Calls to which a box is lent. Under no condition. -/
import Derived.Test.YtmfonbehcfjjgaaXtG
namespace Go.Proofs.Ytmfonbehcfjjgaa.Mv
open Go Go.Proofs
set_option linter.unusedSimpArgs false
set_option linter.unusedVariables false

theorem ren_no (ρ : Nat → Nat) (c : AV) (h : c.refs = []) : c.ren ρ = c := by
  match c with
  | .agg cs => simp only [AV.ren, renL_eq]; congr 1; exact go cs h
  | .tup cs => simp only [AV.ren, renL_eq]; congr 1; exact go cs h
  | .clo f cs => simp only [AV.ren, renL_eq]; congr 1; exact go cs h
  | .gr .. => simp [AV.refs] at h
  | .ptr .. => simp [AV.refs] at h
  | .bsl .. => simp [AV.refs] at h
  | .any | .u | .x _ | .i .. | .b _ | .s _ | .nil | .sh .. | .pel _ => rfl
where go : (cs : List AV) → AV.refs.refsL cs = [] → cs.map (AV.ren ρ) = cs
  | [], _ => rfl
  | c :: cs, h => by
    simp only [AV.refs.refsL, List.append_eq_nil_iff] at h
    rw [List.map_cons, ren_no ρ c h.1, go cs h.2]
theorem call_box {P : Program} {st : St} {d : Nat} {ty : TypeId} {pos} {after} {fx : Operand} {xs : Array Operand} {ts : Array TypeId} {f : FuncId} {caps args as : List AV} {res : AV} {cs cs' : List AV} (t : Nat) {g}
    (hc : st.val fx = .clo f caps) (ha : Wf (xs.toList.map st.val ++ caps) as) (hg : Good P f args [(1000000, .bx cs)] res [(1000000, .bx cs')]) (hl : LeL as (args.map (AV.ren fun _ => t))) (hob : st.ob t = .bx cs)
    (ht : t ∈ tagsAt st ⟨some d, .call { callee := .value fx, args := xs, argTypes := ts }, ty, pos, after, g⟩) (hr : res.refs = []) (h1 : AV.refs.refsL cs = []) (h2 : AV.refs.refsL cs' = []) :
    CallOk P st ⟨some d, .call { callee := .value fx, args := xs, argTypes := ts }, ty, pos, after, g⟩ ⟨[(d, res)], [(t, .bx cs')], []⟩ :=
  ⟨fx, xs, ts, d, f, caps, args, [(1000000, .bx cs)], res, [(1000000, .bx cs')], fun _ => t, rfl, rfl, hc, hg, by rw [ha.eq]; exact hl,
    fun p hp => by
      simp at hp; subst hp
      exact ⟨by rw [hob]; simp only [Ob.ren, renL_eq]; rw [ren_no.go _ cs h1], ht⟩,
    fun s hs t' ht' _ => by simp at hs ht'; rw [hs, ht'], fun s hs => by simpa using hs, by simp, fun t ht => by rw [hr] at ht; simp at ht, fun p hp t ht => by simp at hp; subst hp; simp [Ob.refs, h2] at ht, by
      simp only [List.map_cons, List.map_nil, List.filterMap_cons, List.filterMap_nil, List.mem_cons, List.not_mem_nil, or_false, if_true, Ob.ren, renL_eq]
      rw [ren_no _ res hr, ren_no.go _ cs' h2]⟩
/-- A walk in a function to which a box is lent. -/
theorem Good.wB {P : Program} {tab : Tab} (ht : TabOk P tab) (mo : P.follows .mixedOrders = true) {f : FuncId} {fn : Func} {code : Code} {rs : List ResultVar} {N : Nat} {args : List AV} {res : AV} {cs cs' : List AV} {T : List (Nat × AV)}
    (hf : P.funcs[f]? = some fn) (hfn : fnB fn N args.length = true) (hb : fn.body = some code) (hrs : LE fn.results.toList rs) (hT : LE (entT 0 args) T)
    (h : ∀ D : St → Prop, (∀ {st cs0}, resAll tab st rs = some cs0 → Lx Tr (resTup cs0) res → Ol Tr (st.ob 1000000) (.bx cs') → D st) → ∀ F : Fx P tab N D, AW F [.c code] ⟨T, [(1000000, .bx cs)]⟩) : Good P f args [(1000000, .bx cs)] res [(1000000, .bx cs')] :=
  Good.walk ht mo hf hfn hb hrs.eq (fun p hp => by simp at hp; subst hp; exact Nat.le_refl _) (by
    rw [hT.eq]
    exact h _ fun {st cs0} a b c => ⟨fun t => t, cs0, a, by rw [ren_id]; exact b, fun p hp => by
      simp at hp; subst hp
      simp only [Ob.ren, renL_eq]; rw [ren_id.go]; exact c, fun s _ t _ e => e, fun p hp => rfl⟩)
/-- A function that only reads may be lent a box. -/
theorem Good.lend {P : Program} {f : FuncId} {args args' : List AV} {res : AV} {cs : List AV} (hg : Good P f args [] res []) (hfl : cs.all AV.flat = true) (hres : res.flat = true) (hl : LxL (FzG 1000000 cs) args' args) : Good P f args' [(1000000, .bx cs)] res [(1000000, .bx cs)] :=
  ⟨hg.fn, fun w Γ m vals gok hv hobs hinj => by
    obtain ⟨g, cc, E, q1, q2, q3, q4, q5, q6⟩ := hobs (1000000, .bx cs) (by simp)
    let Γ' : Gam := fun ad => if ad.block = g ∧ ad.spot = none ∧ ad.off < cs.length then cc[ad.off]? else Γ ad
    have hin : ∀ j, j < cs.length → Γ' ⟨g, j, none⟩ = cc[j]? := fun j hj => by simp [Γ', hj]
    have hout : ∀ ad : Addr, ad.block ≠ g → Γ' ad = Γ ad := fun ad had => by simp [Γ', had]
    have hsub : Sub Γ Γ' := fun ad v hv => by
      by_cases e : ad.block = g
      · rw [q6 ad e] at hv; cases hv
      · rw [hout ad e]; exact hv
    have hgok : ∀ ad v, Γ' ad = some v → w.cell? ad = some v := fun ad v hv => by
      by_cases e : ad.block = g ∧ ad.spot = none ∧ ad.off < cs.length
      · obtain ⟨e1, e2, e3⟩ := e
        obtain ⟨ab, ao, as⟩ := ad
        simp only at e1 e2 e3; subst e1; subst e2
        rw [hin ao e3] at hv
        rw [cell_of_row w ab _ cc E.1 E.2 q2]; exact hv
      · simp only [Γ', if_neg e] at hv
        exact gok ad v hv
    have hr : RepL Γ' Nm.e (cc.toList.take cs.length) (cs.map AV.close) := by
      refine ⟨by have := q3.2; simp; omega, fun j v x hv hx => ?_⟩
      rw [List.getElem?_take] at hv
      split at hv
      · rw [List.getElem?_map] at hx
        obtain ⟨y, hy, rfl⟩ := Option.map_eq_some_iff.1 hx
        exact ((q4 j v y (by simpa using hv) hy).sub hsub).close (List.all_eq_true.1 (flat_shut hfl) _ (List.mem_of_getElem? hy))
      · cases hv
    have hF : FzG 1000000 cs Γ' m := fun g' hg' off => by
      rw [q1] at hg'; cases hg'
      have hr' := hr.drop off
      refine .pel _ hr'.1 (fun j v hv => ?_) (fun v hv => ?_) hr'.2
      · rw [List.getElem?_drop, List.getElem?_take] at hv
        split at hv
        · rename_i hlt
          rw [add_lit, hin _ hlt]; simpa using hv
        · cases hv
      · obtain ⟨j, hj⟩ := List.getElem?_of_mem hv
        rw [List.getElem?_drop, List.getElem?_take] at hj
        split at hj
        · rename_i hlt; exact q5 _ v hlt (by simpa using hj)
        · cases hj
    have hv' : RepL Γ' m vals args := by
      refine ⟨by rw [hv.1, hl.len], fun j v c hvj hc => ?_⟩
      have hj : j < args'.length := by rw [hl.len]; exact (List.getElem?_eq_some_iff.1 hc).1
      exact hl.at j _ c (List.getElem?_eq_getElem hj) hc _ _ _ hF ((hv.2 j v _ hvj (List.getElem?_eq_getElem hj)).sub hsub)
    refine (hg.calls w Γ' m vals hgok hv' (fun p hp => by simp at hp) (fun p hp => by simp at hp)).mono fun e' w' ⟨v, Γ1, m1, q, hp⟩ => ?_
    have hgs : g < w.heap.size := (Array.getElem?_eq_some_iff.1 q2).1
    have hheap : w'.heap[g]? = some (.cells cc E.1 E.2) := by
      rw [hp.frame.block g hgs (fun ⟨p, hp', _⟩ => by simp at hp')]; exact q2
    let Γ2 : Gam := fun ad => if ad.block = g then none else Γ1 ad
    have hblk : (Ob.bx cs).blk m 1000000 = some g := q1
    refine ⟨v, Γ2, m, q, fun ad y hy => ?_, fun ad y hy => ?_, hp.rep.flat hres, fun p hp' => ?_, fun p hp' q' hq' g' _ _ => by simp at hp' hq'; rw [hp', hq'], fun g' hg' => .inr hg', fun p _ => ⟨fun _ h => h, fun _ _ h => h⟩, ⟨hp.frame.os, hp.frame.tape, hp.frame.output, hp.frame.size, fun k hk _ => hp.frame.block k hk (fun ⟨p, hp', _⟩ => by simp at hp')⟩, fun ad h0 h1 => ?_⟩
    · have e : ad.block ≠ g := fun e => by rw [q6 ad e] at hy; cases hy
      simp only [Γ2, if_neg e]
      exact hp.sub ad y (hsub ad y hy)
    · simp only [Γ2] at hy
      split at hy
      · cases hy
      · exact hp.gok ad y hy
    · simp at hp'; subst hp'
      exact ⟨g, cc, E, q1, hheap, q3, fun j y d hy hd => (q4 j y d hy hd).flat (List.all_eq_true.1 hfl d (List.mem_of_getElem? hd)), q5, fun ad had => by simp [Γ2, had]⟩
    · simp only [Γ2] at h1
      split at h1
      · exact absurd rfl h1
      · rename_i e
        have h0' : Γ' ad = none := by rw [hout ad e]; exact h0
        exact (hp.fresh ad h0' h1).imp id fun ⟨p, hp', _⟩ => by simp at hp'⟩
section
variable {P : Program} {tab : Tab} {N : Nat} {D : St → Prop} {F : Fx P tab N D} {ops : Array Oper} {k : List It} {l : List Oper} {T : List (Nat × AV)} {B : List (Nat × Ob)} {acc : List (List Nat × Eff)} {d : Nat} {ty : TypeId} {tg : List Nat}
theorem AO.sCallB {pos} {after} {fx : Operand} {xs : Array Operand} {ts : Array TypeId} {f : FuncId} {caps args as : List AV} {res : AV} {cs cs' : List AV} (t : Nat) (hg : Good P f args [(1000000, .bx cs)] res [(1000000, .bx cs')])
    (hc : (⟨T, B⟩ : St).val fx = .clo f caps := by exact rfl) (ha : Wf (xs.toList.map (⟨T, B⟩ : St).val ++ caps) as := by (repeat constructor); done)
    (hl : LeL as (args.map (AV.ren fun _ => t)) := by (repeat (first | exact LeL.nil | (refine LeL.cons (Le.refl _) ?_) | (refine LeL.cons Le.gr ?_) | (refine LeL.cons Le.nil ?_))); done) (hob : (⟨T, B⟩ : St).ob t = .bx cs := by exact rfl)
    (htg : (tagsAt ⟨T, B⟩ ⟨some d, .call { callee := .value fx, args := xs, argTypes := ts }, ty, pos, after, none⟩).contains t = true := by exact rfl) (hr : res.refs = [] := by exact rfl) (h1 : AV.refs.refsL cs = [] := by exact rfl) (h2 : AV.refs.refsL cs' = [] := by exact rfl)
    (h : AO F ops k l ⟨(d, res) :: T, (t, .bx cs') :: B⟩) : AO F ops k (⟨some d, .call { callee := .value fx, args := xs, argTypes := ts }, ty, pos, after, none⟩ :: l) ⟨T, B⟩ :=
  AO.step (e := ⟨[(d, res)], [(t, .bx cs')], []⟩) rfl (.call (call_box t hc ha hg hl hob (by simpa using htg) hr h1 h2)) (fun e he => by simp at he) h
theorem AR.sCallB {acc : List Rec} {pos} {after} {fx : Operand} {xs : Array Operand} {ts : Array TypeId} {f : FuncId} {caps args as : List AV} {res : AV} {cs cs' : List AV} (t : Nat) (hg : Good P f args [(1000000, .bx cs)] res [(1000000, .bx cs')])
    (hc : (⟨T, B⟩ : St).val fx = .clo f caps := by exact rfl) (ha : Wf (xs.toList.map (⟨T, B⟩ : St).val ++ caps) as := by (repeat constructor); done)
    (hl : LeL as (args.map (AV.ren fun _ => t)) := by (repeat (first | exact LeL.nil | (refine LeL.cons (Le.refl _) ?_) | (refine LeL.cons Le.gr ?_) | (refine LeL.cons Le.nil ?_))); done) (hob : (⟨T, B⟩ : St).ob t = .bx cs := by exact rfl)
    (htg : (tagsAt ⟨T, B⟩ ⟨some d, .call { callee := .value fx, args := xs, argTypes := ts }, ty, pos, after, none⟩).contains t = true := by exact rfl) (hr : res.refs = [] := by exact rfl) (h1 : AV.refs.refsL cs = [] := by exact rfl) (h2 : AV.refs.refsL cs' = [] := by exact rfl)
    (ht : LE (tagsAt ⟨T, B⟩ ⟨some d, .call { callee := .value fx, args := xs, argTypes := ts }, ty, pos, after, none⟩) tg)
    (h : AR F ops k l ⟨(d, res) :: T, (t, .bx cs') :: B⟩ (⟨tg, ⟨[(d, res)], [(t, .bx cs')], []⟩⟩ :: acc)) : AR F ops k (⟨some d, .call { callee := .value fx, args := xs, argTypes := ts }, ty, pos, after, none⟩ :: l) ⟨T, B⟩ acc :=
  AR.st (e := ⟨[(d, res)], [(t, .bx cs')], []⟩) rfl (.call (call_box t hc ha hg hl hob (by simpa using htg) hr h1 h2)) (fun e he => by simp at he) ht h
theorem freeB_bx {t : Nat} {cs : List AV} (hcs : AV.refs.refsL cs = []) (hne : (t == d) = false) (h : (⟨T, B⟩ : St).freeB d = true) : (⟨T, (t, .bx cs) :: B⟩ : St).freeB d = true := by
  simp only [St.freeB, St.refsB, Ob.refs, hcs, Bool.and_eq_true, Bool.not_eq_true', List.contains_cons, List.nil_append] at h ⊢
  refine ⟨h.1, ?_⟩
  first
  | (rw [Bool.or_eq_false_iff]; exact ⟨by rw [beq_eq_false_iff_ne] at hne ⊢; exact fun e => hne e.symm, h.2⟩)
  | simp_all
end
end Go.Proofs.Ytmfonbehcfjjgaa.Mv
