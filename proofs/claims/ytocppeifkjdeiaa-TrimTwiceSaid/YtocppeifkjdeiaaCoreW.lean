/- A machine for proofs, part W: from a walk to a contract, steps in handy forms. Under no condition. -/
import Derived.Test.YtocppeifkjdeiaaCoreV
namespace Go.Proofs.Ytocppeifkjdeiaa.Mv
open Go
set_option linter.unusedSimpArgs false
set_option linter.unusedVariables false

/-! ### what a function answers -/
def resOf (tab : Tab) (st : St) : ResultVar → Option AV
  | .tmp t => some (st.get t)
  | .cell a t => match look tab t, st.get a with
    | some i, .ptr g o => match st.ob g with
      | .bx cs => part i (cs.drop o)
      | _ => none
    | _, _ => none
def resAll (tab : Tab) (st : St) : List ResultVar → Option (List AV)
  | [] => some []
  | r :: rs => match resOf tab st r, resAll tab st rs with
    | some c, some cs => some (c :: cs)
    | _, _ => none
def resTup : List AV → AV
  | [c] => c
  | cs => .tup cs
def okRes (N : Nat) : ResultVar → Bool
  | .tmp t => decide (t < N)
  | .cell a _ => decide (a < N)

def resRun (a : Act) : ResultVar → Sem Value
  | .tmp t => pure (a.tmps.getD t undef)
  | .cell x t => do loadVar t (← asAddr (a.tmps.getD x undef))

theorem resOf_run {c Γ m st a w} {tab : Tab} (ht : TabOk c.P tab) (h : RRW c Γ m st a w) {r : ResultVar} (hok : okRes c.N r = true) {x : AV} (hr : resOf tab st r = some x) :
    ∃ v, (resRun a r).run c.P w = .ok v w ∧ Rep Γ m v x := by
  cases r with
  | tmp t =>
    cases hr
    exact ⟨_, rfl, h.tmps t (by simpa [okRes] using hok)⟩
  | cell y t =>
    simp only [resOf] at hr
    split at hr
    · rename_i i g o' hi e
      have h1 := h.tmps y (by simpa [okRes] using hok)
      rw [e] at h1
      split at hr
      · rename_i cs e2
        have hb := h.obs g
        rw [e2] at hb
        obtain ⟨k, cc, E, q1, q2, q3, q4, q5, q6⟩ := hb
        cases h1e : a.tmps.getD y undef with
        | pointer p =>
          rw [h1e] at h1
          cases h1 with
          | ptr hth =>
            rw [q1] at hth; cases hth
            have hr' : RepL Γ m ((cc.toList.take cs.length).drop o') (cs.drop o') := RepL.drop ⟨by have := q3.2; simp; omega, fun j v d hv hd => q4 j v d (by
              rw [List.getElem?_take] at hv
              split at hv
              · simpa using hv
              · cases hv) hd⟩ o'
            obtain ⟨val, h2, h3⟩ := loadAt_run (a := ⟨k, o', none⟩) ht (fun j v hv => by
              rw [add_lit, cell_of_row w k _ cc E.1 E.2 q2]
              rw [List.getElem?_drop, List.getElem?_take] at hv
              split at hv
              · simpa using hv
              · cases hv) hr' hi hr
            refine ⟨val, ?_, h3⟩
            simpa [resRun, h1e, asAddr, Instr.loadAt, Instr.sureAddr] using h2
        | _ => rw [h1e] at h1; cases h1
      · cases hr
    · cases hr

theorem resAll_run {c Γ m st a w} {tab : Tab} (ht : TabOk c.P tab) (h : RRW c Γ m st a w) : ∀ {rs : List ResultVar} {cs : List AV}, rs.all (okRes c.N) = true → resAll tab st rs = some cs →
    ∃ vs : List Value, (rs.mapM (resRun a)).run c.P w = .ok vs w ∧ RepL Γ m vs cs
  | [], cs, _, hr => by cases hr; exact ⟨[], rfl, .nil⟩
  | r :: rs, cs, hok, hr => by
    simp only [List.all_cons, Bool.and_eq_true] at hok
    simp only [resAll] at hr
    split at hr
    · rename_i x xs h1 h2
      cases hr
      obtain ⟨v, h3, h4⟩ := resOf_run ht h hok.1 h1
      obtain ⟨vs, h5, h6⟩ := resAll_run ht h hok.2 h2
      exact ⟨v :: vs, by simp [List.mapM_cons, h3, h5], .cons h4 h6⟩
    · cases hr

theorem results_run {c Γ m st a w} {tab : Tab} (ht : TabOk c.P tab) (h : RRW c Γ m st a w) {fn : Func} {cs : List AV} (hok : fn.results.toList.all (okRes c.N) = true) (hr : resAll tab st fn.results.toList = some cs) :
    ∃ v, (results fn a.tmps).run c.P w = .ok v w ∧ Rep Γ m v (resTup cs) := by
  obtain ⟨vs, h1, h2⟩ := resAll_run ht h hok hr
  have hm : (fn.results.mapM (resRun a)).run c.P w = .ok vs.toArray w := by
    rw [Array.mapM_eq_mapM_toList]
    simp [h1]
  have he : results fn a.tmps = (do let vs ← fn.results.mapM (resRun a); pure (if h : vs.size = 1 then vs[0] else .tuple vs)) := by
    unfold results
    congr 1
  have hx : (results fn a.tmps).run c.P w = .ok (if h : vs.toArray.size = 1 then vs.toArray[0] else .tuple vs.toArray) w := by
    rw [he]
    simp only [Sem.run_bind, hm, Result.andThen_ok, Sem.run_pure]
  refine ⟨_, hx, ?_⟩
  match vs, cs, h2 with
  | [], [], h2 => exact .tup [] rfl fun j v c hv => by simp at hv
  | [v], [c], h2 => exact h2.2 0 v c rfl rfl
  | v :: v' :: vs, c :: c' :: cs, h2 => simpa [resTup] using Rep.tup (v :: v' :: vs) h2.1 h2.2
  | [], _ :: _, h2 => have := h2.1; simp at this
  | _ :: _, [], h2 => have := h2.1; simp at this
  | [_], _ :: _ :: _, h2 => have := h2.1; simp at this
  | _ :: _ :: _, [_], h2 => have := h2.1; simp at this

/-- The end of a walk. -/
structure Done (tab : Tab) (rs : List ResultVar) (ins : List (Nat × Ob)) (res : AV) (outs : List (Nat × Ob)) (st : St) : Prop where
  ex : ∃ (τ : Nat → Nat) (cs : List AV), resAll tab st rs = some cs ∧ Lx Tr (resTup cs) (res.ren τ) ∧ (∀ p ∈ outs, Ol Tr (st.ob (τ p.1)) (p.2.ren τ)) ∧
    (∀ s ∈ outs.map (·.1), ∀ t ∈ outs.map (·.1), τ s = τ t → s = t) ∧ ∀ p ∈ ins, τ p.1 = p.1

theorem ren_id (c : AV) : c.ren (fun t => t) = c := by
  match c with
  | .agg cs => simp only [AV.ren, renL_eq]; congr 1; exact go cs
  | .tup cs => simp only [AV.ren, renL_eq]; congr 1; exact go cs
  | .clo f cs => simp only [AV.ren, renL_eq]; congr 1; exact go cs
  | .gr .. | .ptr .. | .bsl .. | .any | .u | .x _ | .i .. | .b _ | .s _ | .nil | .sh .. | .pel _ => rfl
where go : (cs : List AV) → cs.map (AV.ren fun t => t) = cs
  | [] => rfl
  | c :: cs => by rw [List.map_cons, ren_id c, go cs]

theorem Done.plain {tab : Tab} {rs : List ResultVar} {res : AV} {st : St} {cs : List AV} (h : resAll tab st rs = some cs) (hl : Lx Tr (resTup cs) res) : Done tab rs [] res [] st :=
  ⟨fun t => t, cs, h, by rw [ren_id]; exact hl, fun p hp => by simp at hp, fun s hs => by simp at hs, fun p hp => by simp at hp⟩

def entT : Nat → List AV → List (Nat × AV)
  | _, [] => []
  | j, c :: cs => (j, c) :: entT (j + 1) cs
theorem entT_look {args : List AV} {j t : Nat} : look (entT j args) (j + t) = args[t]? := by
  induction args generalizing j t with
  | nil => rfl
  | cons c cs ih =>
    simp only [entT, look]
    cases t with
    | zero => simp
    | succ t =>
      rw [if_neg (by omega)]
      have := ih (j := j + 1) (t := t)
      rw [show j + (t + 1) = j + 1 + t by omega, this]
      simp

/-- Facts of a function, all at once. -/
def fnB (fn : Func) (N n : Nat) : Bool := fn.name != "runtime.NumGoroutine" && fn.body.isSome && fn.ntmps == N && decide (n ≤ N) && fn.results.toList.all (okRes N)

theorem Good.walk {P : Program} {tab : Tab} (ht : TabOk P tab) (mo : P.follows .mixedOrders = true) {f : FuncId} {fn : Func} {code : Code} {rs : List ResultVar} {N : Nat} {args : List AV} {ins : List (Nat × Ob)} {res : AV} {outs : List (Nat × Ob)}
    (hf : P.funcs[f]? = some fn) (hfn : fnB fn N args.length = true) (hb : fn.body = some code) (hrs : fn.results.toList = rs) (hbig : ∀ p ∈ ins, 1000000 ≤ p.1)
    (h : ∀ F : Fx P tab N (Done tab rs ins res outs), AW F [.c code] ⟨entT 0 args, ins⟩) : Good P f args ins res outs := by
  simp only [fnB, Bool.and_eq_true, bne_iff_ne, beq_iff_eq, decide_eq_true_eq] at hfn
  obtain ⟨⟨⟨⟨h1, h2⟩, rfl⟩, h4⟩, h5⟩ := hfn
  refine ⟨⟨fn, hf, by simpa using h1, by simpa using h2⟩, fun w Γ m vals gok hv hobs hinj => ?_⟩
  let c : Ctx := ⟨P, fn.ntmps, w, Γ, Owns m ins, ins.map (·.1), m, fun p hp => by
    obtain ⟨q, hq, rfl⟩ := List.mem_map.1 hp; exact hbig q hq⟩
  have key : ∀ st a w', Done tab rs ins res outs st → RR c st a w' → ∃ v, a.defers = [] ∧ (results fn a.tmps).run P w' = .ok v w' ∧ ∃ Γ' m', Post ins res outs w Γ m v w' Γ' m' := by
    rintro st a w' ⟨τ, cs, d1, d2, d3, d4, d5⟩ ⟨Γ', m', hr⟩
    obtain ⟨v, hv1, hv2⟩ := results_run (c := c) ht hr (fn := fn) h5 (by rw [hrs]; exact d1)
    have hblk : ∀ p ∈ outs, ∀ g, p.2.blk (m'.pull τ) p.1 = some g → (st.ob (τ p.1)).blk m' (τ p.1) = some g := fun p hp g hg => by
      rw [← blk_ren] at hg
      exact (d3 p hp).blk hg
    refine ⟨v, hr.defers, hv1, Γ', m'.pull τ, hr.sub, hr.gok, ren_rep (d2 _ _ _ trivial hv2) rfl, fun p hp => ob_ren.1 ((d3 p hp).ok trivial (hr.obs _)), ?_, ?_, ?_, hr.frame, hr.fresh⟩
    · intro p hp q hq g hpg hqg
      exact d4 p.1 (List.mem_map.2 ⟨p, hp, rfl⟩) q.1 (List.mem_map.2 ⟨q, hq, rfl⟩) (hr.inj _ _ g (hblk p hp g hpg) (hblk q hq g hqg))
    · rintro g ⟨p, hp, hg⟩
      exact hr.own _ _ (hblk p hp g hg)
    · intro p hp
      have he := hr.ext p.1 (List.mem_map.2 ⟨p, hp, rfl⟩)
      refine ⟨fun g hg => ?_, fun k x hx => ?_⟩
      · show m'.th (τ p.1) = _; rw [d5 p hp]; exact he.1 g hg
      · show m'.ka (τ p.1) k = _; rw [d5 p hp]; exact he.2 k x hx
  refine calls_of_wp hf hb ?_
  let F : Fx P tab fn.ntmps (Done tab rs ins res outs) := ⟨c, rfl, rfl, ht, mo, bodyPost P fn fun e w' => ∃ v Γ' m', e = .returned v ∧ Post ins res outs w Γ m v w' Γ' m', fun st a w' hd hr => by
    obtain ⟨v, k1, k2, Γ', m', k3⟩ := key st a w' hd hr
    exact ⟨⟨k1, v, k2, v, Γ', m', rfl, k3⟩, ⟨k1, v, k2, v, Γ', m', rfl, k3⟩⟩⟩
  have hst := h F { tmps := vals.toArray ++ Array.replicate (fn.ntmps - vals.toArray.size) undef, defers := [] } w ⟨Γ, m, ?_⟩
  · refine Code.wp_mono (fun e a w' hq => ?_) hst
    cases e <;> exact hq
  · refine ⟨rfl, ?_, gok, fun t htn => ?_, fun t => ?_, fun t g hg => ?_, fun t t' g hg hg' => ?_, Fr.refl _ _, Sub.refl _, fun ad q1 q2 => absurd q1 q2, fun p hp => ⟨fun g hg => hg, fun k x hx => hx⟩⟩
    · have := hv.1
      show _ = fn.ntmps
      simp only [Array.size_append, List.size_toArray, Array.size_replicate]
      omega
    · have hlen := hv.1
      simp only [St.get]
      have := entT_look (args := args) (j := 0) (t := t)
      rw [Nat.zero_add] at this
      rw [this]
      cases hq : args[t]? with
      | none => exact .any
      | some x =>
        have hlt : t < vals.length := by rw [hlen]; exact (List.getElem?_eq_some_iff.1 hq).1
        have := hv.2 t vals[t] x (List.getElem?_eq_getElem hlt) hq
        simpa [Array.getD_eq_getD_getElem?, Array.getElem?_append, hlt] using this
    · simp only [St.ob]
      cases hq : look ins t with
      | none => trivial
      | some ob => exact hobs _ (look_mem hq)
    · simp only [St.ob] at hg
      cases hq : look ins t with
      | none => rw [hq] at hg; cases hg
      | some ob => rw [hq] at hg; exact .inr ⟨_, look_mem hq, hg⟩
    · simp only [St.ob] at hg hg'
      cases hq : look ins t with
      | none => rw [hq] at hg; cases hg
      | some ob =>
        cases hq' : look ins t' with
        | none => rw [hq'] at hg'; cases hg'
        | some ob' => rw [hq] at hg; rw [hq'] at hg'; exact hinj _ (look_mem hq) _ (look_mem hq') g hg hg'

end Go.Proofs.Ytocppeifkjdeiaa.Mv
