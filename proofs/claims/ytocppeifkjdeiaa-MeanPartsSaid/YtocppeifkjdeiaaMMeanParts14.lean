/- What the statement MeanParts needs, part 14. Under no condition. -/
import Derived.ProofKit
import Derived.OpenShut
import Derived.ShutString
import Derived.ChangeOld
import Derived.SizedLaws
import Derived.Test.YtocppeifkjdeiaaMMeanParts13
/- Graphs: the value of any key. Under no condition. -/
namespace Go.Proofs.Ytocppeifkjdeiaa.Mv
open Go Go.Proofs
set_option linter.unusedSimpArgs false
set_option linter.unusedVariables false
set_option maxRecDepth 10000
set_option maxHeartbeats 4000000
attribute [local irreducible] AW AO AR

theorem openPrM : ∀ r, Sh tab 43 r → ∃ x : Pr, r = x.av := by
  intro r hr
  have lr := (hr.inv_st (i := ty43) rfl rfl).1
  obtain ⟨y0, y1, rfl⟩ : ∃ y0 y1, r = [y0, y1] := by
    match r, lr with
    | [y0, y1], _ => exact ⟨_, _, rfl⟩
  have h0 : Sh tab 9 [y0] := hr.inv_at (i := ty43) rfl rfl 0 rfl (j := ty9) rfl
  obtain ⟨a0, ea0, wa0⟩ := h0.inv_str (i := ty9) rfl rfl
  cases ea0
  have h1 : Sh tab 9 [y1] := hr.inv_at (i := ty43) rfl rfl 1 rfl (j := ty9) rfl
  obtain ⟨a1, ea1, wa1⟩ := h1.inv_str (i := ty9) rfl rfl
  cases ea1
  exact ⟨⟨a0, a1⟩, rfl⟩
theorem openEdM : ∀ r, Sh tab 101 r → ∃ x : Ed, r = x.av := by
  intro r hr
  have lr := (hr.inv_st (i := ty101) rfl rfl).1
  obtain ⟨y0, y1, y2, y3, rfl⟩ : ∃ y0 y1 y2 y3, r = [y0, y1, y2, y3] := by
    match r, lr with
    | [y0, y1, y2, y3], _ => exact ⟨_, _, _, _, rfl⟩
  have h0 : Sh tab 46 [y0] := hr.inv_at (i := ty101) rfl rfl 0 rfl (j := ty46) rfl
  obtain ⟨a0', ea0, wa0⟩ := h0.inv_int (i := ty46) rfl rfl
  obtain ⟨a0, rfl⟩ := by_u32 wa0
  cases ea0
  have h1 : Sh tab 47 [y1] := hr.inv_at (i := ty101) rfl rfl 1 rfl (j := ty47) rfl
  obtain ⟨a1', ea1, wa1⟩ := h1.inv_int (i := ty47) rfl rfl
  obtain ⟨a1, rfl⟩ := by_u16 wa1
  cases ea1
  have h2 : Sh tab 63 [y2, y3] := hr.inv_at (i := ty101) rfl rfl 2 rfl (j := ty63) rfl
  have h3 : Sh tab 9 [y2] := h2.inv_at (i := ty63) rfl rfl 0 rfl (j := ty9) rfl
  obtain ⟨a2, ea2, wa2⟩ := h3.inv_str (i := ty9) rfl rfl
  cases ea2
  have h4 : Sh tab 9 [y3] := h2.inv_at (i := ty63) rfl rfl 1 rfl (j := ty9) rfl
  obtain ⟨a3, ea3, wa3⟩ := h4.inv_str (i := ty9) rfl rfl
  cases ea3
  exact ⟨⟨a0, a1, a2, a3⟩, rfl⟩
theorem openMsM : ∀ r, Sh tab 104 r → ∃ x : Ms, r = x.av := by
  intro r hr
  have lr := (hr.inv_st (i := ty104) rfl rfl).1
  obtain ⟨y0, y1, y2, y3, y4, y5, rfl⟩ : ∃ y0 y1 y2 y3 y4 y5, r = [y0, y1, y2, y3, y4, y5] := by
    match r, lr with
    | [y0, y1, y2, y3, y4, y5], _ => exact ⟨_, _, _, _, _, _, rfl⟩
  have h0 : Sh tab 5 [y0] := hr.inv_at (i := ty104) rfl rfl 0 rfl (j := ty5) rfl
  obtain ⟨a0', ea0, wa0⟩ := h0.inv_int (i := ty5) rfl rfl
  obtain ⟨a0, rfl⟩ := by_u8 wa0
  cases ea0
  have h1 : Sh tab 9 [y1] := hr.inv_at (i := ty104) rfl rfl 1 rfl (j := ty9) rfl
  obtain ⟨a1, ea1, wa1⟩ := h1.inv_str (i := ty9) rfl rfl
  cases ea1
  have h2 : Sh tab 9 [y2] := hr.inv_at (i := ty104) rfl rfl 2 rfl (j := ty9) rfl
  obtain ⟨a2, ea2, wa2⟩ := h2.inv_str (i := ty9) rfl rfl
  cases ea2
  have h3 : Sh tab 46 [y3] := hr.inv_at (i := ty104) rfl rfl 3 rfl (j := ty46) rfl
  obtain ⟨a3', ea3, wa3⟩ := h3.inv_int (i := ty46) rfl rfl
  obtain ⟨a3, rfl⟩ := by_u32 wa3
  cases ea3
  have h4 : Sh tab 47 [y4] := hr.inv_at (i := ty104) rfl rfl 4 rfl (j := ty47) rfl
  obtain ⟨a4', ea4, wa4⟩ := h4.inv_int (i := ty47) rfl rfl
  obtain ⟨a4, rfl⟩ := by_u16 wa4
  cases ea4
  have h5 : Sh tab 9 [y5] := hr.inv_at (i := ty104) rfl rfl 5 rfl (j := ty9) rfl
  obtain ⟨a5, ea5, wa5⟩ := h5.inv_str (i := ty9) rfl rfl
  cases ea5
  exact ⟨⟨a0, a1, a2, a3, a4, a5⟩, rfl⟩
theorem openSM : ∀ r, Sh tab 9 r → ∃ x : L, r = sav x := by
  intro r hr
  obtain ⟨a, e, w⟩ := hr.inv_str (i := ty9) rfl rfl
  exact ⟨a, e⟩
theorem openNdM {c : List AV} (s : Sh tab 27 c) : ∃ n : Nd, c = n.av ∧ n.fits := by
  have lr := (s.inv_st (i := ty27) rfl rfl).1
  obtain ⟨y0, y1, y2, y3, y4, rfl⟩ : ∃ y0 y1 y2 y3 y4, c = [y0, y1, y2, y3, y4] := by
    match c, lr with
    | [y0, y1, y2, y3, y4], _ => exact ⟨_, _, _, _, _, rfl⟩
  have h0 : Sh tab 4 [y0] := s.inv_at (i := ty27) rfl rfl 0 rfl (j := ty4) rfl
  have h1 : Sh tab 22 [y1] := s.inv_at (i := ty27) rfl rfl 1 rfl (j := ty22) rfl
  have h2 : Sh tab 23 [y2] := s.inv_at (i := ty27) rfl rfl 2 rfl (j := ty23) rfl
  have h3 : Sh tab 24 [y3] := s.inv_at (i := ty27) rfl rfl 3 rfl (j := ty24) rfl
  have h4 : Sh tab 25 [y4] := s.inv_at (i := ty27) rfl rfl 4 rfl (j := ty25) rfl
  obtain ⟨b, e0⟩ := h0.inv_bool (i := ty4) rfl rfl
  obtain ⟨r1, e1, w1, q1⟩ := h1.inv_sl (i := ty22) (j := ty43) rfl rfl rfl
  obtain ⟨l1, rfl⟩ := sh_map openPrM q1
  obtain ⟨r2, e2, w2, q2⟩ := h2.inv_sl (i := ty23) (j := ty9) rfl rfl rfl
  obtain ⟨l2, rfl⟩ := sh_map openSM q2
  obtain ⟨r3, e3, w3, q3⟩ := h3.inv_sl (i := ty24) (j := ty101) rfl rfl rfl
  obtain ⟨l3, rfl⟩ := sh_map openEdM q3
  obtain ⟨r4, e4, w4, q4⟩ := h4.inv_sl (i := ty25) (j := ty104) rfl rfl rfl
  obtain ⟨l4, rfl⟩ := sh_map openMsM q4
  cases e0; cases e1; cases e2; cases e3; cases e4
  refine ⟨⟨b, l1, l2, l3, l4⟩, rfl, ⟨?_, ?_, ?_, ?_⟩⟩
  · have := w1; rw [List.length_map] at this; exact this
  · have := w2; rw [List.length_map] at this; exact this
  · have := w3; rw [List.length_map] at this; exact this
  · have := w4; rw [List.length_map] at this; exact this
theorem sh_mapP {α : Type} {tab : Tab} {e : Nat} {f : α → List AV} {Q : α → Prop} (hf : ∀ r, Sh tab e r → ∃ x, r = f x ∧ Q x) : ∀ {rows : List (List AV)}, (∀ r ∈ rows, Sh tab e r) → ∃ l : List α, rows = l.map f ∧ ∀ x ∈ l, Q x
  | [], _ => ⟨[], rfl, fun x h => by cases h⟩
  | r :: rows, h => by
    obtain ⟨x, hx, hq⟩ := hf r (h r (by simp))
    obtain ⟨l, hl, hql⟩ := sh_mapP hf (rows := rows) fun q hq => h q (by simp [hq])
    exact ⟨x :: l, by rw [hx, hl]; rfl, fun y hy => by
      rcases List.mem_cons.1 hy with rfl | hy
      · exact hq
      · exact hql y hy⟩
theorem openIm : ∀ r, Sh tab 120 r → ∃ x : Im, r = x.av ∧ x.nd.fits := by
  intro r hr
  have lr := (hr.inv_st (i := ty120) rfl rfl).1
  obtain ⟨y0, y1, y2, y3, y4, y5, rfl⟩ : ∃ y0 y1 y2 y3 y4 y5, r = [y0, y1, y2, y3, y4, y5] := by
    match r, lr with
    | [y0, y1, y2, y3, y4, y5], _ => exact ⟨_, _, _, _, _, _, rfl⟩
  have h0 : Sh tab 46 [y0] := hr.inv_at (i := ty120) rfl rfl 0 rfl (j := ty46) rfl
  obtain ⟨a0', ea0, wa0⟩ := h0.inv_int (i := ty46) rfl rfl
  obtain ⟨a0, rfl⟩ := by_u32 wa0
  cases ea0
  have h1 : Sh tab 27 [y1, y2, y3, y4, y5] := hr.inv_at (i := ty120) rfl rfl 1 rfl (j := ty27) rfl
  obtain ⟨n, e, hf⟩ := openNdM h1
  exact ⟨⟨a0, n⟩, by rw [e]; rfl, hf⟩
/-- Rows that say less. -/
theorem Le.shR {sz : Nat} {rows rows' : List (List AV)} (h : LeL rows.flatten rows'.flatten) (hn : rows.length = rows'.length) (hl : ∀ r ∈ rows', r.length = sz) : Le (.sh sz rows) (.sh sz rows') := fun Γ m v hr => by
  cases hr with
  | sh0 =>
    have : rows' = [] := List.eq_nil_of_length_eq_zero (by simpa using hn.symm)
    subst this; exact .sh0
  | sh vs h1 h2 h3 h4 h5 h6 h7 h8 =>
    exact .sh vs h1 h2 (by rw [← hn]; exact h3) hl (by rw [h5, h.len]) h6 h7 fun j v d hv hd => by
      have hj : j < rows.flatten.length := by rw [h.len]; exact (List.getElem?_eq_some_iff.1 hd).1
      exact h.at j _ d (List.getElem?_eq_getElem hj) hd _ _ _ (h8 j v _ hv (List.getElem?_eq_getElem hj))
def lA : List Im := [⟨5, ⟨false, [], [], [⟨7, 1, [], []⟩], [⟨3, [98], [], 7, 1, [97]⟩]⟩⟩, ⟨7, ⟨true, [⟨[97], [49]⟩], [], [], []⟩⟩]
theorem get10A : get10 lA 5 [98] = ([49], true) := by decide
theorem imsA : Ims lA := ⟨by decide, fun i hi => by
  have : i = 0 ∨ i = 1 := by have : i < 2 := hi; omega
  rcases this with rfl | rfl <;> exact ⟨by decide, by decide, by decide, by decide⟩⟩
theorem gAwakeM : Good Try.prog 45 [] [] (.b true) [] := by
  have g := gGetP lA imsA 5 [98] (by decide) (by decide)
  rw [get10A] at g
  have g2 : Good Try.prog 46 [.sh 6 [[.i .u32 5, .b false, .nil, .nil, .sh 4 [[.i .u32 7, .i .u16 1, .s [], .s []]], .sh 6 [[.i .u8 3, .s [98], .s [], .i .u32 7, .i .u16 1, .s [97]]]], [.i .u32 7, .b true, .sh 2 [[.s [97], .s [49]]], .nil, .nil, .nil]], .i .u32 5, .s [98]] [] (.tup [.s [49], .b true]) [] :=
    g.le (.cons (Le.shR (.cons (.refl _) (.cons (.refl _) (.cons .nil (.cons .nil (.cons (.refl _) (.cons (.refl _) (.cons (.refl _) (.cons (.refl _) (.cons (.refl _) (.cons .nil (.cons .nil (.cons .nil .nil)))))))))))) rfl (by decide)) (.cons (.refl _) (.cons (.refl _) .nil)))
  refine Good.w tabOk mixed Try.func45 (N := 25) (by kernel_rfl) rfl (by (repeat (first | exact LE.nil | apply LE.cons)); done) (by (repeat (first | exact LE.nil | apply LE.cons)); done) fun D hD F => ?_
  repeat' (first
    | apply AO.nil
    | (apply AO.kCall 46; refine AO.sCall (hg := g2) (h := ?_))
    | (apply AO.kBuildS; first | refine AO.sBuildT (h := ?_) | refine AO.sBuildS (h := ?_))
    | (apply AO.kP; first | refine AO.sP (h := ?_) | refine AO.sPi (h := ?_))
    | apply AW.seq
    | (apply AW.kR; refine AW.sR (h := ?_))
    | apply AW.skip
    | apply AW.block
    | apply AW.out
    | (apply AW.kE; refine AW.sE (h := ?_))
    | apply AW.label
    | ((first | (apply AO.kG; first | refine AO.sgt (h1 := fun h => ?_) (h2 := fun h => ?_) | refine AO.sgf (h1 := fun h => ?_) (h2 := fun h => ?_) | refine AO.sgs (h := ?_))) <;> (try (first | exact Bool.noConfusion h | exact absurd h (by decide) | (simp at h; done) | (rw [h]; try simp only [nrm] at h; try rw [h]; try (exfalso; omega)) | skip))))
  all_goals first
    | exact AW.ret (hD rfl (Lx.b rfl))
    | (exfalso; simp_all; done)
    | trace_state
end Go.Proofs.Ytocppeifkjdeiaa.Mv

/- A machine for proofs: what is told to a range over a function. Under no condition. -/
namespace Go.Proofs.Ytocppeifkjdeiaa.Mv
open Go
set_option linter.unusedSimpArgs false
set_option linter.unusedVariables false

/-- Two texts asL one value. -/
def pairV (k v : List UInt8) : Value := .agg #[.string ⟨k.toArray⟩, .string ⟨v.toArray⟩]
theorem rep_pair {Γ m x} {k v : List UInt8} (h : Rep Γ m x (.agg [.s k, .s v])) : x = pairV k v := by
  obtain ⟨vs, rfl, h1, h2⟩ := h.agg_inv
  match vs, h1 with
  | [a, b], _ =>
    have ha := h2 0 a (.s k) rfl rfl
    have hb := h2 1 b (.s v) rfl rfl
    cases ha; cases hb; rfl

/-- A function value that tells pairs to what stands elsewhere: a range over a function. -/
structure Yields (P : Program) (d : Fo) : Prop where
  y : ∃ l, d.val = .func (.yield l) #[] #[] ∧ ∀ rows Y w k v, rows.length < 1000000000 → d.J rows true Y w → ∃ f tmps assign body, (Instr.yield l #[pairV k v]).run P w = .ok (.round l f tmps assign body) w ∧
    RoundIn Fence.wide 0 P l f tmps assign body w fun e w' => e = .returned (.bool (d.go (rows ++ [[.s k, .s v]]))) ∧ ∃ Y', d.J (rows ++ [[.s k, .s v]]) (d.go (rows ++ [[.s k, .s v]])) Y' w' ∧ Fr Y w w' ∧ ∀ i, Y' i → w.heap.size ≤ i ∨ Y i

theorem RRW.told {c Γ m st a w} {d : Fo} {rows rows' b b' tg} {w' : World} {Y' : Nat → Prop} (h : RRW c Γ m st a w) (hob : st.ob tg = .fo d rows b) (hJ : d.J rows' b' Y' w') (hfr : Fr (m.fy tg) w w') (hY : ∀ i, Y' i → w.heap.size ≤ i ∨ m.fy tg i) :
    RRW c Γ ⟨m.th, m.ka, fun s => if s = tg then Y' else m.fy s⟩ ⟨st.T, (tg, .fo d rows' b') :: st.B⟩ a w' := by
  have hob' : ∀ s, (⟨st.T, (tg, .fo d rows' b') :: st.B⟩ : St).ob s = if tg = s then .fo d rows' b' else st.ob s := fun s => ob_cons _ _ _ _ _
  have hobt := h.obs tg
  rw [hob] at hobt
  have hin : ∀ i, m.fy tg i → (st.ob tg).blk m tg i := fun i hi => by rw [hob]; exact hi
  have hcell : ∀ ad v, Γ ad = some v → w'.cell? ad = some v := fun ad v hv => by
    have h1 := h.gok ad v hv
    have hlt := block_lt_of_cell h1
    have hn : ¬ m.fy tg ad.block := fun hy => by rw [hobt.2 ad hy] at hv; cases hv
    have := hfr.block _ hlt hn
    unfold World.cell? at h1 ⊢
    rw [this]; exact h1
  have hsm : ∀ s, ¬ tg = s → (st.ob s).blk ⟨m.th, m.ka, fun s => if s = tg then Y' else m.fy s⟩ s = (st.ob s).blk m s := fun s e => blk_same (m := m) (m' := ⟨m.th, m.ka, fun s => if s = tg then Y' else m.fy s⟩) rfl rfl (by simp [Ne.symm e])
  refine h.mem (Sub.refl _) (fun _ _ _ => ⟨fun _ h => h, fun _ _ h => h⟩) (fun _ _ => ⟨fun _ h => h, fun _ _ h => h⟩) hcell (fun s => ?_) (fun s g hg => ?_) (fun s s' g hg hg' => ?_) ?_ (fun ad h0 h1 => absurd h0 h1)
  · rw [hob']
    split
    · rename_i e; subst e
      refine ⟨by simpa using hJ, fun ad ha => ?_⟩
      simp only [if_true] at ha
      rcases hY _ ha with h1 | h1
      · cases hq : Γ ad with
        | none => rfl
        | some v => have := block_lt_of_cell (h.gok ad v hq); omega
      · exact hobt.2 ad h1
    · rename_i e
      refine (h.obs s).keep (Sub.refl _) rfl rfl (by simp [Ne.symm e]) hfr.size ⟨hfr.os, hfr.tape, hfr.output⟩ (fun _ _ => ⟨fun _ h => h, fun _ _ h => h⟩) fun g hg => ⟨hfr.block g ((h.obs s).lt hg) fun hy => ?_, fun _ _ => rfl⟩
      exact e (h.inj tg s g (hin g hy) hg)
  · rw [hob'] at hg
    split at hg
    · rename_i e; subst e
      have hg : (if tg = tg then Y' else m.fy tg) g := hg
      simp only [if_true] at hg
      rcases hY _ hg with h1 | h1
      · exact .inl (Nat.le_trans h.frame.size h1)
      · exact h.own tg g (hin g h1)
    · rename_i e
      rw [hsm _ e] at hg
      exact h.own s g hg
  · have key : ∀ s, tg ≠ s → ∀ g, Y' g → (st.ob s).blk m s g → False := fun s e g h1 h2 => by
      rcases hY _ h1 with h3 | h3
      · have := (h.obs s).lt h2; omega
      · exact e (h.inj tg s g (hin g h3) h2)
    rw [hob'] at hg hg'
    split at hg <;> split at hg'
    · rename_i e1 e2; rw [← e1, ← e2]
    · rename_i e1 e2; subst e1
      have hg : (if tg = tg then Y' else m.fy tg) g := hg
      simp only [if_true] at hg
      rw [hsm _ e2] at hg'
      exact (key _ e2 g hg hg').elim
    · rename_i e1 e2; subst e2
      have hg' : (if tg = tg then Y' else m.fy tg) g := hg'
      simp only [if_true] at hg'
      rw [hsm _ e1] at hg
      exact (key _ e1 g hg' hg).elim
    · rename_i e1 e2
      rw [hsm _ e1] at hg
      rw [hsm _ e2] at hg'
      exact h.inj s s' g hg hg'
  · refine h.frame.trans' hfr.os hfr.tape hfr.output hfr.size fun k hk => ?_
    by_cases ho : m.fy tg k
    · exact .inl ⟨k, h.own tg k (hin k ho), rfl⟩
    · exact .inr (hfr.block k hk ho)

section
variable {P : Program} {tab : Tab} {N : Nat} {D : St → Prop} {F : Fx P tab N D} {ops : Array Oper} {k : List It} {l : List Oper} {T : List (Nat × AV)} {B : List (Nat × Ob)} {d : Nat} {ty : TypeId}
/-- A pair is told to a range over a function. -/
theorem AO.yield {pos} {after} {fx x : Operand} {ts : Array TypeId} {fo : Fo} (hy : Yields P fo) {rows : List (List AV)} (hlen : rows.length < 1000000000) {kk vv : List UInt8} (tg : Nat) (hc : (⟨T, B⟩ : St).val fx = .x fo.val) (hx : (⟨T, B⟩ : St).val x = .agg [.s kk, .s vv]) (hob : (⟨T, B⟩ : St).ob tg = .fo fo rows true)
    (h : AO F ops k l ⟨(d, .b (fo.go (rows ++ [[.s kk, .s vv]]))) :: T, (tg, .fo fo (rows ++ [[.s kk, .s vv]]) (fo.go (rows ++ [[.s kk, .s vv]]))) :: B⟩) :
    AO F ops k (⟨some d, .call { callee := .value fx, args := #[x], argTypes := ts }, ty, pos, after, none⟩ :: l) ⟨T, B⟩ := fun hok hl a w ⟨Γ, m, hr⟩ => by
  obtain ⟨c, rfl, rfl, tok, mo, Z, fin⟩ := F
  simp only [List.all_cons, Bool.and_eq_true] at hl
  have hl0 := hl.1
  simp only [okOper, Op.operands, Call.operands, Bool.and_eq_true] at hl0
  have hopr : ∀ z, z = fx ∨ z = x → okOp c.N z = true := fun z hz => by
    have := hl0.2
    rw [Array.all_eq_true_iff_forall_mem] at this
    exact this z (by rcases hz with rfl | rfl <;> simp)
  have h1 := hr.eval fx (hopr fx (.inl rfl))
  have h2 := hr.eval x (hopr x (.inr rfl))
  rw [hc] at h1
  rw [hx] at h2
  have e2 := rep_pair h2
  have e1 : a.eval fx = fo.val := by
    generalize a.eval fx = q at h1
    cases h1; rfl
  obtain ⟨yl, hval, hround⟩ := hy.y
  have hobt := hr.obs tg
  rw [hob] at hobt
  obtain ⟨f, tmps, assign, body, hrun, hin⟩ := hround rows _ w kk vv hlen hobt.1
  refine wpListIn_step fun K hK => ?_
  rw [wants_spec hr hok (show wants ops ⟨T, B⟩ ⟨some d, .call { callee := .value fx, args := #[x], argTypes := ts }, ty, pos, after, none⟩ = some true from rfl)]
  simp only [if_true]
  refine ⟨fun _ _ => trivial, ?_⟩
  have hexec : (Oper.semAt Fence.wide.round a.eval { dst := some d, op := .call { callee := .value fx, args := #[x], argTypes := ts }, type := ty, pos, after, guard := none }).run c.P w = .ok (.round yl f tmps assign body) w := by
    rw [Fence.wide_round, Oper.semAt_none]
    simp only [execOp, resolve, e1, hval, Deferred.ofValue, Sem.run_bind, Sem.run_pure, Result.andThen_ok, invoke, callFunc]
    simpa [e2] using hrun
  rw [hexec]
  refine ⟨fun e => (by cases e), hin.mono ?_⟩
  rintro e w' ⟨rfl, Y', hJ, hfr, hY⟩
  show K (a.put (some d) (.bool (fo.go (rows ++ [[.s kk, .s vv]])))) w'
  exact hK _ _ (h hok hl.2 _ _ ⟨Γ, _, (hr.told hob hJ hfr hY).put (some d) .b⟩)
/-- One pair told, under another name or not at all. -/
def tell1 (d : Fo) (told : List UInt8 → Option (List UInt8)) (rows : List (List AV)) (k v : List UInt8) : List (List AV) × Bool :=
  match told k with
  | none => (rows, true)
  | some q => (rows ++ [[.s q, .s v]], d.go (rows ++ [[.s q, .s v]]))
/-- A function value that tells, keys of up to kb bytes. -/
structure Tl (P : Program) (d : Fo) (c : AV) (told : List UInt8 → Option (List UInt8)) (kb : Nat) : Prop where
  shut : c.shut = true
  close : c.close = c
  tells : (c = .x d.val ∧ ∀ k, told k = some k) ∨ ∃ f caps, c = .clo f caps ∧ ∀ rows k v, k.length ≤ kb → (tell1 d told rows k v).1.length ≤ 1000000000 → Good P f (.agg [.s k, .s v] :: caps) [(1000009, .fo d rows true)] (.b (tell1 d told rows k v).2) [(1000009, .fo d (tell1 d told rows k v).1 (tell1 d told rows k v).2)]
theorem Lx.fv {H} {c : AV} (h1 : c.shut = true) (h2 : c.close = c) : Lx H c (.fv c) := fun Γ m v _ hr => by
  have h3 := hr.close h1
  rw [h2] at h3
  exact .fv h3 (hr.one (AV.shut_leaf h1))
theorem Lx.unfv {H} {c : AV} : Lx H (.fv c) c := fun Γ m v _ hr => by
  cases hr with | fv h _ => exact h.mono (fun a v h => h) fun t ht => ⟨fun g hg => (by cases hg), fun k x hx => (by cases hx)⟩
theorem RRW.slot {c Γ m a w} {t : Nat} {x : AV} (h : RRW c Γ m ⟨T, B⟩ a w) (hx : Lx Tr ((⟨T, B⟩ : St).get t) x) : RRW c Γ m ⟨(t, x) :: T, B⟩ a w :=
  ⟨h.defers, h.size, h.gok, fun s hs => by
    have h1 := h.tmps s hs
    simp only [St.get, look] at h1 hx ⊢
    split
    · rename_i e; subst e; exact hx _ _ _ trivial h1
    · exact h1, h.obs, h.own, h.inj, h.frame, h.sub, h.fresh, h.ext⟩
theorem RRW.unslot {c Γ m a w} {t d : Nat} {x y : AV} {B' : List (Nat × Ob)} (h : RRW c Γ m ⟨(d, y) :: (t, x) :: T, B'⟩ a w) (hx : Lx Tr x ((⟨T, B'⟩ : St).get t)) : RRW c Γ m ⟨(d, y) :: T, B'⟩ a w :=
  ⟨h.defers, h.size, h.gok, fun s hs => by
    have h1 := h.tmps s hs
    simp only [St.get, look] at h1 hx ⊢
    split
    · rename_i e; rw [if_pos e] at h1; exact h1
    · rename_i e
      rw [if_neg e] at h1
      by_cases e2 : t = s
      · subst e2; rw [if_pos rfl] at h1; exact hx _ _ _ trivial h1
      · rw [if_neg e2] at h1; exact h1, h.obs, h.own, h.inj, h.frame, h.sub, h.fresh, h.ext⟩
/-- A pair is told. -/
theorem AO.tell {pos} {after} {t : Nat} {x : Operand} {ts : Array TypeId} {fo : Fo} (hy : Yields P fo) {Tv : AV} {told : List UInt8 → Option (List UInt8)} {kb : Nat} (hT : Tl P fo Tv told kb) {rows : List (List AV)} {kk vv : List UInt8} (hk : kk.length ≤ kb) (hlen : (tell1 fo told rows kk vv).1.length ≤ 1000000000)
    (hc : (⟨T, B⟩ : St).get t = .fv Tv) (hx : (⟨(t, Tv) :: T, B⟩ : St).val x = .agg [.s kk, .s vv]) (hob : (⟨T, B⟩ : St).ob 1000009 = .fo fo rows true)
    (h : AO F ops k l ⟨(d, .b (tell1 fo told rows kk vv).2) :: T, (1000009, .fo fo (tell1 fo told rows kk vv).1 (tell1 fo told rows kk vv).2) :: B⟩) :
    AO F ops k (⟨some d, .call { callee := .value (.tmp t), args := #[x], argTypes := ts }, ty, pos, after, none⟩ :: l) ⟨T, B⟩ := by
  have h2 : AO F ops k l ⟨(d, .b (tell1 fo told rows kk vv).2) :: (t, Tv) :: T, (1000009, .fo fo (tell1 fo told rows kk vv).1 (tell1 fo told rows kk vv).2) :: B⟩ := fun q1 q2 a w ⟨Γ, m, hr⟩ =>
    h q1 q2 a w ⟨Γ, m, hr.unslot (by rw [show ((⟨T, (1000009, .fo fo (tell1 fo told rows kk vv).1 (tell1 fo told rows kk vv).2) :: B⟩ : St).get t) = .fv Tv from hc]; exact Lx.fv hT.shut hT.close)⟩
  suffices hs : AO F ops k (⟨some d, .call { callee := .value (.tmp t), args := #[x], argTypes := ts }, ty, pos, after, none⟩ :: l) ⟨(t, Tv) :: T, B⟩ from
    fun q1 q2 a w ⟨Γ, m, hr⟩ => hs q1 q2 a w ⟨Γ, m, hr.slot (by rw [hc]; exact Lx.unfv)⟩
  have hc' : (⟨(t, Tv) :: T, B⟩ : St).val (.tmp t) = Tv := by simp [St.val, St.get, look]
  rcases hT.tells with ⟨e, h1⟩ | ⟨f, caps, e, h1⟩
  · simp only [tell1, h1] at h2 hlen
    exact AO.yield hy (by simp at hlen; omega) 1000009 (hc'.trans e) hx hob h2
  · have hg := h1 rows kk vv hk hlen
    refine AO.step (e := ⟨[(d, .b (tell1 fo told rows kk vv).2)], [(1000009, .fo fo (tell1 fo told rows kk vv).1 (tell1 fo told rows kk vv).2)], []⟩) rfl (.call ⟨.tmp t, #[x], ts, d, f, caps, _, _, _, _, fun t => t, rfl, rfl, hc'.trans e, hg, ?_, ?_, ?_, ?_, ?_, ?_, ?_, ?_⟩) (fun e he => by simp at he) h2
    · rw [ren_id.go]
      simp only [List.map_cons, List.map_nil, hx, List.cons_append, List.nil_append]
      exact LeL.refl _
    · intro p hp
      simp only [List.mem_singleton] at hp
      subst hp
      exact ⟨hob, by simp [tagsAt, stillOp, callTag]⟩
    · intro s _ t _ e; exact e
    · intro s hs; simpa using hs
    · simp
    · intro t ht; simp [AV.refs] at ht
    · intro p hp t ht
      simp only [List.mem_singleton] at hp
      subst hp
      simp [Ob.refs] at ht
    · simp [AV.ren, Ob.ren]
theorem call_fo {P : Program} {st : St} {d : Nat} {ty : TypeId} {pos} {after} {fx : Operand} {xs : Array Operand} {ts : Array TypeId} {f : FuncId} {caps args asL : List AV} {res : AV} {fo : Fo} {rows rows' : List (List AV)} {b b' : Bool} {g}
    (hg : Good P f args [(1000009, .fo fo rows b)] res [(1000009, .fo fo rows' b')]) (hc : st.val fx = .clo f caps) (ha : Wf (xs.toList.map st.val ++ caps) asL) (hl : LeL asL args) (hr : res.refs = []) (hob : st.ob 1000009 = .fo fo rows b) :
    CallOk P st ⟨some d, .call { callee := .value fx, args := xs, argTypes := ts }, ty, pos, after, g⟩ ⟨[(d, res)], [(1000009, .fo fo rows' b')], []⟩ := by
  refine ⟨fx, xs, ts, d, f, caps, args, _, res, _, fun t => t, rfl, rfl, hc, hg, ?_, ?_, ?_, ?_, ?_, ?_, ?_, ?_⟩
  · rw [ren_id.go, ha.eq]; exact hl
  · intro p hp
    simp only [List.mem_singleton] at hp
    subst hp
    exact ⟨hob, by simp [tagsAt, stillOp, callTag]⟩
  · intro s _ t _ e; exact e
  · intro s hs; simpa using hs
  · simp
  · intro t ht; rw [hr] at ht; cases ht
  · intro p hp t ht
    simp only [List.mem_singleton] at hp
    subst hp
    simp [Ob.refs] at ht
  · simp [ren_id, Ob.ren]
/-- A call to which what stands elsewhere is lent. -/
theorem AO.sCallF {pos} {after} {fx : Operand} {xs : Array Operand} {ts : Array TypeId} {f : FuncId} {caps args asL : List AV} {res : AV} {fo : Fo} {rows rows' : List (List AV)} {b b' : Bool}
    (hc : (⟨T, B⟩ : St).val fx = .clo f caps := by exact rfl) (ha : Wf (xs.toList.map (⟨T, B⟩ : St).val ++ caps) asL := by (repeat constructor); done)
    (hl : LeL asL args := by (repeat (first | exact LeL.nil | (refine LeL.cons (Le.refl _) ?_) | (refine LeL.cons Le.gr ?_) | (refine LeL.cons Le.nil ?_) | (refine LeL.cons Le.shc ?_))); done) (hg : Good P f args [(1000009, .fo fo rows b)] res [(1000009, .fo fo rows' b')]) (hr : res.refs = [] := by exact rfl) (hob : (⟨T, B⟩ : St).ob 1000009 = .fo fo rows b := by exact rfl)
    (h : AO F ops k l ⟨(d, res) :: T, (1000009, .fo fo rows' b') :: B⟩) : AO F ops k (⟨some d, .call { callee := .value fx, args := xs, argTypes := ts }, ty, pos, after, none⟩ :: l) ⟨T, B⟩ :=
  AO.step (e := ⟨[(d, res)], [(1000009, .fo fo rows' b')], []⟩) rfl (.call (call_fo hg hc ha hl hr hob)) (fun e he => by simp at he) h
theorem AR.sCallF {acc : List Rec} {tg : List Nat} {pos} {after} {fx : Operand} {xs : Array Operand} {ts : Array TypeId} {f : FuncId} {caps args asL : List AV} {res : AV} {fo : Fo} {rows rows' : List (List AV)} {b b' : Bool}
    (hc : (⟨T, B⟩ : St).val fx = .clo f caps := by exact rfl) (ha : Wf (xs.toList.map (⟨T, B⟩ : St).val ++ caps) asL := by (repeat constructor); done)
    (hl : LeL asL args := by (repeat (first | exact LeL.nil | (refine LeL.cons (Le.refl _) ?_) | (refine LeL.cons Le.gr ?_) | (refine LeL.cons Le.nil ?_) | (refine LeL.cons Le.shc ?_))); done) (hg : Good P f args [(1000009, .fo fo rows b)] res [(1000009, .fo fo rows' b')]) (hr : res.refs = [] := by exact rfl) (hob : (⟨T, B⟩ : St).ob 1000009 = .fo fo rows b := by exact rfl)
    (ht : LE (tagsAt ⟨T, B⟩ ⟨some d, .call { callee := .value fx, args := xs, argTypes := ts }, ty, pos, after, none⟩) tg := by (repeat (first | exact LE.nil | apply LE.cons)); done)
    (h : AR F ops k l ⟨(d, res) :: T, (1000009, .fo fo rows' b') :: B⟩ (⟨tg, ⟨[(d, res)], [(1000009, .fo fo rows' b')], []⟩⟩ :: acc)) : AR F ops k (⟨some d, .call { callee := .value fx, args := xs, argTypes := ts }, ty, pos, after, none⟩ :: l) ⟨T, B⟩ acc :=
  AR.st (e := ⟨[(d, res)], [(1000009, .fo fo rows' b')], []⟩) rfl (.call (call_fo hg hc ha hl hr hob)) (fun e he => by simp at he) ht h
end
end Go.Proofs.Ytocppeifkjdeiaa.Mv

/- Graphs: pairs told in order, the closure that lifts. Under no condition. -/
namespace Go.Proofs.Ytocppeifkjdeiaa.Mv
open Go Go.Proofs
set_option linter.unusedSimpArgs false
set_option linter.unusedVariables false
set_option maxRecDepth 10000
set_option maxHeartbeats 4000000
attribute [local irreducible] AW AO AR

/-! ### what is told, one behind the other -/
def runL (go : List (List AV) → Bool) : List (List AV) → List Pr → List (List AV) × Bool
  | rows, [] => (rows, true)
  | rows, p :: ps => if go (rows ++ [p.av]) = true then runL go (rows ++ [p.av]) ps else (rows ++ [p.av], false)
theorem runL_app (go : List (List AV) → Bool) (qs : List Pr) : ∀ (ps : List Pr) (rows : List (List AV)), runL go rows (ps ++ qs) = if (runL go rows ps).2 = true then runL go (runL go rows ps).1 qs else runL go rows ps
  | [], rows => by simp [runL]
  | p :: ps, rows => by
    simp only [List.cons_append, runL]
    split
    · exact runL_app go qs ps _
    · simp
theorem runL_app1 {go : List (List AV) → Bool} {ps qs : List Pr} {rows : List (List AV)} (h : (runL go rows ps).2 = true) : runL go rows (ps ++ qs) = runL go (runL go rows ps).1 qs := by
  rw [runL_app, if_pos h]
theorem runL_app0 {go : List (List AV) → Bool} {ps qs : List Pr} {rows : List (List AV)} (h : (runL go rows ps).2 = false) : runL go rows (ps ++ qs) = ((runL go rows ps).1, false) := by
  rw [runL_app, if_neg (by rw [h]; decide), ← h]
theorem runL_nil (go : List (List AV) → Bool) (rows : List (List AV)) : runL go rows [] = (rows, true) := rfl
/-- The pairs, under other names. -/
def via (told : L → Option L) (ps : List Pr) : List Pr := ps.filterMap fun p => (told p.k).map fun q => ⟨q, p.v⟩
theorem via_app (told : L → Option L) (ps qs : List Pr) : via told (ps ++ qs) = via told ps ++ via told qs := List.filterMap_append
theorem via_nil (told : L → Option L) : via told [] = [] := rfl
/-- At most so many, if that is not negative. -/
def takeI (n : Int) (ps : List Pr) : List Pr := if n < 0 then ps else ps.take n.toNat
/-- There is room for so many more. -/
abbrev Room (rows : List (List AV)) (ps : List Pr) : Prop := rows.length + ps.length ≤ 1000000000
theorem runL_len (go : List (List AV) → Bool) : ∀ (ps : List Pr) (rows : List (List AV)), (runL go rows ps).1.length ≤ rows.length + ps.length
  | [], rows => Nat.le_refl _
  | p :: ps, rows => by
    rw [runL]
    split
    · have := runL_len go ps (rows ++ [p.av])
      simp only [List.length_append, List.length_cons, List.length_nil] at this ⊢
      omega
    · simp only [List.length_append, List.length_cons, List.length_nil]
      omega
theorem room_l {rows : List (List AV)} {ps qs : List Pr} (h : Room rows (ps ++ qs)) : Room rows ps := by
  unfold Room at *; rw [List.length_append] at h; omega
theorem room_r {rows : List (List AV)} {ps qs : List Pr} (go : List (List AV) → Bool) (h : Room rows (ps ++ qs)) : Room (runL go rows ps).1 qs := by
  have := runL_len go ps rows
  unfold Room at *; rw [List.length_append] at h; omega
theorem tell_run (d : Fo) (told : L → Option L) (rows : List (List AV)) (p : Pr) : tell1 d told rows p.k p.v = runL d.go rows (via told [p]) := by
  unfold tell1 via
  cases h : told p.k with
  | none => simp [h, runL]
  | some q =>
    simp only [List.filterMap_cons, h, Option.map_some, List.filterMap_nil, runL]
    show (rows ++ [Pr.av ⟨q, p.v⟩], d.go (rows ++ [Pr.av ⟨q, p.v⟩])) = _
    by_cases e : d.go (rows ++ [Pr.av ⟨q, p.v⟩]) = true
    · rw [if_pos e, e]
    · rw [if_neg e]; simp only [Bool.not_eq_true] at e; rw [e]
/-- A lift downwards. -/
def dwn (s a k : L) : Option L := if hp k a = true then some (upS a s k) else none
def lif (told : L → Option L) (s a : L) : L → Option L := fun k => (dwn s a k).bind told
theorem via_lif (told : L → Option L) (s a : L) (ps : List Pr) : via (lif told s a) ps = via told (via (dwn s a) ps) := by
  unfold via
  rw [List.filterMap_filterMap]
  congr 1
  funext p
  unfold lif
  cases dwn s a p.k <;> rfl
theorem gEdge1 {d : Fo} (hy : Yields Try.prog d) {T : AV} {told : L → Option L} {kb : Nat} (hT : Tl Try.prog d T told kb) (its : List (List AV)) (s a : L) (hs : s.length ≤ 16) (rows : List (List AV)) (k v : L) (hk : k.length + 16 ≤ kb) (hk2 : k.length ≤ 1000000) (hlen : (tell1 d (lif told s a) rows k v).1.length ≤ 1000000000) :
    Good Try.prog 152 [.agg [.s k, .s v], .pel [.s s, .s a], .pel [.sh 6 its, .fv T]] [(1000009, .fo d rows true)] (.b (tell1 d (lif told s a) rows k v).2) [(1000009, .fo d (tell1 d (lif told s a) rows k v).1 (tell1 d (lif told s a) rows k v).2)] := by
  have gD := gDown s a k (by omega)
  have hu : (upS a s k).length ≤ kb := Nat.le_trans (upS_len a s k) (by omega)
  have e1 : hp k a = true → tell1 d (lif told s a) rows k v = tell1 d told rows (upS a s k) v := fun h => by
    unfold tell1 lif dwn; rw [if_pos h]; rfl
  have e2 : hp k a = false → tell1 d (lif told s a) rows k v = (rows, true) := fun h => by
    unfold tell1 lif dwn; rw [if_neg (by rw [h]; decide)]; rfl
  have hw : hp k a = true → (tell1 d told rows (upS a s k) v).1.length ≤ 1000000000 := fun h => by rw [← e1 h]; exact hlen
  refine Good.wM tabOk mixed Try.func152 (N := 25) (by kernel_rfl) rfl (by (repeat (first | exact LE.nil | apply LE.cons)); done) (by (repeat (first | exact LE.nil | apply LE.cons)); done) (by exact rfl) fun D hD F => ?_
  repeat' (first
    | apply AO.nil
    | (apply AO.kCall 153; refine AO.sCall (hg := gD) (h := ?_))
    | (apply AO.kCallV; refine AO.tell hy hT hu (hw (by assumption)) (hc := by exact rfl) (hx := by exact rfl) (hob := by exact rfl) (h := ?_))
    | (apply AO.kBox; refine AO.sBox (h := ?_))
    | (apply AO.kP; first | refine AO.sP (h := ?_) | refine AO.sPi (h := ?_) | refine AO.sLoadB (h := ?_))
    | apply AW.seq
    | (apply AW.kR; refine AW.sR (h := ?_))
    | apply AW.skip
    | apply AW.block
    | apply AW.out
    | (apply AW.kE; refine AW.sE (h := ?_))
    | apply AW.label
    | ((first | (apply AO.kG; first | refine AO.sgt (h1 := fun h => ?_) (h2 := fun h => ?_) | refine AO.sgf (h1 := fun h => ?_) (h2 := fun h => ?_) | refine AO.sgs (h := ?_))) <;> (try (first | exact Bool.noConfusion h | exact absurd h (by decide) | (simp at h; done) | (rw [h]; try simp only [nrm] at h; try rw [h]; try (exfalso; omega)) | skip))))
  · have h' : hp k a = true := by assumption
    rw [e1 h'] at hD
    exact AW.ret (hD rfl .refl (.cons .refl .nil))
  · have h' : hp k a = false := by assumption
    rw [e2 h'] at hD
    exact AW.ret (hD rfl .refl (.cons .refl .nil))
theorem tlEdge {d : Fo} (hy : Yields Try.prog d) {T : AV} {told : L → Option L} {kb kb' : Nat} (hT : Tl Try.prog d T told kb) (its : List (List AV)) (s a : L) (hs : s.length ≤ 16) (h1 : kb' + 16 ≤ kb) (h2 : kb' ≤ 1000000) :
    Tl Try.prog d (.clo 152 [.pel [.s s, .s a], .pel [.sh 6 its, .fv T]]) (lif told s a) kb' :=
  ⟨rfl, rfl, .inr ⟨_, _, rfl, fun rows k v hk hlen => gEdge1 hy hT its s a hs rows k v (by omega) (by omega) hlen⟩⟩
end Go.Proofs.Ytocppeifkjdeiaa.Mv

/- Trimming twice: plain. Under no condition. -/
namespace Go.Proofs.Ytocppeifkjdeiaa.Mv
open Go Go.Proofs
set_option linter.unusedSimpArgs false
set_option linter.unusedVariables false

/-- A range with a beginning ahead. -/
def behind (a : L) (s : L × L × Bool) : L × L × Bool := ovS [] a s.1 s.2.1 s.2.2
section
variable {r s : L × L × Bool} {a b : L}
end
end Go.Proofs.Ytocppeifkjdeiaa.Mv

/- The law of trimming twice. Under no condition. -/
namespace Go.Proofs.Ytocppeifkjdeiaa.Mv
open Go Go.Proofs
set_option linter.unusedSimpArgs false
set_option linter.unusedVariables false
set_option maxRecDepth 10000
set_option maxHeartbeats 4000000
attribute [local irreducible] AW AO AR

theorem ov_len (s a lo hi : L) (e : Bool) : (ovS s a lo hi e).1.length ≤ a.length + (lo.length + s.length) := by
  have q1 := (cS_len lo hi e s (succS s) (succOk s)).1
  have q2 := upS_len s a (ocS s lo hi e).1
  rw [show (ocS s lo hi e).1 = (cS lo hi e s (succS s) (succOk s)).1 from rfl] at q2
  have q3 : (upS s a (cS lo hi e s (succS s) (succOk s)).1).length ≤ a.length + (lo.length + s.length) := by omega
  unfold ovS
  split
  · simp
  · split <;> exact q3
end Go.Proofs.Ytocppeifkjdeiaa.Mv

/- Graphs: what All tells: plain. Under no condition. -/
namespace Go.Proofs.Ytocppeifkjdeiaa.Mv
open Go Go.Proofs
set_option linter.unusedSimpArgs false
set_option linter.unusedVariables false
set_option maxRecDepth 10000

abbrev Rg := L × L × Bool
def em (r : Rg) : Bool := emR r.1 r.2.1 r.2.2
def cut (x r : Rg) : Rg := cS x.1 x.2.1 x.2.2 r.1 r.2.1 r.2.2
def ov (s a : L) (r : Rg) : Rg := ovS s a r.1 r.2.1 r.2.2
def inn (r : Rg) (k : L) : Bool := inR r.1 r.2.1 r.2.2 k
def Rg.av (r : Rg) : List AV := [.s r.1, .s r.2.1, .b r.2.2]
/-! ### what is told -/
def edgeP (blk : B32 → Rg → List Pr) (b : B32) (s a : L) (x : Rg) : List Pr := via (dwn s a) (blk b (ov s a x))
def kidP (blk : B32 → Rg → List Pr) (n : Nd) (r : Rg) (i : Nat) : List Pr := edgeP blk (n.kids.getD i default).block (n.kids.getD i default).strip (n.kids.getD i default).add (cut (rgN n i) r)
def kidsP (blk : B32 → Rg → List Pr) (n : Nd) (r : Rg) : Nat → List Pr
  | 0 => []
  | q + 1 => kidsP blk n r q ++ kidP blk n r q
def msgP (blk : B32 → Rg → List Pr) (m : Ms) (x : Rg) : List Pr := if m.kind = 1 then [⟨m.key, m.val⟩] else if m.kind = 3 then edgeP blk m.block m.key m.add x else []
def bufP (blk : B32 → Rg → List Pr) (n : Nd) : Nat → Rg → List Pr
  | 0, r => if em r = true then [] else kidsP blk n r n.kids.length
  | q + 1, r => if em r = true then [] else if em (cut (abS (n.buf.getD q default)) r) = true then bufP blk n q r else
      bufP blk n q (cut r ([], (cut (abS (n.buf.getD q default)) r).1, true)) ++ (msgP blk (n.buf.getD q default) (cut (abS (n.buf.getD q default)) r) ++
        if (cut (abS (n.buf.getD q default)) r).2.2 = true then bufP blk n q (cut r ((cut (abS (n.buf.getD q default)) r).2.1, [], false)) else [])
def blkP (l : List Im) : Nat → B32 → Rg → List Pr
  | 0, _, _ => []
  | f + 1, b, r => match fnd l b with
    | none => []
    | some n => if em r = true then [] else if n.leaf = true then n.pairs.filter (fun p => inn r p.k) else bufP (blkP l f) n n.buf.length r
/-! ### sizes -/
def Rg.le (r : Rg) (c : Nat) : Prop := r.1.length ≤ c ∧ r.2.1.length ≤ c
theorem mxS_le {a b : L} {c : Nat} (h1 : a.length ≤ c) (h2 : b.length ≤ c) : (mxS a b).length ≤ c := by unfold mxS; split <;> assumption
theorem mnS_le {a b : L} {c : Nat} (h1 : a.length ≤ c) (h2 : b.length ≤ c) : (mnS a b).length ≤ c := by unfold mnS; split <;> assumption
theorem cut_le {x r : Rg} {c : Nat} (h1 : x.le c) (h2 : r.le c) : (cut x r).le c := by
  obtain ⟨a1, a2⟩ := h1
  obtain ⟨b1, b2⟩ := h2
  unfold cut cS Rg.le
  split
  · simp
  · refine ⟨mxS_le a1 b1, ?_⟩
    unfold cutHi
    split
    · split
      · exact mnS_le a2 b2
      · exact a2
    · split
      · exact b2
      · simp
theorem ov_le {s a : L} {r : Rg} {c : Nat} (hs : s.length ≤ 16) (ha : a.length ≤ 16) (h : r.le c) : (ov s a r).le (c + 32) := by
  obtain ⟨h1, h2⟩ := h
  refine ⟨Nat.le_trans (ov_len s a _ _ _) (by omega), ?_⟩
  have q1 := (cS_len r.1 r.2.1 r.2.2 s (succS s) (succOk s)).2
  have q3 := succS_len s
  unfold ov ovS
  split
  · simp
  · split
    · refine Nat.le_trans (upS_len s a _) ?_
      rw [show (ocS s r.1 r.2.1 r.2.2).2.1 = (cS r.1 r.2.1 r.2.2 s (succS s) (succOk s)).2.1 from rfl]
      omega
    · exact Nat.le_trans (succS_len a) (by omega)
theorem abS_le {m : Ms} (h : m.key.length ≤ 16) : Rg.le (abS m) 17 := by
  have := succS_len m.key
  unfold abS Rg.le
  split
  · simp; omega
  · split
    · simp; omega
    · split
      · dsimp only; omega
      · simp
theorem rgN_le {n : Nd} (h : ∀ p ∈ n.pivots, p.length ≤ 16) (i : Int) : Rg.le (rgN n i) 16 := by
  have key : ∀ j, (n.pivots.getD j default).length ≤ 16 := fun j => by
    rcases at_mem (l := n.pivots) j with hm | hm
    · exact h _ hm
    · rw [hm]; exact Nat.zero_le _
  unfold rgN Rg.le
  split
  · simp
  · refine ⟨?_, ?_⟩
    · dsimp only; split
      · exact key _
      · simp
    · dsimp only; split
      · exact key _
      · simp
end Go.Proofs.Ytocppeifkjdeiaa.Mv

/- Graphs: the tellers of edges, messages, kids. Under no condition. -/
namespace Go.Proofs.Ytocppeifkjdeiaa.Mv
open Go Go.Proofs
set_option linter.unusedSimpArgs false
set_option linter.unusedVariables false
set_option maxRecDepth 10000
set_option maxHeartbeats 4000000
attribute [local irreducible] AW AO AR

/-- What a block tells, to depth f. -/
def BlkOk (d : Fo) (l : List Im) (f : Nat) : Prop :=
  ∀ (b : B32) (T : AV) (told : L → Option L) (kb : Nat), Tl Try.prog d T told kb → 16 * f ≤ kb → kb ≤ 900000 → ∀ (r : Rg) (c : Nat), r.le c → 17 ≤ c → c + 32 * f ≤ 100000 → fuel l b f → ∀ rows, Room rows (via told (blkP l f b r)) →
    Good Try.prog 119 [.agg [.sh 6 (l.map Im.av), .fv T], .i .u32 b.toNat, .agg [.s r.1, .s r.2.1, .b r.2.2]] [(1000009, .fo d rows true)] (.b (runL d.go rows (via told (blkP l f b r))).2)
      [(1000009, .fo d (runL d.go rows (via told (blkP l f b r))).1 (runL d.go rows (via told (blkP l f b r))).2)]
theorem gEdgeC {d : Fo} (hy : Yields Try.prog d) {l : List Im} {f : Nat} (hB : BlkOk d l f) (b : B32) {T : AV} {told : L → Option L} {kb : Nat} (hT : Tl Try.prog d T told kb) (hk : 16 * (f + 1) ≤ kb) (hk2 : kb ≤ 900000) {s a : L} (hs : s.length ≤ 16) (ha : a.length ≤ 16)
    {x : Rg} {c : Nat} (hx : x.le c) (hc : c + 32 * (f + 1) ≤ 100000) (hf : fuel l b f) (rows : List (List AV)) (hro : Room rows (via told (edgeP (blkP l f) b s a x))) :
    Good Try.prog 151 [.agg [.sh 6 (l.map Im.av), .fv T], .i .u32 b.toNat, .agg [.s s, .s a], .agg [.s x.1, .s x.2.1, .b x.2.2]] [(1000009, .fo d rows true)] (.b (runL d.go rows (via told (edgeP (blkP l f) b s a x))).2)
      [(1000009, .fo d (runL d.go rows (via told (edgeP (blkP l f) b s a x))).1 (runL d.go rows (via told (edgeP (blkP l f) b s a x))).2)] := by
  rw [show via told (edgeP (blkP l f) b s a x) = via (lif told s a) (blkP l f b (ov s a x)) from (via_lif told s a _).symm] at hro ⊢
  have gB := hB b _ _ _ (tlEdge hy hT (l.map Im.av) s a hs (kb' := kb - 16) (by omega) (by omega)) (by omega) (by omega) (ov s a x) (c + 32) (ov_le hs ha hx) (by omega) (by omega) hf rows hro
  have gO := gOver s a x.1 x.2.1 x.2.2 (by omega) (by omega) (by have := hx.1; omega) (by have := hx.2; omega)
  clear hro
  generalize via (lif told s a) (blkP l f b (ov s a x)) = ps at *
  generalize runL d.go rows ps = R at *
  refine Good.wM tabOk mixed Try.func151 (N := 20) (by kernel_rfl) rfl (by (repeat (first | exact LE.nil | apply LE.cons)); done) (by (repeat (first | exact LE.nil | apply LE.cons)); done) (by exact rfl) fun D hD F => ?_
  (repeat (first | apply AW.seq | apply AW.block)); apply AW.kR; refine AW.sR (h := ?_); repeat' (first
    | apply AO.nil
    | (apply AO.kBox; refine AO.sBox (h := ?_))
    | (apply AO.kAlloc; refine AO.sAlloc (h := ?_))
    | (apply AO.kStore; first | refine AO.sStore (h := ?_) | refine AO.sStB (h := ?_))
    | (apply AO.kP; first | refine AO.sP (h := ?_) | refine AO.sPi (h := ?_) | refine AO.sLoadB (h := ?_) | refine AO.sMk0 (h := ?_)))
  refine AW.freeze 4 (cs := [.sh 6 (l.map Im.av), .fv T]) (st' := ⟨[(1, .i .u32 b.toNat), (4, .pel [.sh 6 (l.map Im.av), .fv T]), (6, .ptr 6 0), (7, .ptr 7 0)], [(6, .bx [.s s, .s a]), (7, .bx [.s x.1, .s x.2.1, .b x.2.2]), (1000009, .fo d rows true)]⟩) rfl rfl ⟨.cons .refl (.cons Lx.fz (.cons .refl (.cons .refl .nil))), .cons .refl (.cons .refl (.cons .refl .nil))⟩ ?_
  refine AW.freeze 6 (cs := [.s s, .s a]) (st' := ⟨[(1, .i .u32 b.toNat), (4, .pel [.sh 6 (l.map Im.av), .fv T]), (6, .pel [.s s, .s a]), (7, .ptr 7 0)], [(7, .bx [.s x.1, .s x.2.1, .b x.2.2]), (1000009, .fo d rows true)]⟩) rfl rfl ⟨.cons .refl (.cons .refl (.cons Lx.fz (.cons .refl .nil))), .cons .refl (.cons .refl .nil)⟩ ?_
  (repeat (first | apply AW.seq | apply AW.block)); apply AW.kR; refine AW.sR (h := ?_); repeat' (first
    | apply AO.nil
    | (apply AO.kBox; refine AO.sBox (h := ?_))
    | (apply AO.kAlloc; refine AO.sAlloc (h := ?_))
    | (apply AO.kStore; first | refine AO.sStore (h := ?_) | refine AO.sStB (h := ?_))
    | (apply AO.kP; first | refine AO.sP (h := ?_) | refine AO.sPi (h := ?_) | refine AO.sLoadB (h := ?_) | refine AO.sMk0 (h := ?_)))
  refine AW.less (st' := ⟨[(1, .i .u32 b.toNat), (6, .pel [.s s, .s a]), (7, .ptr 7 0), (9, .ptr 9 0)], [(7, .bx [.s x.1, .s x.2.1, .b x.2.2]), (9, .bx [.sh 6 (l.map Im.av), .fv (.clo 152 [.pel [.s s, .s a], .pel [.sh 6 (l.map Im.av), .fv T]])]), (1000009, .fo d rows true)]⟩) ⟨.cons .refl (.cons .refl (.cons .refl (.cons .refl .nil))), .cons .refl (.cons (.bx (.cons .refl (.cons (Lx.fv rfl rfl) .nil))) (.cons .refl .nil))⟩ ?_
  repeat' (first
    | apply AO.nil
    | (apply AO.kCall 154; refine AO.sCall (hg := gO) (h := ?_))
    | (apply AO.kCall 119; refine AO.sCallF (hg := gB) (h := ?_))
    | (apply AO.kBox; refine AO.sBox (h := ?_))
    | (apply AO.kAlloc; refine AO.sAlloc (h := ?_))
    | (apply AO.kStore; first | refine AO.sStore (h := ?_) | refine AO.sStB (h := ?_))
    | (apply AO.kP; first | refine AO.sP (h := ?_) | refine AO.sPi (h := ?_) | refine AO.sLoadB (h := ?_) | refine AO.sMk0 (h := ?_))
    | apply AW.seq
    | (apply AW.kR; refine AW.sR (h := ?_))
    | apply AW.skip
    | apply AW.block
    | apply AW.out
    | (apply AW.kE; refine AW.sE (h := ?_))
    | apply AW.label
    | (apply AW.kRd; refine AW.sRd (h := ?_))
    | (apply AR.kAny; first | (apply AR.kCall 154; refine AR.sCall (hg := gO) (h := ?_)) | (apply AR.kCall 119; refine AR.sCallF (hg := gB) (h := ?_)) | (apply AR.kBox; refine AR.sBox (h := ?_)) | (apply AR.kAlloc; refine AR.sAlloc (h := ?_)) | (apply AR.kStore; refine AR.sStore (h := ?_)) | (apply AR.kP; first | refine AR.sP (h := ?_) | refine AR.sPi (h := ?_)))
    | (apply AR.kNil; refine AR.sNil (h := ?_)))
  exact AW.ret (hD rfl .refl (.cons .refl .nil))
end Go.Proofs.Ytocppeifkjdeiaa.Mv

/- Graphs: the tellers of messages and kids. Under no condition. -/
namespace Go.Proofs.Ytocppeifkjdeiaa.Mv
open Go Go.Proofs
set_option linter.unusedSimpArgs false
set_option linter.unusedVariables false
set_option maxRecDepth 10000
set_option maxHeartbeats 4000000
attribute [local irreducible] AW AO AR

theorem gMsgC {d : Fo} (hy : Yields Try.prog d) {l : List Im} {f : Nat} (hB : BlkOk d l f) {T : AV} {told : L → Option L} {kb : Nat} (hT : Tl Try.prog d T told kb) (hk : 16 * (f + 1) ≤ kb) (hk2 : kb ≤ 900000) {m : Ms} (hm : msMay m = true)
    {x : Rg} {c : Nat} (hx : x.le c) (hc : c + 32 * (f + 1) ≤ 100000) (hf : m.kind = 3 → fuel l m.block f) (rows : List (List AV)) (hro : Room rows (via told (msgP (blkP l f) m x))) :
    Good Try.prog 150 [.agg [.sh 6 (l.map Im.av), .fv T], .agg m.av, .agg [.s x.1, .s x.2.1, .b x.2.2]] [(1000009, .fo d rows true)] (.b (runL d.go rows (via told (msgP (blkP l f) m x))).2)
      [(1000009, .fo d (runL d.go rows (via told (msgP (blkP l f) m x))).1 (runL d.go rows (via told (msgP (blkP l f) m x))).2)] := by
  have hm0 := hm
  unfold msMay at hm0
  simp only [Bool.and_eq_true, decide_eq_true_eq] at hm0
  obtain ⟨mk, mr⟩ := hm0
  by_cases h3 : m.kind = 3
  · have h1 : ¬ m.kind = 1 := by rw [h3]; decide
    have ma : m.add.length ≤ 16 := by
      rw [if_neg h1, if_neg (by rw [h3]; decide), if_pos h3] at mr
      simp only [Bool.and_eq_true, decide_eq_true_eq] at mr
      exact mr.1.1
    rw [show msgP (blkP l f) m x = edgeP (blkP l f) m.block m.key m.add x by unfold msgP; rw [if_neg h1, if_pos h3]] at hro ⊢
    have gE := gEdgeC hy hB m.block hT hk hk2 mk ma hx hc (hf h3) rows hro
    clear hro
    generalize runL d.go rows (via told (edgeP (blkP l f) m.block m.key m.add x)) = R at *
    have k1' := k1 m.kind
    have k3' := k3 m.kind
    refine Good.wM tabOk mixed Try.func150 (N := 31) (by kernel_rfl) rfl (by (repeat (first | exact LE.nil | apply LE.cons)); done) (by (repeat (first | exact LE.nil | apply LE.cons)); done) (by exact rfl) fun D hD F => ?_
    repeat' (first
    | apply AO.nil
    | (apply AO.kCall 151; refine AO.sCallF (hg := gE) (h := ?_))
    | (apply AO.kBox; refine AO.sBox (h := ?_))
    | (apply AO.kP; first | refine AO.sP (h := ?_) | refine AO.sPi (h := ?_) | refine AO.sLoadB (h := ?_))
    | apply AW.seq
    | (apply AW.kR; refine AW.sR (h := ?_))
    | apply AW.skip
    | apply AW.block
    | apply AW.out
    | (apply AW.kE; refine AW.sE (h := ?_))
    | apply AW.label
    | ((first | (apply AW.kC; refine AW.sC (h1 := fun h => ?_) (h2 := fun h => ?_))) <;> (try (first | exact Bool.noConfusion h | exact absurd h (by decide) | (simp at h; done) | (rw [h]; try simp only [nrm] at h; try rw [h]; try (exfalso; omega)) | skip))))
    all_goals first
      | exact AW.ret (hD rfl .refl (.cons .refl .nil))
      | (exfalso; have q : (m.kind.toNat : Int) = 1 := (by assumption); rw [k1'] at q; exact h1 q)
      | (exfalso; have q : ¬ (m.kind.toNat : Int) = 3 := (by assumption); rw [k3'] at q; exact q h3)
  · by_cases h1 : m.kind = 1
    · have e := tell_run d told rows ⟨m.key, m.val⟩
      rw [show msgP (blkP l f) m x = [⟨m.key, m.val⟩] by unfold msgP; rw [if_pos h1]] at hro ⊢
      have hlen := Nat.le_trans (runL_len d.go _ rows) hro
      rw [← e] at hlen ⊢
      have hu : m.key.length ≤ kb := by omega
      dsimp only at e hlen ⊢
      refine Good.wM tabOk mixed Try.func150 (N := 31) (by kernel_rfl) rfl (by (repeat (first | exact LE.nil | apply LE.cons)); done) (by (repeat (first | exact LE.nil | apply LE.cons)); done) (by exact rfl) fun D hD F => ?_
      have k1' := k1 m.kind
      repeat' (first
    | apply AO.nil
    | (apply AO.kCallV; refine AO.tell hy hT hu hlen (hc := by exact rfl) (hx := by exact rfl) (hob := by exact rfl) (h := ?_))
    | (apply AO.kBox; refine AO.sBox (h := ?_))
    | (apply AO.kP; first | refine AO.sP (h := ?_) | refine AO.sPi (h := ?_) | refine AO.sLoadB (h := ?_))
    | apply AW.seq
    | (apply AW.kR; refine AW.sR (h := ?_))
    | apply AW.skip
    | apply AW.block
    | apply AW.out
    | (apply AW.kE; refine AW.sE (h := ?_))
    | apply AW.label
    | ((first | (apply AW.kC; refine AW.sC (h1 := fun h => ?_) (h2 := fun h => ?_))) <;> (try (first | exact Bool.noConfusion h | exact absurd h (by decide) | (simp at h; done) | (rw [h]; try simp only [nrm] at h; try rw [h]; try (exfalso; omega)) | skip))))
      all_goals first
        | exact AW.ret (hD rfl .refl (.cons .refl .nil))
        | (exfalso; have q : ¬ (m.kind.toNat : Int) = 1 := (by assumption); rw [k1'] at q; exact q h1)
    · rw [show msgP (blkP l f) m x = [] by unfold msgP; rw [if_neg h1, if_neg h3], via_nil, runL_nil]
      refine Good.wM tabOk mixed Try.func150 (N := 31) (by kernel_rfl) rfl (by (repeat (first | exact LE.nil | apply LE.cons)); done) (by (repeat (first | exact LE.nil | apply LE.cons)); done) (by exact rfl) fun D hD F => ?_
      have k1' := k1 m.kind
      have k3' := k3 m.kind
      repeat' (first
    | apply AO.nil
    | (apply AO.kBox; refine AO.sBox (h := ?_))
    | (apply AO.kP; first | refine AO.sP (h := ?_) | refine AO.sPi (h := ?_) | refine AO.sLoadB (h := ?_))
    | apply AW.seq
    | (apply AW.kR; refine AW.sR (h := ?_))
    | apply AW.skip
    | apply AW.block
    | apply AW.out
    | (apply AW.kE; refine AW.sE (h := ?_))
    | apply AW.label
    | ((first | (apply AW.kC; refine AW.sC (h1 := fun h => ?_) (h2 := fun h => ?_))) <;> (try (first | exact Bool.noConfusion h | exact absurd h (by decide) | (simp at h; done) | (rw [h]; try simp only [nrm] at h; try rw [h]; try (exfalso; omega)) | skip))))
      all_goals first
        | exact AW.ret (hD rfl .refl (.cons .refl .nil))
        | (exfalso; have q : (m.kind.toNat : Int) = 1 := (by assumption); rw [k1'] at q; exact h1 q)
        | (exfalso; have q : (m.kind.toNat : Int) = 3 := (by assumption); rw [k3'] at q; exact h3 q)
theorem kids_pre (blk : B32 → Rg → List Pr) (n : Nd) (r : Rg) (q : Nat) : ∀ m, q ≤ m → ∃ ps, kidsP blk n r m = kidsP blk n r q ++ ps
  | 0, h => ⟨[], by rw [show q = 0 by omega, List.append_nil]⟩
  | m + 1, h => by
    by_cases e : q = m + 1
    · exact ⟨[], by rw [e, List.append_nil]⟩
    · obtain ⟨ps, hp⟩ := kids_pre blk n r q m (by omega)
      exact ⟨ps ++ kidP blk n r m, by rw [kidsP, hp, List.append_assoc]⟩
theorem kids_fail {blk : B32 → Rg → List Pr} {n : Nd} {r : Rg} {go : List (List AV) → Bool} {told : L → Option L} {rows : List (List AV)} {q m : Nat} (h : q ≤ m) (hf : (runL go rows (via told (kidsP blk n r q))).2 = false) :
    runL go rows (via told (kidsP blk n r m)) = ((runL go rows (via told (kidsP blk n r q))).1, false) := by
  obtain ⟨ps, hp⟩ := kids_pre blk n r q m h
  rw [hp, via_app, runL_app0 hf]
theorem kids_next {blk : B32 → Rg → List Pr} {n : Nd} {r : Rg} {go : List (List AV) → Bool} {told : L → Option L} {rows : List (List AV)} {q : Nat} (hs : (runL go rows (via told (kidsP blk n r q))).2 = true) :
    runL go rows (via told (kidsP blk n r (q + 1))) = runL go (runL go rows (via told (kidsP blk n r q))).1 (via told (kidP blk n r q)) := by
  rw [kidsP, via_app, runL_app1 hs]
theorem gKidsC {d : Fo} (hy : Yields Try.prog d) {l : List Im} {f : Nat} (hB : BlkOk d l f) {T : AV} {told : L → Option L} {kb : Nat} (hT : Tl Try.prog d T told kb) (hk : 16 * (f + 1) ≤ kb) (hk2 : kb ≤ 900000) {n : Nd} (hs : n.small) (hI : innerOk n = true)
    {r : Rg} {c : Nat} (hx : r.le c) (h17 : 17 ≤ c) (hc : c + 32 * (f + 1) ≤ 100000) (hf : ∀ i, i < n.kids.length → fuel l (n.kids.getD i default).block f) (rows : List (List AV)) (hro : Room rows (via told (kidsP (blkP l f) n r n.kids.length))) :
    Good Try.prog 149 [.agg [.sh 6 (l.map Im.av), .fv T], .agg n.av, .agg [.s r.1, .s r.2.1, .b r.2.2]] [(1000009, .fo d rows true)] (.b (runL d.go rows (via told (kidsP (blkP l f) n r n.kids.length))).2)
      [(1000009, .fo d (runL d.go rows (via told (kidsP (blkP l f) n r n.kids.length))).1 (runL d.go rows (via told (kidsP (blkP l f) n r n.kids.length))).2)] := by
  have hs3 := hs.kids
  have l3 : (n.kids.map Ed.av).length = n.kids.length := by simp
  have hI0 := hI
  simp only [innerOk, Bool.and_eq_true] at hI0
  have hp : ∀ p ∈ n.pivots, p.length ≤ 16 := fun p hp => by have := List.all_eq_true.1 hI0.1.2.2 p hp; simpa using this
  have he : ∀ i, i < n.kids.length → (n.kids.getD i default).strip.length ≤ 16 ∧ (n.kids.getD i default).add.length ≤ 16 := fun i hi => by
    have hm : n.kids.getD i default ∈ n.kids := by rw [List.getD_eq_getElem?_getD, List.getElem?_eq_getElem hi]; exact List.getElem_mem _
    have := List.all_eq_true.1 hI0.1.1.2 _ hm
    simp only [edOk, Bool.and_eq_true, decide_eq_true_eq] at this
    exact ⟨this.1.2, this.2⟩
  refine Good.wM tabOk mixed Try.func149 (N := 30) (by kernel_rfl) rfl (by (repeat (first | exact LE.nil | apply LE.cons)); done) (by (repeat (first | exact LE.nil | apply LE.cons)); done) (by exact rfl) fun D hD F => ?_
  (repeat (first | apply AW.seq | apply AW.block)); apply AW.kR; refine AW.sR (h := ?_); repeat' (first
    | apply AO.nil
    | (apply AO.kIx; first | refine AO.sIxN (h := ?_) | refine AO.sIx (h := ?_) | refine AO.sP (h := ?_) | refine AO.sPi (h := ?_))
    | (apply AO.kBox; refine AO.sBox (h := ?_))
    | (apply AO.kAlloc; refine AO.sAlloc (h := ?_))
    | (apply AO.kStore; first | refine AO.sStore (h := ?_) | refine AO.sStB (h := ?_))
    | (apply AO.kAdd; refine AO.sAdd (h := ?_))
    | (apply AO.kP; first | refine AO.sP (h := ?_) | refine AO.sPi (h := ?_) | refine AO.sLoadB (h := ?_)))
  (repeat (first | apply AW.seq | apply AW.block)); apply AW.kR; refine AW.sR (h := ?_); repeat' (first
    | apply AO.nil
    | (apply AO.kIx; first | refine AO.sIxN (h := ?_) | refine AO.sIx (h := ?_) | refine AO.sP (h := ?_) | refine AO.sPi (h := ?_))
    | (apply AO.kBox; refine AO.sBox (h := ?_))
    | (apply AO.kAlloc; refine AO.sAlloc (h := ?_))
    | (apply AO.kStore; first | refine AO.sStore (h := ?_) | refine AO.sStB (h := ?_))
    | (apply AO.kAdd; refine AO.sAdd (h := ?_))
    | (apply AO.kP; first | refine AO.sP (h := ?_) | refine AO.sPi (h := ?_) | refine AO.sLoadB (h := ?_)))
  refine AW.block (AW.loopI (fun q : Nat => q ≤ n.kids.length ∧ (runL d.go rows (via told (kidsP (blkP l f) n r q))).2 = true) (fun q => ⟨[(3, .ptr 3 0), (4, .ptr 4 0), (5, .ptr 5 0), (10, .sh 4 (n.kids.map Ed.av)), (11, .i .i64 n.kids.length), (12, .i .i64 q)], [(3, .bx [.sh 6 (l.map Im.av), .fv T]), (4, .bx n.av), (5, .bx [.s r.1, .s r.2.1, .b r.2.2]), (1000009, .fo d (runL d.go rows (via told (kidsP (blkP l f) n r q))).1 true)]⟩) (fun q => n.kids.length - q) 0 ⟨by omega, rfl⟩ (by (constructor <;> (repeat' (first | exact LeT.nil | exact LeB.nil | apply LeT.cons | apply LeB.cons | exact Ol.refl | apply Lx.s | apply Lx.b | apply Lx.i | exact Lx.refl)) <;> (first | rfl | assumption | omega | (simp only [List.length_map, BS_len]; done) | skip))) fun m q ⟨hq, hc1⟩ ih => ?_)
  by_cases hq2 : q < n.kids.length
  · have gR := gRange n q hs (by omega)
    have gC := gCutS (rgN n q).1 (rgN n q).2.1 (rgN n q).2.2 r.1 r.2.1 r.2.2
    have gE : Good Try.prog 151 [.agg [.sh 6 (l.map Im.av), .fv T], .i .u32 (n.kids.getD q default).block.toNat, .agg [.s (n.kids.getD q default).strip, .s (n.kids.getD q default).add], .agg [.s (cS (rgN n q).1 (rgN n q).2.1 (rgN n q).2.2 r.1 r.2.1 r.2.2).1, .s (cS (rgN n q).1 (rgN n q).2.1 (rgN n q).2.2 r.1 r.2.1 r.2.2).2.1, .b (cS (rgN n q).1 (rgN n q).2.1 (rgN n q).2.2 r.1 r.2.1 r.2.2).2.2]]
        [(1000009, .fo d (runL d.go rows (via told (kidsP (blkP l f) n r q))).1 true)] (.b (runL d.go rows (via told (kidsP (blkP l f) n r (q + 1)))).2)
        [(1000009, .fo d (runL d.go rows (via told (kidsP (blkP l f) n r (q + 1)))).1 (runL d.go rows (via told (kidsP (blkP l f) n r (q + 1)))).2)] := by
      rw [kids_next hc1]
      have hrq : Room (runL d.go rows (via told (kidsP (blkP l f) n r q))).1 (via told (kidP (blkP l f) n r q)) := by
        obtain ⟨ps, hps⟩ := kids_pre (blkP l f) n r (q + 1) n.kids.length (by omega)
        rw [hps, kidsP, via_app, via_app] at hro
        exact room_r d.go (room_l hro)
      exact gEdgeC hy hB (n.kids.getD q default).block hT hk hk2 (he q hq2).1 (he q hq2).2 (x := cut (rgN n q) r) (cut_le ⟨Nat.le_trans (rgN_le hp q).1 (by omega), Nat.le_trans (rgN_le hp q).2 (by omega)⟩ hx) hc (hf q hq2) _ hrq
    repeat' (first
    | apply AO.nil
    | (apply AO.kCall 101; refine AO.sCall (hg := gR) (h := ?_))
    | (apply AO.kCall 80; refine AO.sCall (hg := gC) (h := ?_))
    | (apply AO.kCall 151; refine AO.sCallF (hg := gE) (h := ?_))
    | (apply AO.kIx; first | refine AO.sIxN (h := ?_) | refine AO.sIx (h := ?_) | refine AO.sP (h := ?_) | refine AO.sPi (h := ?_))
    | (apply AO.kBox; refine AO.sBox (h := ?_))
    | (apply AO.kAlloc; refine AO.sAlloc (h := ?_))
    | (apply AO.kStore; first | refine AO.sStore (h := ?_) | refine AO.sStB (h := ?_))
    | (apply AO.kAdd; refine AO.sAdd (h := ?_))
    | (apply AO.kP; first | refine AO.sP (h := ?_) | refine AO.sPi (h := ?_) | refine AO.sLoadB (h := ?_))
    | apply AW.seq
    | (apply AW.kR; refine AW.sR (h := ?_))
    | apply AW.skip
    | apply AW.block
    | apply AW.out
    | (apply AW.kE; refine AW.sE (h := ?_))
    | apply AW.label
    | (apply AW.kRd; refine AW.sRd (h := ?_))
    | ((first | (apply AW.kC; refine AW.sC (h1 := fun h => ?_) (h2 := fun h => ?_))) <;> (try (first | exact Bool.noConfusion h | exact absurd h (by decide) | (simp at h; done) | (rw [h]; try simp only [nrm] at h; try rw [h]; try (exfalso; omega)) | skip)))
    | (apply AR.kAny; first | (apply AR.kCall 101; refine AR.sCall (hg := gR) (h := ?_)) | (apply AR.kCall 80; refine AR.sCall (hg := gC) (h := ?_)) | (apply AR.kCall 151; refine AR.sCallF (hg := gE) (h := ?_)) | (apply AR.kIx; first | refine AR.sIxN (h := ?_) | refine AR.sIx (h := ?_) | refine AR.sP (h := ?_) | refine AR.sPi (h := ?_)) | (apply AR.kBox; refine AR.sBox (h := ?_)) | (apply AR.kAlloc; refine AR.sAlloc (h := ?_)) | (apply AR.kStore; refine AR.sStore (h := ?_)) | (apply AR.kAdd; refine AR.sAdd (h := ?_)) | (apply AR.kP; first | refine AR.sP (h := ?_) | refine AR.sPi (h := ?_)))
    | (apply AR.kNil; refine AR.sNil (h := ?_)))
    all_goals first
      | (exfalso; omega)
      | (have h' : (runL d.go rows (via told (kidsP (blkP l f) n r (q + 1)))).2 = false := (by assumption)
         rw [kids_fail (by omega) h'] at hD
         exact AW.ret (hD rfl .refl (.cons .refl .nil)))
      | (have h' : (runL d.go rows (via told (kidsP (blkP l f) n r (q + 1)))).2 = true := (by assumption)
         exact ih (q + 1) _ ⟨by omega, h'⟩ (by omega) (by (constructor <;> (repeat' (first | exact LeT.nil | exact LeB.nil | apply LeT.cons | apply LeB.cons | exact Ol.refl | apply Lx.s | apply Lx.b | apply Lx.i | exact Lx.refl)) <;> (first | rfl | assumption | omega | (simp only [List.length_map, BS_len]; done) | skip))))
      | trace_state
  · obtain rfl : q = n.kids.length := by omega
    repeat' (first
    | apply AO.nil
    | (apply AO.kIx; first | refine AO.sIxN (h := ?_) | refine AO.sIx (h := ?_) | refine AO.sP (h := ?_) | refine AO.sPi (h := ?_))
    | (apply AO.kBox; refine AO.sBox (h := ?_))
    | (apply AO.kAlloc; refine AO.sAlloc (h := ?_))
    | (apply AO.kStore; first | refine AO.sStore (h := ?_) | refine AO.sStB (h := ?_))
    | (apply AO.kAdd; refine AO.sAdd (h := ?_))
    | (apply AO.kP; first | refine AO.sP (h := ?_) | refine AO.sPi (h := ?_) | refine AO.sLoadB (h := ?_))
    | apply AW.seq
    | (apply AW.kR; refine AW.sR (h := ?_))
    | apply AW.skip
    | apply AW.block
    | apply AW.out
    | (apply AW.kE; refine AW.sE (h := ?_))
    | apply AW.label
    | (apply AW.kRd; refine AW.sRd (h := ?_))
    | ((first | (apply AW.kC; refine AW.sC (h1 := fun h => ?_) (h2 := fun h => ?_))) <;> (try (first | exact Bool.noConfusion h | exact absurd h (by decide) | (simp at h; done) | (rw [h]; try simp only [nrm] at h; try rw [h]; try (exfalso; omega)) | skip)))
    | (apply AR.kAny; first | (apply AR.kIx; first | refine AR.sIxN (h := ?_) | refine AR.sIx (h := ?_) | refine AR.sP (h := ?_) | refine AR.sPi (h := ?_)) | (apply AR.kBox; refine AR.sBox (h := ?_)) | (apply AR.kAlloc; refine AR.sAlloc (h := ?_)) | (apply AR.kStore; refine AR.sStore (h := ?_)) | (apply AR.kAdd; refine AR.sAdd (h := ?_)) | (apply AR.kP; first | refine AR.sP (h := ?_) | refine AR.sPi (h := ?_)))
    | (apply AR.kNil; refine AR.sNil (h := ?_)))
    all_goals first
      | (exfalso; omega)
      | (rw [hc1] at hD
         exact AW.ret (hD rfl .refl (.cons .refl .nil)))
      | trace_state
end Go.Proofs.Ytocppeifkjdeiaa.Mv

/- Graphs: the teller of a buffer. Under no condition. -/
namespace Go.Proofs.Ytocppeifkjdeiaa.Mv
open Go Go.Proofs
set_option linter.unusedSimpArgs false
set_option linter.unusedVariables false
set_option maxRecDepth 10000
set_option maxHeartbeats 4000000
attribute [local irreducible] AW AO AR

theorem gBufC {d : Fo} (hy : Yields Try.prog d) {l : List Im} {f : Nat} (hB : BlkOk d l f) {T : AV} {told : L → Option L} {kb : Nat} (hT : Tl Try.prog d T told kb) (hk : 16 * (f + 1) ≤ kb) (hk2 : kb ≤ 900000) {n : Nd} (hs : n.small) (hI : innerOk n = true)
    {c : Nat} (h17 : 17 ≤ c) (hc : c + 32 * (f + 1) ≤ 100000) (hf : ∀ i, i < n.kids.length → fuel l (n.kids.getD i default).block f) (hf2 : ∀ i, i < n.buf.length → (n.buf.getD i default).kind = 3 → fuel l (n.buf.getD i default).block f) :
    ∀ (q : Nat), q ≤ n.buf.length → ∀ (r : Rg), r.le c → ∀ (rows : List (List AV)), Room rows (via told (bufP (blkP l f) n q r)) →
    Good Try.prog 143 [.agg [.sh 6 (l.map Im.av), .fv T], .agg n.av, .sh 6 ((n.buf.take q).map Ms.av), .agg [.s r.1, .s r.2.1, .b r.2.2]] [(1000009, .fo d rows true)] (.b (runL d.go rows (via told (bufP (blkP l f) n q r))).2)
      [(1000009, .fo d (runL d.go rows (via told (bufP (blkP l f) n q r))).1 (runL d.go rows (via told (bufP (blkP l f) n q r))).2)]
  | 0, hq, r, hr, rows, hro => by
    have gE := gEmpty r.1 r.2.1 r.2.2
    rw [List.take_zero, List.map_nil]
    rw [show bufP (blkP l f) n 0 r = if em r = true then [] else kidsP (blkP l f) n r n.kids.length from rfl] at hro ⊢
    cases he : em r with
    | true =>
      rw [if_pos rfl, via_nil, runL_nil]
      rw [show emR r.1 r.2.1 r.2.2 = true from he] at gE
      refine Good.wM tabOk mixed Try.func143 (N := 74) (by kernel_rfl) rfl (by (repeat (first | exact LE.nil | apply LE.cons)); done) (by (repeat (first | exact LE.nil | apply LE.cons)); done) (by exact rfl) fun D hD F => ?_
      repeat' (first
    | apply AO.nil
    | (apply AO.kCall 58; refine AO.sCall (hg := gE) (h := ?_))
    | (apply AO.kIx; first | refine AO.sIxN (h := ?_) | refine AO.sIx (h := ?_) | refine AO.sP (h := ?_) | refine AO.sPi (h := ?_))
    | (apply AO.kSl; first | refine AO.sSl (h := ?_) | refine AO.sSlArr (h := ?_) | refine AO.sP (h := ?_))
    | (apply AO.kBox; refine AO.sBox (h := ?_))
    | (apply AO.kAlloc; refine AO.sAlloc (h := ?_))
    | (apply AO.kStore; first | refine AO.sStore (h := ?_) | refine AO.sStB (h := ?_))
    | (apply AO.kSub; refine AO.sSub (h := ?_))
    | (apply AO.kP; first | refine AO.sP (h := ?_) | refine AO.sPi (h := ?_) | refine AO.sLoadB (h := ?_))
    | apply AW.seq
    | (apply AW.kR; refine AW.sR (h := ?_))
    | apply AW.skip
    | apply AW.block
    | apply AW.out
    | (apply AW.kE; refine AW.sE (h := ?_))
    | apply AW.label
    | (apply AW.kRd; refine AW.sRd (h := ?_))
    | ((first | (apply AO.kG; first | refine AO.sgt (h1 := fun h => ?_) (h2 := fun h => ?_) | refine AO.sgf (h1 := fun h => ?_) (h2 := fun h => ?_) | refine AO.sgs (h := ?_)) | (apply AW.kC; refine AW.sC (h1 := fun h => ?_) (h2 := fun h => ?_)) | (apply AR.kAny; apply AR.kG; first | refine AR.sgt (h1 := fun h => ?_) (h2 := fun h => ?_) | refine AR.sgf (h1 := fun h => ?_) (h2 := fun h => ?_) | refine AR.sgs (h := ?_))) <;> (try (first | exact Bool.noConfusion h | exact absurd h (by decide) | (simp at h; done) | (rw [h]; try simp only [nrm] at h; try rw [h]; try (exfalso; omega)) | skip)))
    | (apply AR.kAny; first | (apply AR.kCall 58; refine AR.sCall (hg := gE) (h := ?_)) | (apply AR.kIx; first | refine AR.sIxN (h := ?_) | refine AR.sIx (h := ?_) | refine AR.sP (h := ?_) | refine AR.sPi (h := ?_)) | (apply AR.kSl; first | refine AR.sSl (h := ?_) | refine AR.sSlArr (h := ?_) | refine AR.sP (h := ?_)) | (apply AR.kBox; refine AR.sBox (h := ?_)) | (apply AR.kAlloc; refine AR.sAlloc (h := ?_)) | (apply AR.kStore; refine AR.sStore (h := ?_)) | (apply AR.kSub; refine AR.sSub (h := ?_)) | (apply AR.kP; first | refine AR.sP (h := ?_) | refine AR.sPi (h := ?_)))
    | (apply AR.kNil; refine AR.sNil (h := ?_)))
      exact AW.ret (hD rfl .refl (.cons .refl .nil))
    | false =>
      rw [he, if_neg (by decide)] at hro
      rw [if_neg (by decide)]
      have gK := gKidsC hy hB hT hk hk2 hs hI hr h17 hc hf rows hro
      rw [show emR r.1 r.2.1 r.2.2 = false from he] at gE
      refine Good.wM tabOk mixed Try.func143 (N := 74) (by kernel_rfl) rfl (by (repeat (first | exact LE.nil | apply LE.cons)); done) (by (repeat (first | exact LE.nil | apply LE.cons)); done) (by exact rfl) fun D hD F => ?_
      repeat' (first
    | apply AO.nil
    | (apply AO.kCall 58; refine AO.sCall (hg := gE) (h := ?_))
    | (apply AO.kCall 149; refine AO.sCallF (hg := gK) (h := ?_))
    | (apply AO.kIx; first | refine AO.sIxN (h := ?_) | refine AO.sIx (h := ?_) | refine AO.sP (h := ?_) | refine AO.sPi (h := ?_))
    | (apply AO.kSl; first | refine AO.sSl (h := ?_) | refine AO.sSlArr (h := ?_) | refine AO.sP (h := ?_))
    | (apply AO.kBox; refine AO.sBox (h := ?_))
    | (apply AO.kAlloc; refine AO.sAlloc (h := ?_))
    | (apply AO.kStore; first | refine AO.sStore (h := ?_) | refine AO.sStB (h := ?_))
    | (apply AO.kSub; refine AO.sSub (h := ?_))
    | (apply AO.kP; first | refine AO.sP (h := ?_) | refine AO.sPi (h := ?_) | refine AO.sLoadB (h := ?_))
    | apply AW.seq
    | (apply AW.kR; refine AW.sR (h := ?_))
    | apply AW.skip
    | apply AW.block
    | apply AW.out
    | (apply AW.kE; refine AW.sE (h := ?_))
    | apply AW.label
    | (apply AW.kRd; refine AW.sRd (h := ?_))
    | ((first | (apply AO.kG; first | refine AO.sgt (h1 := fun h => ?_) (h2 := fun h => ?_) | refine AO.sgf (h1 := fun h => ?_) (h2 := fun h => ?_) | refine AO.sgs (h := ?_)) | (apply AW.kC; refine AW.sC (h1 := fun h => ?_) (h2 := fun h => ?_)) | (apply AR.kAny; apply AR.kG; first | refine AR.sgt (h1 := fun h => ?_) (h2 := fun h => ?_) | refine AR.sgf (h1 := fun h => ?_) (h2 := fun h => ?_) | refine AR.sgs (h := ?_))) <;> (try (first | exact Bool.noConfusion h | exact absurd h (by decide) | (simp at h; done) | (rw [h]; try simp only [nrm] at h; try rw [h]; try (exfalso; omega)) | skip)))
    | (apply AR.kAny; first | (apply AR.kCall 58; refine AR.sCall (hg := gE) (h := ?_)) | (apply AR.kCall 149; refine AR.sCallF (hg := gK) (h := ?_)) | (apply AR.kIx; first | refine AR.sIxN (h := ?_) | refine AR.sIx (h := ?_) | refine AR.sP (h := ?_) | refine AR.sPi (h := ?_)) | (apply AR.kSl; first | refine AR.sSl (h := ?_) | refine AR.sSlArr (h := ?_) | refine AR.sP (h := ?_)) | (apply AR.kBox; refine AR.sBox (h := ?_)) | (apply AR.kAlloc; refine AR.sAlloc (h := ?_)) | (apply AR.kStore; refine AR.sStore (h := ?_)) | (apply AR.kSub; refine AR.sSub (h := ?_)) | (apply AR.kP; first | refine AR.sP (h := ?_) | refine AR.sPi (h := ?_)))
    | (apply AR.kNil; refine AR.sNil (h := ?_)))
      exact AW.ret (hD rfl .refl (.cons .refl .nil))
  | q + 1, hq, r, hr, rows, hro => by
    have ih := gBufC hy hB hT hk hk2 hs hI h17 hc hf hf2 q (by omega)
    have hb := hs.buf
    have hm : msMay (n.buf.getD q default) = true := by
      have hI0 := hI
      simp only [innerOk, Bool.and_eq_true] at hI0
      refine List.all_eq_true.1 hI0.2 _ ?_
      rw [List.getD_eq_getElem?_getD, List.getElem?_eq_getElem (by omega)]; exact List.getElem_mem _
    have hmk : (n.buf.getD q default).key.length ≤ 16 := by
      unfold msMay at hm
      simp only [Bool.and_eq_true, decide_eq_true_eq] at hm
      exact hm.1
    have fm := hf2 q (by omega)
    have gE := gEmpty r.1 r.2.1 r.2.2
    obtain ⟨ms, hms⟩ : ∃ ms, n.buf.take (q + 1) = ms := ⟨_, rfl⟩
    have m1 : ms.length = q + 1 := by rw [← hms, List.length_take]; omega
    have m2 : ms.getD q default = n.buf.getD q default := by rw [← hms, List.getD_eq_getElem?_getD, List.getD_eq_getElem?_getD, List.getElem?_take, if_pos (by omega)]
    have m3 : ms.take q = n.buf.take q := by rw [← hms, List.take_take, Nat.min_eq_left (by omega)]
    have l1 : (ms.map Ms.av).length = q + 1 := by rw [List.length_map, m1]
    have z1 : (((ms.map Ms.av).length : Int) - 1).toNat = q := by rw [l1]; omega
    rw [hms]
    rw [show bufP (blkP l f) n (q + 1) r = if em r = true then [] else if em (cut (abS (n.buf.getD q default)) r) = true then bufP (blkP l f) n q r else
      bufP (blkP l f) n q (cut r ([], (cut (abS (n.buf.getD q default)) r).1, true)) ++ (msgP (blkP l f) (n.buf.getD q default) (cut (abS (n.buf.getD q default)) r) ++
        if (cut (abS (n.buf.getD q default)) r).2.2 = true then bufP (blkP l f) n q (cut r ((cut (abS (n.buf.getD q default)) r).2.1, [], false)) else []) from rfl] at hro ⊢
    generalize n.buf.getD q default = m at *
    cases he : em r with
    | true =>
      rw [if_pos rfl, via_nil, runL_nil]
      rw [show emR r.1 r.2.1 r.2.2 = true from he] at gE
      refine Good.wM tabOk mixed Try.func143 (N := 74) (by kernel_rfl) rfl (by (repeat (first | exact LE.nil | apply LE.cons)); done) (by (repeat (first | exact LE.nil | apply LE.cons)); done) (by exact rfl) fun D hD F => ?_
      repeat' (first
    | apply AO.nil
    | (apply AO.kCall 58; refine AO.sCall (hg := gE) (h := ?_))
    | (apply AO.kIx; first | refine AO.sIxN (h := ?_) | refine AO.sIx (h := ?_) | refine AO.sP (h := ?_) | refine AO.sPi (h := ?_))
    | (apply AO.kSl; first | refine AO.sSl (h := ?_) | refine AO.sSlArr (h := ?_) | refine AO.sP (h := ?_))
    | (apply AO.kBox; refine AO.sBox (h := ?_))
    | (apply AO.kAlloc; refine AO.sAlloc (h := ?_))
    | (apply AO.kStore; first | refine AO.sStore (h := ?_) | refine AO.sStB (h := ?_))
    | (apply AO.kSub; refine AO.sSub (h := ?_))
    | (apply AO.kP; first | refine AO.sP (h := ?_) | refine AO.sPi (h := ?_) | refine AO.sLoadB (h := ?_))
    | apply AW.seq
    | (apply AW.kR; refine AW.sR (h := ?_))
    | apply AW.skip
    | apply AW.block
    | apply AW.out
    | (apply AW.kE; refine AW.sE (h := ?_))
    | apply AW.label
    | (apply AW.kRd; refine AW.sRd (h := ?_))
    | ((first | (apply AO.kG; first | refine AO.sgt (h1 := fun h => ?_) (h2 := fun h => ?_) | refine AO.sgf (h1 := fun h => ?_) (h2 := fun h => ?_) | refine AO.sgs (h := ?_)) | (apply AW.kC; refine AW.sC (h1 := fun h => ?_) (h2 := fun h => ?_)) | (apply AR.kAny; apply AR.kG; first | refine AR.sgt (h1 := fun h => ?_) (h2 := fun h => ?_) | refine AR.sgf (h1 := fun h => ?_) (h2 := fun h => ?_) | refine AR.sgs (h := ?_))) <;> (try (first | exact Bool.noConfusion h | exact absurd h (by decide) | (simp at h; done) | (rw [h]; try simp only [nrm] at h; try rw [h]; try (exfalso; omega)) | skip)))
    | (apply AR.kAny; first | (apply AR.kCall 58; refine AR.sCall (hg := gE) (h := ?_)) | (apply AR.kIx; first | refine AR.sIxN (h := ?_) | refine AR.sIx (h := ?_) | refine AR.sP (h := ?_) | refine AR.sPi (h := ?_)) | (apply AR.kSl; first | refine AR.sSl (h := ?_) | refine AR.sSlArr (h := ?_) | refine AR.sP (h := ?_)) | (apply AR.kBox; refine AR.sBox (h := ?_)) | (apply AR.kAlloc; refine AR.sAlloc (h := ?_)) | (apply AR.kStore; refine AR.sStore (h := ?_)) | (apply AR.kSub; refine AR.sSub (h := ?_)) | (apply AR.kP; first | refine AR.sP (h := ?_) | refine AR.sPi (h := ?_)))
    | (apply AR.kNil; refine AR.sNil (h := ?_)))
      exact AW.ret (hD rfl .refl (.cons .refl .nil))
    | false =>
      rw [if_neg (by decide)]
      rw [show emR r.1 r.2.1 r.2.2 = false from he] at gE
      have gA := gAbout m (by omega)
      have gC := gCutS (abS m).1 (abS m).2.1 (abS m).2.2 r.1 r.2.1 r.2.2
      have gEx := gEmpty (cS (abS m).1 (abS m).2.1 (abS m).2.2 r.1 r.2.1 r.2.2).1 (cS (abS m).1 (abS m).2.1 (abS m).2.2 r.1 r.2.1 r.2.2).2.1 (cS (abS m).1 (abS m).2.1 (abS m).2.2 r.1 r.2.1 r.2.2).2.2
      cases hx : em (cut (abS m) r) with
      | true =>
        rw [he, hx, if_neg (by decide), if_pos rfl] at hro
        rw [if_pos rfl]
        rw [show emR (cS (abS m).1 (abS m).2.1 (abS m).2.2 r.1 r.2.1 r.2.2).1 (cS (abS m).1 (abS m).2.1 (abS m).2.2 r.1 r.2.1 r.2.2).2.1 (cS (abS m).1 (abS m).2.1 (abS m).2.2 r.1 r.2.1 r.2.2).2.2 = true from hx] at gEx
        have g1 := ih r hr rows hro
        rw [← m3] at g1
        refine Good.wM tabOk mixed Try.func143 (N := 74) (by kernel_rfl) rfl (by (repeat (first | exact LE.nil | apply LE.cons)); done) (by (repeat (first | exact LE.nil | apply LE.cons)); done) (by exact rfl) fun D hD F => ?_
        repeat' (first
    | apply AO.nil
    | (apply AO.kCall 58; refine AO.sCall (hg := gE) (h := ?_))
    | (apply AO.kIx; first | refine AO.sIxN (h := ?_) | refine AO.sIx (h := ?_) | refine AO.sP (h := ?_) | refine AO.sPi (h := ?_))
    | (apply AO.kSl; first | refine AO.sSl (h := ?_) | refine AO.sSlArr (h := ?_) | refine AO.sP (h := ?_))
    | (apply AO.kBox; refine AO.sBox (h := ?_))
    | (apply AO.kAlloc; refine AO.sAlloc (h := ?_))
    | (apply AO.kStore; first | refine AO.sStore (h := ?_) | refine AO.sStB (h := ?_))
    | (apply AO.kSub; refine AO.sSub (h := ?_))
    | (apply AO.kP; first | refine AO.sP (h := ?_) | refine AO.sPi (h := ?_) | refine AO.sLoadB (h := ?_))
    | apply AW.seq
    | (apply AW.kR; refine AW.sR (h := ?_))
    | apply AW.skip
    | apply AW.block
    | apply AW.out
    | (apply AW.kE; refine AW.sE (h := ?_))
    | apply AW.label
    | (apply AW.kRd; refine AW.sRd (h := ?_))
    | ((first | (apply AO.kG; first | refine AO.sgt (h1 := fun h => ?_) (h2 := fun h => ?_) | refine AO.sgf (h1 := fun h => ?_) (h2 := fun h => ?_) | refine AO.sgs (h := ?_)) | (apply AW.kC; refine AW.sC (h1 := fun h => ?_) (h2 := fun h => ?_)) | (apply AR.kAny; apply AR.kG; first | refine AR.sgt (h1 := fun h => ?_) (h2 := fun h => ?_) | refine AR.sgf (h1 := fun h => ?_) (h2 := fun h => ?_) | refine AR.sgs (h := ?_))) <;> (try (first | exact Bool.noConfusion h | exact absurd h (by decide) | (simp at h; done) | (rw [h]; try simp only [nrm] at h; try rw [h]; try (exfalso; omega)) | skip)))
    | (apply AR.kAny; first | (apply AR.kCall 58; refine AR.sCall (hg := gE) (h := ?_)) | (apply AR.kIx; first | refine AR.sIxN (h := ?_) | refine AR.sIx (h := ?_) | refine AR.sP (h := ?_) | refine AR.sPi (h := ?_)) | (apply AR.kSl; first | refine AR.sSl (h := ?_) | refine AR.sSlArr (h := ?_) | refine AR.sP (h := ?_)) | (apply AR.kBox; refine AR.sBox (h := ?_)) | (apply AR.kAlloc; refine AR.sAlloc (h := ?_)) | (apply AR.kStore; refine AR.sStore (h := ?_)) | (apply AR.kSub; refine AR.sSub (h := ?_)) | (apply AR.kP; first | refine AR.sP (h := ?_) | refine AR.sPi (h := ?_)))
    | (apply AR.kNil; refine AR.sNil (h := ?_)))
        all_goals first | (exfalso; rw [l1] at h; omega) | skip
        rw [z1, m2]
        repeat' (first
    | apply AO.nil
    | (apply AO.kCall 103; refine AO.sCall (hg := gA) (h := ?_))
    | (apply AO.kCall 80; refine AO.sCall (hg := gC) (h := ?_))
    | (apply AO.kCall 58; refine AO.sCall (hg := gEx) (h := ?_))
    | (apply AO.kCall 143; refine AO.sCallF (hg := g1) (h := ?_))
    | (apply AO.kIx; first | refine AO.sIxN (h := ?_) | refine AO.sIx (h := ?_) | refine AO.sP (h := ?_) | refine AO.sPi (h := ?_))
    | (apply AO.kSl; first | refine AO.sSl (h := ?_) | refine AO.sSlArr (h := ?_) | refine AO.sP (h := ?_))
    | (apply AO.kBox; refine AO.sBox (h := ?_))
    | (apply AO.kAlloc; refine AO.sAlloc (h := ?_))
    | (apply AO.kStore; first | refine AO.sStore (h := ?_) | refine AO.sStB (h := ?_))
    | (apply AO.kSub; refine AO.sSub (h := ?_))
    | (apply AO.kP; first | refine AO.sP (h := ?_) | refine AO.sPi (h := ?_) | refine AO.sLoadB (h := ?_))
    | apply AW.seq
    | (apply AW.kR; refine AW.sR (h := ?_))
    | apply AW.skip
    | apply AW.block
    | apply AW.out
    | (apply AW.kE; refine AW.sE (h := ?_))
    | apply AW.label
    | (apply AW.kRd; refine AW.sRd (h := ?_))
    | ((first | (apply AO.kG; first | refine AO.sgt (h1 := fun h => ?_) (h2 := fun h => ?_) | refine AO.sgf (h1 := fun h => ?_) (h2 := fun h => ?_) | refine AO.sgs (h := ?_)) | (apply AW.kC; refine AW.sC (h1 := fun h => ?_) (h2 := fun h => ?_)) | (apply AR.kAny; apply AR.kG; first | refine AR.sgt (h1 := fun h => ?_) (h2 := fun h => ?_) | refine AR.sgf (h1 := fun h => ?_) (h2 := fun h => ?_) | refine AR.sgs (h := ?_))) <;> (try (first | exact Bool.noConfusion h | exact absurd h (by decide) | (simp at h; done) | (rw [h]; try simp only [nrm] at h; try rw [h]; try (exfalso; omega)) | skip)))
    | (apply AR.kAny; first | (apply AR.kCall 103; refine AR.sCall (hg := gA) (h := ?_)) | (apply AR.kCall 80; refine AR.sCall (hg := gC) (h := ?_)) | (apply AR.kCall 58; refine AR.sCall (hg := gEx) (h := ?_)) | (apply AR.kCall 143; refine AR.sCallF (hg := g1) (h := ?_)) | (apply AR.kIx; first | refine AR.sIxN (h := ?_) | refine AR.sIx (h := ?_) | refine AR.sP (h := ?_) | refine AR.sPi (h := ?_)) | (apply AR.kSl; first | refine AR.sSl (h := ?_) | refine AR.sSlArr (h := ?_) | refine AR.sP (h := ?_)) | (apply AR.kBox; refine AR.sBox (h := ?_)) | (apply AR.kAlloc; refine AR.sAlloc (h := ?_)) | (apply AR.kStore; refine AR.sStore (h := ?_)) | (apply AR.kSub; refine AR.sSub (h := ?_)) | (apply AR.kP; first | refine AR.sP (h := ?_) | refine AR.sPi (h := ?_)))
    | (apply AR.kNil; refine AR.sNil (h := ?_)))
        all_goals exact AW.ret (hD rfl .refl (.cons .refl .nil))
      | false =>
        rw [he, hx, if_neg (by decide), if_neg (by decide), via_app, via_app] at hro
        rw [if_neg (by decide)]
        rw [show emR (cS (abS m).1 (abS m).2.1 (abS m).2.2 r.1 r.2.1 r.2.2).1 (cS (abS m).1 (abS m).2.1 (abS m).2.2 r.1 r.2.1 r.2.2).2.1 (cS (abS m).1 (abS m).2.1 (abS m).2.2 r.1 r.2.1 r.2.2).2.2 = false from hx] at gEx
        have xl : (cut (abS m) r).le c := cut_le ⟨Nat.le_trans (abS_le hmk).1 (by omega), Nat.le_trans (abS_le hmk).2 (by omega)⟩ hr
        have hA : (cut r ([], (cut (abS m) r).1, true)).le c := cut_le hr ⟨by simp, xl.1⟩
        have hC : (cut r ((cut (abS m) r).2.1, [], false)).le c := cut_le hr ⟨xl.2, by simp⟩
        have hro2 := room_r d.go hro
        have g3 := gMsgC hy hB hT hk hk2 hm xl hc fm _ (room_l hro2)
        have hroA := room_l hro
        have hroC : (cut (abS m) r).2.2 = true → Room (runL d.go (runL d.go rows (via told (bufP (blkP l f) n q (cut r ([], (cut (abS m) r).1, true))))).1 (via told (msgP (blkP l f) m (cut (abS m) r)))).1 (via told (bufP (blkP l f) n q (cut r ((cut (abS m) r).2.1, [], false)))) := fun e => by
          have hro4 := room_r d.go hro2
          rw [if_pos e] at hro4; exact hro4
        rw [← m3] at ih
        rw [via_app, via_app]
        rw [show via told (if (cut (abS m) r).2.2 = true then bufP (blkP l f) n q (cut r ((cut (abS m) r).2.1, [], false)) else []) = if (cut (abS m) r).2.2 = true then via told (bufP (blkP l f) n q (cut r ((cut (abS m) r).2.1, [], false))) else [] by split <;> rfl]
        refine Good.wM tabOk mixed Try.func143 (N := 74) (by kernel_rfl) rfl (by (repeat (first | exact LE.nil | apply LE.cons)); done) (by (repeat (first | exact LE.nil | apply LE.cons)); done) (by exact rfl) fun D hD F => ?_
        repeat' (first
    | apply AO.nil
    | (apply AO.kCall 58; refine AO.sCall (hg := gE) (h := ?_))
    | (apply AO.kIx; first | refine AO.sIxN (h := ?_) | refine AO.sIx (h := ?_) | refine AO.sP (h := ?_) | refine AO.sPi (h := ?_))
    | (apply AO.kSl; first | refine AO.sSl (h := ?_) | refine AO.sSlArr (h := ?_) | refine AO.sP (h := ?_))
    | (apply AO.kBox; refine AO.sBox (h := ?_))
    | (apply AO.kAlloc; refine AO.sAlloc (h := ?_))
    | (apply AO.kStore; first | refine AO.sStore (h := ?_) | refine AO.sStB (h := ?_))
    | (apply AO.kSub; refine AO.sSub (h := ?_))
    | (apply AO.kP; first | refine AO.sP (h := ?_) | refine AO.sPi (h := ?_) | refine AO.sLoadB (h := ?_))
    | apply AW.seq
    | (apply AW.kR; refine AW.sR (h := ?_))
    | apply AW.skip
    | apply AW.block
    | apply AW.out
    | (apply AW.kE; refine AW.sE (h := ?_))
    | apply AW.label
    | (apply AW.kRd; refine AW.sRd (h := ?_))
    | ((first | (apply AO.kG; first | refine AO.sgt (h1 := fun h => ?_) (h2 := fun h => ?_) | refine AO.sgf (h1 := fun h => ?_) (h2 := fun h => ?_) | refine AO.sgs (h := ?_)) | (apply AW.kC; refine AW.sC (h1 := fun h => ?_) (h2 := fun h => ?_)) | (apply AR.kAny; apply AR.kG; first | refine AR.sgt (h1 := fun h => ?_) (h2 := fun h => ?_) | refine AR.sgf (h1 := fun h => ?_) (h2 := fun h => ?_) | refine AR.sgs (h := ?_))) <;> (try (first | exact Bool.noConfusion h | exact absurd h (by decide) | (simp at h; done) | (rw [h]; try simp only [nrm] at h; try rw [h]; try (exfalso; omega)) | skip)))
    | (apply AR.kAny; first | (apply AR.kCall 58; refine AR.sCall (hg := gE) (h := ?_)) | (apply AR.kIx; first | refine AR.sIxN (h := ?_) | refine AR.sIx (h := ?_) | refine AR.sP (h := ?_) | refine AR.sPi (h := ?_)) | (apply AR.kSl; first | refine AR.sSl (h := ?_) | refine AR.sSlArr (h := ?_) | refine AR.sP (h := ?_)) | (apply AR.kBox; refine AR.sBox (h := ?_)) | (apply AR.kAlloc; refine AR.sAlloc (h := ?_)) | (apply AR.kStore; refine AR.sStore (h := ?_)) | (apply AR.kSub; refine AR.sSub (h := ?_)) | (apply AR.kP; first | refine AR.sP (h := ?_) | refine AR.sPi (h := ?_)))
    | (apply AR.kNil; refine AR.sNil (h := ?_)))
        all_goals first | (exfalso; rw [l1] at h; omega) | skip
        rw [z1, m2]
        repeat' (first
    | apply AO.nil
    | (apply AO.kCall 103; refine AO.sCall (hg := gA) (h := ?_))
    | (apply AO.kCall 80; refine AO.sCall (hg := (gCutS _ _ _ _ _ _)) (h := ?_))
    | (apply AO.kCall 58; refine AO.sCall (hg := gEx) (h := ?_))
    | (apply AO.kCall 143; refine AO.sCallF (hg := (ih _ (by first | exact hA | exact hC | exact hroA | exact hroC (by assumption)) _ (by first | exact hA | exact hC | exact hroA | exact hroC (by assumption)))) (h := ?_))
    | (apply AO.kCall 150; refine AO.sCallF (hg := g3) (h := ?_))
    | (apply AO.kIx; first | refine AO.sIxN (hm := by first | exact hA | exact hC | exact hroA | exact hroC (by assumption)) (h := ?_) | refine AO.sIx (hm := by first | exact hA | exact hC | exact hroA | exact hroC (by assumption)) (h := ?_) | refine AO.sP (h := ?_) | refine AO.sPi (hq := by first | exact hA | exact hC | exact hroA | exact hroC (by assumption)) (h := ?_))
    | (apply AO.kSl; first | refine AO.sSl (hq := by first | exact hA | exact hC | exact hroA | exact hroC (by assumption)) (h := ?_) | refine AO.sSlArr (h := ?_) | refine AO.sP (h := ?_))
    | (apply AO.kBox; refine AO.sBox (h := ?_))
    | (apply AO.kAlloc; refine AO.sAlloc (h := ?_))
    | (apply AO.kStore; first | refine AO.sStore (h := ?_) | refine AO.sStB (ho := by first | exact hA | exact hC | exact hroA | exact hroC (by assumption)) (h := ?_))
    | (apply AO.kSub; refine AO.sSub (hr := by first | exact hA | exact hC | exact hroA | exact hroC (by assumption)) (h := ?_))
    | (apply AO.kP; first | refine AO.sP (h := ?_) | refine AO.sPi (hq := by first | exact hA | exact hC | exact hroA | exact hroC (by assumption)) (h := ?_) | refine AO.sLoadB (ho := by first | exact hA | exact hC | exact hroA | exact hroC (by assumption)) (h := ?_))
    | apply AW.seq
    | (apply AW.kR; refine AW.sR (h := ?_))
    | apply AW.skip
    | apply AW.block
    | apply AW.out
    | (apply AW.kE; refine AW.sE (h := ?_))
    | apply AW.label
    | (apply AW.kRd; refine AW.sRd (h := ?_))
    | ((first | (apply AO.kG; first | refine AO.sgt (h1 := fun h => ?_) (h2 := fun h => ?_) | refine AO.sgf (h1 := fun h => ?_) (h2 := fun h => ?_) | refine AO.sgs (h := ?_)) | (apply AW.kC; refine AW.sC (h1 := fun h => ?_) (h2 := fun h => ?_)) | (apply AR.kAny; apply AR.kG; first | refine AR.sgt (h1 := fun h => ?_) (h2 := fun h => ?_) | refine AR.sgf (h1 := fun h => ?_) (h2 := fun h => ?_) | refine AR.sgs (h := ?_))) <;> (try (first | exact Bool.noConfusion h | exact absurd h (by decide) | (simp at h; done) | (rw [h]; try simp only [nrm] at h; try rw [h]; try (exfalso; omega)) | skip)))
    | (apply AR.kAny; first | (apply AR.kCall 103; refine AR.sCall (hg := gA) (h := ?_)) | (apply AR.kCall 80; refine AR.sCall (hg := (gCutS _ _ _ _ _ _)) (h := ?_)) | (apply AR.kCall 58; refine AR.sCall (hg := gEx) (h := ?_)) | (apply AR.kCall 143; refine AR.sCallF (hg := (ih _ (by first | exact hA | exact hC | exact hroA | exact hroC (by assumption)) _ (by first | exact hA | exact hC | exact hroA | exact hroC (by assumption)))) (h := ?_)) | (apply AR.kCall 150; refine AR.sCallF (hg := g3) (h := ?_)) | (apply AR.kIx; first | refine AR.sIxN (hm := by first | exact hA | exact hC | exact hroA | exact hroC (by assumption)) (h := ?_) | refine AR.sIx (hm := by first | exact hA | exact hC | exact hroA | exact hroC (by assumption)) (h := ?_) | refine AR.sP (h := ?_) | refine AR.sPi (hq := by first | exact hA | exact hC | exact hroA | exact hroC (by assumption)) (h := ?_)) | (apply AR.kSl; first | refine AR.sSl (hq := by first | exact hA | exact hC | exact hroA | exact hroC (by assumption)) (h := ?_) | refine AR.sSlArr (h := ?_) | refine AR.sP (h := ?_)) | (apply AR.kBox; refine AR.sBox (h := ?_)) | (apply AR.kAlloc; refine AR.sAlloc (h := ?_)) | (apply AR.kStore; refine AR.sStore (h := ?_)) | (apply AR.kSub; refine AR.sSub (hr := by first | exact hA | exact hC | exact hroA | exact hroC (by assumption)) (h := ?_)) | (apply AR.kP; first | refine AR.sP (h := ?_) | refine AR.sPi (hq := by first | exact hA | exact hC | exact hroA | exact hroC (by assumption)) (h := ?_)))
    | (apply AR.kNil; refine AR.sNil (h := ?_)))
        · have h2 : (runL d.go rows (via told (bufP (blkP l f) n q (cut r ([], (cut (abS m) r).1, true))))).2 = true := by assumption
          have h3 : (runL d.go (runL d.go rows (via told (bufP (blkP l f) n q (cut r ([], (cut (abS m) r).1, true))))).1 (via told (msgP (blkP l f) m (cut (abS m) r)))).2 = false := by assumption
          rw [runL_app1 h2, runL_app0 h3] at hD
          exact AW.ret (hD rfl .refl (.cons .refl .nil))
        · have h2 : (runL d.go rows (via told (bufP (blkP l f) n q (cut r ([], (cut (abS m) r).1, true))))).2 = true := by assumption
          have h3 : (runL d.go (runL d.go rows (via told (bufP (blkP l f) n q (cut r ([], (cut (abS m) r).1, true))))).1 (via told (msgP (blkP l f) m (cut (abS m) r)))).2 = true := by assumption
          have h4 : (cut (abS m) r).2.2 = true := by assumption
          rw [runL_app1 h2, runL_app1 h3, if_pos h4] at hD
          exact AW.ret (hD rfl .refl (.cons .refl .nil))
        · have h2 : (runL d.go rows (via told (bufP (blkP l f) n q (cut r ([], (cut (abS m) r).1, true))))).2 = true := by assumption
          have h3 : (runL d.go (runL d.go rows (via told (bufP (blkP l f) n q (cut r ([], (cut (abS m) r).1, true))))).1 (via told (msgP (blkP l f) m (cut (abS m) r)))).2 = true := by assumption
          have h4 : (cut (abS m) r).2.2 = false := by assumption
          rw [runL_app1 h2, runL_app1 h3, if_neg (by rw [h4]; decide), runL_nil] at hD
          exact AW.ret (hD rfl .refl (.cons .refl .nil))
        · have h2 : (runL d.go rows (via told (bufP (blkP l f) n q (cut r ([], (cut (abS m) r).1, true))))).2 = false := by assumption
          rw [runL_app0 h2] at hD
          exact AW.ret (hD rfl .refl (.cons .refl .nil))
end Go.Proofs.Ytocppeifkjdeiaa.Mv

/- Graphs: the teller of a block. Under no condition. -/
namespace Go.Proofs.Ytocppeifkjdeiaa.Mv
open Go Go.Proofs
set_option linter.unusedSimpArgs false
set_option linter.unusedVariables false
set_option maxRecDepth 10000
set_option maxHeartbeats 4000000
attribute [local irreducible] AW AO AR

theorem gBlkNone {d : Fo} {l : List Im} (hl : Ims l) {b : B32} (hn : fnd l b = none) (T : AV) (r : Rg) (rows : List (List AV)) :
    Good Try.prog 119 [.agg [.sh 6 (l.map Im.av), .fv T], .i .u32 b.toNat, .agg [.s r.1, .s r.2.1, .b r.2.2]] [(1000009, .fo d rows true)] (.b true) [(1000009, .fo d rows true)] := by
  have gF := gFindG l b hl.len hl.small
  rw [hn] at gF
  have gF : Good Try.prog 82 [.sh 6 (l.map Im.av), .i .u32 b.toNat] [] (.tup [.agg ndE.av, .b false]) [] := gF
  refine Good.wM tabOk mixed Try.func119 (N := 52) (by kernel_rfl) rfl (by (repeat (first | exact LE.nil | apply LE.cons)); done) (by (repeat (first | exact LE.nil | apply LE.cons)); done) (by exact rfl) fun D hD F => ?_
  repeat' (first
    | apply AO.nil
    | (apply AO.kCall 82; refine AO.sCall (hg := gF) (h := ?_))
    | (apply AO.kIx; first | refine AO.sIxN (h := ?_) | refine AO.sIx (h := ?_) | refine AO.sP (h := ?_) | refine AO.sPi (h := ?_))
    | (apply AO.kBox; refine AO.sBox (h := ?_))
    | (apply AO.kAlloc; refine AO.sAlloc (h := ?_))
    | (apply AO.kStore; first | refine AO.sStore (h := ?_) | refine AO.sStB (h := ?_))
    | (apply AO.kAdd; refine AO.sAdd (h := ?_))
    | (apply AO.kP; first | refine AO.sP (h := ?_) | refine AO.sPi (h := ?_) | refine AO.sLoadB (h := ?_))
    | apply AW.seq
    | (apply AW.kR; refine AW.sR (h := ?_))
    | apply AW.skip
    | apply AW.block
    | apply AW.out
    | (apply AW.kE; refine AW.sE (h := ?_))
    | apply AW.label
    | ((first | (apply AO.kG; first | refine AO.sgt (h1 := fun h => ?_) (h2 := fun h => ?_) | refine AO.sgf (h1 := fun h => ?_) (h2 := fun h => ?_) | refine AO.sgs (h := ?_)) | (apply AW.kC; refine AW.sC (h1 := fun h => ?_) (h2 := fun h => ?_))) <;> (try (first | exact Bool.noConfusion h | exact absurd h (by decide) | (simp at h; done) | (rw [h]; try simp only [nrm] at h; try rw [h]; try (exfalso; omega)) | skip))))
  all_goals exact AW.ret (hD rfl .refl (.cons .refl .nil))
def toldQ (n : Nd) (r : Rg) (q : Nat) : List Pr := (n.pairs.take q).filter fun p => inn r p.k
theorem told_all (n : Nd) (r : Rg) : n.pairs.filter (fun p => inn r p.k) = toldQ n r n.pairs.length := by rw [toldQ, List.take_length]
theorem told_next {n : Nd} {r : Rg} {q : Nat} (hq : q < n.pairs.length) : toldQ n r (q + 1) = toldQ n r q ++ if inn r (n.pairs.getD q default).k = true then [n.pairs.getD q default] else [] := by
  rw [toldQ, takeD hq, List.filter_append, List.filter_cons, List.filter_nil]; rfl
theorem told_pre (n : Nd) (r : Rg) (q : Nat) : ∃ ps, n.pairs.filter (fun p => inn r p.k) = toldQ n r q ++ ps := ⟨(n.pairs.drop q).filter fun p => inn r p.k, by rw [toldQ, ← List.filter_append, List.take_append_drop]⟩
theorem gBlkLeaf {d : Fo} (hy : Yields Try.prog d) {l : List Im} (hl : Ims l) {b : B32} {n : Nd} (hn : fnd l b = some n) (h0 : mayN n = 0) (hlf : n.leaf = true) {T : AV} {told : L → Option L} {kb : Nat} (hT : Tl Try.prog d T told kb) (hk : 16 ≤ kb) (r : Rg) (he : em r = false) (rows : List (List AV)) (hro : Room rows (via told (n.pairs.filter fun p => inn r p.k))) :
    Good Try.prog 119 [.agg [.sh 6 (l.map Im.av), .fv T], .i .u32 b.toNat, .agg [.s r.1, .s r.2.1, .b r.2.2]] [(1000009, .fo d rows true)] (.b (runL d.go rows (via told (n.pairs.filter fun p => inn r p.k))).2)
      [(1000009, .fo d (runL d.go rows (via told (n.pairs.filter fun p => inn r p.k))).1 (runL d.go rows (via told (n.pairs.filter fun p => inn r p.k))).2)] := by
  have gF := gFindG l b hl.len hl.small
  rw [hn] at gF
  have gF : Good Try.prog 82 [.sh 6 (l.map Im.av), .i .u32 b.toNat] [] (.tup [.agg n.av, .b true]) [] := gF
  have gE := gEmpty r.1 r.2.1 r.2.2
  rw [show emR r.1 r.2.1 r.2.2 = false from he] at gE
  have hs := (hl.fnd hn).pairs
  have l1 : (n.pairs.map Pr.av).length = n.pairs.length := by simp
  have hp := (leaf_parts (may_leaf h0 hlf)).2
  have hkq : ∀ q, q < n.pairs.length → (n.pairs.getD q default).k.length ≤ kb := fun q hq => by
    have hm : n.pairs.getD q default ∈ n.pairs := by rw [List.getD_eq_getElem?_getD, List.getElem?_eq_getElem hq]; exact List.getElem_mem _
    have := List.all_eq_true.1 hp _ hm
    simp only [prLen, Bool.and_eq_true, decide_eq_true_eq] at this
    omega
  obtain ⟨leaf, pairs, pivots, kids, buf⟩ := n
  dsimp only at hlf hs l1 hkq
  subst hlf
  refine Good.wM tabOk mixed Try.func119 (N := 52) (by kernel_rfl) rfl (by (repeat (first | exact LE.nil | apply LE.cons)); done) (by (repeat (first | exact LE.nil | apply LE.cons)); done) (by exact rfl) fun D hD F => ?_
  repeat' (first
    | apply AO.nil
    | (apply AO.kCall 82; refine AO.sCall (hg := gF) (h := ?_))
    | (apply AO.kCall 58; refine AO.sCall (hg := gE) (h := ?_))
    | (apply AO.kIx; first | refine AO.sIxN (h := ?_) | refine AO.sIx (h := ?_) | refine AO.sP (h := ?_) | refine AO.sPi (h := ?_))
    | (apply AO.kBox; refine AO.sBox (h := ?_))
    | (apply AO.kAlloc; refine AO.sAlloc (h := ?_))
    | (apply AO.kStore; first | refine AO.sStore (h := ?_) | refine AO.sStB (h := ?_))
    | (apply AO.kAdd; refine AO.sAdd (h := ?_))
    | (apply AO.kP; first | refine AO.sP (h := ?_) | refine AO.sPi (h := ?_) | refine AO.sLoadB (h := ?_))
    | apply AW.seq
    | (apply AW.kR; refine AW.sR (h := ?_))
    | apply AW.skip
    | apply AW.block
    | apply AW.out
    | (apply AW.kE; refine AW.sE (h := ?_))
    | apply AW.label
    | ((first | (apply AO.kG; first | refine AO.sgt (h1 := fun h => ?_) (h2 := fun h => ?_) | refine AO.sgf (h1 := fun h => ?_) (h2 := fun h => ?_) | refine AO.sgs (h := ?_)) | (apply AW.kC; refine AW.sC (h1 := fun h => ?_) (h2 := fun h => ?_))) <;> (try (first | exact Bool.noConfusion h | exact absurd h (by decide) | (simp at h; done) | (rw [h]; try simp only [nrm] at h; try rw [h]; try (exfalso; omega)) | skip))))
  refine AW.loopI (fun q : Nat => q ≤ pairs.length ∧ (runL d.go rows (via told (toldQ ⟨true, pairs, pivots, kids, buf⟩ r q))).2 = true) (fun q => ⟨[(3, .ptr 3 0), (5, .ptr 5 0), (34, .sh 2 (pairs.map Pr.av)), (35, .i .i64 pairs.length), (36, .i .i64 q)], [(3, .bx [.sh 6 (l.map Im.av), .fv T]), (5, .bx [.s r.1, .s r.2.1, .b r.2.2]), (1000009, .fo d (runL d.go rows (via told (toldQ ⟨true, pairs, pivots, kids, buf⟩ r q))).1 true)]⟩) (fun q => pairs.length - q) 0 ⟨by omega, rfl⟩ (by (constructor <;> (repeat' (first | exact LeT.nil | exact LeB.nil | apply LeT.cons | apply LeB.cons | exact Ol.refl | apply Lx.s | apply Lx.b | apply Lx.i | exact Lx.refl)) <;> (first | rfl | assumption | omega | (simp only [List.length_map, BS_len]; done) | skip))) fun m q ⟨hq, hc1⟩ ih => ?_
  by_cases hq2 : q < pairs.length
  · have gI := gIn r.1 r.2.1 r.2.2 (pairs.getD q default).k
    have ht := tell_run d told (runL d.go rows (via told (toldQ ⟨true, pairs, pivots, kids, buf⟩ r q))).1 (pairs.getD q default)
    have hu := hkq q hq2
    have hnx := told_next (n := ⟨true, pairs, pivots, kids, buf⟩) (r := r) hq2
    dsimp only at hnx
    cases hi : inn r (pairs.getD q default).k with
    | false =>
      rw [show inR r.1 r.2.1 r.2.2 (pairs.getD q default).k = false from hi] at gI
      rw [hi, if_neg (by decide), List.append_nil] at hnx
      repeat' (first
    | apply AO.nil
    | (apply AO.kCall 60; refine AO.sCall (hg := gI) (h := ?_))
    | (apply AO.kIx; first | refine AO.sIxN (h := ?_) | refine AO.sIx (h := ?_) | refine AO.sP (h := ?_) | refine AO.sPi (h := ?_))
    | (apply AO.kBox; refine AO.sBox (h := ?_))
    | (apply AO.kAlloc; refine AO.sAlloc (h := ?_))
    | (apply AO.kStore; first | refine AO.sStore (h := ?_) | refine AO.sStB (h := ?_))
    | (apply AO.kAdd; refine AO.sAdd (h := ?_))
    | (apply AO.kP; first | refine AO.sP (h := ?_) | refine AO.sPi (h := ?_) | refine AO.sLoadB (h := ?_))
    | apply AW.seq
    | (apply AW.kR; refine AW.sR (h := ?_))
    | apply AW.skip
    | apply AW.block
    | apply AW.out
    | (apply AW.kE; refine AW.sE (h := ?_))
    | apply AW.label
    | ((first | (apply AO.kG; first | refine AO.sgt (h1 := fun h => ?_) (h2 := fun h => ?_) | refine AO.sgf (h1 := fun h => ?_) (h2 := fun h => ?_) | refine AO.sgs (h := ?_)) | (apply AW.kC; refine AW.sC (h1 := fun h => ?_) (h2 := fun h => ?_))) <;> (try (first | exact Bool.noConfusion h | exact absurd h (by decide) | (simp at h; done) | (rw [h]; try simp only [nrm] at h; try rw [h]; try (exfalso; omega)) | skip))))
      all_goals first
        | (exfalso; omega)
        | exact ih (q + 1) _ ⟨by omega, by rw [hnx]; exact hc1⟩ (by omega) (by rw [hnx]; (constructor <;> (repeat' (first | exact LeT.nil | exact LeB.nil | apply LeT.cons | apply LeB.cons | exact Ol.refl | apply Lx.s | apply Lx.b | apply Lx.i | exact Lx.refl)) <;> (first | rfl | assumption | omega | (simp only [List.length_map, BS_len]; done) | skip)))
        | skip
    | true =>
      rw [show inR r.1 r.2.1 r.2.2 (pairs.getD q default).k = true from hi] at gI
      rw [hi, if_pos rfl] at hnx
      rw [← runL_app1 hc1, ← via_app, ← hnx] at ht
      have hlen : (tell1 d told (runL d.go rows (via told (toldQ ⟨true, pairs, pivots, kids, buf⟩ r q))).1 (pairs.getD q default).k (pairs.getD q default).v).1.length ≤ 1000000000 := by
        rw [ht]
        obtain ⟨ps, hps⟩ := told_pre ⟨true, pairs, pivots, kids, buf⟩ r (q + 1)
        dsimp only at hps hro
        rw [hps, via_app] at hro
        exact Nat.le_trans (runL_len d.go _ rows) (room_l hro)
      repeat' (first
    | apply AO.nil
    | (apply AO.kCall 60; refine AO.sCall (hg := gI) (h := ?_))
    | (apply AO.kCallV; refine AO.tell hy hT hu hlen (hc := by exact rfl) (hx := by exact rfl) (hob := by exact rfl) (h := ?_))
    | (apply AO.kIx; first | refine AO.sIxN (h := ?_) | refine AO.sIx (h := ?_) | refine AO.sP (h := ?_) | refine AO.sPi (h := ?_))
    | (apply AO.kBox; refine AO.sBox (h := ?_))
    | (apply AO.kAlloc; refine AO.sAlloc (h := ?_))
    | (apply AO.kStore; first | refine AO.sStore (h := ?_) | refine AO.sStB (h := ?_))
    | (apply AO.kAdd; refine AO.sAdd (h := ?_))
    | (apply AO.kP; first | refine AO.sP (h := ?_) | refine AO.sPi (h := ?_) | refine AO.sLoadB (h := ?_))
    | apply AW.seq
    | (apply AW.kR; refine AW.sR (h := ?_))
    | apply AW.skip
    | apply AW.block
    | apply AW.out
    | (apply AW.kE; refine AW.sE (h := ?_))
    | apply AW.label
    | ((first | (apply AO.kG; first | refine AO.sgt (h1 := fun h => ?_) (h2 := fun h => ?_) | refine AO.sgf (h1 := fun h => ?_) (h2 := fun h => ?_) | refine AO.sgs (h := ?_)) | (apply AW.kC; refine AW.sC (h1 := fun h => ?_) (h2 := fun h => ?_))) <;> (try (first | exact Bool.noConfusion h | exact absurd h (by decide) | (simp at h; done) | (rw [h]; try simp only [nrm] at h; try rw [h]; try (exfalso; omega)) | skip))))
      all_goals try (exfalso; omega)
      · have h' : (tell1 d told (runL d.go rows (via told (toldQ ⟨true, pairs, pivots, kids, buf⟩ r q))).1 (pairs.getD q default).k (pairs.getD q default).v).2 = false := by assumption
        rw [ht] at h' ⊢
        obtain ⟨ps, hps⟩ := told_pre ⟨true, pairs, pivots, kids, buf⟩ r (q + 1)
        dsimp only at hps
        rw [hps, via_app, runL_app0 h'] at hD
        exact AW.ret (hD rfl .refl (.cons .refl .nil))
      · have h' : (tell1 d told (runL d.go rows (via told (toldQ ⟨true, pairs, pivots, kids, buf⟩ r q))).1 (pairs.getD q default).k (pairs.getD q default).v).2 = true := by assumption
        rw [ht] at h' ⊢
        exact ih (q + 1) _ ⟨by omega, h'⟩ (by omega) (by (constructor <;> (repeat' (first | exact LeT.nil | exact LeB.nil | apply LeT.cons | apply LeB.cons | exact Ol.refl | apply Lx.s | apply Lx.b | apply Lx.i | exact Lx.refl)) <;> (first | rfl | assumption | omega | (simp only [List.length_map, BS_len]; done) | skip)))
  · obtain rfl : q = pairs.length := by omega
    have hta := told_all ⟨true, pairs, pivots, kids, buf⟩ r
    dsimp only at hta
    rw [hta, hc1] at hD
    repeat' (first
    | apply AO.nil
    | (apply AO.kIx; first | refine AO.sIxN (h := ?_) | refine AO.sIx (h := ?_) | refine AO.sP (h := ?_) | refine AO.sPi (h := ?_))
    | (apply AO.kBox; refine AO.sBox (h := ?_))
    | (apply AO.kAlloc; refine AO.sAlloc (h := ?_))
    | (apply AO.kStore; first | refine AO.sStore (h := ?_) | refine AO.sStB (h := ?_))
    | (apply AO.kAdd; refine AO.sAdd (h := ?_))
    | (apply AO.kP; first | refine AO.sP (h := ?_) | refine AO.sPi (h := ?_) | refine AO.sLoadB (h := ?_))
    | apply AW.seq
    | (apply AW.kR; refine AW.sR (h := ?_))
    | apply AW.skip
    | apply AW.block
    | apply AW.out
    | (apply AW.kE; refine AW.sE (h := ?_))
    | apply AW.label
    | ((first | (apply AO.kG; first | refine AO.sgt (h1 := fun h => ?_) (h2 := fun h => ?_) | refine AO.sgf (h1 := fun h => ?_) (h2 := fun h => ?_) | refine AO.sgs (h := ?_)) | (apply AW.kC; refine AW.sC (h1 := fun h => ?_) (h2 := fun h => ?_))) <;> (try (first | exact Bool.noConfusion h | exact absurd h (by decide) | (simp at h; done) | (rw [h]; try simp only [nrm] at h; try rw [h]; try (exfalso; omega)) | skip))))
    all_goals first
      | (exfalso; omega)
      | exact AW.ret (hD rfl .refl (.cons .refl .nil))
theorem gBlk {d : Fo} (hy : Yields Try.prog d) {l : List Im} (hl : Ims l) (hr : rightL (lead9 l) l = true) : ∀ f, BlkOk d l f
  | 0 => fun b T told kb hT h1 h2 r c hx h17 hc hf rows hro => by
    have := gBlkNone (d := d) hl (fuel_0 hf) T r rows
    exact this
  | f + 1 => fun b T told kb hT h1 h2 r c hx h17 hc hf rows hro => by
    rw [blkP] at hro ⊢
    cases hn : fnd l b with
    | none => exact gBlkNone (d := d) hl hn T r rows
    | some n =>
      have h0 := (rt_fnd hr hn).1
      dsimp only
      cases he : em r with
      | true =>
        rw [if_pos rfl, via_nil, runL_nil]
        have gF := gFindG l b hl.len hl.small
        rw [hn] at gF
        have gF : Good Try.prog 82 [.sh 6 (l.map Im.av), .i .u32 b.toNat] [] (.tup [.agg n.av, .b true]) [] := gF
        have gE := gEmpty r.1 r.2.1 r.2.2
        rw [show emR r.1 r.2.1 r.2.2 = true from he] at gE
        refine Good.wM tabOk mixed Try.func119 (N := 52) (by kernel_rfl) rfl (by (repeat (first | exact LE.nil | apply LE.cons)); done) (by (repeat (first | exact LE.nil | apply LE.cons)); done) (by exact rfl) fun D hD F => ?_
        repeat' (first
    | apply AO.nil
    | (apply AO.kCall 82; refine AO.sCall (hg := gF) (h := ?_))
    | (apply AO.kCall 58; refine AO.sCall (hg := gE) (h := ?_))
    | (apply AO.kIx; first | refine AO.sIxN (h := ?_) | refine AO.sIx (h := ?_) | refine AO.sP (h := ?_) | refine AO.sPi (h := ?_))
    | (apply AO.kBox; refine AO.sBox (h := ?_))
    | (apply AO.kAlloc; refine AO.sAlloc (h := ?_))
    | (apply AO.kStore; first | refine AO.sStore (h := ?_) | refine AO.sStB (h := ?_))
    | (apply AO.kAdd; refine AO.sAdd (h := ?_))
    | (apply AO.kP; first | refine AO.sP (h := ?_) | refine AO.sPi (h := ?_) | refine AO.sLoadB (h := ?_))
    | apply AW.seq
    | (apply AW.kR; refine AW.sR (h := ?_))
    | apply AW.skip
    | apply AW.block
    | apply AW.out
    | (apply AW.kE; refine AW.sE (h := ?_))
    | apply AW.label
    | ((first | (apply AO.kG; first | refine AO.sgt (h1 := fun h => ?_) (h2 := fun h => ?_) | refine AO.sgf (h1 := fun h => ?_) (h2 := fun h => ?_) | refine AO.sgs (h := ?_)) | (apply AW.kC; refine AW.sC (h1 := fun h => ?_) (h2 := fun h => ?_))) <;> (try (first | exact Bool.noConfusion h | exact absurd h (by decide) | (simp at h; done) | (rw [h]; try simp only [nrm] at h; try rw [h]; try (exfalso; omega)) | skip))))
        all_goals exact AW.ret (hD rfl .refl (.cons .refl .nil))
      | false =>
        rw [if_neg (by decide)]
        by_cases hlf : n.leaf = true
        · rw [if_pos hlf]
          rw [hn] at hro
          dsimp only at hro
          rw [he, if_neg (by decide), if_pos hlf] at hro
          exact gBlkLeaf hy hl hn h0 hlf hT (by omega) r he rows hro
        · have hlf : n.leaf = false := by simpa using hlf
          rw [if_neg (by rw [hlf]; decide)]
          rw [hn] at hro
          dsimp only at hro
          rw [he, if_neg (by decide), if_neg (by rw [hlf]; decide)] at hro
          have hI := (may_inner h0 hlf).1
          have gB := gBufC hy (gBlk hy hl hr f) hT h1 h2 (hl.fnd hn) hI h17 hc (fun i hi => fuel_down hr hf hn (List.mem_append_left _ (List.mem_map.2 ⟨_, (by rw [List.getD_eq_getElem?_getD, List.getElem?_eq_getElem hi]; exact List.getElem_mem _), rfl⟩)))
            (fun i hi h3 => fuel_down hr hf hn (List.mem_append_right _ (List.mem_map.2 ⟨_, List.mem_filter.2 ⟨(by rw [List.getD_eq_getElem?_getD, List.getElem?_eq_getElem hi]; exact List.getElem_mem _), by rw [h3]; rfl⟩, rfl⟩)) ) n.buf.length (Nat.le_refl _) r hx rows hro
          rw [List.take_length] at gB
          have gF := gFindG l b hl.len hl.small
          rw [hn] at gF
          have gF : Good Try.prog 82 [.sh 6 (l.map Im.av), .i .u32 b.toNat] [] (.tup [.agg n.av, .b true]) [] := gF
          have gE := gEmpty r.1 r.2.1 r.2.2
          rw [show emR r.1 r.2.1 r.2.2 = false from he] at gE
          obtain ⟨leaf, pairs, pivots, kids, buf⟩ := n
          dsimp only at hlf
          subst hlf
          refine Good.wM tabOk mixed Try.func119 (N := 52) (by kernel_rfl) rfl (by (repeat (first | exact LE.nil | apply LE.cons)); done) (by (repeat (first | exact LE.nil | apply LE.cons)); done) (by exact rfl) fun D hD F => ?_
          repeat' (first
    | apply AO.nil
    | (apply AO.kCall 82; refine AO.sCall (hg := gF) (h := ?_))
    | (apply AO.kCall 58; refine AO.sCall (hg := gE) (h := ?_))
    | (apply AO.kCall 143; refine AO.sCallF (hg := gB) (h := ?_))
    | (apply AO.kIx; first | refine AO.sIxN (h := ?_) | refine AO.sIx (h := ?_) | refine AO.sP (h := ?_) | refine AO.sPi (h := ?_))
    | (apply AO.kBox; refine AO.sBox (h := ?_))
    | (apply AO.kAlloc; refine AO.sAlloc (h := ?_))
    | (apply AO.kStore; first | refine AO.sStore (h := ?_) | refine AO.sStB (h := ?_))
    | (apply AO.kAdd; refine AO.sAdd (h := ?_))
    | (apply AO.kP; first | refine AO.sP (h := ?_) | refine AO.sPi (h := ?_) | refine AO.sLoadB (h := ?_))
    | apply AW.seq
    | (apply AW.kR; refine AW.sR (h := ?_))
    | apply AW.skip
    | apply AW.block
    | apply AW.out
    | (apply AW.kE; refine AW.sE (h := ?_))
    | apply AW.label
    | ((first | (apply AO.kG; first | refine AO.sgt (h1 := fun h => ?_) (h2 := fun h => ?_) | refine AO.sgf (h1 := fun h => ?_) (h2 := fun h => ?_) | refine AO.sgs (h := ?_)) | (apply AW.kC; refine AW.sC (h1 := fun h => ?_) (h2 := fun h => ?_))) <;> (try (first | exact Bool.noConfusion h | exact absurd h (by decide) | (simp at h; done) | (rw [h]; try simp only [nrm] at h; try rw [h]; try (exfalso; omega)) | skip))))
          all_goals exact AW.ret (hD rfl .refl (.cons .refl .nil))
end Go.Proofs.Ytocppeifkjdeiaa.Mv

/- Graphs: All. Under no condition. -/
namespace Go.Proofs.Ytocppeifkjdeiaa.Mv
open Go Go.Proofs
set_option linter.unusedSimpArgs false
set_option linter.unusedVariables false
set_option maxRecDepth 10000
set_option maxHeartbeats 4000000
attribute [local irreducible] AW AO AR

/-- All that is told of a block in a range. -/
def allP (l : List Im) (b : B32) (r : Rg) : List Pr := if rightL (lead9 l) l = true then blkP l (l.length + 1) b r else []
theorem via_some (ps : List Pr) : via some ps = ps := by
  unfold via
  simp
theorem gAll1 {d : Fo} (hy : Yields Try.prog d) {l : List Im} (hl : Ims l) (h1 : l.length ≤ 1000) (b : B32) {r : Rg} (hx : r.le 1000) (hv : d.val.oneCell' = true) (rows : List (List AV)) (hro : Room rows (allP l b r)) :
    Good Try.prog 118 [.fv (.x d.val), .pel [.sh 6 (l.map Im.av)], .pel [.i .u32 b.toNat], .pel [.s r.1, .s r.2.1, .b r.2.2]] [(1000009, .fo d rows true)] (.tup [])
      [(1000009, .fo d (runL d.go rows (allP l b r)).1 (runL d.go rows (allP l b r)).2)] := by
  have gR := gRightP l hl
  rw [right_eq] at gR
  unfold allP at hro ⊢
  cases hr : rightL (lead9 l) l with
  | false =>
    rw [hr] at gR
    rw [if_neg (by decide), runL_nil]
    refine Good.wM tabOk mixed Try.func118 (N := 13) (by kernel_rfl) rfl (by (repeat (first | exact LE.nil | apply LE.cons)); done) (by (repeat (first | exact LE.nil | apply LE.cons)); done) (by exact rfl) fun D hD F => ?_
    repeat' (first
    | apply AO.nil
    | (apply AO.kCall 81; refine AO.sCall (hg := gR) (h := ?_))
    | (apply AO.kP; first | refine AO.sP (h := ?_) | refine AO.sPi (h := ?_) | refine AO.sLoadB (h := ?_))
    | apply AW.seq
    | (apply AW.kR; refine AW.sR (h := ?_))
    | apply AW.skip
    | apply AW.block
    | apply AW.out
    | (apply AW.kE; refine AW.sE (h := ?_))
    | apply AW.label
    | ((first | (apply AW.kC; refine AW.sC (h1 := fun h => ?_) (h2 := fun h => ?_))) <;> (try (first | exact Bool.noConfusion h | exact absurd h (by decide) | (simp at h; done) | (rw [h]; try simp only [nrm] at h; try rw [h]; try (exfalso; omega)) | skip))))
    exact AW.fin (hD rfl .refl (.cons .refl .nil))
  | true =>
    rw [hr] at gR hro
    rw [if_pos rfl] at hro ⊢
    have hT : Tl Try.prog d (.x d.val) some 900000 := ⟨hv, rfl, .inl ⟨rfl, fun _ => rfl⟩⟩
    have gB := gBlk hy hl hr (l.length + 1) b _ _ _ hT (by omega) (by omega) r 1000 hx (by omega) (by omega) (fuel_top hr b) rows (by rw [via_some]; exact hro)
    rw [via_some] at gB
    generalize runL d.go rows (blkP l (l.length + 1) b r) = R at *
    refine Good.wM tabOk mixed Try.func118 (N := 13) (by kernel_rfl) rfl (by (repeat (first | exact LE.nil | apply LE.cons)); done) (by (repeat (first | exact LE.nil | apply LE.cons)); done) (by exact rfl) fun D hD F => ?_
    repeat' (first
    | apply AO.nil
    | (apply AO.kCall 81; refine AO.sCall (hg := gR) (h := ?_))
    | (apply AO.kCall 119; refine AO.sCallF (hg := gB) (h := ?_))
    | (apply AO.kP; first | refine AO.sP (h := ?_) | refine AO.sPi (h := ?_) | refine AO.sLoadB (h := ?_))
    | apply AW.seq
    | (apply AW.kR; refine AW.sR (h := ?_))
    | apply AW.skip
    | apply AW.block
    | apply AW.out
    | (apply AW.kE; refine AW.sE (h := ?_))
    | apply AW.label
    | ((first | (apply AW.kC; refine AW.sC (h1 := fun h => ?_) (h2 := fun h => ?_))) <;> (try (first | exact Bool.noConfusion h | exact absurd h (by decide) | (simp at h; done) | (rw [h]; try simp only [nrm] at h; try rw [h]; try (exfalso; omega)) | skip))))
    exact AW.fin (hD rfl .refl (.cons .refl .nil))
theorem gAll (l : List Im) (b : B32) (r : Rg) : Good Try.prog 90 [.sh 6 (l.map Im.av), .i .u32 b.toNat, .agg [.s r.1, .s r.2.1, .b r.2.2]] [] (.clo 118 [.pel [.sh 6 (l.map Im.av)], .pel [.i .u32 b.toNat], .pel [.s r.1, .s r.2.1, .b r.2.2]]) [] := by
  refine Good.w tabOk mixed Try.func90 (N := 8) (by kernel_rfl) rfl (by (repeat (first | exact LE.nil | apply LE.cons)); done) (by (repeat (first | exact LE.nil | apply LE.cons)); done) fun D hD F => ?_
  (repeat (first | apply AW.seq | apply AW.block)); apply AW.kR; refine AW.sR (h := ?_); repeat' (first
    | apply AO.nil
    | (apply AO.kBox; refine AO.sBox (h := ?_))
    | (apply AO.kP; first | refine AO.sP (h := ?_) | refine AO.sPi (h := ?_) | refine AO.sMk0 (h := ?_)))
  refine AW.freeze 3 (cs := [.sh 6 (l.map Im.av)]) (st' := ⟨[(3, .pel [.sh 6 (l.map Im.av)]), (4, .ptr 4 0), (5, .ptr 5 0)], [(4, .bx [.i .u32 b.toNat]), (5, .bx [.s r.1, .s r.2.1, .b r.2.2])]⟩) rfl rfl ⟨.cons Lx.fz (.cons .refl (.cons .refl .nil)), .cons .refl (.cons .refl .nil)⟩ ?_
  refine AW.freeze 4 (cs := [.i .u32 b.toNat]) (st' := ⟨[(3, .pel [.sh 6 (l.map Im.av)]), (4, .pel [.i .u32 b.toNat]), (5, .ptr 5 0)], [(5, .bx [.s r.1, .s r.2.1, .b r.2.2])]⟩) rfl rfl ⟨.cons .refl (.cons Lx.fz (.cons .refl .nil)), .cons .refl .nil⟩ ?_
  refine AW.freeze 5 (cs := [.s r.1, .s r.2.1, .b r.2.2]) (st' := ⟨[(3, .pel [.sh 6 (l.map Im.av)]), (4, .pel [.i .u32 b.toNat]), (5, .pel [.s r.1, .s r.2.1, .b r.2.2])], []⟩) rfl rfl ⟨.cons .refl (.cons .refl (.cons Lx.fz .nil)), .nil⟩ ?_
  repeat' (first
    | apply AO.nil
    | (apply AO.kBox; refine AO.sBox (h := ?_))
    | (apply AO.kP; first | refine AO.sP (h := ?_) | refine AO.sPi (h := ?_) | refine AO.sMk0 (h := ?_))
    | apply AW.seq
    | (apply AW.kR; refine AW.sR (h := ?_))
    | apply AW.skip
    | apply AW.block
    | apply AW.out
    | (apply AW.kE; refine AW.sE (h := ?_))
    | apply AW.label)
  exact AW.ret (hD rfl .refl)
end Go.Proofs.Ytocppeifkjdeiaa.Mv

/- Graphs: what All tells is what Get tells: plain. Under no condition. -/
namespace Go.Proofs.Ytocppeifkjdeiaa.Mv
open Go Go.Proofs
set_option linter.unusedSimpArgs false
set_option linter.unusedVariables false
set_option maxRecDepth 10000

/-! ### lists that rise, by what is in them -/
structure Spec (ps : List Pr) (R : L → Prop) (V : L → Option L) : Prop where
  srt : ps.Pairwise (fun p q => lt p.k q.k = true)
  mem : ∀ p, p ∈ ps ↔ R p.k ∧ V p.k = some p.v
theorem Spec.nil {R : L → Prop} {V : L → Option L} (h : ∀ k, R k → V k = none) : Spec [] R V :=
  ⟨.nil, fun p => ⟨fun h => (by cases h), fun ⟨h1, h2⟩ => by rw [h _ h1] at h2; cases h2⟩⟩
theorem Spec.congr {ps : List Pr} {R R' : L → Prop} {V V' : L → Option L} (h : Spec ps R V) (h1 : ∀ k, (R' k ∧ (V' k).isSome = true) ↔ (R k ∧ (V k).isSome = true)) (h2 : ∀ k, R k → V' k = V k) : Spec ps R' V' :=
  ⟨h.srt, fun p => by
    rw [h.mem]
    constructor
    · rintro ⟨a, b⟩
      have := (h1 p.k).2 ⟨a, by rw [b]; rfl⟩
      exact ⟨this.1, by rw [h2 _ a, b]⟩
    · rintro ⟨a, b⟩
      have := (h1 p.k).1 ⟨a, by rw [b]; rfl⟩
      exact ⟨this.1, by rw [← h2 _ this.1, b]⟩⟩
theorem Spec.on {ps : List Pr} {R R' : L → Prop} {V V' : L → Option L} (h : Spec ps R V) (h1 : ∀ k, R' k ↔ R k) (h2 : ∀ k, R k → V' k = V k) : Spec ps R' V' :=
  h.congr (fun k => ⟨fun ⟨a, b⟩ => ⟨(h1 k).1 a, by rw [← h2 k ((h1 k).1 a)]; exact b⟩, fun ⟨a, b⟩ => ⟨(h1 k).2 a, by rw [h2 k a]; exact b⟩⟩) h2
theorem Spec.app {ps qs : List Pr} {R1 R2 R : L → Prop} {V : L → Option L} (h1 : Spec ps R1 V) (h2 : Spec qs R2 V) (ho : ∀ k k', R1 k → R2 k' → lt k k' = true) (hr : ∀ k, R k ↔ R1 k ∨ R2 k) : Spec (ps ++ qs) R V :=
  ⟨List.pairwise_append.2 ⟨h1.srt, h2.srt, fun p hp q hq => ho _ _ ((h1.mem p).1 hp).1 ((h2.mem q).1 hq).1⟩, fun p => by
    rw [List.mem_append, h1.mem, h2.mem, hr]
    constructor
    · rintro (⟨a, b⟩ | ⟨a, b⟩)
      · exact ⟨.inl a, b⟩
      · exact ⟨.inr a, b⟩
    · rintro ⟨a | a, b⟩
      · exact .inl ⟨a, b⟩
      · exact .inr ⟨a, b⟩⟩
/-- Two that rise with the same in them are one. -/
theorem srt_eq : ∀ {ps qs : List Pr}, ps.Pairwise (fun p q => lt p.k q.k = true) → qs.Pairwise (fun p q => lt p.k q.k = true) → (∀ p, p ∈ ps ↔ p ∈ qs) → ps = qs
  | [], [], _, _, _ => rfl
  | [], q :: qs, _, _, h => by have := (h q).2 (by simp); cases this
  | p :: ps, [], _, _, h => by have := (h p).1 (by simp); cases this
  | p :: ps, q :: qs, h1, h2, h => by
    rw [List.pairwise_cons] at h1 h2
    have e : p = q := by
      rcases List.mem_cons.1 ((h p).1 (by simp)) with e | e
      · exact e
      · rcases List.mem_cons.1 ((h q).2 (by simp)) with e2 | e2
        · exact e2.symm
        · have := lt_asymm (h2.1 p e)
          rw [h1.1 q e2] at this; cases this
    subst e
    have no1 : p ∉ ps := fun hm => by have := h1.1 p hm; rw [lt_irrefl] at this; cases this
    have no2 : p ∉ qs := fun hm => by have := h2.1 p hm; rw [lt_irrefl] at this; cases this
    rw [srt_eq h1.2 h2.2 fun x => ⟨fun hx => ?_, fun hx => ?_⟩]
    · rcases List.mem_cons.1 ((h x).1 (List.mem_cons_of_mem _ hx)) with e | e
      · subst e; exact absurd hx no1
      · exact e
    · rcases List.mem_cons.1 ((h x).2 (List.mem_cons_of_mem _ hx)) with e | e
      · subst e; exact absurd hx no2
      · exact e
theorem Spec.eq {ps qs : List Pr} {R : L → Prop} {V : L → Option L} (h1 : Spec ps R V) (h2 : Spec qs R V) : ps = qs := srt_eq h1.srt h2.srt fun p => by rw [h1.mem, h2.mem]
theorem getP_mem : ∀ {ps : List Pr}, ps.Pairwise (fun p q => lt p.k q.k = true) → ∀ p : Pr, p ∈ ps ↔ getP ps p.k = some p.v
  | [], _, p => by simp [getP]
  | q :: ps, h, p => by
    rw [List.pairwise_cons] at h
    rw [List.mem_cons, getP, getP_mem h.2 p]
    by_cases e : q.k = p.k
    · rw [if_pos e]
      constructor
      · rintro (rfl | h3)
        · rfl
        · have := h.1 p ((getP_mem h.2 p).2 h3)
          rw [e, lt_irrefl] at this; cases this
      · intro h3
        left
        cases p; cases q
        simp only [Option.some.injEq] at h3 e
        subst e; subst h3; rfl
    · rw [if_neg e]
      constructor
      · rintro (rfl | h3)
        · exact absurd rfl e
        · exact h3
      · exact fun h3 => .inr h3
theorem srt_rise {ps : List Pr} : rise (ps.map Pr.k) = true ↔ ps.Pairwise (fun p q => lt p.k q.k = true) := by
  rw [rise_pw, List.pairwise_map]
theorem Spec.filter {ps : List Pr} (h : rise (ps.map Pr.k) = true) (r : Rg) : Spec (ps.filter fun p => inn r p.k) (fun k => inn r k = true) (getP ps) :=
  ⟨(srt_rise.1 h).filter _, fun p => by rw [List.mem_filter, getP_mem (srt_rise.1 h)]; exact And.comm⟩
/-! ### ranges -/
theorem em_no {r : Rg} (h : em r = true) (k : L) : inn r k = false := em_in h k
theorem cut_inn (x r : Rg) (k : L) : inn (cut x r) k = (inn x k && inn r k) := cS_in _ _ _ _ _ _ _
theorem inn_iff {r : Rg} {k : L} : inn r k = true ↔ lt k r.1 = false ∧ (r.2.2 = true → lt k r.2.1 = true) := by
  unfold inn inR
  cases lt k r.1 <;> cases r.2.2 <;> cases lt k r.2.1 <;> simp
theorem rg_ord {n : Nd} (hl : n.pivots.length + 1 = n.kids.length) (hr : rise n.pivots = true) {i j : Nat} (hij : i < j) (hj : j < n.kids.length) {k k' : L} (h1 : inn (rgN n i) k = true) (h2 : inn (rgN n j) k' = true) : lt k k' = true := by
  rw [inn_iff] at h1 h2
  have e1 : rgN n i = ((if 0 < (i : Int) ∧ (i : Int) ≤ n.pivots.length then n.pivots.getD ((i : Int) - 1).toNat default else []), (if (i : Int) < n.pivots.length then n.pivots.getD (i : Int).toNat default else []), decide ((i : Int) < n.pivots.length)) := by
    unfold rgN; rw [if_neg (by omega)]
  have e2 : rgN n j = ((if 0 < (j : Int) ∧ (j : Int) ≤ n.pivots.length then n.pivots.getD ((j : Int) - 1).toNat default else []), (if (j : Int) < n.pivots.length then n.pivots.getD (j : Int).toNat default else []), decide ((j : Int) < n.pivots.length)) := by
    unfold rgN; rw [if_neg (by omega)]
  rw [e1] at h1
  rw [e2] at h2
  have g1 := h1.2 (by simp only [decide_eq_true_eq]; omega)
  have g2 := h2.1
  dsimp only at g1 g2
  rw [if_pos (by omega)] at g1 g2
  have g3 := le_rise hr (i := i) (j := j - 1) (by omega) (by omega)
  rw [show ((i : Int)).toNat = i by omega] at g1
  rw [show ((j : Int) - 1).toNat = j - 1 by omega] at g2
  exact lt_of_lt_le (lt_of_lt_le g1 g3) g2
/-! ### an edge -/
theorem spec_edge {blk : B32 → Rg → List Pr} {b : B32} {s a : L} {x : Rg} {V : L → Option L} (h : Spec (blk b (ov s a x)) (fun k => inn (ov s a x) k = true) V) :
    Spec (edgeP blk b s a x) (fun k => inn x k = true) (fun k => if hp k s = true then V (upS s a k) else none) := by
  unfold edgeP via
  constructor
  · refine List.Pairwise.filterMap _ (fun p q hpq p' hp' q' hq' => ?_) h.srt
    simp only [dwn, Option.map_eq_some_iff] at hp' hq'
    obtain ⟨k1, hk1, rfl⟩ := hp'
    obtain ⟨k2, hk2, rfl⟩ := hq'
    split at hk1
    · split at hk2
      · rename_i a1 a2
        cases hk1; cases hk2
        show lt (upS a s p.k) (upS a s q.k) = true
        have := upS_blt (a := s) a1 a2
        unfold lt at hpq ⊢
        rw [this]; exact hpq
      · cases hk2
    · cases hk1
  · intro p
    rw [List.mem_filterMap]
    constructor
    · rintro ⟨q, hq, e⟩
      simp only [dwn, Option.map_eq_some_iff] at e
      obtain ⟨k1, hk1, rfl⟩ := e
      split at hk1
      · rename_i a1
        cases hk1
        obtain ⟨m1, m2⟩ := (h.mem q).1 hq
        obtain ⟨u1, u2⟩ := upS_back (a := s) a1
        have o1 := ov_in s a x.1 x.2.1 x.2.2 q.k
        have o2 : inR (ovS s a x.1 x.2.1 x.2.2).1 (ovS s a x.1 x.2.1 x.2.2).2.1 (ovS s a x.1 x.2.1 x.2.2).2.2 q.k = true := m1
        rw [o2] at o1
        simp only [Bool.true_eq, Bool.and_eq_true] at o1
        refine ⟨o1.2, ?_⟩
        dsimp only
        rw [if_pos u1, u2]; exact m2
      · cases hk1
    · rintro ⟨m1, m2⟩
      split at m2
      · rename_i a1
        obtain ⟨u1, u2⟩ := upS_back (a := a) a1
        refine ⟨⟨upS s a p.k, p.v⟩, (h.mem _).2 ⟨?_, m2⟩, ?_⟩
        · show inR (ovS s a x.1 x.2.1 x.2.2).1 (ovS s a x.1 x.2.1 x.2.2).2.1 (ovS s a x.1 x.2.1 x.2.2).2.2 (upS s a p.k) = true
          rw [ov_in, u1, u2]; exact m1
        · simp only [dwn, u1, u2, if_true, Option.map_some]
      · cases m2
end Go.Proofs.Ytocppeifkjdeiaa.Mv

/- Graphs: what All tells is what Get tells: kids, messages, blocks. Under no condition. -/
namespace Go.Proofs.Ytocppeifkjdeiaa.Mv
open Go Go.Proofs
set_option linter.unusedSimpArgs false
set_option linter.unusedVariables false
set_option maxRecDepth 10000

def BSpec (blk : B32 → Rg → List Pr) (VB : B32 → L → Option L) : Prop := ∀ b r, Spec (blk b r) (fun k => inn r k = true) (VB b)
/-! ### kids -/
def kidV (VB : B32 → L → Option L) (n : Nd) (i : Nat) (k : L) : Option L := if hp k (n.kids.getD i default).strip = true then VB (n.kids.getD i default).block (upS (n.kids.getD i default).strip (n.kids.getD i default).add k) else none
def kidsV (VB : B32 → L → Option L) (n : Nd) (k : L) : Option L := kidV VB n (kidN n k).toNat k
theorem spec_kid {blk VB} (hB : BSpec blk VB) (n : Nd) (r : Rg) (i : Nat) : Spec (kidP blk n r i) (fun k => inn (rgN n i) k = true ∧ inn r k = true) (kidV VB n i) :=
  (spec_edge (hB _ _)).on (fun k => by rw [cut_inn, Bool.and_eq_true]) (fun _ _ => rfl)
theorem spec_kids {blk VB} (hB : BSpec blk VB) {n : Nd} (hl : n.pivots.length + 1 = n.kids.length) (hr : rise n.pivots = true) (r : Rg) : ∀ q, q ≤ n.kids.length → Spec (kidsP blk n r q) (fun k => kidN n k < (q : Int) ∧ inn r k = true) (kidsV VB n)
  | 0, _ => Spec.nil fun k ⟨h, _⟩ => by have := (kid_at (k := k) hl hr).1; omega
  | q + 1, hq => by
    have hin : ∀ {j : Nat} {k : L}, j < n.kids.length → (inn (rgN n j) k = true ↔ kidN n k = (j : Int)) := fun {j k} hj => by
      have := kid_in (k := k) hl hr hj
      unfold inn
      rw [this, beq_iff_eq]
      exact eq_comm
    have hk : Spec (kidP blk n r q) (fun k => kidN n k = (q : Int) ∧ inn r k = true) (kidsV VB n) :=
      (spec_kid hB n r q).on (fun k => by rw [hin (by omega)]) (fun k h => by
        have := (hin (by omega)).1 h.1
        unfold kidsV
        rw [this]; rfl)
    refine Spec.app (spec_kids hB hl hr r q (by omega)) hk (fun k k' h1 h2 => ?_) (fun k => ?_)
    · have h0 := (kid_at (k := k) hl hr).1
      exact rg_ord hl hr (i := (kidN n k).toNat) (j := q) (by omega) (by omega) ((hin (by omega)).2 (by omega)) ((hin (by omega)).2 h2.1)
    · constructor
      · rintro ⟨h1, h2⟩
        by_cases e : kidN n k = (q : Int)
        · exact .inr ⟨e, h2⟩
        · exact .inl ⟨by omega, h2⟩
      · rintro (⟨h1, h2⟩ | ⟨h1, h2⟩)
        · exact ⟨by omega, h2⟩
        · exact ⟨by omega, h2⟩
/-! ### messages -/
def msgV (VB : B32 → L → Option L) (m : Ms) (k : L) : Option L := if m.kind = 1 then some m.val else if m.kind = 3 then VB m.block (upS m.key m.add k) else none
def bufV (VB : B32 → L → Option L) (n : Nd) : Nat → L → Option L
  | 0, k => kidsV VB n k
  | q + 1, k => if spk (n.buf.getD q default) k = true then msgV VB (n.buf.getD q default) k else bufV VB n q k
theorem ab_inn (m : Ms) (k : L) : inn (abS m) k = spk m k := ab_in m k
theorem spec_msg {blk VB} (hB : BSpec blk VB) (m : Ms) (r : Rg) (he : em (cut (abS m) r) = false) : Spec (msgP blk m (cut (abS m) r)) (fun k => inn (cut (abS m) r) k = true) (msgV VB m) := by
  have hs : ∀ k, inn (cut (abS m) r) k = true → spk m k = true := fun k h => by
    rw [cut_inn, Bool.and_eq_true, ab_inn] at h; exact h.1
  unfold msgP
  by_cases h1 : m.kind = 1
  · rw [if_pos h1]
    have hk : ∀ k, inn (cut (abS m) r) k = true → k = m.key := fun k h => by
      have := hs k h
      unfold spk at this
      rw [if_neg (by rw [h1]; decide), h1] at this
      simpa using this
    have h0 : inn (cut (abS m) r) m.key = true := by
      have := in_lo (lo := (cut (abS m) r).1) (hi := (cut (abS m) r).2.1) (e := (cut (abS m) r).2.2) he
      have e := hk _ this
      rw [← e]; exact this
    refine ⟨List.pairwise_singleton _ _, fun p => ?_⟩
    rw [List.mem_singleton]
    unfold msgV
    rw [if_pos h1]
    constructor
    · rintro rfl; exact ⟨h0, rfl⟩
    · rintro ⟨a, b⟩
      have := hk _ a
      cases p
      simp only [Option.some.injEq] at b this
      rw [this, b]
  · rw [if_neg h1]
    by_cases h3 : m.kind = 3
    · rw [if_pos h3]
      refine (spec_edge (hB _ _)).on (fun k => Iff.rfl) (fun k h => ?_)
      have := hs k h
      unfold spk at this
      rw [if_pos h3] at this
      unfold msgV
      rw [if_neg h1, if_pos h3, if_pos this]
    · rw [if_neg h3]
      exact Spec.nil fun k _ => by unfold msgV; rw [if_neg h1, if_neg h3]
theorem spec_buf {blk VB} (hB : BSpec blk VB) {n : Nd} (hl : n.pivots.length + 1 = n.kids.length) (hr : rise n.pivots = true) : ∀ (q : Nat) (r : Rg), Spec (bufP blk n q r) (fun k => inn r k = true) (bufV VB n q)
  | 0, r => by
    unfold bufP
    split
    · rename_i h; exact Spec.nil fun k hk => by rw [em_no h] at hk; cases hk
    · refine (spec_kids hB hl hr r n.kids.length (Nat.le_refl _)).on (fun k => ⟨fun h => ⟨?_, h⟩, fun h => h.2⟩) (fun _ _ => rfl)
      obtain ⟨h1, h2⟩ := kid_at (k := k) hl hr
      omega
  | q + 1, r => by
    rw [bufP]
    split
    · rename_i h; exact Spec.nil fun k hk => by rw [em_no h] at hk; cases hk
    · generalize hm : n.buf.getD q default = m
      have hV : ∀ k, bufV VB n (q + 1) k = if spk m k = true then msgV VB m k else bufV VB n q k := fun k => by rw [bufV, hm]
      split
      · rename_i h
        refine (spec_buf hB hl hr q r).on (fun _ => Iff.rfl) (fun k hk => ?_)
        have := em_no h k
        rw [cut_inn, ab_inn, hk, Bool.and_true] at this
        rw [hV, if_neg (by rw [this]; decide)]
      · rename_i hem he
        have he : em (cut (abS m) r) = false := by simpa using he
        have hx : ∀ k, inn (cut (abS m) r) k = (spk m k && inn r k) := fun k => by rw [cut_inn, ab_inn]
        have hM := spec_msg hB m r he
        generalize cut (abS m) r = x at *
        have hA := spec_buf hB hl hr q (cut r ([], x.1, true))
        have hC := spec_buf hB hl hr q (cut r (x.2.1, [], false))
        have iA : ∀ k, inn (cut r ([], x.1, true)) k = true ↔ inn r k = true ∧ lt k x.1 = true := fun k => by
          rw [cut_inn, Bool.and_eq_true, inn_iff (r := ([], x.1, true))]
          simp [lt_nil]
        have iC : ∀ k, inn (cut r (x.2.1, [], false)) k = true ↔ inn r k = true ∧ lt k x.2.1 = false := fun k => by
          rw [cut_inn, Bool.and_eq_true, inn_iff (r := (x.2.1, [], false))]
          simp
        have hin : x.2.2 = true → lt x.1 x.2.1 = true := fun e => by
          unfold em emR at he
          rw [e] at he; simpa using he
        have off : ∀ k, inn r k = true → inn x k = false → bufV VB n (q + 1) k = bufV VB n q k := fun k h1 h2 => by
          rw [hx, h1, Bool.and_true] at h2
          rw [hV, if_neg (by rw [h2]; decide)]
        have fA : Spec (bufP blk n q (cut r ([], x.1, true))) (fun k => inn r k = true ∧ lt k x.1 = true) (bufV VB n (q + 1)) :=
          hA.on (fun k => (iA k).symm) (fun k h => by
            obtain ⟨a, b⟩ := (iA k).1 h
            refine off k a ?_
            cases hq : inn x k with
            | false => rfl
            | true => rw [inn_iff] at hq; rw [hq.1] at b; cases b)
        have fM : Spec (msgP blk m x) (fun k => inn x k = true) (bufV VB n (q + 1)) :=
          hM.on (fun _ => Iff.rfl) (fun k h => by
            rw [hx, Bool.and_eq_true] at h
            rw [hV, if_pos h.1])
        have fC : Spec (if x.2.2 = true then bufP blk n q (cut r (x.2.1, [], false)) else []) (fun k => x.2.2 = true ∧ inn r k = true ∧ lt k x.2.1 = false) (bufV VB n (q + 1)) := by
          split
          · rename_i e
            exact hC.on (fun k => by rw [iC]; exact ⟨fun h => h.2, fun h => ⟨e, h⟩⟩) (fun k h => by
              obtain ⟨a, b⟩ := (iC k).1 h
              refine off k a ?_
              cases hq : inn x k with
              | false => rfl
              | true => rw [inn_iff] at hq; rw [hq.2 e] at b; cases b)
          · rename_i e
            exact Spec.nil fun k h => absurd h.1 e
        refine Spec.app fA (Spec.app fM fC (R := fun k => inn x k = true ∨ (x.2.2 = true ∧ inn r k = true ∧ lt k x.2.1 = false)) (fun k k' h1 h2 => ?_) (fun k => Iff.rfl)) (fun k k' h1 h2 => ?_) (fun k => ?_)
        · rw [inn_iff] at h1
          exact lt_of_lt_le (h1.2 h2.1) h2.2.2
        · rcases h2 with h2 | h2
          · rw [inn_iff] at h2
            exact lt_of_lt_le h1.2 h2.1
          · exact lt_of_lt_le (lt_trans h1.2 (hin h2.1)) h2.2.2
        · constructor
          · intro h
            cases h1 : lt k x.1 with
            | true => exact .inl ⟨h, rfl⟩
            | false =>
              right
              cases h2 : x.2.2 with
              | false => exact .inl (inn_iff.2 ⟨h1, fun e => by rw [h2] at e; cases e⟩)
              | true =>
                cases h3 : lt k x.2.1 with
                | true => exact .inl (inn_iff.2 ⟨h1, fun _ => h3⟩)
                | false => exact .inr ⟨rfl, h, rfl⟩
          · rintro (h | h | h)
            · exact h.1
            · rw [hx, Bool.and_eq_true] at h; exact h.2
            · exact h.2.1
/-! ### blocks -/
def valN (l : List Im) (f : Nat) (b : B32) (k : L) : Option L := if (getN l f b k).2 = true then some (getN l f b k).1 else none
def wv (VB : B32 → L → Option L) (w : Wy) : Option L := if w.kind = 2 then VB w.block w.key else if w.kind = 1 then some w.val else none
theorem val_step {l : List Im} {f : Nat} {b : B32} {n : Nd} (hn : fnd l b = some n) (h0 : mayN n = 0) (k : L) : valN l (f + 1) b k = wv (valN l f) (leadN n k) := by
  have e : getN l (f + 1) b k = if (stepN n k).kind = 2 then getN l f (stepN n k).block (stepN n k).key else ((stepN n k).val, (stepN n k).kind == 1) := by rw [getN, hn]
  rw [show stepN n k = leadN n k by rw [stepN, if_pos h0]] at e
  unfold valN
  rw [e]
  unfold wv
  by_cases h2 : (leadN n k).kind = 2
  · rw [if_pos h2, if_pos h2]
  · rw [if_neg h2, if_neg h2]
    by_cases h1 : (leadN n k).kind = 1
    · rw [if_pos h1]; simp [h1]
    · rw [if_neg h1]; simp [h1]
theorem wv_on (VB : B32 → L → Option L) (b : B32) (d : W16) (s a k : L) : wv VB (onW b d s a k) = if hp k s = true then VB b (upS s a k) else none := by
  unfold onW
  split
  · rfl
  · rfl
theorem buf_last (VB : B32 → L → Option L) (n : Nd) (k : L) : ∀ q, bufV VB n q k = if lastI n.buf k q < 0 then kidsV VB n k else msgV VB (n.buf.getD (lastI n.buf k q).toNat default) k
  | 0 => by rw [bufV, lastI, if_pos (by decide)]
  | q + 1 => by
    rw [bufV, lastI]
    split
    · rw [if_neg (by omega), show (q : Int).toNat = q by omega]
    · exact buf_last VB n k q
theorem last_spk (l : List Ms) (k : L) : ∀ q, 0 ≤ lastI l k q → spk (l.getD (lastI l k q).toNat default) k = true
  | 0, h => by rw [lastI] at h; omega
  | q + 1, h => by
    rw [lastI] at h ⊢
    split
    · rename_i e; rw [show (q : Int).toNat = q by omega]; exact e
    · rename_i e; rw [if_neg e] at h; exact last_spk l k q h
theorem lead_inner {n : Nd} (hl : n.leaf = false) (hI : innerOk n = true) (VB : B32 → L → Option L) (k : L) : wv VB (leadN n k) = bufV VB n n.buf.length k := by
  rw [buf_last]
  unfold leadN
  rw [if_neg (by rw [hl]; decide)]
  by_cases h : lastI n.buf k n.buf.length < 0
  · rw [if_pos h, if_pos h, wv_on, (kidL_may hI).1]; rfl
  · rw [if_neg h, if_neg h]
    have hs := last_spk n.buf k n.buf.length (by omega)
    generalize n.buf.getD (lastI n.buf k n.buf.length).toNat default = m at *
    unfold msgV
    by_cases h1 : m.kind = 1
    · rw [if_pos h1, if_pos h1]; rfl
    · rw [if_neg h1, if_neg h1]
      by_cases h3 : m.kind = 3
      · rw [if_pos h3, if_pos h3, wv_on]
        unfold spk at hs
        rw [if_pos h3] at hs
        rw [if_pos hs]
      · rw [if_neg h3, if_neg h3]; rfl
theorem lead_leaf {n : Nd} (hl : n.leaf = true) (VB : B32 → L → Option L) (k : L) : wv VB (leadN n k) = getP n.pairs k := by
  unfold leadN
  rw [if_pos hl]
  cases getP n.pairs k <;> rfl
theorem spec_blk {l : List Im} (hr : rightL (lead9 l) l = true) : ∀ f, BSpec (blkP l f) (valN l f)
  | 0 => fun b r => Spec.nil fun k _ => rfl
  | f + 1 => fun b r => by
    rw [blkP]
    cases hn : fnd l b with
    | none => exact Spec.nil fun k _ => by unfold valN; rw [getN, hn]; rfl
    | some n =>
      have h0 := (rt_fnd hr hn).1
      dsimp only
      split
      · rename_i h; exact Spec.nil fun k hk => by rw [em_no h] at hk; cases hk
      · split
        · rename_i hl
          exact (Spec.filter (leaf_parts (may_leaf h0 hl)).1 r).on (fun _ => Iff.rfl) (fun k _ => by rw [val_step hn h0, lead_leaf hl])
        · rename_i hl
          have hl : n.leaf = false := by simpa using hl
          have hI := (may_inner h0 hl).1
          obtain ⟨i1, i2, _⟩ := inner_len hI
          exact (spec_buf (spec_blk hr f) i1 i2 n.buf.length r).on (fun _ => Iff.rfl) (fun k _ => by rw [val_step hn h0, lead_inner hl hI])
end Go.Proofs.Ytocppeifkjdeiaa.Mv

/- Graphs: what the document's Content holds: plain. Under no condition. -/
namespace Go.Proofs.Ytocppeifkjdeiaa.Mv
open Go Go.Proofs
set_option linter.unusedSimpArgs false
set_option linter.unusedVariables false
set_option maxRecDepth 10000

abbrev Srt (ps : List Pr) : Prop := ps.Pairwise fun p q => lt p.k q.k = true
theorem getP_no {ps : List Pr} {k : L} (h : ∀ p ∈ ps, p.k ≠ k) : getP ps k = none := by
  induction ps with
  | nil => rfl
  | cons q ps ih =>
    rw [getP, if_neg (h q (by simp))]
    exact ih fun p hp => h p (by simp [hp])
theorem getP_filter (f : L → Bool) : ∀ (ps : List Pr) (k : L), getP (ps.filter fun p => f p.k) k = if f k = true then getP ps k else none
  | [], k => by simp [getP]
  | p :: ps, k => by
    rw [List.filter_cons]
    by_cases h : f p.k = true
    · rw [if_pos h, getP, getP, getP_filter f ps k]
      by_cases e : p.k = k
      · rw [if_pos e, if_pos e, if_pos (by rw [← e]; exact h)]
      · rw [if_neg e, if_neg e]
    · rw [if_neg h, getP, getP_filter f ps k]
      by_cases e : p.k = k
      · rw [if_neg (by rw [← e]; exact h), if_neg (by rw [← e]; exact h)]
      · rw [if_neg e]
/-- A pair into its place. -/
def insP (p : Pr) : List Pr → List Pr
  | [] => [p]
  | x :: r => if lt p.k x.k = true then p :: x :: r else x :: insP p r
def noK (ps : List Pr) (k : L) : List Pr := ps.filter fun x => !(x.k == k)
def putP (ps : List Pr) (p : Pr) : List Pr := insP p (noK ps p.k)
theorem ins_mem (p : Pr) : ∀ (ps : List Pr) (q : Pr), q ∈ insP p ps ↔ q = p ∨ q ∈ ps
  | [], q => by simp [insP]
  | x :: r, q => by
    rw [insP]
    split
    · simp
    · rw [List.mem_cons, ins_mem p r q, List.mem_cons]
      constructor
      · rintro (h | h | h)
        · exact .inr (.inl h)
        · exact .inl h
        · exact .inr (.inr h)
      · rintro (h | h | h)
        · exact .inr (.inl h)
        · exact .inl h
        · exact .inr (.inr h)
theorem ins_srt (p : Pr) : ∀ {ps : List Pr}, Srt ps → (∀ q ∈ ps, q.k ≠ p.k) → Srt (insP p ps)
  | [], _, _ => List.pairwise_singleton _ _
  | x :: r, h, hn => by
    rw [insP]
    have h' := List.pairwise_cons.1 h
    split
    · rename_i e
      refine List.pairwise_cons.2 ⟨fun q hq => ?_, h⟩
      rcases List.mem_cons.1 hq with rfl | hq
      · exact e
      · exact lt_trans e (h'.1 q hq)
    · rename_i e
      refine List.pairwise_cons.2 ⟨fun q hq => ?_, ins_srt p h'.2 fun q hq => hn q (by simp [hq])⟩
      rcases (ins_mem p r q).1 hq with rfl | hq
      · rcases lt_total x.k q.k with h1 | h1 | h1
        · exact h1
        · exact absurd h1 (hn x (by simp))
        · exact absurd h1 e
      · exact h'.1 q hq
theorem ins_get (p : Pr) (k : L) : ∀ {ps : List Pr}, (∀ q ∈ ps, q.k ≠ p.k) → getP (insP p ps) k = if p.k = k then some p.v else getP ps k
  | [], _ => rfl
  | x :: r, hn => by
    rw [insP]
    split
    · rfl
    · rw [getP, ins_get p k fun q hq => hn q (by simp [hq]), getP]
      by_cases e : x.k = k
      · rw [if_pos e, if_pos e, if_neg (fun e2 => hn x (by simp) (e.trans e2.symm))]
      · rw [if_neg e, if_neg e]
theorem noK_not {ps : List Pr} {k : L} : ∀ q ∈ noK ps k, q.k ≠ k := fun q hq => by
  have := (List.mem_filter.1 hq).2
  simpa using this
theorem put_srt {ps : List Pr} (h : Srt ps) (p : Pr) : Srt (putP ps p) := ins_srt p (h.filter _) noK_not
theorem put_get (ps : List Pr) (p : Pr) (k : L) : getP (putP ps p) k = if p.k = k then some p.v else getP ps k := by
  unfold putP
  rw [ins_get p k noK_not]
  by_cases e : p.k = k
  · rw [if_pos e, if_pos e]
  · rw [if_neg e, if_neg e, noK, getP_filter (fun x => !(x == p.k)), if_pos (by simpa using fun h => e h.symm)]
/-- Pairs lifted into pairs. -/
def addS (s a : L) (r : Rg) (c : List Pr) (p : Pr) : List Pr := if (hp p.k a && inn r (upS a s p.k)) = true then putP c ⟨upS a s p.k, p.v⟩ else c
def addC (c ps : List Pr) (s a : L) (r : Rg) : List Pr := ps.foldl (addS s a r) c
theorem add_srt {s a : L} {r : Rg} : ∀ {ps c : List Pr}, Srt c → Srt (addC c ps s a r)
  | [], _, h => h
  | p :: ps, c, h => by
    unfold addC
    rw [List.foldl_cons]
    refine add_srt (ps := ps) ?_
    unfold addS
    split
    · exact put_srt h _
    · exact h
theorem add_get {s a : L} {r : Rg} (k : L) : ∀ {ps c : List Pr}, Srt ps → getP (addC c ps s a r) k = if (hp k s && inn r k) = true then (match getP ps (upS s a k) with | some v => some v | none => getP c k) else getP c k
  | [], c, _ => by
    show getP c k = _
    split <;> rfl
  | p :: ps, c, h => by
    have h' := List.pairwise_cons.1 h
    unfold addC
    rw [List.foldl_cons]
    have ih := add_get (s := s) (a := a) (r := r) k (ps := ps) (c := addS s a r c p) h'.2
    unfold addC at ih
    rw [ih, getP]
    have hc : getP (addS s a r c p) k = if (hp p.k a && inn r (upS a s p.k)) = true ∧ upS a s p.k = k then some p.v else getP c k := by
      unfold addS
      by_cases e : (hp p.k a && inn r (upS a s p.k)) = true
      · rw [if_pos e, put_get]
        by_cases e2 : upS a s p.k = k
        · rw [if_pos e2, if_pos ⟨e, e2⟩]
        · rw [if_neg e2, if_neg (fun x => e2 x.2)]
      · rw [if_neg e, if_neg (fun x => e x.1)]
    rw [hc]
    by_cases g : (hp k s && inn r k) = true
    · rw [if_pos g, if_pos g]
      obtain ⟨g1, g2⟩ := Bool.and_eq_true _ _ ▸ g
      obtain ⟨u1, u2⟩ := upS_back (a := a) g1
      by_cases e : p.k = upS s a k
      · rw [if_pos e]
        have hn : getP ps (upS s a k) = none := getP_no fun q hq e2 => by
          have := h'.1 q hq
          rw [e, e2, lt_irrefl] at this; cases this
        rw [hn]
        dsimp only
        rw [if_pos ⟨by rw [e, u1, u2, g2]; rfl, by rw [e, u2]⟩]
      · rw [if_neg e]
        rw [if_neg]
        rintro ⟨q1, q2⟩
        obtain ⟨q3, _⟩ := Bool.and_eq_true _ _ ▸ q1
        obtain ⟨w1, w2⟩ := upS_back (a := s) q3
        rw [q2] at w2
        exact e w2.symm
    · rw [if_neg g, if_neg g, if_neg]
      rintro ⟨q1, q2⟩
      obtain ⟨q3, q4⟩ := Bool.and_eq_true _ _ ▸ q1
      obtain ⟨w1, w2⟩ := upS_back (a := s) q3
      rw [q2] at w1 q4
      exact g (by rw [w1, q4]; rfl)
/-! ### the content of a block -/
def ofR (p : L) : Rg := (p, succS p, succOk p)
def noP (ps : List Pr) (p : L) : List Pr := ps.filter fun x => !hp x.k p
def appC (c : List Pr) (m : Ms) : List Pr := if m.kind = 1 then putP c ⟨m.key, m.val⟩ else if m.kind = 2 then noK c m.key else []
def msgC (con : B32 → List Pr) (c : List Pr) (m : Ms) : List Pr := if m.kind = 3 then addC (noP c m.key) (con m.block) m.key m.add (ofR m.key) else appC c m
def kidC (con : B32 → List Pr) (n : Nd) (c : List Pr) (i : Nat) : List Pr := addC c (con (n.kids.getD i default).block) (n.kids.getD i default).strip (n.kids.getD i default).add (rgN n i)
def kidsC (con : B32 → List Pr) (n : Nd) : Nat → List Pr
  | 0 => []
  | q + 1 => kidC con n (kidsC con n q) q
def bufC (con : B32 → List Pr) (n : Nd) : Nat → List Pr
  | 0 => kidsC con n n.kids.length
  | q + 1 => msgC con (bufC con n q) (n.buf.getD q default)
def conP (l : List Im) : Nat → B32 → List Pr
  | 0, _ => []
  | f + 1, b => match fnd l b with
    | none => []
    | some n => if n.leaf = true then n.pairs else bufC (conP l f) n n.buf.length
/-- Content that rises and tells of keys what V does. -/
def CSpec (con : B32 → List Pr) (VB : B32 → L → Option L) : Prop := ∀ b, Srt (con b) ∧ ∀ k, getP (con b) k = VB b k
theorem kids_srt (con : B32 → List Pr) (n : Nd) : ∀ q, Srt (kidsC con n q)
  | 0 => .nil
  | q + 1 => add_srt (kids_srt con n q)
theorem kids_get {con VB} (hC : CSpec con VB) {n : Nd} (hl : n.pivots.length + 1 = n.kids.length) (hr : rise n.pivots = true) (k : L) : ∀ q, q ≤ n.kids.length → getP (kidsC con n q) k = if kidN n k < (q : Int) then kidsV VB n k else none
  | 0, _ => by
    have := (kid_at (k := k) hl hr).1
    rw [if_neg (by omega)]; rfl
  | q + 1, hq => by
    have h0 := (kid_at (k := k) hl hr).1
    rw [kidsC, kidC, add_get k (hC _).1, kids_get hC hl hr k q (by omega), (hC _).2]
    have hin : inn (rgN n q) k = ((q : Int) == kidN n k) := kid_in hl hr (by omega)
    rw [hin]
    by_cases e : kidN n k = (q : Int)
    · rw [if_pos (show kidN n k < ((q + 1 : Nat) : Int) by omega), if_neg (show ¬ kidN n k < (q : Int) by omega)]
      unfold kidsV kidV
      rw [e, show (q : Int).toNat = q by omega]
      cases hp k (n.kids.getD q default).strip with
      | false => simp
      | true =>
        simp only [beq_self_eq_true, Bool.and_self, if_true]
        cases VB (n.kids.getD q default).block (upS (n.kids.getD q default).strip (n.kids.getD q default).add k) <;> rfl
    · rw [show ((q : Int) == kidN n k) = false by rw [beq_eq_false_iff_ne]; exact fun h => e h.symm, Bool.and_false, if_neg (by decide)]
      by_cases e2 : kidN n k < (q : Int)
      · rw [if_pos e2, if_pos (by omega)]
      · rw [if_neg e2, if_neg (by omega)]
theorem msg_srt {con VB} (hC : CSpec con VB) {c : List Pr} (h : Srt c) {m : Ms} : Srt (msgC con c m) := by
  unfold msgC
  split
  · exact add_srt (h.filter _)
  · unfold appC
    split
    · exact put_srt h _
    · split
      · exact h.filter _
      · exact .nil
theorem msg_get {con VB} (hC : CSpec con VB) {c : List Pr} (h : Srt c) {m : Ms} (hm : msMay m = true) (k : L) : getP (msgC con c m) k = if spk m k = true then msgV VB m k else getP c k := by
  unfold msgC msgV spk
  by_cases h3 : m.kind = 3
  · rw [if_pos h3, if_pos h3, if_neg (show ¬ m.kind = 1 by rw [h3]; decide), if_pos h3, add_get k (hC _).1, (hC _).2]
    have ho : inn (ofR m.key) k = hp k m.key := of_in m.key k
    rw [ho, Bool.and_self, noP, getP_filter (fun x => !hp x m.key)]
    cases hp k m.key with
    | false => simp
    | true =>
      simp only [if_true, Bool.not_true, Bool.false_eq_true, if_false]
      cases VB m.block (upS m.key m.add k) <;> rfl
  · rw [if_neg h3, if_neg h3]
    unfold appC
    by_cases h1 : m.kind = 1
    · rw [if_pos h1, put_get, if_pos h1, h1]
      by_cases e : m.key = k
      · rw [if_pos e, if_pos (by simp [e])]
      · rw [if_neg e, if_neg (by simp; exact fun e2 => e e2.symm)]
    · rw [if_neg h1, if_neg h1, if_neg h3]
      by_cases h2 : m.kind = 2
      · rw [if_pos h2, noK, getP_filter (fun x => !(x == m.key)), h2]
        by_cases e : k = m.key
        · rw [if_neg (by simp [e]), if_pos (by simp [e])]
        · rw [if_pos (by simpa using e), if_neg (by simp [e])]
      · exfalso
        unfold msMay at hm
        rw [if_neg h1, if_neg h2, if_neg h3, Bool.and_false] at hm
        cases hm
theorem buf_spec {con VB} (hC : CSpec con VB) {n : Nd} (hI : innerOk n = true) : ∀ q, q ≤ n.buf.length → Srt (bufC con n q) ∧ ∀ k, getP (bufC con n q) k = bufV VB n q k
  | 0, _ => by
    obtain ⟨i1, i2, _⟩ := inner_len hI
    refine ⟨kids_srt con n _, fun k => ?_⟩
    obtain ⟨h1, h2⟩ := kid_at (k := k) i1 i2
    rw [bufC, kids_get hC i1 i2 k _ (Nat.le_refl _), if_pos (by omega)]; rfl
  | q + 1, hq => by
    obtain ⟨ih1, ih2⟩ := buf_spec hC hI q (by omega)
    have hm : msMay (n.buf.getD q default) = true := by
      simp only [innerOk, Bool.and_eq_true] at hI
      refine List.all_eq_true.1 hI.2 _ ?_
      rw [List.getD_eq_getElem?_getD, List.getElem?_eq_getElem (by omega)]; exact List.getElem_mem _
    exact ⟨msg_srt hC ih1, fun k => by rw [bufC, msg_get hC ih1 hm, ih2, bufV]⟩
theorem spec_con {l : List Im} (hr : rightL (lead9 l) l = true) : ∀ f, CSpec (conP l f) (valN l f)
  | 0 => fun b => ⟨.nil, fun k => rfl⟩
  | f + 1 => fun b => by
    rw [conP]
    cases hn : fnd l b with
    | none => exact ⟨.nil, fun k => by unfold valN; rw [getN, hn]; rfl⟩
    | some n =>
      have h0 := (rt_fnd hr hn).1
      dsimp only
      split
      · rename_i hl
        exact ⟨srt_rise.1 (leaf_parts (may_leaf h0 hl)).1, fun k => by rw [val_step hn h0, lead_leaf hl]⟩
      · rename_i hl
        have hl : n.leaf = false := by simpa using hl
        have hI := (may_inner h0 hl).1
        obtain ⟨q1, q2⟩ := buf_spec (spec_con hr f) hI n.buf.length (Nat.le_refl _)
        exact ⟨q1, fun k => by rw [q2, val_step hn h0, lead_inner hl hI]⟩
/-- Both tell the same of a range. -/
theorem con_blk {l : List Im} (hr : rightL (lead9 l) l = true) (f : Nat) (b : B32) (r : Rg) : (conP l f b).filter (fun p => inn r p.k) = blkP l f b r := by
  obtain ⟨h1, h2⟩ := spec_con hr f b
  refine Spec.eq (R := fun k => inn r k = true) (V := valN l f b) ⟨h1.filter _, fun p => ?_⟩ (spec_blk hr f b r)
  rw [List.mem_filter, getP_mem h1, h2]
  exact And.comm
end Go.Proofs.Ytocppeifkjdeiaa.Mv

/- Graphs: how much the document's Content holds: plain. Under no condition. -/
namespace Go.Proofs.Ytocppeifkjdeiaa.Mv
open Go Go.Proofs
set_option linter.unusedSimpArgs false
set_option linter.unusedVariables false
set_option maxRecDepth 10000

theorem ins_len (p : Pr) : ∀ ps : List Pr, (insP p ps).length = ps.length + 1
  | [] => rfl
  | x :: r => by
    rw [insP]
    split
    · simp
    · rw [List.length_cons, ins_len p r, List.length_cons]
theorem put_len (ps : List Pr) (p : Pr) : (putP ps p).length ≤ ps.length + 1 := by
  unfold putP
  rw [ins_len]
  have := List.length_filter_le (fun x => !(x.k == p.k)) ps
  unfold noK; omega
theorem addS_len (s a : L) (r : Rg) (c : List Pr) (p : Pr) : (addS s a r c p).length ≤ c.length + 1 := by
  unfold addS
  split
  · exact put_len _ _
  · omega
theorem add_len {s a : L} {r : Rg} : ∀ (ps c : List Pr), (addC c ps s a r).length ≤ c.length + ps.length
  | [], c => Nat.le_refl _
  | p :: ps, c => by
    unfold addC
    rw [List.foldl_cons]
    have := add_len (s := s) (a := a) (r := r) ps (addS s a r c p)
    have h2 := addS_len s a r c p
    unfold addC at this
    rw [List.length_cons]; omega
/-! ### keys -/
def Kle (ps : List Pr) (n : Nat) : Prop := ∀ p ∈ ps, p.k.length ≤ n
/-! ### lengths -/
def wN (l : List Im) (b : B32) : Nat := (wW l b).toNat
def sumW (l : List Im) (ts : List B32) : Nat := (ts.map (wN l)).sum
theorem sumW_app (l : List Im) (a b : List B32) : sumW l (a ++ b) = sumW l a + sumW l b := by
  unfold sumW; rw [List.map_append, List.sum_append]
theorem fold_ge {l : List Im} : ∀ (ts : List B32) (s : Int), 0 ≤ s → s ≤ 1073741824 → s ≤ ts.foldl (fun s t => plus s (wW l t)) s
  | [], s, _, _ => Int.le_refl _
  | t :: ts, s, h1, h2 => by
    have hw := wW_ok l t
    have hp := plus_ok h1 hw.1
    rw [List.foldl_cons]
    refine Int.le_trans ?_ (fold_ge ts (plus s (wW l t)) hp.1 hp.2)
    unfold plus; omega
theorem fold_sum {l : List Im} : ∀ (ts : List B32) (s : Int), 0 ≤ s → s ≤ 1073741824 → ts.foldl (fun s t => plus s (wW l t)) s ≤ 1000 → s + sumW l ts ≤ ts.foldl (fun s t => plus s (wW l t)) s
  | [], s, _, _, _ => by
    unfold sumW
    simp
  | t :: ts, s, h1, h2, h3 => by
    have hw := wW_ok l t
    have hp := plus_ok h1 hw.1
    rw [List.foldl_cons] at h3 ⊢
    have h4 := fold_ge (l := l) ts (plus s (wW l t)) hp.1 hp.2
    have h5 := fold_sum ts (plus s (wW l t)) hp.1 hp.2 h3
    have e : plus s (wW l t) = s + wW l t := by
      have h6 : plus s (wW l t) ≤ 1000 := Int.le_trans h4 h3
      clear h3 h4 h5
      unfold plus at h6 ⊢; omega
    rw [e] at h5 ⊢
    rw [show sumW l (t :: ts) = wN l t + sumW l ts from by unfold sumW; rw [List.map_cons, List.sum_cons]]
    unfold wN
    omega
theorem wN_eq {l : List Im} (h : rightL (lead9 l) l = true) {b : B32} {n : Nd} (hn : fnd l b = some n) (hw : wN l b ≤ 1000) : 1 + sumW l (tgN n) ≤ wN l b := by
  have h1 := wW_eq h hn
  have h2 := wW_ok l b
  unfold wN at *
  have := fold_sum (l := l) (tgN n) 1 (by omega) (by omega) (by rw [← h1]; omega)
  rw [← h1] at this
  omega
theorem tg_sum {l : List Im} {ts : List B32} {t : B32} (h : t ∈ ts) : wN l t ≤ sumW l ts := by
  obtain ⟨a, b, rfl⟩ := List.append_of_mem h
  rw [sumW_app, show sumW l (t :: b) = wN l t + sumW l b from by unfold sumW; rw [List.map_cons, List.sum_cons]]
  omega
theorem tgK_take {l : List Im} {ks : List Ed} {q : Nat} (h : q < ks.length) : sumW l (tgK (ks.take (q + 1))) = sumW l (tgK (ks.take q)) + wN l (ks.getD q default).block := by
  rw [takeD h]
  unfold tgK
  rw [List.map_append, sumW_app]
  unfold sumW
  simp
theorem tgM_take {l : List Im} {ms : List Ms} {q : Nat} (h : q < ms.length) : sumW l (tgM (ms.take (q + 1))) = sumW l (tgM (ms.take q)) + if (ms.getD q default).kind = 3 then wN l (ms.getD q default).block else 0 := by
  rw [takeD h]
  unfold tgM
  rw [List.filter_append, List.map_append, sumW_app]
  congr 1
  by_cases e : (ms.getD q default).kind = 3
  · rw [if_pos e, List.filter_cons, if_pos (by rw [e]; rfl)]
    unfold sumW
    simp
  · rw [if_neg e, List.filter_cons, if_neg (by simpa using e)]
    unfold sumW
    simp
/-- Content that is no longer than ways allow. -/
def LSpec (l : List Im) (con : B32 → List Pr) (n : Nd) : Prop := ∀ t ∈ tgN n, (con t).length ≤ 16 * wN l t
theorem kid_tg {n : Nd} {i : Nat} (hi : i < n.kids.length) : (n.kids.getD i default).block ∈ tgN n := by
  refine List.mem_append_left _ (List.mem_map.2 ⟨_, ?_, rfl⟩)
  rw [List.getD_eq_getElem?_getD, List.getElem?_eq_getElem hi]; exact List.getElem_mem _
theorem msg_tg {n : Nd} {i : Nat} (hi : i < n.buf.length) (h3 : (n.buf.getD i default).kind = 3) : (n.buf.getD i default).block ∈ tgN n := by
  refine List.mem_append_right _ (List.mem_map.2 ⟨_, List.mem_filter.2 ⟨?_, by rw [h3]; rfl⟩, rfl⟩)
  rw [List.getD_eq_getElem?_getD, List.getElem?_eq_getElem hi]; exact List.getElem_mem _
theorem kids_len {l : List Im} {con : B32 → List Pr} {n : Nd} (hC : LSpec l con n) : ∀ q, q ≤ n.kids.length → (kidsC con n q).length ≤ 16 * sumW l (tgK (n.kids.take q))
  | 0, _ => by rw [kidsC]; simp
  | q + 1, h => by
    have ih := kids_len hC q (by omega)
    have h2 := hC _ (kid_tg (i := q) (by omega))
    rw [kidsC, tgK_take (by omega)]
    unfold kidC
    have := @add_len (n.kids.getD q default).strip (n.kids.getD q default).add (rgN n q) (con (n.kids.getD q default).block) (kidsC con n q)
    omega
theorem msgC_len {con : B32 → List Pr} {c : List Pr} (m : Ms) : (msgC con c m).length ≤ c.length + 1 + if m.kind = 3 then (con m.block).length else 0 := by
  unfold msgC
  by_cases e : m.kind = 3
  · rw [if_pos e, if_pos e]
    have h1 := @add_len m.key m.add (ofR m.key) (con m.block) (noP c m.key)
    have h2 : (noP c m.key).length ≤ c.length := List.length_filter_le _ _
    omega
  · rw [if_neg e, if_neg e]
    unfold appC
    split
    · have := put_len c ⟨m.key, m.val⟩; omega
    · split
      · have h2 : (noK c m.key).length ≤ c.length := List.length_filter_le _ _
        omega
      · simp
theorem buf_len {l : List Im} {con : B32 → List Pr} {n : Nd} (hC : LSpec l con n) : ∀ q, q ≤ n.buf.length → (bufC con n q).length ≤ 16 * sumW l (tgK n.kids) + 16 * sumW l (tgM (n.buf.take q)) + q
  | 0, _ => by
    have := kids_len hC n.kids.length (Nat.le_refl _)
    rw [List.take_length] at this
    rw [bufC]; omega
  | q + 1, h => by
    have ih := buf_len hC q (by omega)
    rw [bufC, tgM_take (by omega)]
    have := @msgC_len con (bufC con n q) (n.buf.getD q default)
    by_cases e : (n.buf.getD q default).kind = 3
    · rw [if_pos e] at this ⊢
      have h2 := hC _ (msg_tg (i := q) (by omega) e)
      omega
    · rw [if_neg e] at this ⊢
      omega
theorem con_len {l : List Im} (hr : rightL (lead9 l) l = true) : ∀ f b, wN l b ≤ 1000 → (conP l f b).length ≤ 16 * wN l b
  | 0, b, _ => by rw [conP]; simp
  | f + 1, b, hw => by
    rw [conP]
    cases hn : fnd l b with
    | none => simp
    | some n =>
      have h0 := (rt_fnd hr hn).1
      have h1 := wN_eq hr hn hw
      dsimp only
      split
      · have : n.pairs.length ≤ 16 := by
          have hs := h0
          unfold mayN at hs
          split at hs
          · cases hs
          · omega
        omega
      · rename_i hl
        have hb := (may_inner h0 (by simpa using hl)).2.2
        have hC : LSpec l (conP l f) n := fun t ht => con_len hr f t (by have := @tg_sum l _ _ ht; omega)
        have := buf_len hC n.buf.length (Nat.le_refl _)
        rw [List.take_length] at this
        have e : sumW l (tgN n) = sumW l (tgK n.kids) + sumW l (tgM n.buf) := sumW_app _ _ _
        omega
end Go.Proofs.Ytocppeifkjdeiaa.Mv

/- Pairs put into their places, by the document. Under no condition. -/
namespace Go.Proofs.Ytocppeifkjdeiaa.Mv
open Go Go.Proofs
set_option linter.unusedSimpArgs false
set_option linter.unusedVariables false
set_option maxRecDepth 10000
set_option maxHeartbeats 4000000
attribute [local irreducible] AW AO AR

end Go.Proofs.Ytocppeifkjdeiaa.Mv

/- Graphs: the document's Content, Pairs. Under no condition. -/
namespace Go.Proofs.Ytocppeifkjdeiaa.Mv
open Go Go.Proofs
set_option linter.unusedSimpArgs false
set_option linter.unusedVariables false
set_option maxRecDepth 10000
set_option maxHeartbeats 4000000
attribute [local irreducible] AW AO AR

/-- Some pairs of a range. -/
def takeF (r : Rg) (n : Int) (ps : List Pr) : List Pr := takeI n (ps.filter fun p => inn r p.k)
end Go.Proofs.Ytocppeifkjdeiaa.Mv

/- Graphs: the document's Pairs. Under no condition. -/
namespace Go.Proofs.Ytocppeifkjdeiaa.Mv
open Go Go.Proofs
set_option linter.unusedSimpArgs false
set_option linter.unusedVariables false
set_option maxRecDepth 10000
set_option maxHeartbeats 4000000
attribute [local irreducible] AW AO AR

theorem takeI_len (n : Int) (ps : List Pr) : (takeI n ps).length ≤ ps.length := by
  unfold takeI
  split
  · omega
  · rw [List.length_take]; omega
theorem allP_eq {l : List Im} (hr : rightL (lead9 l) l = true) (b : B32) (r : Rg) : allP l b r = (conP l (l.length + 1) b).filter fun p => inn r p.k := by
  unfold allP
  rw [if_pos hr, con_blk hr]
theorem allP_room {l : List Im} {b : B32} (hw : rightL (lead9 l) l = true → wN l b ≤ 1000) (r : Rg) : (allP l b r).length ≤ 16000 := by
  by_cases hr : rightL (lead9 l) l = true
  · rw [allP_eq hr]
    refine Nat.le_trans (List.length_filter_le _ _) ?_
    have := con_len hr (l.length + 1) b (hw hr)
    have := hw hr
    omega
  · unfold allP
    rw [if_neg hr]; simp
end Go.Proofs.Ytocppeifkjdeiaa.Mv

/- A machine for proofs: regions within a round; a context made anew. Under no condition. -/
namespace Go.Proofs.Ytocppeifkjdeiaa.Mv
open Go
set_option linter.unusedSimpArgs false
set_option linter.unusedVariables false

theorem list_round {P : Program} {ops : Array Oper} {Q : Exit → Act → World → Prop} (r n : Nat) : ∀ (l : List Oper), (∀ o ∈ l, ∀ c, o.op ≠ .defer c) → ∀ (a : Act) (w : World), wpListIn Fence.wide 0 P ops Q l a w → wpListIn (Fence.wide.inRound r) n P ops (fun e a w => Q e a w ∧ e ≠ .ret) l a w
  | [], _, a, w, h => ⟨h, by simp⟩
  | o :: rest, hn, a, w, h => by
    have ih := list_round (P := P) (ops := ops) (Q := Q) r n rest fun o' ho' => hn o' (List.mem_cons_of_mem _ ho')
    unfold wpListIn at h ⊢
    split at h
    · rename_i hw
      rw [if_pos hw]
      refine ⟨fun _ _ => trivial, ?_⟩
      have h2 := h.2
      rw [Fence.wide_round, Oper.semAt_none] at h2
      rw [Oper.semAt_eq _ _ _ (hn o (by simp))]
      have hout : LetsOut Q → LetsOut (fun e a w => Q e a w ∧ e ≠ .ret) := fun ⟨a, w, h⟩ => ⟨a, w, h, by simp⟩
      generalize (execOp a.eval o).run P w = res at h2
      rcases res with ⟨nx, w'⟩ | ⟨hl, w'⟩
      · cases nx with
        | enter f args => exact ⟨fun e => (by cases e), (CallsIn.inRound r (callsIn_wide.2 (callsIn_wide.1 h2.2))).mono fun e w'' hR => by cases e <;> first | exact ih _ _ hR | exact ⟨hR, by simp⟩ | exact hout hR⟩
        | row x args => exact ⟨fun e => (by cases e), fun c cs _ => let ⟨v, w'', hR, hs⟩ := h2.2 c cs (room_wide _); ⟨v, w'', ih _ _ hR, hs⟩⟩
        | round l f tmps asL bd => exact ⟨fun e => (by cases e), RoundIn.mono (F := Fence.wide.inRound r) ⟨trivial, fun c cs _ => h2.2.2 c cs (room_wide _)⟩ fun e w'' hR => by cases e <;> first | exact ih _ _ hR | exact ⟨hR, by simp⟩ | exact hout hR⟩
        | value v => exact ih _ _ h2
        | skip => exact ih _ _ h2
        | defer d => exact ih _ _ h2
        | _ => exact h2.elim
      · cases hl with
        | panic v => exact ⟨h2, by simp⟩
        | _ => exact h2.elim
    · rename_i hw
      rw [if_neg hw]
      exact ⟨fun _ _ => trivial, ih _ _ h.2⟩
/-- What is to be reached: a state. -/
def toward (c : Ctx) (E : St) (e : Exit) (a : Act) (w : World) : Prop := (e = .normal ∨ e = .ret) ∧ RR c E a w
def Fx.to {P : Program} {tab : Tab} (c : Ctx) (hP : c.P = P) (ok : TabOk P tab) (mo : P.follows .mixedOrders = true) (E : St) : Fx P tab c.N (fun st => StLe Tr st E) :=
  ⟨c, hP, rfl, ok, mo, toward c E, fun st a w h ⟨Γ, m, hr⟩ => ⟨⟨.inl rfl, Γ, m, hr.less trivial h⟩, ⟨.inr rfl, Γ, m, hr.less trivial h⟩⟩⟩
/-- A region in a round of a range over a function, by the machine. -/
theorem region_round {P : Program} {tab : Tab} (c : Ctx) (hP : c.P = P) (ok : TabOk P tab) (mo : P.follows .mixedOrders = true) {l : List Oper} {st E : St} {id r n : Nat} (hok : l.all (okOper c.N) = true) (hn : (l.all fun o => match o.op with | .defer _ => false | _ => true) = true)
    (h : ∀ F : Fx P tab c.N (fun st => StLe Tr st E), AO F l.toArray [] l st) {a : Act} {w : World} (hr : RR c st a w) {Q : Exit → Act → World → Prop} (hQ : ∀ a w, RR c E a w → Q .normal a w) : (Code.region id l.toArray false).wpIn (Fence.wide.inRound r) n P Q a w := by
  refine wpIn_mono (wpIn_region_list (list_round r n _ (fun o ho c e => ?_) a w (h (Fx.to c hP ok mo E) (by simpa using hok) hok a w hr))) fun e a w ⟨h1, h2⟩ => ?_
  · have := List.all_eq_true.1 hn o (by simpa using ho)
    rw [e] at this; cases this
  · rcases h1.1 with rfl | rfl
    · exact hQ _ _ h1.2
    · exact absurd rfl h2
/-- The blocks that a state's objects own. -/
def OwnS (m : Nm) (st : St) (g : Nat) : Prop := ∃ t, (st.ob t).blk m t g
/-- The context, made anew at a later world. -/
theorem RRW.rebase {c : Ctx} {Γ m st a} {w w' : World} (h : RRW c Γ m st a w) (hsz : w.heap.size ≤ w'.heap.size) (hst : w'.os = w.os ∧ w'.tape = w.tape ∧ w'.output = w.output) (hg : ∀ ad v, Γ ad = some v → w'.cell? ad = some v) (hb : ∀ g, OwnS m st g → w'.heap[g]? = w.heap[g]?) :
    RRW ⟨c.P, c.N, w', Γ, OwnS m st, c.ins, c.m0, c.big⟩ Γ m st a w' :=
  ⟨h.defers, h.size, hg, h.tmps, fun t => (h.obs t).keep (Sub.refl _) rfl rfl rfl hsz hst (fun _ _ => ⟨fun _ h => h, fun _ _ h => h⟩) fun g hg => ⟨hb g ⟨t, hg⟩, fun _ _ => rfl⟩, fun t g hg => .inr ⟨t, hg⟩, h.inj, Fr.refl _ _, Sub.refl _, fun ad h0 h1 => absurd h0 h1, h.ext⟩
/-- A walk of a function in which something is ranged over by a function: what it must end in, with the loop's mark among the deferred calls. -/
theorem Good.walkM {P : Program} {tab : Tab} (ht : TabOk P tab) (mo : P.follows .mixedOrders = true) {f : FuncId} {fn : Func} {code : Code} {N : Nat} {args : List AV} {res : AV} {T : List (Nat × AV)} (n : Nat)
    (hf : P.funcs[f]? = some fn) (hfn : fnB fn N args.length = true) (hb : fn.body = some code) (hT : LE (entT 0 args) T)
    (h : ∀ F : Fx P tab N (fun _ => False), F.c.ins = [] → (∀ g, F.c.S g → False) →
      F.Z = bodyPostM Fence.wide n P fn (fun e w' => ∃ v Γ' m', e = .returned v ∧ Post [] res [] F.c.w0 F.c.Γ0 F.c.m0 v w' Γ' m') → AW F [.c code] ⟨T, []⟩) : Good P f args [] res [] := by
  rw [← hT.eq] at h
  simp only [fnB, Bool.and_eq_true, bne_iff_ne, beq_iff_eq, decide_eq_true_eq] at hfn
  obtain ⟨⟨⟨⟨h1, h2⟩, rfl⟩, h4⟩, h5⟩ := hfn
  refine ⟨⟨fn, hf, by simpa using h1, by simpa using h2⟩, fun w Γ m vals gok hv hobs hinj => ?_⟩
  let c : Ctx := ⟨P, fn.ntmps, w, Γ, Owns m [], [], m, fun p hp => by cases hp⟩
  refine callsIn_wide.1 (callsIn_of_wp_marks (n := n) hf hb trivial (wpIn_wide.2 ?_) rfl)
  let F : Fx P tab fn.ntmps (fun _ => False) := ⟨c, rfl, rfl, ht, mo, bodyPostM Fence.wide n P fn fun e w' => ∃ v Γ' m', e = .returned v ∧ Post [] res [] w Γ m v w' Γ' m', fun st a w' hd hr => hd.elim⟩
  have hst := h F rfl (fun g ⟨p, hp, _⟩ => by cases hp) rfl { tmps := vals.toArray ++ Array.replicate (fn.ntmps - vals.toArray.size) undef, defers := [] } w ⟨Γ, m, ?_⟩
  · refine Code.wp_mono (fun e a w' hq => ?_) hst
    cases e <;> exact hq
  · refine ⟨rfl, ?_, gok, fun t htn => ?_, fun t => trivial, fun t g hg => (by cases hg), fun t t' g hg hg' => (by cases hg), Fr.refl _ _, Sub.refl _, fun ad q1 q2 => absurd q1 q2, fun p hp => ⟨fun g hg => hg, fun k x hx => hx⟩⟩
    · have := hv.1
      show _ = fn.ntmps
      simp only [Array.size_append, List.size_toArray, Array.size_replicate]
      omega
    · have hlen := hv.1
      simp only [St.get]
      have := entT_look (args := args) (j := 0) (t := t)
      rw [Nat.zero_add] at this
      rw [this]
      cases hq : args[t]? with
      | none => exact .any
      | some x =>
        have hlt : t < vals.length := by rw [hlen]; exact (List.getElem?_eq_some_iff.1 hq).1
        have := hv.2 t vals[t] x (List.getElem?_eq_getElem hlt) hq
        simpa [Array.getD_eq_getD_getElem?, Array.getElem?_append, hlt] using this
end Go.Proofs.Ytocppeifkjdeiaa.Mv

/- A machine for proofs: a range over a function, told pairs. Under no condition. -/
namespace Go.Proofs.Ytocppeifkjdeiaa.Mv
open Go
set_option linter.unusedSimpArgs false
set_option linter.unusedVariables false

/-- A frame's part that stands for itself: the slots tm, the objects of a state, in blocks Y; l: the loop's record, D: the block of deferred calls. -/
structure Local (N : Nat) (E : St) (tm : Array Value) (l D : Nat) (Y : Nat → Prop) (w : World) : Prop where
  ex : ∃ Γ m, (∀ ad v, Γ ad = some v → w.cell? ad = some v) ∧ (∀ ad v, Γ ad = some v → Y ad.block) ∧ (∀ t, t < N → Rep Γ m (tm.getD t undef) (E.get t)) ∧ (∀ t, ObOk Γ m w t (E.ob t)) ∧
    (∀ t g, (E.ob t).blk m t g → Y g ∧ g ≠ l ∧ g ≠ D) ∧ ∀ t t' g, (E.ob t).blk m t g → (E.ob t').blk m t' g → t = t'
  size : tm.size = N
  yl : Y l
  yd : Y D
  ne : l ≠ D
  lt : ∀ k, Y k → k < w.heap.size
theorem cell_block {w w' : World} {ad : Addr} (h : w'.heap[ad.block]? = w.heap[ad.block]?) : w'.cell? ad = w.cell? ad := by
  unfold World.cell?; rw [h]
theorem Local.keep {N E tm l D Y} {w w' : World} (h : Local N E tm l D Y w) (hb : ∀ k, Y k → w'.heap[k]? = w.heap[k]?) (hsz : w.heap.size ≤ w'.heap.size) (hst : w'.os = w.os ∧ w'.tape = w.tape ∧ w'.output = w.output) : Local N E tm l D Y w' := by
  obtain ⟨⟨Γ, m, h1, h2, h3, h4, h5, h6⟩, q1, q2, q3, q4, q5⟩ := h
  refine ⟨⟨Γ, m, fun ad v hv => ?_, h2, h3, fun t => ?_, h5, h6⟩, q1, q2, q3, q4, fun k hk => Nat.lt_of_lt_of_le (q5 k hk) hsz⟩
  · rw [cell_block (hb _ (h2 ad v hv))]; exact h1 ad v hv
  · exact (h4 t).keep (Sub.refl _) rfl rfl rfl hsz hst (fun _ _ => ⟨fun _ h => h, fun _ _ h => h⟩) fun g hg => ⟨hb g (h5 t g hg).1, fun _ _ => rfl⟩
/-- A range over a function, asL what stands elsewhere. -/
def rangeFo (N : Nat) (E : List (List AV) → St) (rec : Bool → Loop) (tm : Array Value) (l D : Nat) (go : List (List AV) → Bool) : Fo where
  J rows b Y w := Local N (E rows) tm l D Y w ∧ w.heap[l]? = some (.loop (rec b)) ∧ w.heap[D]? = some (.deferred (some [])) ∧ b = go rows
  own rows b Y w w' h hb hsz hst := ⟨h.1.keep hb hsz hst, (hb l h.1.yl).trans h.2.1, (hb D h.1.yd).trans h.2.2.1, h.2.2.2⟩
  lt rows b Y w k h hk := h.1.lt k hk
  val := .func (.yield l) #[] #[]
  go := go
theorem cell_loop {w : World} {ad : Addr} {r : Loop} (h : w.heap[ad.block]? = some (.loop r)) : w.cell? ad = none := by
  unfold World.cell?; rw [h]
theorem rangeFo_yields {P : Program} {tab : Tab} {N : Nat} {E : List (List AV) → St} {rec : Bool → Loop} {tm : Array Value} {l D : Nat} {go : List (List AV) → Bool} {fn : FuncId} {assign body : Code} {X pt : Nat} {T0 : List (Nat × AV)} {tags : List Nat}
    (hrec : ∀ b, rec b = { state := if b then .ready else .done, pending := if b then none else some (.exit X), fn, tmps := tm, params := #[pt], assign, body, defers := D }) (hpt : pt < N)
    (hT : ∀ rows, (E rows).T = T0) (hrefs : ∀ t r, r ∈ ((⟨T0, []⟩ : St).get t).refs → r ∈ tags) (htags : ∀ r ∈ tags, 1000000 ≤ r) (EA : List (List AV) → List UInt8 → List UInt8 → St)
    (hassign : ∀ rows k v, go rows = true → rows.length < 1000000000 → ∀ c : Ctx, c.P = P → c.N = N → ∀ a w, RR c ⟨(pt, .agg [.s k, .s v]) :: T0, (E rows).B⟩ a w → ∀ Q : Exit → Act → World → Prop, (∀ a w, RR c (EA rows k v) a w → Q .normal a w) → assign.wpIn (Fence.wide.inRound l) 0 P Q a w)
    (hbody : ∀ rows k v, go rows = true → rows.length < 1000000000 → ∀ c : Ctx, c.P = P → c.N = N → ∀ a w, RR c (EA rows k v) a w → ∀ Q : Exit → Act → World → Prop, (go (rows ++ [[.s k, .s v]]) = true → ∀ a w, RR c (E (rows ++ [[.s k, .s v]])) a w → Q .normal a w) →
      (go (rows ++ [[.s k, .s v]]) = false → ∀ a w, RR c (E (rows ++ [[.s k, .s v]])) a w → Q (.exit X) a w) → body.wpIn (Fence.wide.inRound l) 0 P Q a w) :
    Yields P (rangeFo N E rec tm l D go) := by
  refine ⟨l, rfl, fun rows Y w k v hlen ⟨hL, hl, hD, hb⟩ => ?_⟩
  obtain ⟨⟨Γ, m, h1, h2, h3, h4, h5, h6⟩, q1, q2, q3, q4, q5⟩ := hL
  have hy : (Instr.yield l #[pairV k v]).run P w = .ok (.round l fn (tm.setIfInBounds pt (pairV k v)) assign body) w := by
    have := run_yield (P := P) (args := #[pairV k v]) hl (by rw [hrec]; rfl)
    rw [hrec] at this
    simpa using this
  refine ⟨fn, _, assign, body, hy, roundIn_of_wpIn trivial ?_⟩
  let c1 : Ctx := ⟨P, N, w, Γ, OwnS m (E rows), tags, m, htags⟩
  have r0 : RRW c1 Γ m ⟨(pt, .agg [.s k, .s v]) :: T0, (E rows).B⟩ { tmps := tm.setIfInBounds pt (pairV k v), defers := [] } w := by
    refine ⟨rfl, by simp [c1, q1], h1, fun t ht => ?_, h4, fun t g hg => .inr ⟨t, hg⟩, h6, Fr.refl _ _, Sub.refl _, fun ad e1 e2 => absurd e1 e2, fun p hp => ⟨fun _ h => h, fun _ _ h => h⟩⟩
    simp only [St.get, look]
    split
    · rename_i e; subst e
      have : (tm.setIfInBounds pt (pairV k v)).getD pt undef = pairV k v := by
        rw [Array.getD_eq_getD_getElem?, Array.getElem?_setIfInBounds, if_pos rfl, if_pos (by omega)]; rfl
      rw [this]
      refine .agg [.string ⟨k.toArray⟩, .string ⟨v.toArray⟩] rfl fun j x y hx hy => ?_
      match j with
      | 0 => cases hx; cases hy; exact .s
      | 1 => cases hx; cases hy; exact .s
      | j + 2 => simp at hx
    · rename_i e
      have : (tm.setIfInBounds pt (pairV k v)).getD t undef = tm.getD t undef := by
        rw [Array.getD_eq_getD_getElem?, Array.getElem?_setIfInBounds, if_neg e, Array.getD_eq_getD_getElem?]
      rw [this]
      have := h3 t ht
      simp only [St.get] at this
      rw [hT] at this; exact this
  refine hassign rows k v hb.symm hlen c1 rfl rfl _ w ⟨Γ, m, r0⟩ _ fun a1 w1 ⟨Γ1, m1, r1⟩ => ?_
  show ∃ w2, (Instr.beginRound l).run P w1 = .ok () w2 ∧ _
  have nl : ¬ OwnS m (E rows) l := fun ⟨t, ht⟩ => (h5 t l ht).2.1 rfl
  have nd : ¬ OwnS m (E rows) D := fun ⟨t, ht⟩ => (h5 t D ht).2.2 rfl
  have hl1 := (r1.frame.block l (q5 l q2) nl).trans hl
  have hD1 := (r1.frame.block D (q5 D q3) nd).trans hD
  have s1 : w.heap.size ≤ w1.heap.size := r1.frame.size
  refine ⟨_, run_beginRound hl1 (by rw [hrec]; rfl), ?_⟩
  have own1 : ∀ g, OwnS m1 (EA rows k v) g → w.heap.size ≤ g ∨ OwnS m (E rows) g := fun g ⟨t, ht⟩ => r1.own t g ht
  have off : ∀ g, (w.heap.size ≤ g ∨ OwnS m (E rows) g) → g ≠ l ∧ g ≠ D := fun g hg => by
    have a1 := q5 l q2; have a2 := q5 D q3
    rcases hg with hg | ⟨t, ht⟩
    · exact ⟨by omega, by omega⟩
    · exact (h5 t g ht).2
  have l1 : l < w1.heap.size := (Array.getElem?_eq_some_iff.1 hl1).1
  generalize hw2 : w1.putObj l (.loop { rec true with state := .busy }) = w2
  have b2 : ∀ i, i ≠ l → w2.heap[i]? = w1.heap[i]? := fun i hi => by rw [← hw2]; exact World.putObj_heap_other hi
  have hl2 : w2.heap[l]? = some (.loop { rec true with state := .busy }) := by rw [← hw2]; exact World.putObj_heap_same l1
  have s2 : w2.heap.size = w1.heap.size := by rw [← hw2]; simp
  have t2 : w2.os = w1.os ∧ w2.tape = w1.tape ∧ w2.output = w1.output := by rw [← hw2]; exact ⟨rfl, rfl, rfl⟩
  have g2 : ∀ ad v, Γ1 ad = some v → w2.cell? ad = some v := fun ad v hv => by
    have := r1.gok ad v hv
    by_cases e : ad.block = l
    · rw [cell_loop (by rw [e]; exact hl1)] at this; cases this
    · rw [cell_block (b2 _ e)]; exact this
  have r2 := r1.rebase (w' := w2) (by omega) t2 g2 fun g hg => b2 g (off g (own1 g hg)).1
  have fin : ∀ (jump : Option Code) (a3 : Act) (w3 : World), (jump = if go (rows ++ [[.s k, .s v]]) then none else some (.exit X)) → RR ⟨P, N, w2, Γ1, OwnS m1 (EA rows k v), tags, m, htags⟩ (E (rows ++ [[.s k, .s v]])) a3 w3 →
      ∃ x w4, (Instr.endRound l jump).run P w3 = .ok x w4 ∧ (Ending.returned x = .returned (.bool (go (rows ++ [[.s k, .s v]]))) ∧ ∃ Y', (rangeFo N E rec tm l D go).J (rows ++ [[.s k, .s v]]) (go (rows ++ [[.s k, .s v]])) Y' w4 ∧ Fr Y w w4 ∧ ∀ i, Y' i → w.heap.size ≤ i ∨ Y i) := by
    rintro jump a3 w3 hj ⟨Γ3, m3, r3⟩
    have n1 : ¬ OwnS m1 (EA rows k v) l := fun h => (off l (own1 l h)).1 rfl
    have n2 : ¬ OwnS m1 (EA rows k v) D := fun h => (off D (own1 D h)).2 rfl
    have hl3 := (r3.frame.block l (by show l < w2.heap.size; omega) n1).trans hl2
    have hD3 := (r3.frame.block D (by show D < w2.heap.size; have := q5 D q3; omega) n2).trans ((b2 D (Ne.symm q4)).trans hD1)
    have s3 : w2.heap.size ≤ w3.heap.size := r3.frame.size
    have hend := run_endRound (P := P) jump hl3
    have hrb : ({ ({ rec true with state := .busy } : Loop) with state := if jump.isNone then .ready else .done, pending := jump } : Loop) = rec (go (rows ++ [[.s k, .s v]])) := by
      rw [hrec, hrec, hj]
      cases go (rows ++ [[.s k, .s v]]) <;> rfl
    have hjn : jump.isNone = go (rows ++ [[.s k, .s v]]) := by rw [hj]; cases go (rows ++ [[.s k, .s v]]) <;> rfl
    rw [hrb, hjn] at hend
    refine ⟨_, _, hend, rfl, ?_⟩
    have l3 : l < w3.heap.size := (Array.getElem?_eq_some_iff.1 hl3).1
    generalize hw4 : w3.putObj l (.loop (rec (go (rows ++ [[.s k, .s v]])))) = w4
    have b4 : ∀ i, i ≠ l → w4.heap[i]? = w3.heap[i]? := fun i hi => by rw [← hw4]; exact World.putObj_heap_other hi
    have hl4 : w4.heap[l]? = some (.loop (rec (go (rows ++ [[.s k, .s v]])))) := by rw [← hw4]; exact World.putObj_heap_same l3
    have s4 : w4.heap.size = w3.heap.size := by rw [← hw4]; simp
    have t4 : w4.os = w3.os ∧ w4.tape = w3.tape ∧ w4.output = w3.output := by rw [← hw4]; exact ⟨rfl, rfl, rfl⟩
    have own3 : ∀ t g, ((E (rows ++ [[.s k, .s v]])).ob t).blk m3 t g → w.heap.size ≤ g ∨ OwnS m (E rows) g := fun t g hg => by
      rcases r3.own t g hg with h | h
      · left; have : w2.heap.size ≤ g := h; omega
      · exact own1 g h
    have inY : ∀ g, (w.heap.size ≤ g ∨ OwnS m (E rows) g) → g < w4.heap.size → Y g ∨ (w.heap.size ≤ g ∧ g < w4.heap.size) := fun g hg hlt => by
      rcases hg with hg | ⟨t, ht⟩
      · exact .inr ⟨hg, hlt⟩
      · exact .inl (h5 t g ht).1
    refine ⟨fun i => Y i ∨ (w.heap.size ≤ i ∧ i < w4.heap.size), ⟨⟨⟨Γ3, m3, fun ad x hx => ?_, fun ad x hx => ?_, fun t ht => ?_, fun t => ?_, fun t g hg => ?_, r3.inj⟩, q1, .inl q2, .inl q3, q4, fun i hi => ?_⟩, hl4, (b4 D (Ne.symm q4)).trans hD3, rfl⟩, ⟨?_, ?_, ?_, ?_, fun i hi hn => ?_⟩, fun i hi => hi.elim .inr fun h => .inl h.1⟩
    · have := r3.gok ad x hx
      by_cases e : ad.block = l
      · rw [cell_loop (by rw [e]; exact hl3)] at this; cases this
      · rw [cell_block (b4 _ e)]; exact this
    · have hlt : ad.block < w4.heap.size := by have := block_lt_of_cell (r3.gok ad x hx); omega
      cases e1 : Γ1 ad with
      | some y =>
        cases e2 : Γ ad with
        | some z => exact .inl (h2 ad z e2)
        | none => exact inY _ (r1.fresh ad e2 (by simp [e1])) hlt
      | none =>
        rcases r3.fresh ad e1 (by simp [hx]) with h | h
        · exact .inr ⟨by have : w2.heap.size ≤ ad.block := h; omega, hlt⟩
        · exact inY _ (own1 _ h) hlt
    · have := h3 t ht
      rw [show (E (rows ++ [[.s k, .s v]])).get t = (E rows).get t by simp only [St.get, hT]]
      refine this.mono (fun ad x hx => r3.sub ad x (r1.sub ad x hx)) fun r hr => r3.ext r (hrefs t r ?_)
      simp only [St.get] at hr ⊢
      rw [hT] at hr; exact hr
    · exact (r3.obs t).keep (Sub.refl _) rfl rfl rfl (by omega) t4 (fun _ _ => ⟨fun _ h => h, fun _ _ h => h⟩) fun g hg => ⟨b4 g (off g (own3 t g hg)).1, fun _ _ => rfl⟩
    · refine ⟨inY g (own3 t g hg) ?_, off g (own3 t g hg)⟩
      have := (r3.obs t).lt hg; omega
    · rcases hi with hi | hi
      · have := q5 i hi; omega
      · exact hi.2
    · rw [t4.1, r3.frame.os, t2.1]; exact r1.frame.os
    · rw [t4.2.1, r3.frame.tape, t2.2.1]; exact r1.frame.tape
    · rw [t4.2.2, r3.frame.output, t2.2.2]; exact r1.frame.output
    · omega
    · have hne : i ≠ l := fun e => hn (e ▸ q2)
      have no1 : ¬ OwnS m (E rows) i := fun ⟨t, ht⟩ => hn (h5 t i ht).1
      have no2 : ¬ OwnS m1 (EA rows k v) i := fun h => (own1 i h).elim (fun h => by omega) no1
      rw [b4 i hne, r3.frame.block i (by show i < w2.heap.size; omega) no2, b2 i hne, r1.frame.block i hi no1]
  refine hbody rows k v hb.symm hlen _ rfl rfl a1 w2 ⟨Γ1, m1, r2⟩ _ (fun hgo a3 w3 hr => ?_) (fun hgo a3 w3 hr => ?_)
  · exact fin none a3 w3 (by rw [hgo]; rfl) hr
  · exact fin (some (.exit X)) a3 w3 (by rw [hgo]; rfl) hr
end Go.Proofs.Ytocppeifkjdeiaa.Mv

/- A machine for proofs: a range over a function, the statement. Under no condition. -/
namespace Go.Proofs.Ytocppeifkjdeiaa.Mv
open Go
set_option linter.unusedSimpArgs false
set_option linter.unusedVariables false

/-- What holds behind a range over a function. -/
structure Behind (c : Ctx) (Γ : Gam) (E : St) (a : Act) (D : Nat) (w' : World) : Prop where
  gok : ∀ ad v, Γ ad = some v → w'.cell? ad = some v
  loc : ∃ l Y, Local c.N E a.tmps l D Y w' ∧ (∀ k, Y k → c.w0.heap.size ≤ k ∨ c.S k) ∧ (∀ ad v, Γ ad = some v → ¬ Y ad.block)
  dfr : w'.heap[D]? = some (.deferred (some []))
  frame : Fr c.S c.w0 w'
theorem Local.put {N E tm l D Y} {w w' : World} {r : Loop} (h : Local N E tm l D Y w) (hl : w.heap[l]? = some (.loop r)) (hb : ∀ k, k ≠ l → w'.heap[k]? = w.heap[k]?) (hsz : w.heap.size ≤ w'.heap.size) (hst : w'.os = w.os ∧ w'.tape = w.tape ∧ w'.output = w.output) : Local N E tm l D Y w' := by
  obtain ⟨⟨Γ, m, h1, h2, h3, h4, h5, h6⟩, q1, q2, q3, q4, q5⟩ := h
  refine ⟨⟨Γ, m, fun ad v hv => ?_, h2, h3, fun t => ?_, h5, h6⟩, q1, q2, q3, q4, fun k hk => Nat.lt_of_lt_of_le (q5 k hk) hsz⟩
  · have := h1 ad v hv
    by_cases e : ad.block = l
    · rw [cell_loop (by rw [e]; exact hl)] at this; cases this
    · rw [cell_block (hb _ e)]; exact this
  · exact (h4 t).keep (Sub.refl _) rfl rfl rfl hsz hst (fun _ _ => ⟨fun _ h => h, fun _ _ h => h⟩) fun g hg => ⟨hb g (h5 t g hg).2.1, fun _ _ => rfl⟩
theorem rangeF_wp {P : Program} {tab : Tab} {c : Ctx} (hP : c.P = P) {st : St} {g pt X : Nat} {assign body : Code} {f : FuncId} {caps : List AV} {E : List (List AV) → St} {T0 : List (Nat × AV)} {tags : List Nat} {go : List (List AV) → Bool} {rowsF : List (List AV)}
    (hv : st.val (.tmp g) = .clo f caps) (hg : g < c.N) (hpt : pt < c.N) (hT : ∀ rows, (E rows).T = T0) (hrefs : ∀ t r, r ∈ ((⟨T0, []⟩ : St).get t).refs → r ∈ tags) (htags : ∀ r ∈ tags, 1000000 ≤ r) (EA : List (List AV) → List UInt8 → List UInt8 → St) (h0 : go [] = true)
    (hcall : ∀ d : Fo, Yields P d → d.go = go → d.val.oneCell' = true → Good P f (.fv (.x d.val) :: caps) [(1000009, .fo d [] true)] (.tup []) [(1000009, .fo d rowsF (go rowsF))])
    (hassign : ∀ l rows k v, go rows = true → rows.length < 1000000000 → ∀ c' : Ctx, c'.P = P → c'.N = c.N → ∀ a w, RR c' ⟨(pt, .agg [.s k, .s v]) :: T0, (E rows).B⟩ a w → ∀ Q : Exit → Act → World → Prop, (∀ a w, RR c' (EA rows k v) a w → Q .normal a w) → assign.wpIn (Fence.wide.inRound l) 0 P Q a w)
    (hbody : ∀ l rows k v, go rows = true → rows.length < 1000000000 → ∀ c' : Ctx, c'.P = P → c'.N = c.N → ∀ a w, RR c' (EA rows k v) a w → ∀ Q : Exit → Act → World → Prop, (go (rows ++ [[.s k, .s v]]) = true → ∀ a w, RR c' (E (rows ++ [[.s k, .s v]])) a w → Q .normal a w) →
      (go (rows ++ [[.s k, .s v]]) = false → ∀ a w, RR c' (E (rows ++ [[.s k, .s v]])) a w → Q (.exit X) a w) → body.wpIn (Fence.wide.inRound l) 0 P Q a w)
    {Γ : Gam} {m : Nm} {a : Act} {w : World} (hr : RRW c Γ m st a w) (m0 : Nm) (s1 : ∀ t, t < c.N → Rep (fun _ => none) m0 (a.tmps.getD t undef) ((E []).get t)) (s2 : ∀ t, ObOk (fun _ => none) m0 w t ((E []).ob t))
    (s3 : ∀ t i, ((E []).ob t).blk m0 t i → OwnS m st i) (s4 : ∀ t t' i, ((E []).ob t).blk m0 t i → ((E []).ob t').blk m0 t' i → t = t') (s5 : ∀ ad, OwnS m st ad.block → Γ ad = none) {Q : Exit → Act → World → Prop}
    (hQ : ∀ D w', Behind c Γ (E rowsF) a D w' → Q .normal { a with defers := [{ target := .collected D, args := #[] }] } w' ∧ Q (.exit X) { a with defers := [{ target := .collected D, args := #[] }] } w') :
    (Code.rangeFunc (.tmp g) #[pt] assign body).wp P Q a w := by
  subst hP
  have hgv := hr.eval (.tmp g) (by simpa [okOp] using hg)
  rw [hv] at hgv
  obtain ⟨cv, hcv, hcr⟩ : ∃ cv : List Value, a.eval (.tmp g) = .func (.func f) #[] cv.toArray ∧ RepL Γ m cv caps := by
    cases hq : a.eval (.tmp g) with
    | func fn first cap => rw [hq] at hgv; cases hgv with | clo vs q1 q2 => exact ⟨vs, rfl, q1, q2⟩
    | _ => rw [hq] at hgv; cases hgv
  refine wpIn_wide.1 (wpIn_rangeFunc (F := Fence.wide) (n := 9) ?_)
  intro fn _
  rw [Fence.wide_round]
  let rec' : Bool → Loop := fun b => { state := if b then .ready else .done, pending := if b then none else some (.exit X), fn, tmps := a.tmps, params := #[pt], assign, body, defers := w.heap.size }
  have hy : Yields c.P (rangeFo c.N E rec' a.tmps (w.heap.size + 1) w.heap.size go) := rangeFo_yields (tab := tab) (fun b => rfl) hpt hT hrefs htags EA (hassign _) (hbody _)
  have hG := hcall _ hy rfl rfl
  obtain ⟨fnf, k1, k2, k3⟩ := hG.fn.fn
  generalize hW1 : (w.alloc (.deferred (some []))).alloc (.loop (rec' true)) = W1
  have hA : ∀ (u : World) (o : Obj) (i : Nat), i < u.heap.size → (u.alloc o).heap[i]? = u.heap[i]? := fun u o i hi => (MapKept.heap_alloc u o).2 i hi
  have hL1 : W1.heap[w.heap.size + 1]? = some (.loop (rec' true)) := by
    rw [← hW1]; have := World.alloc_heap_new (w.alloc (.deferred (some []))) (.loop (rec' true)); rwa [World.size_alloc] at this
  have hK1 : W1.heap[w.heap.size]? = some (.deferred (some [])) := by
    rw [← hW1, hA _ _ _ (by simp)]; exact World.alloc_heap_new w _
  have hB1 : ∀ i, i < w.heap.size → W1.heap[i]? = w.heap[i]? := fun i hi => by
    rw [← hW1, hA _ _ _ (by simp; omega), hA _ _ _ hi]
  have hS1 : W1.heap.size = w.heap.size + 2 := by rw [← hW1]; simp
  have hT1 : W1.os = w.os ∧ W1.tape = w.tape ∧ W1.output = w.output := by rw [← hW1]; exact ⟨rfl, rfl, rfl⟩
  let Y : Nat → Prop := fun i => OwnS m st i ∨ i = w.heap.size ∨ i = w.heap.size + 1
  have hlt : ∀ i, OwnS m st i → i < w.heap.size := fun i ⟨t, ht⟩ => (hr.obs t).lt ht
  have hJ : (rangeFo c.N E rec' a.tmps (w.heap.size + 1) w.heap.size go).J [] true Y W1 := by
    refine ⟨⟨⟨fun _ => none, m0, fun ad v h => (by cases h), fun ad v h => (by cases h), s1, fun t => ?_, fun t i hi => ?_, s4⟩, hr.size, .inr (.inr rfl), .inr (.inl rfl), by omega, fun i hi => ?_⟩, hL1, hK1, h0.symm⟩
    · exact (s2 t).keep (Sub.refl _) rfl rfl rfl (by omega) hT1 (fun _ _ => ⟨fun _ h => h, fun _ _ h => h⟩) fun i hi => ⟨hB1 i (hlt i (s3 t i hi)), fun _ _ => rfl⟩
    · have := hlt i (s3 t i hi)
      exact ⟨.inl (s3 t i hi), by omega, by omega⟩
    · rcases hi with hi | hi | hi
      · have := hlt i hi; omega
      · omega
      · omega
  have gok1 : ∀ ad v, Γ ad = some v → W1.cell? ad = some v := fun ad v h => by
    have := hr.gok ad v h
    rw [cell_block (hB1 _ (block_lt_of_cell this))]; exact this
  have noY : ∀ ad v, Γ ad = some v → ¬ Y ad.block := fun ad v h hY => by
    have := block_lt_of_cell (hr.gok ad v h)
    rcases hY with hi | hi | hi
    · rw [s5 ad hi] at h; cases h
    · omega
    · omega
  let m1 : Nm := ⟨m.th, m.ka, fun s => if s = 1000009 then Y else m.fy s⟩
  have hc := hG.calls W1 Γ m1 (.func (.yield (w.heap.size + 1)) #[] #[] :: cv) gok1 ?_ ?_ ?_
  · refine ⟨w.heap.size + 1, [{ target := .collected w.heap.size, args := #[] }], W1, { target := .fn (.func f) cv.toArray, args := #[.func (.yield (w.heap.size + 1)) #[] #[]] }, W1, f,
      (.func (.yield (w.heap.size + 1)) #[] #[] :: cv).toArray, W1, ?_, ?_, ?_, ?_, fun e => (by cases e), callsIn_wide.2 (hc.mono ?_)⟩
    · rw [← hW1]; exact run_enterLoop_outer _ _ _ _ _
    · simp only [resolve, hcv]
      simp [go_sem]
    · intro f' _; trivial
    · simp only [invoke, callFunc, Sem.run_bind, run_program, k1, Result.andThen_ok]
      simp [k2, k3]
    · rintro e W2 ⟨v, Γ2, m2, rfl, hp⟩
      obtain ⟨⟨hL2, hl2, hD2, _⟩, _⟩ := hp.obs (1000009, .fo (rangeFo c.N E rec' a.tmps (w.heap.size + 1) w.heap.size go) rowsF (go rowsF)) (by simp)
      have l2 : w.heap.size + 1 < W2.heap.size := (Array.getElem?_eq_some_iff.1 hl2).1
      have hend := run_endLoop (P := c.P) hl2 (by show (if go rowsF then LoopState.ready else .done) ≠ .busy; split <;> simp)
      refine ⟨_, _, hend, ?_⟩
      generalize hw4 : W2.putObj (w.heap.size + 1) (.loop { rec' (go rowsF) with state := .exhausted }) = w4
      have b4 : ∀ i, i ≠ w.heap.size + 1 → w4.heap[i]? = W2.heap[i]? := fun i hi => by rw [← hw4]; exact World.putObj_heap_other hi
      have s4 : w4.heap.size = W2.heap.size := by rw [← hw4]; simp
      have t4 : w4.os = W2.os ∧ w4.tape = W2.tape ∧ w4.output = W2.output := by rw [← hw4]; exact ⟨rfl, rfl, rfl⟩
      have hown : ∀ k, m2.fy 1000009 k → W1.heap.size ≤ k ∨ Y k := fun k hk => (hp.own k ⟨(1000009, .fo (rangeFo c.N E rec' a.tmps (w.heap.size + 1) w.heap.size go) rowsF (go rowsF)), by simp, hk⟩).imp id fun ⟨p, hpm, hpk⟩ => by
        simp only [List.mem_singleton] at hpm
        subst hpm
        simpa [Ob.blk, m1] using hpk
      have hnin : ∀ k, ¬ Y k → ¬ Owns m1 [(1000009, .fo (rangeFo c.N E rec' a.tmps (w.heap.size + 1) w.heap.size go) [] true)] k := fun k hk ⟨p, hpm, hpk⟩ => by
        simp only [List.mem_singleton] at hpm
        subst hpm
        exact hk (by simpa [Ob.blk, m1] using hpk)
      have hB : Behind c Γ (E rowsF) a w.heap.size w4 := by
        refine ⟨fun ad x hx => ?_, ⟨_, m2.fy 1000009, hL2.put hl2 b4 (by omega) t4, fun k hk => ?_, fun ad x hx hY => ?_⟩, (b4 _ (by omega)).trans hD2, ?_⟩
        · have := hp.gok ad x (hp.sub ad x hx)
          by_cases e : ad.block = w.heap.size + 1
          · rw [cell_loop (by rw [e]; exact hl2)] at this; cases this
          · rw [cell_block (b4 _ e)]; exact this
        · have := hr.frame.size
          rcases hown k hk with h | h | h | h
          · left; omega
          · obtain ⟨t, ht⟩ := h; exact hr.own t k ht
          · left; omega
          · left; omega
        · have hlt := block_lt_of_cell (hr.gok ad x hx)
          rcases hown _ hY with h | h
          · omega
          · exact noY ad x hx h
        · refine hr.frame.trans' ?_ ?_ ?_ ?_ fun k hk => ?_
          · rw [t4.1, hp.frame.os, hT1.1]
          · rw [t4.2.1, hp.frame.tape, hT1.2.1]
          · rw [t4.2.2, hp.frame.output, hT1.2.2]
          · have := hp.frame.size; omega
          · by_cases hY : OwnS m st k
            · obtain ⟨t, ht⟩ := hY
              exact .inl ⟨k, hr.own t k ht, rfl⟩
            · right
              rw [b4 k (by omega), hp.frame.block k (by omega) (hnin k fun hy => by
                rcases hy with h | h | h
                · exact hY h
                · omega
                · omega), hB1 k hk]
      obtain ⟨q1, q2⟩ := hQ _ _ hB
      have ha : ({ a with defers := [{ target := .collected w.heap.size, args := #[] }] ++ a.defers } : Act) = { a with defers := [{ target := .collected w.heap.size, args := #[] }] } := by rw [hr.defers]; rfl
      rw [ha]
      show (match (rec' (go rowsF)).pending with | none => Q .normal _ w4 | some cc => cc.wpIn Fence.wide 9 c.P Q _ w4)
      simp only [rec']
      cases go rowsF with
      | true => exact q1
      | false => exact wpIn_exit q2
  · refine ⟨by simp [hcr.1], fun j x y hx hy => ?_⟩
    cases j with
    | zero => cases hx; cases hy; exact .fv .x rfl
    | succ j => exact (hcr.2 j x y hx hy).mono (Sub.refl _) fun t ht => ⟨fun _ h => h, fun _ _ h => h⟩
  · intro p hp
    simp only [List.mem_singleton] at hp
    subst hp
    exact ⟨by simpa [m1] using hJ, fun ad ha => by
      cases hq : Γ ad with
      | none => rfl
      | some v => exact absurd (by simpa [m1] using ha) (noY ad v hq)⟩
  · intro p hp q hq i _ _
    simp only [List.mem_singleton] at hp hq
    subst hp; subst hq; rfl
end Go.Proofs.Ytocppeifkjdeiaa.Mv

/- Graphs: Pairs. Under no condition. -/
namespace Go.Proofs.Ytocppeifkjdeiaa.Mv
open Go Go.Proofs
set_option linter.unusedSimpArgs false
set_option linter.unusedVariables false
set_option maxRecDepth 10000
set_option maxHeartbeats 4000000

/-- What is kept of what is told. -/
def takeR (n : Int) (rows : List (List AV)) : List (List AV) := if n < 0 then rows else rows.take n.toNat
/-- May more come? -/
def goR (n : Int) (rows : List (List AV)) : Bool := decide (n < 0 ∨ (rows.length : Int) ≤ n)
theorem goR_0 (n : Int) : goR n [] = true := decide_eq_true (by simp; omega)
theorem takeR_0 (n : Int) : takeR n [] = [] := by unfold takeR; split <;> simp
theorem takeR_len (n : Int) (rows : List (List AV)) : (takeR n rows).length ≤ rows.length := by
  unfold takeR
  split
  · omega
  · rw [List.length_take]; omega
theorem takeR_go {n : Int} {rows : List (List AV)} (h : goR n rows = true) : takeR n rows = rows := by
  have h := of_decide_eq_true h
  unfold takeR
  split
  · rfl
  · exact List.take_of_length_le (by omega)
/-- All has been told: nothing is kept. -/
theorem takeR_end {n : Int} {rows : List (List AV)} {x : List AV} (h : goR n rows = true) (e : (rows.length : Int) = n) : goR n (rows ++ [x]) = false ∧ takeR n (rows ++ [x]) = rows := by
  constructor
  · refine decide_eq_false ?_
    simp only [List.length_append, List.length_cons, List.length_nil]; omega
  · unfold takeR
    rw [if_neg (by omega)]
    exact List.take_left' (by omega)
theorem takeR_more {n : Int} {rows : List (List AV)} {x : List AV} (h : goR n rows = true) (e : ¬ (rows.length : Int) = n) : goR n (rows ++ [x]) = true ∧ takeR n (rows ++ [x]) = rows ++ [x] := by
  have h0 := of_decide_eq_true h
  have h1 : goR n (rows ++ [x]) = true := by
    refine decide_eq_true ?_
    simp only [List.length_append, List.length_cons, List.length_nil]; omega
  exact ⟨h1, takeR_go h1⟩
theorem run_take (n : Int) : ∀ (ps : List Pr) (rows : List (List AV)), goR n rows = true → takeR n (runL (goR n) rows ps).1 = takeR n (rows ++ ps.map Pr.av) ∧ (runL (goR n) rows ps).2 = goR n (runL (goR n) rows ps).1
  | [], rows, h => by rw [runL_nil]; exact ⟨by simp, h.symm⟩
  | p :: ps, rows, h => by
    rw [runL]
    by_cases e : goR n (rows ++ [p.av]) = true
    · rw [if_pos e]
      obtain ⟨h1, h2⟩ := run_take n ps (rows ++ [p.av]) e
      exact ⟨by rw [h1, List.append_assoc]; rfl, h2⟩
    · rw [if_neg e]
      refine ⟨?_, by simpa using e⟩
      have e1 : (rows.length : Int) = n := by
        by_cases e2 : (rows.length : Int) = n
        · exact e2
        · exact absurd (takeR_more h e2).1 e
      have e0 : ¬ n < 0 := by omega
      unfold takeR
      rw [if_neg e0, if_neg e0, List.take_left' (by omega), List.take_left' (by omega)]
theorem takeR_map (n : Int) (ps : List Pr) : takeR n (ps.map Pr.av) = (takeI n ps).map Pr.av := by
  unfold takeR takeI
  split
  · rfl
  · rw [List.map_take]
/-- The loop's own state. -/
def stE (n : Int) (rows : List (List AV)) : St := ⟨[(7, .ptr 1000007 0), (9, .ptr 1000019 0)], [(900, .gw (takeR n rows).length), (1000019, .bx [.gr 900 43 2 (takeR n rows)]), (1000007, .bx [.i .i64 n])]⟩
def stA (n : Int) (rows : List (List AV)) (k v : L) : St := ⟨[(10, .ptr 10 0), (7, .ptr 1000007 0), (9, .ptr 1000019 0)], [(10, .bx [.s k, .s v]), (900, .gw (takeR n rows).length), (1000019, .bx [.gr 900 43 2 (takeR n rows)]), (1000007, .bx [.i .i64 n])]⟩
section
attribute [local irreducible] AW AO AR
theorem pairs_assign (n : Int) (l : Nat) (rows : List (List AV)) (k v : L) (c : Ctx) (hP : c.P = Try.prog) (hN : c.N = 25) {a : Act} {w : World} (hr : RR c ⟨(15, .agg [.s k, .s v]) :: (stE n rows).T, (stE n rows).B⟩ a w) {Q : Exit → Act → World → Prop} (hQ : ∀ a w, RR c (stA n rows k v) a w → Q .normal a w) :
    (Code.region 3
      #[{ dst := some 10, op := Op.alloc 43, type := 0, pos := "mean.go:119", after := #[], guard := none },
        { dst := none, op := Op.store 43 (Operand.tmp 10) (Operand.tmp 15), type := 0, pos := "mean.go:119",
          after := #[{ on := 0, ground := Ground.data }, { on := 0, ground := Ground.phase }], guard := none }] false).wpIn (Fence.wide.inRound l) 0 Try.prog Q a w := by
  refine region_round c hP tabOk mixed (by rw [hN]; kernel_rfl) (by kernel_rfl) (fun F => ?_) hr hQ
  unfold stE
  dsimp only
  repeat' (first
    | apply AO.nil
    | (apply AO.kBuildS; first | refine AO.sBuildT (h := ?_) | refine AO.sBuildS (h := ?_))
    | (apply AO.kApp; first | refine AO.sGrowT (h := ?_) | refine AO.sNewT (h := ?_) | refine AO.sGrowBT (h := ?_) | refine AO.sGrow (h := ?_) | refine AO.sNewr (h := ?_))
    | (apply AO.kIx; first | refine AO.sIxN (h := ?_) | refine AO.sIx (h := ?_) | refine AO.sP (h := ?_) | refine AO.sPi (h := ?_))
    | (apply AO.kSl; first | refine AO.sSl (h := ?_) | refine AO.sSlArr (h := ?_) | refine AO.sP (h := ?_))
    | (apply AO.kBox; refine AO.sBox (h := ?_))
    | (apply AO.kAlloc; refine AO.sAlloc (h := ?_))
    | (apply AO.kStore; first | refine AO.sStore (h := ?_) | refine AO.sStB (h := ?_))
    | (apply AO.kAdd; refine AO.sAdd (h := ?_))
    | (apply AO.kSub; refine AO.sSub (h := ?_))
    | (apply AO.kCv; first | refine AO.sBytes (h := ?_) | refine AO.sStr (h := ?_) | refine AO.sStrR (h := ?_))
    | (apply AO.kP; first | refine AO.sP (h := ?_) | refine AO.sPi (h := ?_) | refine AO.sLoadB (h := ?_) | refine AO.sSameB (h := ?_) | refine AO.sMk0 (h := ?_) | refine AO.sArrB (h := ?_) | refine AO.sLoadA (h := ?_) | refine AO.sEqArr (heg := eqgArr) (h := ?_))
    | (apply AO.kP; refine AO.eqNil (h1 := fun h => ?_) (h2 := ?_))
    | apply AW.seq
    | (apply AW.kR; refine AW.sR (h := ?_))
    | apply AW.skip
    | apply AW.block
    | apply AW.out
    | (apply AW.kE; refine AW.sE (h := ?_))
    | apply AW.label
    | (apply AW.kRd; refine AW.sRd (h := ?_))
    | ((first | (apply AO.kG; first | refine AO.sgt (h1 := fun h => ?_) (h2 := fun h => ?_) | refine AO.sgf (h1 := fun h => ?_) (h2 := fun h => ?_) | refine AO.sgs (h := ?_)) | (apply AW.kC; refine AW.sC (h1 := fun h => ?_) (h2 := fun h => ?_)) | (apply AR.kAny; apply AR.kG; first | refine AR.sgt (h1 := fun h => ?_) (h2 := fun h => ?_) | refine AR.sgf (h1 := fun h => ?_) (h2 := fun h => ?_) | refine AR.sgs (h := ?_))) <;> (try (first | exact Bool.noConfusion h | exact absurd h (by decide) | (simp at h; done) | (rw [h]; try simp only [nrm] at h; try rw [h]; try (exfalso; omega)) | skip)))
    | (apply AR.kAny; first | (apply AR.kBuildS; first | refine AR.sBuildT (h := ?_) | refine AR.sBuildS (h := ?_)) | (apply AR.kApp; first | refine AR.sGrowT (h := ?_) | refine AR.sNewT (h := ?_) | refine AR.sGrowBT (h := ?_) | refine AR.sGrow (h := ?_) | refine AR.sNewr (h := ?_)) | (apply AR.kIx; first | refine AR.sIxN (h := ?_) | refine AR.sIx (h := ?_) | refine AR.sP (h := ?_) | refine AR.sPi (h := ?_)) | (apply AR.kSl; first | refine AR.sSl (h := ?_) | refine AR.sSlArr (h := ?_) | refine AR.sP (h := ?_)) | (apply AR.kBox; refine AR.sBox (h := ?_)) | (apply AR.kAlloc; refine AR.sAlloc (h := ?_)) | (apply AR.kStore; refine AR.sStore (h := ?_)) | (apply AR.kAdd; refine AR.sAdd (h := ?_)) | (apply AR.kSub; refine AR.sSub (h := ?_)) | (apply AR.kCv; refine AR.sStrR (h := ?_)) | (apply AR.kP; first | refine AR.sP (h := ?_) | refine AR.sPi (h := ?_) | refine AR.sArrB (h := ?_) | refine AR.sLoadA (h := ?_) | refine AR.sEqArr (heg := eqgArr) (h := ?_)))
    | (apply AR.kNil; refine AR.sNil (h := ?_)))
  refine AW.fin ?_
  unfold stA
  (constructor <;> (repeat' (first | exact LeT.nil | exact LeB.nil | apply LeT.cons | apply LeB.cons | exact Ol.refl | apply Lx.s | apply Lx.b | apply Lx.i | exact Lx.refl)) <;> (first | rfl | assumption | omega | (simp only [List.length_map, BS_len]; done) | skip))
theorem pairs_r4 (n : Int) (l : Nat) (rows : List (List AV)) (k v : L) (c : Ctx) (hP : c.P = Try.prog) (hN : c.N = 25) {a : Act} {w : World} (hr : RR c (stA n rows k v) a w) {Q : Exit → Act → World → Prop} (hQ : ∀ a w, RR c ⟨(19, .b (((takeR n rows).length : Int) == n)) :: (stA n rows k v).T, (stA n rows k v).B⟩ a w → Q .normal a w) :
    (Code.region 4
                      #[{ dst := some 16, op := Op.load 22 (Operand.tmp 9), type := 22, pos := "mean.go:120",
                          after := #[], guard := none },
                        { dst := some 17,
                          op :=
                            Op.call
                              { callee := Callee.builtin Builtin.len, args := #[Operand.tmp 16], argTypes := #[22] },
                          type := 3, pos := "mean.go:120", after := #[{ on := 0, ground := Ground.data }],
                          guard := none },
                        { dst := some 18, op := Op.load 3 (Operand.tmp 7), type := 3, pos := "mean.go:120",
                          after := #[], guard := none },
                        { dst := some 19, op := Op.binOp BinOp.eql 3 (Operand.tmp 17) (Operand.tmp 18) 3, type := 4,
                          pos := "mean.go:120",
                          after := #[{ on := 1, ground := Ground.data }, { on := 2, ground := Ground.data }],
                          guard := none }]
                      false).wpIn (Fence.wide.inRound l) 0 Try.prog Q a w := by
  refine region_round c hP tabOk mixed (by rw [hN]; kernel_rfl) (by kernel_rfl) (fun F => ?_) hr hQ
  unfold stA
  dsimp only
  repeat' (first
    | apply AO.nil
    | (apply AO.kBuildS; first | refine AO.sBuildT (h := ?_) | refine AO.sBuildS (h := ?_))
    | (apply AO.kApp; first | refine AO.sGrowT (h := ?_) | refine AO.sNewT (h := ?_) | refine AO.sGrowBT (h := ?_) | refine AO.sGrow (h := ?_) | refine AO.sNewr (h := ?_))
    | (apply AO.kIx; first | refine AO.sIxN (h := ?_) | refine AO.sIx (h := ?_) | refine AO.sP (h := ?_) | refine AO.sPi (h := ?_))
    | (apply AO.kSl; first | refine AO.sSl (h := ?_) | refine AO.sSlArr (h := ?_) | refine AO.sP (h := ?_))
    | (apply AO.kBox; refine AO.sBox (h := ?_))
    | (apply AO.kAlloc; refine AO.sAlloc (h := ?_))
    | (apply AO.kStore; first | refine AO.sStore (h := ?_) | refine AO.sStB (h := ?_))
    | (apply AO.kAdd; refine AO.sAdd (h := ?_))
    | (apply AO.kSub; refine AO.sSub (h := ?_))
    | (apply AO.kCv; first | refine AO.sBytes (h := ?_) | refine AO.sStr (h := ?_) | refine AO.sStrR (h := ?_))
    | (apply AO.kP; first | refine AO.sP (h := ?_) | refine AO.sPi (h := ?_) | refine AO.sLoadB (h := ?_) | refine AO.sSameB (h := ?_) | refine AO.sMk0 (h := ?_) | refine AO.sArrB (h := ?_) | refine AO.sLoadA (h := ?_) | refine AO.sEqArr (heg := eqgArr) (h := ?_))
    | (apply AO.kP; refine AO.eqNil (h1 := fun h => ?_) (h2 := ?_))
    | apply AW.seq
    | (apply AW.kR; refine AW.sR (h := ?_))
    | apply AW.skip
    | apply AW.block
    | apply AW.out
    | (apply AW.kE; refine AW.sE (h := ?_))
    | apply AW.label
    | (apply AW.kRd; refine AW.sRd (h := ?_))
    | ((first | (apply AO.kG; first | refine AO.sgt (h1 := fun h => ?_) (h2 := fun h => ?_) | refine AO.sgf (h1 := fun h => ?_) (h2 := fun h => ?_) | refine AO.sgs (h := ?_)) | (apply AW.kC; refine AW.sC (h1 := fun h => ?_) (h2 := fun h => ?_)) | (apply AR.kAny; apply AR.kG; first | refine AR.sgt (h1 := fun h => ?_) (h2 := fun h => ?_) | refine AR.sgf (h1 := fun h => ?_) (h2 := fun h => ?_) | refine AR.sgs (h := ?_))) <;> (try (first | exact Bool.noConfusion h | exact absurd h (by decide) | (simp at h; done) | (rw [h]; try simp only [nrm] at h; try rw [h]; try (exfalso; omega)) | skip)))
    | (apply AR.kAny; first | (apply AR.kBuildS; first | refine AR.sBuildT (h := ?_) | refine AR.sBuildS (h := ?_)) | (apply AR.kApp; first | refine AR.sGrowT (h := ?_) | refine AR.sNewT (h := ?_) | refine AR.sGrowBT (h := ?_) | refine AR.sGrow (h := ?_) | refine AR.sNewr (h := ?_)) | (apply AR.kIx; first | refine AR.sIxN (h := ?_) | refine AR.sIx (h := ?_) | refine AR.sP (h := ?_) | refine AR.sPi (h := ?_)) | (apply AR.kSl; first | refine AR.sSl (h := ?_) | refine AR.sSlArr (h := ?_) | refine AR.sP (h := ?_)) | (apply AR.kBox; refine AR.sBox (h := ?_)) | (apply AR.kAlloc; refine AR.sAlloc (h := ?_)) | (apply AR.kStore; refine AR.sStore (h := ?_)) | (apply AR.kAdd; refine AR.sAdd (h := ?_)) | (apply AR.kSub; refine AR.sSub (h := ?_)) | (apply AR.kCv; refine AR.sStrR (h := ?_)) | (apply AR.kP; first | refine AR.sP (h := ?_) | refine AR.sPi (h := ?_) | refine AR.sArrB (h := ?_) | refine AR.sLoadA (h := ?_) | refine AR.sEqArr (heg := eqgArr) (h := ?_)))
    | (apply AR.kNil; refine AR.sNil (h := ?_)))
  refine AW.fin ?_
  (constructor <;> (repeat' (first | exact LeT.nil | exact LeB.nil | apply LeT.cons | apply LeB.cons | exact Ol.refl | apply Lx.s | apply Lx.b | apply Lx.i | exact Lx.refl)) <;> (first | rfl | assumption | omega | (simp only [List.length_map, BS_len]; done) | skip))
theorem pairs_r5 (n : Int) (l : Nat) (rows : List (List AV)) (k v : L) (hlen : (takeR n rows).length < 1000000000) (c : Ctx) (hP : c.P = Try.prog) (hN : c.N = 25) {b : Bool} {a : Act} {w : World} (hr : RR c ⟨(19, .b b) :: (stA n rows k v).T, (stA n rows k v).B⟩ a w) {Q : Exit → Act → World → Prop}
    (hQ : ∀ a w, RR c ⟨[(7, .ptr 1000007 0), (9, .ptr 1000019 0)], [(900, .gw (takeR n rows ++ [[AV.s k, AV.s v]]).length), (1000019, .bx [.gr 900 43 2 (takeR n rows ++ [[AV.s k, AV.s v]])]), (1000007, .bx [.i .i64 n])]⟩ a w → Q .normal a w) :
    (Code.region 5
                #[{ dst := some 20, op := Op.load 22 (Operand.tmp 9), type := 22, pos := "mean.go:123", after := #[],
                    guard := none },
                  { dst := some 21, op := Op.load 43 (Operand.tmp 10), type := 43, pos := "mean.go:123", after := #[],
                    guard := none },
                  { dst := some 22, op := Op.buildSlice 22 1 #[(0, Operand.tmp 21)], type := 22, pos := "mean.go:123",
                    after := #[{ on := 1, ground := Ground.data }], guard := none },
                  { dst := some 23,
                    op :=
                      Op.call
                        { callee := Callee.builtin Builtin.append, args := #[Operand.tmp 20, Operand.tmp 22],
                          argTypes := #[22, 22] },
                    type := 22, pos := "mean.go:123",
                    after := #[{ on := 0, ground := Ground.data }, { on := 2, ground := Ground.data }], guard := none },
                  { dst := none, op := Op.store 22 (Operand.tmp 9) (Operand.tmp 23), type := 0, pos := "mean.go:123",
                    after :=
                      #[{ on := 3, ground := Ground.data }, { on := 3, ground := Ground.chain },
                        { on := 0, ground := Ground.phase }, { on := 1, ground := Ground.phase },
                        { on := 2, ground := Ground.phase }, { on := 3, ground := Ground.phase }],
                    guard := none }]
                false).wpIn (Fence.wide.inRound l) 0 Try.prog Q a w := by
  refine region_round c hP tabOk mixed (by rw [hN]; kernel_rfl) (by kernel_rfl) (fun F => ?_) hr hQ
  unfold stA
  dsimp only
  repeat' (first
    | apply AO.nil
    | (apply AO.kBuildS; first | refine AO.sBuildT (h := ?_) | refine AO.sBuildS (h := ?_))
    | (apply AO.kApp; first | refine AO.sGrowT (h := ?_) | refine AO.sNewT (h := ?_) | refine AO.sGrowBT (h := ?_) | refine AO.sGrow (h := ?_) | refine AO.sNewr (h := ?_))
    | (apply AO.kIx; first | refine AO.sIxN (h := ?_) | refine AO.sIx (h := ?_) | refine AO.sP (h := ?_) | refine AO.sPi (h := ?_))
    | (apply AO.kSl; first | refine AO.sSl (h := ?_) | refine AO.sSlArr (h := ?_) | refine AO.sP (h := ?_))
    | (apply AO.kBox; refine AO.sBox (h := ?_))
    | (apply AO.kAlloc; refine AO.sAlloc (h := ?_))
    | (apply AO.kStore; first | refine AO.sStore (h := ?_) | refine AO.sStB (h := ?_))
    | (apply AO.kAdd; refine AO.sAdd (h := ?_))
    | (apply AO.kSub; refine AO.sSub (h := ?_))
    | (apply AO.kCv; first | refine AO.sBytes (h := ?_) | refine AO.sStr (h := ?_) | refine AO.sStrR (h := ?_))
    | (apply AO.kP; first | refine AO.sP (h := ?_) | refine AO.sPi (h := ?_) | refine AO.sLoadB (h := ?_) | refine AO.sSameB (h := ?_) | refine AO.sMk0 (h := ?_) | refine AO.sArrB (h := ?_) | refine AO.sLoadA (h := ?_) | refine AO.sEqArr (heg := eqgArr) (h := ?_))
    | (apply AO.kP; refine AO.eqNil (h1 := fun h => ?_) (h2 := ?_))
    | apply AW.seq
    | (apply AW.kR; refine AW.sR (h := ?_))
    | apply AW.skip
    | apply AW.block
    | apply AW.out
    | (apply AW.kE; refine AW.sE (h := ?_))
    | apply AW.label
    | (apply AW.kRd; refine AW.sRd (h := ?_))
    | ((first | (apply AO.kG; first | refine AO.sgt (h1 := fun h => ?_) (h2 := fun h => ?_) | refine AO.sgf (h1 := fun h => ?_) (h2 := fun h => ?_) | refine AO.sgs (h := ?_)) | (apply AW.kC; refine AW.sC (h1 := fun h => ?_) (h2 := fun h => ?_)) | (apply AR.kAny; apply AR.kG; first | refine AR.sgt (h1 := fun h => ?_) (h2 := fun h => ?_) | refine AR.sgf (h1 := fun h => ?_) (h2 := fun h => ?_) | refine AR.sgs (h := ?_))) <;> (try (first | exact Bool.noConfusion h | exact absurd h (by decide) | (simp at h; done) | (rw [h]; try simp only [nrm] at h; try rw [h]; try (exfalso; omega)) | skip)))
    | (apply AR.kAny; first | (apply AR.kBuildS; first | refine AR.sBuildT (h := ?_) | refine AR.sBuildS (h := ?_)) | (apply AR.kApp; first | refine AR.sGrowT (h := ?_) | refine AR.sNewT (h := ?_) | refine AR.sGrowBT (h := ?_) | refine AR.sGrow (h := ?_) | refine AR.sNewr (h := ?_)) | (apply AR.kIx; first | refine AR.sIxN (h := ?_) | refine AR.sIx (h := ?_) | refine AR.sP (h := ?_) | refine AR.sPi (h := ?_)) | (apply AR.kSl; first | refine AR.sSl (h := ?_) | refine AR.sSlArr (h := ?_) | refine AR.sP (h := ?_)) | (apply AR.kBox; refine AR.sBox (h := ?_)) | (apply AR.kAlloc; refine AR.sAlloc (h := ?_)) | (apply AR.kStore; refine AR.sStore (h := ?_)) | (apply AR.kAdd; refine AR.sAdd (h := ?_)) | (apply AR.kSub; refine AR.sSub (h := ?_)) | (apply AR.kCv; refine AR.sStrR (h := ?_)) | (apply AR.kP; first | refine AR.sP (h := ?_) | refine AR.sPi (h := ?_) | refine AR.sArrB (h := ?_) | refine AR.sLoadA (h := ?_) | refine AR.sEqArr (heg := eqgArr) (h := ?_)))
    | (apply AR.kNil; refine AR.sNil (h := ?_)))
  refine AW.fin ?_
  ((constructor <;> (repeat' (first | exact LeT.nil | exact LeB.nil | apply LeT.cons | apply LeB.cons | exact Ol.refl | apply Lx.s | apply Lx.b | apply Lx.i | exact Lx.refl)) <;> (first | rfl | assumption | omega | (simp only [List.length_map, BS_len]; done) | skip)) <;> (first | (refine Lx.eq (congrArg (AV.gr _ _ _) ?_); simp only [List.map_append, List.map_cons, List.map_nil]; rfl) | (refine Ol.eq (congrArg Ob.gw ?_); simp only [List.map_append, List.map_cons, List.map_nil, List.length_append, List.length_map, List.length_cons, List.length_nil]; done) | (refine Ol.bx ?_; (repeat' (first | exact LxL.nil | apply LxL.cons | exact Lx.refl | (refine Lx.eq (congrArg (AV.gr _ _ _) ?_); simp only [List.map_append, List.map_cons, List.map_nil]; rfl)))) | skip))
theorem pairs_body (n : Int) (l : Nat) (rows : List (List AV)) (k v : L) (hgo : goR n rows = true) (hlen : rows.length < 1000000000) (c : Ctx) (hP : c.P = Try.prog) (hN : c.N = 25) {a : Act} {w : World} (hr : RR c (stA n rows k v) a w) {Q : Exit → Act → World → Prop}
    (q1 : goR n (rows ++ [[.s k, .s v]]) = true → ∀ a w, RR c (stE n (rows ++ [[.s k, .s v]])) a w → Q .normal a w) (q2 : goR n (rows ++ [[.s k, .s v]]) = false → ∀ a w, RR c (stE n (rows ++ [[.s k, .s v]])) a w → Q (.exit 0) a w) {r4 r5 : Code}
    (h4 : ∀ Q, (∀ a w, RR c ⟨(19, .b (((takeR n rows).length : Int) == n)) :: (stA n rows k v).T, (stA n rows k v).B⟩ a w → Q .normal a w) → r4.wpIn (Fence.wide.inRound l) 0 Try.prog Q a w)
    (h5 : ∀ (b : Bool) a w Q, RR c ⟨(19, .b b) :: (stA n rows k v).T, (stA n rows k v).B⟩ a w → (∀ a w, RR c ⟨[(7, .ptr 1000007 0), (9, .ptr 1000019 0)], [(900, .gw (takeR n rows ++ [[AV.s k, AV.s v]]).length), (1000019, .bx [.gr 900 43 2 (takeR n rows ++ [[AV.s k, AV.s v]])]), (1000007, .bx [.i .i64 n])]⟩ a w → Q .normal a w) → r5.wpIn (Fence.wide.inRound l) 0 Try.prog Q a w) :
    (Code.block 1 ((r4.seq (Code.cond (Operand.tmp 19) (Code.exit 0) Code.skip)).seq r5)).wpIn (Fence.wide.inRound l) 0 Try.prog Q a w := by
  refine wpIn_block (wpIn_seq (wpIn_seq (h4 _ fun a1 w1 hr1 => ?_)))
  have hev : a1.eval (.tmp 19) = .bool (((takeR n rows).length : Int) == n) := by
    obtain ⟨Γ, m, r⟩ := hr1
    have := r.eval (.tmp 19) (by simp [okOp, hN])
    generalize a1.eval (.tmp 19) = q at this
    cases this; rfl
  refine wpIn_cond hev ?_
  have t0 := takeR_go hgo
  by_cases e : (rows.length : Int) = n
  · obtain ⟨e1, e2⟩ := takeR_end (x := [AV.s k, AV.s v]) hgo e
    rw [if_pos (by rw [t0]; simpa using e)]
    refine wpIn_exit ?_
    show Q (.exit 0) a1 w1
    obtain ⟨Γ, m, r⟩ := hr1
    have hle : StLe Tr ⟨(19, .b (((takeR n rows).length : Int) == n)) :: (stA n rows k v).T, (stA n rows k v).B⟩ (stE n (rows ++ [[.s k, .s v]])) := by
      unfold stE stA
      rw [e2, t0]
      (constructor <;> (repeat' (first | exact LeT.nil | exact LeB.nil | apply LeT.cons | apply LeB.cons | exact Ol.refl | apply Lx.s | apply Lx.b | apply Lx.i | exact Lx.refl)) <;> (first | rfl | assumption | omega | (simp only [List.length_map, BS_len]; done) | skip))
    exact q2 e1 a1 w1 ⟨Γ, m, r.less trivial hle⟩
  · obtain ⟨e1, e2⟩ := takeR_more (x := [AV.s k, AV.s v]) hgo e
    rw [if_neg (by rw [t0]; simpa using e)]
    refine wpIn_skip ?_
    show r5.wpIn (Fence.wide.inRound l) 0 Try.prog _ a1 w1
    refine h5 _ a1 w1 _ hr1 fun a2 w2 hr2 => ?_
    show Q .normal a2 w2
    refine q1 e1 a2 w2 ?_
    unfold stE
    rw [e2]
    rw [t0] at hr2
    exact hr2
/-- The state at the loop. -/
def stP (clo : AV) (n : Int) : St := ⟨[(14, clo), (9, .ptr 9 0), (7, .ptr 7 0)], [(9, .bx [.gr 900 43 2 []]), (7, .bx [.i .i64 n]), (900, .gw 0)]⟩
/-- The names at the loop's start. -/
def nmP (m : Nm) : Nm := ⟨fun t => if t = 1000007 then m.th 7 else if t = 1000019 then m.th 9 else none, fun t => if t = 900 then m.ka 900 else fun _ => none, fun _ _ => False⟩
theorem stE_get {n : Int} {rows : List (List AV)} {t : Nat} (h7 : t ≠ 7) (h9 : t ≠ 9) : (stE n rows).get t = .any := by
  unfold stE St.get
  simp only [look]
  rw [if_neg (Ne.symm h7), if_neg (Ne.symm h9)]; rfl
theorem stE_ob {n : Int} {rows : List (List AV)} {t : Nat} (h1 : t ≠ 900) (h2 : t ≠ 1000019) (h3 : t ≠ 1000007) : (stE n rows).ob t = .dead := by
  unfold stE St.ob
  simp only [look]
  rw [if_neg (Ne.symm h1), if_neg (Ne.symm h2), if_neg (Ne.symm h3)]; rfl
theorem start_1 {c : Ctx} {Γ m clo n a w} (hr : RRW c Γ m (stP clo n) a w) (t : Nat) (ht : t < c.N) : Rep (fun _ => none) (nmP m) (a.tmps.getD t undef) ((stE n []).get t) := by
  have h := hr.tmps t ht
  by_cases h7 : t = 7
  · subst h7
    have h : Rep Γ m (a.tmps.getD 7 undef) (.ptr 7 0) := h
    show Rep _ _ _ (.ptr 1000007 0)
    generalize a.tmps.getD 7 undef = q at h
    cases h with | ptr h => exact .ptr h
  · by_cases h9 : t = 9
    · subst h9
      have h : Rep Γ m (a.tmps.getD 9 undef) (.ptr 9 0) := h
      show Rep _ _ _ (.ptr 1000019 0)
      generalize a.tmps.getD 9 undef = q at h
      cases h with | ptr h => exact .ptr h
    · rw [stE_get h7 h9]; exact .any
theorem start_2 {c : Ctx} {Γ m clo n a w} (hr : RRW c Γ m (stP clo n) a w) (t : Nat) : ObOk (fun _ => none) (nmP m) w t ((stE n []).ob t) := by
  by_cases h1 : t = 900
  · subst h1
    have h : ObOk Γ m w 900 (.gw 0) := hr.obs 900
    show ObOk _ _ _ _ (.gw (takeR n []).length)
    rw [takeR_0]
    obtain ⟨v, e, sz, xs, q1, q2, q3, q4⟩ := h
    exact ⟨v, e, sz, xs, q1, q2, q3, fun g hg => ⟨fun j hj => (by simp at hj), fun _ _ _ => rfl⟩⟩
  · by_cases h2 : t = 1000019
    · subst h2
      have h : ObOk Γ m w 9 (.bx [.gr 900 43 2 []]) := hr.obs 9
      show ObOk _ _ _ _ (.bx [.gr 900 43 2 (takeR n [])])
      rw [takeR_0]
      obtain ⟨g, cc, e, q1, q2, q3, q4, q5, q6⟩ := h
      refine ⟨g, cc, e, q1, q2, q3, fun j v d hv hd => ?_, q5, fun _ _ => rfl⟩
      match j with
      | 0 =>
        cases hd
        have := q4 0 v _ hv rfl
        cases this with
        | gr h1 h2 =>
          refine .gr ?_ h2
          cases h1 with
          | sh0 => exact .sh0
          | sh vs p1 p2 p3 p4 p5 p6 p7 p8 =>
            have hz : vs = [] := List.eq_nil_of_length_eq_zero (by simpa using p5)
            subst hz
            exact .sh [] p1 p2 p3 p4 p5 (fun j v hv => by simp at hv) p7 (fun j v c hv => by simp at hv)
      | j + 1 => simp at hd
    · by_cases h3 : t = 1000007
      · subst h3
        have h : ObOk Γ m w 7 (.bx [.i .i64 n]) := hr.obs 7
        obtain ⟨g, cc, e, q1, q2, q3, q4, q5, q6⟩ := h
        refine ⟨g, cc, e, q1, q2, q3, fun j v d hv hd => ?_, q5, fun _ _ => rfl⟩
        match j with
        | 0 =>
          cases hd
          have := q4 0 v _ hv rfl
          cases this; exact .i
        | j + 1 => simp at hd
      · rw [stE_ob h1 h2 h3]; trivial
theorem start_3 {m : Nm} {clo n} {t i : Nat} (h : ((stE n []).ob t).blk (nmP m) t i) : ∃ s, ((stP clo n).ob s).blk m s i ∧ ((t = 900 ∧ s = 900) ∨ (t = 1000019 ∧ s = 9) ∨ (t = 1000007 ∧ s = 7)) := by
  by_cases h1 : t = 900
  · subst h1; exact ⟨900, by
      have h : (Ob.gw (takeR n []).length).blk (nmP m) 900 i := h
      rw [takeR_0] at h
      exact h, .inl ⟨rfl, rfl⟩⟩
  · by_cases h2 : t = 1000019
    · subst h2; exact ⟨9, h, .inr (.inl ⟨rfl, rfl⟩)⟩
    · by_cases h3 : t = 1000007
      · subst h3; exact ⟨7, h, .inr (.inr ⟨rfl, rfl⟩)⟩
      · rw [stE_ob h1 h2 h3] at h; cases h
theorem start_5 {c : Ctx} {Γ m clo n a w} (hr : RRW c Γ m (stP clo n) a w) (ad : Addr) (h : OwnS m (stP clo n) ad.block) : Γ ad = none := by
  obtain ⟨t, ht⟩ := h
  by_cases h1 : t = 9
  · subst h1
    obtain ⟨g, cc, e, q1, q2, q3, q4, q5, q6⟩ := (show ObOk Γ m w 9 (.bx [.gr 900 43 2 []]) from hr.obs 9)
    have ht : m.th 9 = some ad.block := ht
    rw [q1] at ht; cases ht
    exact q6 ad rfl
  · by_cases h2 : t = 7
    · subst h2
      obtain ⟨g, cc, e, q1, q2, q3, q4, q5, q6⟩ := (show ObOk Γ m w 7 (.bx [.i .i64 n]) from hr.obs 7)
      have ht : m.th 7 = some ad.block := ht
      rw [q1] at ht; cases ht
      exact q6 ad rfl
    · by_cases h3 : t = 900
      · subst h3
        obtain ⟨v, e, sz, xs, q1, q2, q3, q4⟩ := (show ObOk Γ m w 900 (.gw 0) from hr.obs 900)
        have ht : ((m.ka 900 0).bind fun x => x.1.ownBlock) = some ad.block := ht
        rw [q1] at ht
        exact (q4 _ ht).2 ad rfl (.inr (by omega))
      · exfalso
        have : (stP clo n).ob t = .dead := by
          unfold stP St.ob
          simp only [look]
          rw [if_neg (Ne.symm h1), if_neg (Ne.symm h2), if_neg (Ne.symm h3)]; rfl
        rw [this] at ht; cases ht
theorem gPairsP {l : List Im} (hl : Ims l) (h1 : l.length ≤ 1000) (b : B32) {r : Rg} (hx : r.le 1000) (hro : (allP l b r).length ≤ 16000) (n : Int) (hn : -9223372036854775808 ≤ n ∧ n ≤ 9223372036854775807) :
    Good Try.prog 52 [.sh 6 (l.map Im.av), .i .u32 b.toNat, .agg [.s r.1, .s r.2.1, .b r.2.2], .i .i64 n] [] (.sh 2 ((takeI n (allP l b r)).map Pr.av)) [] := by
  have gA := gAll l b r
  obtain ⟨t1, t2⟩ := run_take n (allP l b r) [] (goR_0 n)
  rw [List.nil_append, takeR_map] at t1
  refine Good.walkM tabOk mixed (n := 9) Try.func52 (N := 25) (by kernel_rfl) rfl (by repeat (first | exact LE.nil | apply LE.cons)) fun F hF1 hF2 hZ => ?_
  repeat' (first
    | apply AO.nil
    | (apply AO.kCall 90; refine AO.sCall (hg := gA) (h := ?_))
    | (apply AO.kBuildS; first | refine AO.sBuildT (h := ?_) | refine AO.sBuildS (h := ?_))
    | (apply AO.kApp; first | refine AO.sGrowT (h := ?_) | refine AO.sNewT (h := ?_) | refine AO.sGrowBT (h := ?_) | refine AO.sGrow (h := ?_) | refine AO.sNewr (h := ?_))
    | (apply AO.kIx; first | refine AO.sIxN (h := ?_) | refine AO.sIx (h := ?_) | refine AO.sP (h := ?_) | refine AO.sPi (h := ?_))
    | (apply AO.kSl; first | refine AO.sSl (h := ?_) | refine AO.sSlArr (h := ?_) | refine AO.sP (h := ?_))
    | (apply AO.kBox; refine AO.sBox (h := ?_))
    | (apply AO.kAlloc; refine AO.sAlloc (h := ?_))
    | (apply AO.kStore; first | refine AO.sStore (h := ?_) | refine AO.sStB (h := ?_))
    | (apply AO.kAdd; refine AO.sAdd (h := ?_))
    | (apply AO.kSub; refine AO.sSub (h := ?_))
    | (apply AO.kCv; first | refine AO.sBytes (h := ?_) | refine AO.sStr (h := ?_) | refine AO.sStrR (h := ?_))
    | (apply AO.kP; first | refine AO.sP (h := ?_) | refine AO.sPi (h := ?_) | refine AO.sLoadB (h := ?_) | refine AO.sSameB (h := ?_) | refine AO.sMk0 (h := ?_) | refine AO.sArrB (h := ?_) | refine AO.sLoadA (h := ?_) | refine AO.sEqArr (heg := eqgArr) (h := ?_))
    | (apply AO.kP; refine AO.eqNil (h1 := fun h => ?_) (h2 := ?_))
    | apply AW.seq
    | (apply AW.kR; refine AW.sR (h := ?_))
    | apply AW.skip
    | apply AW.block
    | apply AW.out
    | (apply AW.kE; refine AW.sE (h := ?_))
    | apply AW.label
    | (apply AW.kRd; refine AW.sRd (h := ?_))
    | ((first | (apply AO.kG; first | refine AO.sgt (h1 := fun h => ?_) (h2 := fun h => ?_) | refine AO.sgf (h1 := fun h => ?_) (h2 := fun h => ?_) | refine AO.sgs (h := ?_)) | (apply AW.kC; refine AW.sC (h1 := fun h => ?_) (h2 := fun h => ?_)) | (apply AR.kAny; apply AR.kG; first | refine AR.sgt (h1 := fun h => ?_) (h2 := fun h => ?_) | refine AR.sgf (h1 := fun h => ?_) (h2 := fun h => ?_) | refine AR.sgs (h := ?_))) <;> (try (first | exact Bool.noConfusion h | exact absurd h (by decide) | (simp at h; done) | (rw [h]; try simp only [nrm] at h; try rw [h]; try (exfalso; omega)) | skip)))
    | (apply AR.kAny; first | (apply AR.kCall 90; refine AR.sCall (hg := gA) (h := ?_)) | (apply AR.kBuildS; first | refine AR.sBuildT (h := ?_) | refine AR.sBuildS (h := ?_)) | (apply AR.kApp; first | refine AR.sGrowT (h := ?_) | refine AR.sNewT (h := ?_) | refine AR.sGrowBT (h := ?_) | refine AR.sGrow (h := ?_) | refine AR.sNewr (h := ?_)) | (apply AR.kIx; first | refine AR.sIxN (h := ?_) | refine AR.sIx (h := ?_) | refine AR.sP (h := ?_) | refine AR.sPi (h := ?_)) | (apply AR.kSl; first | refine AR.sSl (h := ?_) | refine AR.sSlArr (h := ?_) | refine AR.sP (h := ?_)) | (apply AR.kBox; refine AR.sBox (h := ?_)) | (apply AR.kAlloc; refine AR.sAlloc (h := ?_)) | (apply AR.kStore; refine AR.sStore (h := ?_)) | (apply AR.kAdd; refine AR.sAdd (h := ?_)) | (apply AR.kSub; refine AR.sSub (h := ?_)) | (apply AR.kCv; refine AR.sStrR (h := ?_)) | (apply AR.kP; first | refine AR.sP (h := ?_) | refine AR.sPi (h := ?_) | refine AR.sArrB (h := ?_) | refine AR.sLoadA (h := ?_) | refine AR.sEqArr (heg := eqgArr) (h := ?_)))
    | (apply AR.kNil; refine AR.sNil (h := ?_)))
  refine AW.nilrow (st' := stP (.clo 118 [.pel [.sh 6 (l.map Im.av)], .pel [.i .u32 b.toNat], .pel [.s r.1, .s r.2.1, .b r.2.2]]) n) 900 43 2 (St.freeB_ok rfl) ⟨by ((repeat' (first | exact LeT.nil | apply LeT.cons | exact Lx.nilG | apply Lx.s | apply Lx.b | apply Lx.i | exact Lx.refl)) <;> (first | rfl | assumption | omega | (simp only [List.length_map, BS_len]; done) | skip)), .cons (.bx (.cons Lx.nilG .nil)) (.cons .refl (.cons .refl .nil))⟩ ?_
  suffices hs : ∀ a w Γ m, RRW F.c Γ m (stP (.clo 118 [.pel [.sh 6 (l.map Im.av)], .pel [.i .u32 b.toNat], .pel [.s r.1, .s r.2.1, .b r.2.2]]) n) a w → wpK Try.prog F.Z _ .normal a w by
    unfold AW
    exact fun a w ⟨Γ, m, hr⟩ => hs a w Γ m hr
  intro a w Γ m hr
  refine rangeF_wp (tab := tab) F.hP (X := 0) (E := stE n) (T0 := [(7, .ptr 1000007 0), (9, .ptr 1000019 0)]) (tags := [1000007, 1000019]) (go := goR n) (rowsF := (runL (goR n) [] (allP l b r)).1) (EA := stA n) rfl (by rw [F.hN]; omega) (by rw [F.hN]; omega) (fun rows => rfl)
    (fun t r h => ?_) (fun r h => ?_) (goR_0 n) (fun d hy hd hv => ?_) (fun l' rows k v _ _ c' hP' hN' a w hr Q hQ => pairs_assign n l' rows k v c' hP' (hN'.trans F.hN) hr hQ)
    (fun l' rows k v hgo hlen c' hP' hN' a w hr Q q1 q2 => pairs_body n l' rows k v hgo hlen c' hP' (hN'.trans F.hN) hr q1 q2 (fun Q hQ => pairs_r4 n l' rows k v c' hP' (hN'.trans F.hN) hr hQ) (fun bb a w Q hr hQ => pairs_r5 n l' rows k v (Nat.lt_of_le_of_lt (takeR_len n rows) hlen) c' hP' (hN'.trans F.hN) hr hQ))
    hr (nmP m) (start_1 hr) (start_2 hr) (fun t i h => ?_) (fun t t' i h h' => ?_) (start_5 hr) (fun D w' hB => ?_)
  · have := St.get_refs h
    simpa [St.refsT, AV.refs] using this
  · simp only [List.mem_cons, List.not_mem_nil, or_false] at h
    omega
  · have g := gAll1 hy hl h1 b hx hv [] (by show 0 + _ ≤ _; omega)
    rw [hd, t2] at g
    exact g
  · obtain ⟨s, hs, _⟩ := start_3 (clo := .clo 118 [.pel [.sh 6 (l.map Im.av)], .pel [.i .u32 b.toNat], .pel [.s r.1, .s r.2.1, .b r.2.2]]) h
    exact ⟨s, hs⟩
  · obtain ⟨s, hs, e⟩ := start_3 (clo := .clo 118 [.pel [.sh 6 (l.map Im.av)], .pel [.i .u32 b.toNat], .pel [.s r.1, .s r.2.1, .b r.2.2]]) h
    obtain ⟨s', hs', e'⟩ := start_3 (clo := .clo 118 [.pel [.sh 6 (l.map Im.av)], .pel [.i .u32 b.toNat], .pel [.s r.1, .s r.2.1, .b r.2.2]]) h'
    have := hr.inj s s' i hs hs'
    omega
  · have key : ∀ a1 : Act, a1 = { a with defers := [{ target := .collected D, args := #[] }] } → (Code.seq (Code.region 6
              #[{ dst := some 24, op := Op.load 22 (Operand.tmp 9), type := 22, pos := "mean.go:125", after := #[],
                  guard := none },
                { dst := some 8, op := Op.assign (Operand.tmp 24), type := 22, pos := "mean.go:125",
                  after := #[{ on := 0, ground := Ground.data }, { on := 0, ground := Ground.phase }], guard := none }]
              false) Code.ret).wp Try.prog F.Z a1 w' := by
      rintro a1 rfl
      obtain ⟨l0, Y, hL, hY, hG⟩ := hB.loc
      obtain ⟨⟨Γ2, m2, k1, k2, k3, k4, k5, k6⟩, z1, z2, z3, z4, z5⟩ := hL
      have p9 : Rep Γ2 m2 (a.tmps.getD 9 undef) (.ptr 1000019 0) := k3 9 (by rw [F.hN]; omega)
      have o9 : ObOk Γ2 m2 w' 1000019 (.bx [.gr 900 43 2 (takeR n (runL (goR n) [] (allP l b r)).1)]) := k4 1000019
      rw [t1] at o9
      obtain ⟨g, cc, e, q1, q2, q3, q4, q5, q6⟩ := o9
      have ev : a.tmps.getD 9 undef = .pointer (some ⟨g, 0, none⟩) := by
        generalize a.tmps.getD 9 undef = q at p9
        cases p9 with | ptr h => rw [q1] at h; cases h; rfl
      obtain ⟨v, hv⟩ : ∃ v, cc[0]? = some v := ⟨_, Array.getElem?_eq_getElem (by have := q3.2; simp at this; omega)⟩
      have hrep : Rep Γ2 m2 v (.sh 2 ((takeI n (allP l b r)).map Pr.av)) := by
        have := q4 0 v _ hv rfl
        cases this with | gr h1 h2 => exact h1
      have hc : w'.cell? ⟨g, 0, none⟩ = some v := by
        rw [cell_of_row w' g _ _ _ _ q2]; exact hv
      have hld : (Instr.loadAt 22 (.pointer (some ⟨g, 0, none⟩))).run Try.prog w' = .ok v w' := by
        have hl22 : look tab 22 = some ty22 := rfl
        simp [Instr.loadAt, Instr.sureAddr, loadVar, (tabOk.at hl22).run_agg w', show ty22.agg = false from rfl, hc]
      have lt24 : 24 < a.tmps.size := by rw [z1, F.hN]; omega
      refine wp_seq (wpIn_wide.1 (wpIn_region_lit (n := 0) (wpListIn_plain rfl fun K hK => ⟨fun _ _ => trivial, ?_⟩)))
      have hx1 : (Oper.semAt Fence.wide.round (Act.eval { a with defers := [{ target := .collected D, args := #[] }] }) { dst := some 24, op := Op.load 22 (Operand.tmp 9), type := 22, pos := "mean.go:125", after := #[], guard := none }).run Try.prog w' = .ok (.value v) w' := by
        rw [Fence.wide_round, Oper.semAt_none]
        simp [execOp, Act.eval, ev, hld]
      rw [hx1]
      refine hK _ _ (wpListIn_plain rfl fun K2 hK2 => ⟨fun _ _ => trivial, ?_⟩)
      have hx2 : (Oper.semAt Fence.wide.round (Act.eval (Act.put { a with defers := [{ target := .collected D, args := #[] }] } (some 24) v)) { dst := some 8, op := Op.assign (Operand.tmp 24), type := 22, pos := "mean.go:125", after := #[{ on := 0, ground := Ground.data }, { on := 0, ground := Ground.phase }], guard := none }).run Try.prog w' = .ok (.value v) w' := by
        rw [Fence.wide_round, Oper.semAt_none]
        simp [execOp, Act.eval, Act.put, lt24]
      rw [hx2]
      refine hK2 _ _ ?_
      show Code.ret.wp Try.prog F.Z _ w'
      refine wp_ret ?_
      rw [hZ]
      refine ⟨by simp, .inl ⟨_, _, rfl, run_takeDeferred hB.dfr, ?_⟩⟩
      have lt8 : 8 < a.tmps.size := by rw [z1, F.hN]; omega
      have b4 : ∀ i, i ≠ D → (w'.putObj D (Obj.deferred none)).heap[i]? = w'.heap[i]? := fun i hi => World.putObj_heap_other hi
      have nD : ∀ ad x, w'.cell? ad = some x → ad.block ≠ D := fun ad x h e => by
        unfold World.cell? at h
        rw [e, hB.dfr] at h; cases h
      have gD : F.c.w0.heap.size ≤ D := (hY D z3).resolve_right (hF2 D)
      refine ⟨v, ?_, v, fun ad => if (Γ ad).isSome then Γ ad else Γ2 ad, m2, rfl, ?_⟩
      · simp [results, Try.f52, go_sem, Act.put, lt8]
      · have hs2 : Sub Γ2 fun ad => if (Γ ad).isSome then Γ ad else Γ2 ad := fun ad x hx => by
          show (if (Γ ad).isSome then Γ ad else Γ2 ad) = some x
          cases hg : Γ ad with
          | none => exact hx
          | some y => exact absurd (k2 ad x hx) (hG ad y hg)
        have hgk : ∀ ad x, (if (Γ ad).isSome then Γ ad else Γ2 ad) = some x → w'.cell? ad = some x := fun ad x hx => by
          split at hx
          · exact hB.gok ad x hx
          · exact k1 ad x hx
        refine ⟨fun ad x hx => ?_, fun ad x hx => ?_, hrep.mono hs2 fun t ht => (by simp [AV.refs] at ht), fun p hp => by simp at hp, fun p hp => by simp at hp, fun g ⟨p, hp, _⟩ => by simp at hp, fun p hp => by simp at hp, ⟨?_, ?_, ?_, ?_, fun k hk _ => ?_⟩, fun ad h0 h1 => ?_⟩
        · have := hr.sub ad x hx
          show (if (Γ ad).isSome then Γ ad else Γ2 ad) = some x
          rw [if_pos (by rw [this]; rfl)]; exact this
        · have h2 := hgk ad x hx
          rw [cell_block (b4 _ (nD ad x h2))]; exact h2
        · exact hB.frame.os
        · exact hB.frame.tape
        · exact hB.frame.output
        · have := hB.frame.size; simpa using this
        · rw [b4 k (by omega)]
          exact hB.frame.block k hk (hF2 k)
        · have h1 : (if (Γ ad).isSome then Γ ad else Γ2 ad) ≠ none := h1
          split at h1
          · exact (hr.fresh ad h0 h1).imp id fun h => (hF2 _ h).elim
          · cases hq : Γ2 ad with
            | none => exact absurd hq h1
            | some y => exact (hY _ (k2 ad y hq)).imp id fun h => (hF2 _ h).elim
    exact ⟨key _ rfl, key _ rfl⟩
end
end Go.Proofs.Ytocppeifkjdeiaa.Mv

/- Graphs: the pairs of any range. Under no condition. -/
namespace Go.Proofs.Ytocppeifkjdeiaa.Mv
open Go Go.Proofs
set_option linter.unusedSimpArgs false
set_option linter.unusedVariables false
set_option maxRecDepth 10000
set_option maxHeartbeats 4000000
attribute [local irreducible] AW AO AR

/-- A graph that is gone through. -/
def smallG (l : List Im) (b : B32) : Bool := !great9 l && decide ((if rightL (lead9 l) l = true then wW l b else 0) ≤ 100)
theorem small_ims {l : List Im} (hg : great9 l = false) : Ims l ∧ l.length ≤ 30 := by
  unfold great9 at hg
  rw [Bool.or_eq_false_iff, decide_eq_false_iff_not, Bool.not_eq_false'] at hg
  exact ⟨⟨by omega, fun i hi => great_small (by
    have := List.all_eq_true.1 hg.2 _ (mem_at' hi)
    simpa using this)⟩, by omega⟩
theorem small_w {l : List Im} {b : B32} (h : smallG l b = true) : great9 l = false ∧ (rightL (lead9 l) l = true → wN l b ≤ 1000) := by
  unfold smallG at h
  rw [Bool.and_eq_true, Bool.not_eq_true', decide_eq_true_eq] at h
  refine ⟨h.1, fun hr => ?_⟩
  have := h.2
  rw [if_pos hr] at this
  unfold wN; omega
theorem gSmall (l : List Im) (hl : l.length ≤ 9223372036854775807) (hf : ∀ x ∈ l, x.nd.fits) (b : B32) : Good Try.prog 50 [.sh 6 (l.map Im.av), .i .u32 b.toNat] [] (.b (smallG l b)) [] := by
  have gG := gGreat9 l hl fun i hi => hf _ (mem_at' hi)
  cases hg : great9 l with
  | true =>
    rw [hg] at gG
    rw [show smallG l b = false by unfold smallG; rw [hg]; rfl]
    refine Good.w tabOk mixed Try.func50 (N := 14) (by kernel_rfl) rfl (by (repeat (first | exact LE.nil | apply LE.cons)); done) (by (repeat (first | exact LE.nil | apply LE.cons)); done) fun D hD F => ?_
    repeat' (first
    | apply AO.nil
    | (apply AO.kCall 44; refine AO.sCall (hg := gG) (h := ?_))
    | (apply AO.kP; first | refine AO.sP (h := ?_) | refine AO.sPi (h := ?_))
    | apply AW.seq
    | (apply AW.kR; refine AW.sR (h := ?_))
    | apply AW.skip
    | apply AW.block
    | apply AW.out
    | (apply AW.kE; refine AW.sE (h := ?_))
    | apply AW.label
    | ((first | (apply AO.kG; first | refine AO.sgt (h1 := fun h => ?_) (h2 := fun h => ?_) | refine AO.sgf (h1 := fun h => ?_) (h2 := fun h => ?_) | refine AO.sgs (h := ?_))) <;> (try (first | exact Bool.noConfusion h | exact absurd h (by decide) | (simp at h; done) | (rw [h]; try simp only [nrm] at h; try rw [h]; try (exfalso; omega)) | skip))))
    all_goals exact AW.ret (hD rfl .refl)
  | false =>
    rw [hg] at gG
    obtain ⟨him, h30⟩ := small_ims hg
    have g4 := gWaysR l him b (by omega)
    rw [show smallG l b = decide ((if rightL (lead9 l) l = true then wW l b else 0) ≤ 100) by unfold smallG; rw [hg]; rfl]
    generalize (if rightL (lead9 l) l = true then wW l b else 0) = w at *
    refine Good.w tabOk mixed Try.func50 (N := 14) (by kernel_rfl) rfl (by (repeat (first | exact LE.nil | apply LE.cons)); done) (by (repeat (first | exact LE.nil | apply LE.cons)); done) fun D hD F => ?_
    repeat' (first
    | apply AO.nil
    | (apply AO.kCall 44; refine AO.sCall (hg := gG) (h := ?_))
    | (apply AO.kCall 49; refine AO.sCall (hg := g4) (h := ?_))
    | (apply AO.kP; first | refine AO.sP (h := ?_) | refine AO.sPi (h := ?_))
    | apply AW.seq
    | (apply AW.kR; refine AW.sR (h := ?_))
    | apply AW.skip
    | apply AW.block
    | apply AW.out
    | (apply AW.kE; refine AW.sE (h := ?_))
    | apply AW.label
    | ((first | (apply AO.kG; first | refine AO.sgt (h1 := fun h => ?_) (h2 := fun h => ?_) | refine AO.sgf (h1 := fun h => ?_) (h2 := fun h => ?_) | refine AO.sgs (h := ?_))) <;> (try (first | exact Bool.noConfusion h | exact absurd h (by decide) | (simp at h; done) | (rw [h]; try simp only [nrm] at h; try rw [h]; try (exfalso; omega)) | skip))))
    all_goals exact AW.ret (hD rfl .refl)
end Go.Proofs.Ytocppeifkjdeiaa.Mv

/- Graphs: pairs and values agree. Under no condition. -/
namespace Go.Proofs.Ytocppeifkjdeiaa.Mv
open Go Go.Proofs
set_option linter.unusedSimpArgs false
set_option linter.unusedVariables false
set_option maxRecDepth 10000
set_option maxHeartbeats 4000000
attribute [local irreducible] AW AO AR

/-- What Get tells. -/
def val10 (l : List Im) (b : B32) (k : L) : Option L := if (get10 l b k).2 = true then some (get10 l b k).1 else none
theorem takeI_all (ps : List Pr) : takeI (-1) ps = ps := by unfold takeI; rw [if_pos (by decide)]
theorem allP_spec (l : List Im) (b : B32) (r : Rg) : Spec (allP l b r) (fun k => inn r k = true) (val10 l b) := by
  by_cases hr : rightL (lead9 l) l = true
  · have h := spec_blk hr (l.length + 1) b r
    have e : allP l b r = blkP l (l.length + 1) b r := by unfold allP; rw [if_pos hr]
    rw [e]
    refine h.on (fun _ => Iff.rfl) fun k _ => ?_
    unfold val10 valN get10
    rw [if_pos hr]
  · have e : allP l b r = [] := by unfold allP; rw [if_neg hr]
    rw [e]
    refine Spec.nil fun k _ => ?_
    unfold val10 get10
    rw [if_neg hr, if_neg (by decide)]
end Go.Proofs.Ytocppeifkjdeiaa.Mv

/- Graphs: a range's parts. Under no condition. -/
namespace Go.Proofs.Ytocppeifkjdeiaa.Mv
open Go Go.Proofs
set_option linter.unusedSimpArgs false
set_option linter.unusedVariables false
set_option maxRecDepth 10000
set_option maxHeartbeats 4000000
attribute [local irreducible] AW AO AR

theorem allP_parts (l : List Im) (b : B32) (r : Rg) (k : L) : allP l b (cut r ([], k, true)) ++ allP l b (cut r (k, [], false)) = allP l b r := by
  refine Spec.eq (R := fun k' => inn r k' = true) (V := val10 l b) (Spec.app (allP_spec l b _) (allP_spec l b _) (fun k1 k2 h1 h2 => ?_) fun k' => ?_) (allP_spec l b r)
  · rw [cut_inn, Bool.and_eq_true, inn_iff (r := ([], k, true))] at h1
    rw [cut_inn, Bool.and_eq_true, inn_iff (r := (k, [], false))] at h2
    exact lt_of_lt_le (h1.2.2 rfl) h2.2.1
  · rw [cut_inn, cut_inn, Bool.and_eq_true, Bool.and_eq_true, inn_iff (r := ([], k, true)), inn_iff (r := (k, [], false))]
    constructor
    · intro h
      cases hk : lt k' k with
      | true => exact .inl ⟨h, lt_nil _, fun _ => rfl⟩
      | false => exact .inr ⟨h, rfl, fun h => by cases h⟩
    · rintro (h | h)
      · exact h.1
      · exact h.1
theorem takeI_min {n : Int} (h : 0 ≤ n) (ps : List Pr) : ps.take (min n (ps.length : Int)).toNat = takeI n ps := by
  unfold takeI
  rw [if_neg (by omega)]
  by_cases h2 : n ≤ ps.length
  · rw [Int.min_eq_left h2]
  · rw [Int.min_eq_right (by omega), List.take_of_length_le (by omega), List.take_of_length_le (by omega)]
theorem gLawMParts (l : List Im) (hl : l.length ≤ 9223372036854775807) (hf : ∀ x ∈ l, x.nd.fits) (b : B32) (lo hi : L) (e : Bool) (k : L) (n : Int) (hn : -9223372036854775808 ≤ n ∧ n ≤ 9223372036854775807) : Good Try.prog 14 [.sh 6 (l.map Im.av), .i .u32 b.toNat, .agg [.s lo, .s hi, .b e], .s k, .i .i64 n] [] (.b true) [] := by
  have gS := gSmall l hl hf b
  have gG3 := gGreat3 lo hi e
  cases hs : smallG l b with
  | false =>
    rw [hs] at gS
    refine Good.w tabOk mixed Try.func14 (N := 78) (by kernel_rfl) rfl (by (repeat (first | exact LE.nil | apply LE.cons)); done) (by (repeat (first | exact LE.nil | apply LE.cons)); done) fun D hD F => ?_
    repeat' (first
    | apply AO.nil
    | (apply AO.kCall 50; refine AO.sCall (hg := gS) (h := ?_))
    | (apply AO.kCall 16; refine AO.sCall (hg := gG3) (h := ?_))
    | (apply AO.kCall 45; refine AO.sCall (hg := gAwakeM) (h := ?_))
    | (apply AO.kBuildS; first | refine AO.sBuildT (h := ?_) | refine AO.sBuildS (h := ?_))
    | (apply AO.kApp; first | refine AO.sGrowT (h := ?_) | refine AO.sNewT (h := ?_) | refine AO.sGrowBT (h := ?_) | refine AO.sGrow (h := ?_) | refine AO.sNewr (h := ?_))
    | (apply AO.kSl; first | refine AO.sSl (h := ?_) | refine AO.sSlArr (h := ?_) | refine AO.sP (h := ?_))
    | (apply AO.kBox; refine AO.sBox (h := ?_))
    | (apply AO.kP; first | refine AO.sP (h := ?_) | refine AO.sPi (h := ?_) | refine AO.sLoadB (h := ?_) | refine AO.sSameB (h := ?_))
    | apply AW.seq
    | (apply AW.kR; refine AW.sR (h := ?_))
    | apply AW.skip
    | apply AW.block
    | apply AW.out
    | (apply AW.kE; refine AW.sE (h := ?_))
    | apply AW.label
    | (apply AW.kRd; refine AW.sRd (h := ?_))
    | ((first | (apply AO.kG; first | refine AO.sgt (h1 := fun h => ?_) (h2 := fun h => ?_) | refine AO.sgf (h1 := fun h => ?_) (h2 := fun h => ?_) | refine AO.sgs (h := ?_)) | (apply AW.kC; refine AW.sC (h1 := fun h => ?_) (h2 := fun h => ?_)) | (apply AR.kAny; apply AR.kG; first | refine AR.sgt (h1 := fun h => ?_) (h2 := fun h => ?_) | refine AR.sgf (h1 := fun h => ?_) (h2 := fun h => ?_) | refine AR.sgs (h := ?_))) <;> (try (first | exact Bool.noConfusion h | exact absurd h (by decide) | (simp at h; done) | (rw [h]; try simp only [nrm] at h; try rw [h]; try (exfalso; omega)) | skip)))
    | (apply AR.kAny; first | (apply AR.kCall 50; refine AR.sCall (hg := gS) (h := ?_)) | (apply AR.kCall 16; refine AR.sCall (hg := gG3) (h := ?_)) | (apply AR.kCall 45; refine AR.sCall (hg := gAwakeM) (h := ?_)) | (apply AR.kBuildS; first | refine AR.sBuildT (h := ?_) | refine AR.sBuildS (h := ?_)) | (apply AR.kApp; first | refine AR.sGrowT (h := ?_) | refine AR.sNewT (h := ?_) | refine AR.sGrowBT (h := ?_) | refine AR.sGrow (h := ?_) | refine AR.sNewr (h := ?_)) | (apply AR.kSl; first | refine AR.sSl (h := ?_) | refine AR.sSlArr (h := ?_) | refine AR.sP (h := ?_)) | (apply AR.kBox; refine AR.sBox (h := ?_)) | (apply AR.kP; first | refine AR.sP (h := ?_) | refine AR.sPi (h := ?_)))
    | (apply AR.kNil; refine AR.sNil (h := ?_)))
    all_goals first
      | exact AW.ret (hD rfl (Lx.b rfl))
      | trace_state
  | true =>
    rw [hs] at gS
    cases h3 : great2 lo hi with
    | true =>
      rw [h3] at gG3
      refine Good.w tabOk mixed Try.func14 (N := 78) (by kernel_rfl) rfl (by (repeat (first | exact LE.nil | apply LE.cons)); done) (by (repeat (first | exact LE.nil | apply LE.cons)); done) fun D hD F => ?_
      repeat' (first
    | apply AO.nil
    | (apply AO.kCall 50; refine AO.sCall (hg := gS) (h := ?_))
    | (apply AO.kCall 16; refine AO.sCall (hg := gG3) (h := ?_))
    | (apply AO.kCall 45; refine AO.sCall (hg := gAwakeM) (h := ?_))
    | (apply AO.kBuildS; first | refine AO.sBuildT (h := ?_) | refine AO.sBuildS (h := ?_))
    | (apply AO.kApp; first | refine AO.sGrowT (h := ?_) | refine AO.sNewT (h := ?_) | refine AO.sGrowBT (h := ?_) | refine AO.sGrow (h := ?_) | refine AO.sNewr (h := ?_))
    | (apply AO.kSl; first | refine AO.sSl (h := ?_) | refine AO.sSlArr (h := ?_) | refine AO.sP (h := ?_))
    | (apply AO.kBox; refine AO.sBox (h := ?_))
    | (apply AO.kP; first | refine AO.sP (h := ?_) | refine AO.sPi (h := ?_) | refine AO.sLoadB (h := ?_) | refine AO.sSameB (h := ?_))
    | apply AW.seq
    | (apply AW.kR; refine AW.sR (h := ?_))
    | apply AW.skip
    | apply AW.block
    | apply AW.out
    | (apply AW.kE; refine AW.sE (h := ?_))
    | apply AW.label
    | (apply AW.kRd; refine AW.sRd (h := ?_))
    | ((first | (apply AO.kG; first | refine AO.sgt (h1 := fun h => ?_) (h2 := fun h => ?_) | refine AO.sgf (h1 := fun h => ?_) (h2 := fun h => ?_) | refine AO.sgs (h := ?_)) | (apply AW.kC; refine AW.sC (h1 := fun h => ?_) (h2 := fun h => ?_)) | (apply AR.kAny; apply AR.kG; first | refine AR.sgt (h1 := fun h => ?_) (h2 := fun h => ?_) | refine AR.sgf (h1 := fun h => ?_) (h2 := fun h => ?_) | refine AR.sgs (h := ?_))) <;> (try (first | exact Bool.noConfusion h | exact absurd h (by decide) | (simp at h; done) | (rw [h]; try simp only [nrm] at h; try rw [h]; try (exfalso; omega)) | skip)))
    | (apply AR.kAny; first | (apply AR.kCall 50; refine AR.sCall (hg := gS) (h := ?_)) | (apply AR.kCall 16; refine AR.sCall (hg := gG3) (h := ?_)) | (apply AR.kCall 45; refine AR.sCall (hg := gAwakeM) (h := ?_)) | (apply AR.kBuildS; first | refine AR.sBuildT (h := ?_) | refine AR.sBuildS (h := ?_)) | (apply AR.kApp; first | refine AR.sGrowT (h := ?_) | refine AR.sNewT (h := ?_) | refine AR.sGrowBT (h := ?_) | refine AR.sGrow (h := ?_) | refine AR.sNewr (h := ?_)) | (apply AR.kSl; first | refine AR.sSl (h := ?_) | refine AR.sSlArr (h := ?_) | refine AR.sP (h := ?_)) | (apply AR.kBox; refine AR.sBox (h := ?_)) | (apply AR.kP; first | refine AR.sP (h := ?_) | refine AR.sPi (h := ?_)))
    | (apply AR.kNil; refine AR.sNil (h := ?_)))
      all_goals first
        | exact AW.ret (hD rfl (Lx.b rfl))
        | trace_state
    | false =>
      rw [h3] at gG3
      by_cases hk : k.length ≤ 100 ∧ 0 ≤ n
      · obtain ⟨hk, h0⟩ := hk
        obtain ⟨hg, hw⟩ := small_w hs
        obtain ⟨him, h30⟩ := small_ims hg
        unfold great2 at h3
        rw [Bool.or_eq_false_iff, decide_eq_false_iff_not, decide_eq_false_iff_not] at h3
        have hx : Rg.le (lo, hi, e) 1000 := ⟨by show lo.length ≤ 1000; omega, by show hi.length ≤ 1000; omega⟩
        have hxA : (cut (lo, hi, e) ([], k, true)).le 1000 := cut_le hx ⟨by show ([] : L).length ≤ 1000; simp, by show k.length ≤ 1000; omega⟩
        have hxB : (cut (lo, hi, e) (k, [], false)).le 1000 := cut_le hx ⟨by show k.length ≤ 1000; omega, by show ([] : L).length ≤ 1000; simp⟩
        have room := @allP_room l b hw (lo, hi, e)
        have roomA := @allP_room l b hw (cut (lo, hi, e) ([], k, true))
        have roomB := @allP_room l b hw (cut (lo, hi, e) (k, [], false))
        have hsum := allP_parts l b (lo, hi, e) k
        have g1 := gPairsP him (by omega) b hx room (-1) (by omega)
        have g2 := gPairsP him (by omega) b hx room n hn
        have gA := gPairsP him (by omega) b hxA roomA (-1) (by omega)
        have gB := gPairsP him (by omega) b hxB roomB (-1) (by omega)
        have cA := gCut' lo hi e [] k true
        have cB := gCut' lo hi e k [] false
        rw [takeI_all] at g1 gA gB
        have hmn := takeI_min h0 (allP l b (lo, hi, e))
        have lT := takeI_len n (allP l b (lo, hi, e))
        dsimp only at g1 g2
        generalize allP l b (lo, hi, e) = ps at *
        generalize allP l b (cut (lo, hi, e) ([], k, true)) = pa at *
        generalize allP l b (cut (lo, hi, e) (k, [], false)) = pb at *
        have lps : (ps.map Pr.av).length = ps.length := by simp
        have lpa : (pa.map Pr.av).length = pa.length := by simp
        have lpb : (pb.map Pr.av).length = pb.length := by simp
        have s1 := gSameP ps ps (by omega) (by omega)
        have s2 := gSameP (takeI n ps) (takeI n ps) (by omega) (by omega)
        rw [decide_eq_true rfl] at s1 s2
        have s2' : Good Try.prog 51 [.sh 2 ((takeI n ps).map Pr.av), .sh 2 ((ps.take (if ((ps.map Pr.av).length : Int) < n then ((ps.map Pr.av).length : Int) else n).toNat).map Pr.av)] [] (.b true) [] := by
          have e2 : ps.take (if ((ps.map Pr.av).length : Int) < n then ((ps.map Pr.av).length : Int) else n).toNat = takeI n ps := by
            rw [← hmn, lps]
            congr 1
            split <;> omega
          rw [e2]; exact s2
        have s1' : Good Try.prog 51 [.sh 2 (ps.map Pr.av), .sh 2 (BS [] ++ pa.map Pr.av ++ pb.map Pr.av)] [] (.b true) [] := by
          rw [show BS [] = [] from rfl, List.nil_append, ← List.map_append, hsum]; exact s1
        refine Good.w tabOk mixed Try.func14 (N := 78) (by kernel_rfl) rfl (by (repeat (first | exact LE.nil | apply LE.cons)); done) (by (repeat (first | exact LE.nil | apply LE.cons)); done) fun D hD F => ?_
        repeat' (first
    | apply AO.nil
    | (apply AO.kCall 50; refine AO.sCall (hg := gS) (h := ?_))
    | (apply AO.kCall 16; refine AO.sCall (hg := gG3) (h := ?_))
    | (apply AO.kBuildS; first | refine AO.sBuildT (h := ?_) | refine AO.sBuildS (h := ?_))
    | (apply AO.kApp; first | refine AO.sGrowT (h := ?_) | refine AO.sNewT (h := ?_) | refine AO.sGrowBT (h := ?_) | refine AO.sGrow (h := ?_) | refine AO.sNewr (h := ?_))
    | (apply AO.kSl; first | refine AO.sSl (h := ?_) | refine AO.sSlArr (h := ?_) | refine AO.sP (h := ?_))
    | (apply AO.kBox; refine AO.sBox (h := ?_))
    | (apply AO.kP; first | refine AO.sP (h := ?_) | refine AO.sPi (h := ?_) | refine AO.sLoadB (h := ?_) | refine AO.sSameB (h := ?_))
    | apply AW.seq
    | (apply AW.kR; refine AW.sR (h := ?_))
    | apply AW.skip
    | apply AW.block
    | apply AW.out
    | (apply AW.kE; refine AW.sE (h := ?_))
    | apply AW.label
    | (apply AW.kRd; refine AW.sRd (h := ?_))
    | ((first | (apply AO.kG; first | refine AO.sgt (h1 := fun h => ?_) (h2 := fun h => ?_) | refine AO.sgf (h1 := fun h => ?_) (h2 := fun h => ?_) | refine AO.sgs (h := ?_)) | (apply AW.kC; refine AW.sC (h1 := fun h => ?_) (h2 := fun h => ?_)) | (apply AR.kAny; apply AR.kG; first | refine AR.sgt (h1 := fun h => ?_) (h2 := fun h => ?_) | refine AR.sgf (h1 := fun h => ?_) (h2 := fun h => ?_) | refine AR.sgs (h := ?_))) <;> (try (first | exact Bool.noConfusion h | exact absurd h (by decide) | (simp at h; done) | (rw [h]; try simp only [nrm] at h; try rw [h]; try (exfalso; omega)) | skip)))
    | (apply AR.kAny; first | (apply AR.kCall 50; refine AR.sCall (hg := gS) (h := ?_)) | (apply AR.kCall 16; refine AR.sCall (hg := gG3) (h := ?_)) | (apply AR.kBuildS; first | refine AR.sBuildT (h := ?_) | refine AR.sBuildS (h := ?_)) | (apply AR.kApp; first | refine AR.sGrowT (h := ?_) | refine AR.sNewT (h := ?_) | refine AR.sGrowBT (h := ?_) | refine AR.sGrow (h := ?_) | refine AR.sNewr (h := ?_)) | (apply AR.kSl; first | refine AR.sSl (h := ?_) | refine AR.sSlArr (h := ?_) | refine AR.sP (h := ?_)) | (apply AR.kBox; refine AR.sBox (h := ?_)) | (apply AR.kP; first | refine AR.sP (h := ?_) | refine AR.sPi (h := ?_)))
    | (apply AR.kNil; refine AR.sNil (h := ?_)))
        all_goals first
          | (exfalso; omega)
          | skip
        apply AO.kCall 52; refine AO.sCall (hg := g1) (h := ?_)
        repeat' (first
    | apply AO.nil
    | (apply AO.kBuildS; first | refine AO.sBuildT (h := ?_) | refine AO.sBuildS (h := ?_))
    | (apply AO.kApp; first | refine AO.sGrowT (h := ?_) | refine AO.sNewT (h := ?_) | refine AO.sGrowBT (h := ?_) | refine AO.sGrow (h := ?_) | refine AO.sNewr (h := ?_))
    | (apply AO.kSl; first | refine AO.sSl (h := ?_) | refine AO.sSlArr (h := ?_) | refine AO.sP (h := ?_))
    | (apply AO.kBox; refine AO.sBox (h := ?_))
    | (apply AO.kP; first | refine AO.sP (h := ?_) | refine AO.sPi (h := ?_) | refine AO.sLoadB (h := ?_) | refine AO.sSameB (h := ?_))
    | apply AW.seq
    | (apply AW.kR; refine AW.sR (h := ?_))
    | apply AW.skip
    | apply AW.block
    | apply AW.out
    | (apply AW.kE; refine AW.sE (h := ?_))
    | apply AW.label
    | (apply AW.kRd; refine AW.sRd (h := ?_))
    | ((first | (apply AO.kG; first | refine AO.sgt (h1 := fun h => ?_) (h2 := fun h => ?_) | refine AO.sgf (h1 := fun h => ?_) (h2 := fun h => ?_) | refine AO.sgs (h := ?_)) | (apply AW.kC; refine AW.sC (h1 := fun h => ?_) (h2 := fun h => ?_)) | (apply AR.kAny; apply AR.kG; first | refine AR.sgt (h1 := fun h => ?_) (h2 := fun h => ?_) | refine AR.sgf (h1 := fun h => ?_) (h2 := fun h => ?_) | refine AR.sgs (h := ?_))) <;> (try (first | exact Bool.noConfusion h | exact absurd h (by decide) | (simp at h; done) | (rw [h]; try simp only [nrm] at h; try rw [h]; try (exfalso; omega)) | skip)))
    | (apply AR.kAny; first | (apply AR.kBuildS; first | refine AR.sBuildT (h := ?_) | refine AR.sBuildS (h := ?_)) | (apply AR.kApp; first | refine AR.sGrowT (h := ?_) | refine AR.sNewT (h := ?_) | refine AR.sGrowBT (h := ?_) | refine AR.sGrow (h := ?_) | refine AR.sNewr (h := ?_)) | (apply AR.kSl; first | refine AR.sSl (h := ?_) | refine AR.sSlArr (h := ?_) | refine AR.sP (h := ?_)) | (apply AR.kBox; refine AR.sBox (h := ?_)) | (apply AR.kP; first | refine AR.sP (h := ?_) | refine AR.sPi (h := ?_)))
    | (apply AR.kNil; refine AR.sNil (h := ?_)))
        apply AO.kCall 56; refine AO.sCall (hg := cA) (h := ?_)
        repeat' (first
    | apply AO.nil
    | (apply AO.kBuildS; first | refine AO.sBuildT (h := ?_) | refine AO.sBuildS (h := ?_))
    | (apply AO.kApp; first | refine AO.sGrowT (h := ?_) | refine AO.sNewT (h := ?_) | refine AO.sGrowBT (h := ?_) | refine AO.sGrow (h := ?_) | refine AO.sNewr (h := ?_))
    | (apply AO.kSl; first | refine AO.sSl (h := ?_) | refine AO.sSlArr (h := ?_) | refine AO.sP (h := ?_))
    | (apply AO.kBox; refine AO.sBox (h := ?_))
    | (apply AO.kP; first | refine AO.sP (h := ?_) | refine AO.sPi (h := ?_) | refine AO.sLoadB (h := ?_) | refine AO.sSameB (h := ?_))
    | apply AW.seq
    | (apply AW.kR; refine AW.sR (h := ?_))
    | apply AW.skip
    | apply AW.block
    | apply AW.out
    | (apply AW.kE; refine AW.sE (h := ?_))
    | apply AW.label
    | (apply AW.kRd; refine AW.sRd (h := ?_))
    | ((first | (apply AO.kG; first | refine AO.sgt (h1 := fun h => ?_) (h2 := fun h => ?_) | refine AO.sgf (h1 := fun h => ?_) (h2 := fun h => ?_) | refine AO.sgs (h := ?_)) | (apply AW.kC; refine AW.sC (h1 := fun h => ?_) (h2 := fun h => ?_)) | (apply AR.kAny; apply AR.kG; first | refine AR.sgt (h1 := fun h => ?_) (h2 := fun h => ?_) | refine AR.sgf (h1 := fun h => ?_) (h2 := fun h => ?_) | refine AR.sgs (h := ?_))) <;> (try (first | exact Bool.noConfusion h | exact absurd h (by decide) | (simp at h; done) | (rw [h]; try simp only [nrm] at h; try rw [h]; try (exfalso; omega)) | skip)))
    | (apply AR.kAny; first | (apply AR.kBuildS; first | refine AR.sBuildT (h := ?_) | refine AR.sBuildS (h := ?_)) | (apply AR.kApp; first | refine AR.sGrowT (h := ?_) | refine AR.sNewT (h := ?_) | refine AR.sGrowBT (h := ?_) | refine AR.sGrow (h := ?_) | refine AR.sNewr (h := ?_)) | (apply AR.kSl; first | refine AR.sSl (h := ?_) | refine AR.sSlArr (h := ?_) | refine AR.sP (h := ?_)) | (apply AR.kBox; refine AR.sBox (h := ?_)) | (apply AR.kP; first | refine AR.sP (h := ?_) | refine AR.sPi (h := ?_)))
    | (apply AR.kNil; refine AR.sNil (h := ?_)))
        apply AO.kCall 52; refine AO.sCall (hg := gA) (h := ?_)
        repeat' (first
    | apply AO.nil
    | (apply AO.kBuildS; first | refine AO.sBuildT (h := ?_) | refine AO.sBuildS (h := ?_))
    | (apply AO.kApp; first | refine AO.sGrowT (h := ?_) | refine AO.sNewT (h := ?_) | refine AO.sGrowBT (h := ?_) | refine AO.sGrow (h := ?_) | refine AO.sNewr (h := ?_))
    | (apply AO.kSl; first | refine AO.sSl (h := ?_) | refine AO.sSlArr (h := ?_) | refine AO.sP (h := ?_))
    | (apply AO.kBox; refine AO.sBox (h := ?_))
    | (apply AO.kP; first | refine AO.sP (h := ?_) | refine AO.sPi (h := ?_) | refine AO.sLoadB (h := ?_) | refine AO.sSameB (h := ?_))
    | apply AW.seq
    | (apply AW.kR; refine AW.sR (h := ?_))
    | apply AW.skip
    | apply AW.block
    | apply AW.out
    | (apply AW.kE; refine AW.sE (h := ?_))
    | apply AW.label
    | (apply AW.kRd; refine AW.sRd (h := ?_))
    | ((first | (apply AO.kG; first | refine AO.sgt (h1 := fun h => ?_) (h2 := fun h => ?_) | refine AO.sgf (h1 := fun h => ?_) (h2 := fun h => ?_) | refine AO.sgs (h := ?_)) | (apply AW.kC; refine AW.sC (h1 := fun h => ?_) (h2 := fun h => ?_)) | (apply AR.kAny; apply AR.kG; first | refine AR.sgt (h1 := fun h => ?_) (h2 := fun h => ?_) | refine AR.sgf (h1 := fun h => ?_) (h2 := fun h => ?_) | refine AR.sgs (h := ?_))) <;> (try (first | exact Bool.noConfusion h | exact absurd h (by decide) | (simp at h; done) | (rw [h]; try simp only [nrm] at h; try rw [h]; try (exfalso; omega)) | skip)))
    | (apply AR.kAny; first | (apply AR.kBuildS; first | refine AR.sBuildT (h := ?_) | refine AR.sBuildS (h := ?_)) | (apply AR.kApp; first | refine AR.sGrowT (h := ?_) | refine AR.sNewT (h := ?_) | refine AR.sGrowBT (h := ?_) | refine AR.sGrow (h := ?_) | refine AR.sNewr (h := ?_)) | (apply AR.kSl; first | refine AR.sSl (h := ?_) | refine AR.sSlArr (h := ?_) | refine AR.sP (h := ?_)) | (apply AR.kBox; refine AR.sBox (h := ?_)) | (apply AR.kP; first | refine AR.sP (h := ?_) | refine AR.sPi (h := ?_)))
    | (apply AR.kNil; refine AR.sNil (h := ?_)))
        apply AO.kCall 56; refine AO.sCall (hg := cB) (h := ?_)
        repeat' (first
    | apply AO.nil
    | (apply AO.kBuildS; first | refine AO.sBuildT (h := ?_) | refine AO.sBuildS (h := ?_))
    | (apply AO.kApp; first | refine AO.sGrowT (h := ?_) | refine AO.sNewT (h := ?_) | refine AO.sGrowBT (h := ?_) | refine AO.sGrow (h := ?_) | refine AO.sNewr (h := ?_))
    | (apply AO.kSl; first | refine AO.sSl (h := ?_) | refine AO.sSlArr (h := ?_) | refine AO.sP (h := ?_))
    | (apply AO.kBox; refine AO.sBox (h := ?_))
    | (apply AO.kP; first | refine AO.sP (h := ?_) | refine AO.sPi (h := ?_) | refine AO.sLoadB (h := ?_) | refine AO.sSameB (h := ?_))
    | apply AW.seq
    | (apply AW.kR; refine AW.sR (h := ?_))
    | apply AW.skip
    | apply AW.block
    | apply AW.out
    | (apply AW.kE; refine AW.sE (h := ?_))
    | apply AW.label
    | (apply AW.kRd; refine AW.sRd (h := ?_))
    | ((first | (apply AO.kG; first | refine AO.sgt (h1 := fun h => ?_) (h2 := fun h => ?_) | refine AO.sgf (h1 := fun h => ?_) (h2 := fun h => ?_) | refine AO.sgs (h := ?_)) | (apply AW.kC; refine AW.sC (h1 := fun h => ?_) (h2 := fun h => ?_)) | (apply AR.kAny; apply AR.kG; first | refine AR.sgt (h1 := fun h => ?_) (h2 := fun h => ?_) | refine AR.sgf (h1 := fun h => ?_) (h2 := fun h => ?_) | refine AR.sgs (h := ?_))) <;> (try (first | exact Bool.noConfusion h | exact absurd h (by decide) | (simp at h; done) | (rw [h]; try simp only [nrm] at h; try rw [h]; try (exfalso; omega)) | skip)))
    | (apply AR.kAny; first | (apply AR.kBuildS; first | refine AR.sBuildT (h := ?_) | refine AR.sBuildS (h := ?_)) | (apply AR.kApp; first | refine AR.sGrowT (h := ?_) | refine AR.sNewT (h := ?_) | refine AR.sGrowBT (h := ?_) | refine AR.sGrow (h := ?_) | refine AR.sNewr (h := ?_)) | (apply AR.kSl; first | refine AR.sSl (h := ?_) | refine AR.sSlArr (h := ?_) | refine AR.sP (h := ?_)) | (apply AR.kBox; refine AR.sBox (h := ?_)) | (apply AR.kP; first | refine AR.sP (h := ?_) | refine AR.sPi (h := ?_)))
    | (apply AR.kNil; refine AR.sNil (h := ?_)))
        apply AO.kCall 52; refine AO.sCall (hg := gB) (h := ?_)
        repeat' (first
    | apply AO.nil
    | (apply AO.kBuildS; first | refine AO.sBuildT (h := ?_) | refine AO.sBuildS (h := ?_))
    | (apply AO.kApp; first | refine AO.sGrowT (h := ?_) | refine AO.sNewT (h := ?_) | refine AO.sGrowBT (h := ?_) | refine AO.sGrow (h := ?_) | refine AO.sNewr (h := ?_))
    | (apply AO.kSl; first | refine AO.sSl (h := ?_) | refine AO.sSlArr (h := ?_) | refine AO.sP (h := ?_))
    | (apply AO.kBox; refine AO.sBox (h := ?_))
    | (apply AO.kP; first | refine AO.sP (h := ?_) | refine AO.sPi (h := ?_) | refine AO.sLoadB (h := ?_) | refine AO.sSameB (h := ?_))
    | apply AW.seq
    | (apply AW.kR; refine AW.sR (h := ?_))
    | apply AW.skip
    | apply AW.block
    | apply AW.out
    | (apply AW.kE; refine AW.sE (h := ?_))
    | apply AW.label
    | (apply AW.kRd; refine AW.sRd (h := ?_))
    | ((first | (apply AO.kG; first | refine AO.sgt (h1 := fun h => ?_) (h2 := fun h => ?_) | refine AO.sgf (h1 := fun h => ?_) (h2 := fun h => ?_) | refine AO.sgs (h := ?_)) | (apply AW.kC; refine AW.sC (h1 := fun h => ?_) (h2 := fun h => ?_)) | (apply AR.kAny; apply AR.kG; first | refine AR.sgt (h1 := fun h => ?_) (h2 := fun h => ?_) | refine AR.sgf (h1 := fun h => ?_) (h2 := fun h => ?_) | refine AR.sgs (h := ?_))) <;> (try (first | exact Bool.noConfusion h | exact absurd h (by decide) | (simp at h; done) | (rw [h]; try simp only [nrm] at h; try rw [h]; try (exfalso; omega)) | skip)))
    | (apply AR.kAny; first | (apply AR.kBuildS; first | refine AR.sBuildT (h := ?_) | refine AR.sBuildS (h := ?_)) | (apply AR.kApp; first | refine AR.sGrowT (h := ?_) | refine AR.sNewT (h := ?_) | refine AR.sGrowBT (h := ?_) | refine AR.sGrow (h := ?_) | refine AR.sNewr (h := ?_)) | (apply AR.kSl; first | refine AR.sSl (h := ?_) | refine AR.sSlArr (h := ?_) | refine AR.sP (h := ?_)) | (apply AR.kBox; refine AR.sBox (h := ?_)) | (apply AR.kP; first | refine AR.sP (h := ?_) | refine AR.sPi (h := ?_)))
    | (apply AR.kNil; refine AR.sNil (h := ?_)))
        (first | (apply AO.kCall 51; refine AO.sCall (hg := s1') (h := ?_)) | (apply AR.kAny; (apply AR.kCall 51; refine AR.sCall (hg := s1') (h := ?_))))
        repeat' (first
    | apply AO.nil
    | (apply AO.kCall 52; refine AO.sCall (hg := g2) (h := ?_))
    | (apply AO.kBuildS; first | refine AO.sBuildT (h := ?_) | refine AO.sBuildS (h := ?_))
    | (apply AO.kApp; first | refine AO.sGrowT (h := ?_) | refine AO.sNewT (h := ?_) | refine AO.sGrowBT (h := ?_) | refine AO.sGrow (h := ?_) | refine AO.sNewr (h := ?_))
    | (apply AO.kSl; first | refine AO.sSl (h := ?_) | refine AO.sSlArr (h := ?_) | refine AO.sP (h := ?_))
    | (apply AO.kBox; refine AO.sBox (h := ?_))
    | (apply AO.kP; first | refine AO.sP (h := ?_) | refine AO.sPi (h := ?_) | refine AO.sLoadB (h := ?_) | refine AO.sSameB (h := ?_))
    | apply AW.seq
    | (apply AW.kR; refine AW.sR (h := ?_))
    | apply AW.skip
    | apply AW.block
    | apply AW.out
    | (apply AW.kE; refine AW.sE (h := ?_))
    | apply AW.label
    | (apply AW.kRd; refine AW.sRd (h := ?_))
    | ((first | (apply AO.kG; first | refine AO.sgt (h1 := fun h => ?_) (h2 := fun h => ?_) | refine AO.sgf (h1 := fun h => ?_) (h2 := fun h => ?_) | refine AO.sgs (h := ?_)) | (apply AW.kC; refine AW.sC (h1 := fun h => ?_) (h2 := fun h => ?_)) | (apply AR.kAny; apply AR.kG; first | refine AR.sgt (h1 := fun h => ?_) (h2 := fun h => ?_) | refine AR.sgf (h1 := fun h => ?_) (h2 := fun h => ?_) | refine AR.sgs (h := ?_))) <;> (try (first | exact Bool.noConfusion h | exact absurd h (by decide) | (simp at h; done) | (rw [h]; try simp only [nrm] at h; try rw [h]; try (exfalso; omega)) | skip)))
    | (apply AR.kAny; first | (apply AR.kCall 52; refine AR.sCall (hg := g2) (h := ?_)) | (apply AR.kBuildS; first | refine AR.sBuildT (h := ?_) | refine AR.sBuildS (h := ?_)) | (apply AR.kApp; first | refine AR.sGrowT (h := ?_) | refine AR.sNewT (h := ?_) | refine AR.sGrowBT (h := ?_) | refine AR.sGrow (h := ?_) | refine AR.sNewr (h := ?_)) | (apply AR.kSl; first | refine AR.sSl (h := ?_) | refine AR.sSlArr (h := ?_) | refine AR.sP (h := ?_)) | (apply AR.kBox; refine AR.sBox (h := ?_)) | (apply AR.kP; first | refine AR.sP (h := ?_) | refine AR.sPi (h := ?_)))
    | (apply AR.kNil; refine AR.sNil (h := ?_)))
        (first | (apply AO.kCall 51; refine AO.sCall (hg := s2') (h := ?_)) | (apply AR.kAny; (apply AR.kCall 51; refine AR.sCall (hg := s2') (h := ?_))))
        repeat' (first
    | apply AO.nil
    | (apply AO.kCall 45; refine AO.sCall (hg := gAwakeM) (h := ?_))
    | (apply AO.kBuildS; first | refine AO.sBuildT (h := ?_) | refine AO.sBuildS (h := ?_))
    | (apply AO.kApp; first | refine AO.sGrowT (h := ?_) | refine AO.sNewT (h := ?_) | refine AO.sGrowBT (h := ?_) | refine AO.sGrow (h := ?_) | refine AO.sNewr (h := ?_))
    | (apply AO.kSl; first | refine AO.sSl (h := ?_) | refine AO.sSlArr (h := ?_) | refine AO.sP (h := ?_))
    | (apply AO.kBox; refine AO.sBox (h := ?_))
    | (apply AO.kP; first | refine AO.sP (h := ?_) | refine AO.sPi (h := ?_) | refine AO.sLoadB (h := ?_) | refine AO.sSameB (h := ?_))
    | apply AW.seq
    | (apply AW.kR; refine AW.sR (h := ?_))
    | apply AW.skip
    | apply AW.block
    | apply AW.out
    | (apply AW.kE; refine AW.sE (h := ?_))
    | apply AW.label
    | (apply AW.kRd; refine AW.sRd (h := ?_))
    | ((first | (apply AO.kG; first | refine AO.sgt (h1 := fun h => ?_) (h2 := fun h => ?_) | refine AO.sgf (h1 := fun h => ?_) (h2 := fun h => ?_) | refine AO.sgs (h := ?_)) | (apply AW.kC; refine AW.sC (h1 := fun h => ?_) (h2 := fun h => ?_)) | (apply AR.kAny; apply AR.kG; first | refine AR.sgt (h1 := fun h => ?_) (h2 := fun h => ?_) | refine AR.sgf (h1 := fun h => ?_) (h2 := fun h => ?_) | refine AR.sgs (h := ?_))) <;> (try (first | exact Bool.noConfusion h | exact absurd h (by decide) | (simp at h; done) | (rw [h]; try simp only [nrm] at h; try rw [h]; try (exfalso; omega)) | skip)))
    | (apply AR.kAny; first | (apply AR.kCall 45; refine AR.sCall (hg := gAwakeM) (h := ?_)) | (apply AR.kBuildS; first | refine AR.sBuildT (h := ?_) | refine AR.sBuildS (h := ?_)) | (apply AR.kApp; first | refine AR.sGrowT (h := ?_) | refine AR.sNewT (h := ?_) | refine AR.sGrowBT (h := ?_) | refine AR.sGrow (h := ?_) | refine AR.sNewr (h := ?_)) | (apply AR.kSl; first | refine AR.sSl (h := ?_) | refine AR.sSlArr (h := ?_) | refine AR.sP (h := ?_)) | (apply AR.kBox; refine AR.sBox (h := ?_)) | (apply AR.kP; first | refine AR.sP (h := ?_) | refine AR.sPi (h := ?_)))
    | (apply AR.kNil; refine AR.sNil (h := ?_)))
        all_goals exact AW.ret (hD rfl (Lx.b rfl))
      · refine Good.w tabOk mixed Try.func14 (N := 78) (by kernel_rfl) rfl (by (repeat (first | exact LE.nil | apply LE.cons)); done) (by (repeat (first | exact LE.nil | apply LE.cons)); done) fun D hD F => ?_
        repeat' (first
    | apply AO.nil
    | (apply AO.kCall 50; refine AO.sCall (hg := gS) (h := ?_))
    | (apply AO.kCall 16; refine AO.sCall (hg := gG3) (h := ?_))
    | (apply AO.kCall 45; refine AO.sCall (hg := gAwakeM) (h := ?_))
    | (apply AO.kBuildS; first | refine AO.sBuildT (h := ?_) | refine AO.sBuildS (h := ?_))
    | (apply AO.kApp; first | refine AO.sGrowT (h := ?_) | refine AO.sNewT (h := ?_) | refine AO.sGrowBT (h := ?_) | refine AO.sGrow (h := ?_) | refine AO.sNewr (h := ?_))
    | (apply AO.kSl; first | refine AO.sSl (h := ?_) | refine AO.sSlArr (h := ?_) | refine AO.sP (h := ?_))
    | (apply AO.kBox; refine AO.sBox (h := ?_))
    | (apply AO.kP; first | refine AO.sP (h := ?_) | refine AO.sPi (h := ?_) | refine AO.sLoadB (h := ?_) | refine AO.sSameB (h := ?_))
    | apply AW.seq
    | (apply AW.kR; refine AW.sR (h := ?_))
    | apply AW.skip
    | apply AW.block
    | apply AW.out
    | (apply AW.kE; refine AW.sE (h := ?_))
    | apply AW.label
    | (apply AW.kRd; refine AW.sRd (h := ?_))
    | ((first | (apply AO.kG; first | refine AO.sgt (h1 := fun h => ?_) (h2 := fun h => ?_) | refine AO.sgf (h1 := fun h => ?_) (h2 := fun h => ?_) | refine AO.sgs (h := ?_)) | (apply AW.kC; refine AW.sC (h1 := fun h => ?_) (h2 := fun h => ?_)) | (apply AR.kAny; apply AR.kG; first | refine AR.sgt (h1 := fun h => ?_) (h2 := fun h => ?_) | refine AR.sgf (h1 := fun h => ?_) (h2 := fun h => ?_) | refine AR.sgs (h := ?_))) <;> (try (first | exact Bool.noConfusion h | exact absurd h (by decide) | (simp at h; done) | (rw [h]; try simp only [nrm] at h; try rw [h]; try (exfalso; omega)) | skip)))
    | (apply AR.kAny; first | (apply AR.kCall 50; refine AR.sCall (hg := gS) (h := ?_)) | (apply AR.kCall 16; refine AR.sCall (hg := gG3) (h := ?_)) | (apply AR.kCall 45; refine AR.sCall (hg := gAwakeM) (h := ?_)) | (apply AR.kBuildS; first | refine AR.sBuildT (h := ?_) | refine AR.sBuildS (h := ?_)) | (apply AR.kApp; first | refine AR.sGrowT (h := ?_) | refine AR.sNewT (h := ?_) | refine AR.sGrowBT (h := ?_) | refine AR.sGrow (h := ?_) | refine AR.sNewr (h := ?_)) | (apply AR.kSl; first | refine AR.sSl (h := ?_) | refine AR.sSlArr (h := ?_) | refine AR.sP (h := ?_)) | (apply AR.kBox; refine AR.sBox (h := ?_)) | (apply AR.kP; first | refine AR.sP (h := ?_) | refine AR.sPi (h := ?_)))
    | (apply AR.kNil; refine AR.sNil (h := ?_)))
        all_goals first
          | exact AW.ret (hD rfl (Lx.b rfl))
          | (exfalso; omega)
          | trace_state
end Go.Proofs.Ytocppeifkjdeiaa.Mv
