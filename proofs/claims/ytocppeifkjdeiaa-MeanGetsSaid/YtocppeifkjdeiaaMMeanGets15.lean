/- What the statement MeanGets needs, part 15. Under no condition. -/
import Derived.ProofKit
import Derived.OpenShut
import Derived.ShutString
import Derived.ChangeOld
import Derived.SizedLaws
import Derived.Test.YtocppeifkjdeiaaMMeanGets14
/- Graphs: the value of any key. Under no condition. -/
namespace Go.Proofs.Ytocppeifkjdeiaa.Mv
open Go Go.Proofs
set_option linter.unusedSimpArgs false
set_option linter.unusedVariables false
set_option maxRecDepth 10000
set_option maxHeartbeats 4000000
attribute [local irreducible] AW AO AR

theorem openPrM : ∀ r, Sh tab 43 r → ∃ x : Pr, r = x.av := by
  intro r hr
  have lr := (hr.inv_st (i := ty43) rfl rfl).1
  obtain ⟨y0, y1, rfl⟩ : ∃ y0 y1, r = [y0, y1] := by
    match r, lr with
    | [y0, y1], _ => exact ⟨_, _, rfl⟩
  have h0 : Sh tab 9 [y0] := hr.inv_at (i := ty43) rfl rfl 0 rfl (j := ty9) rfl
  obtain ⟨a0, ea0, wa0⟩ := h0.inv_str (i := ty9) rfl rfl
  cases ea0
  have h1 : Sh tab 9 [y1] := hr.inv_at (i := ty43) rfl rfl 1 rfl (j := ty9) rfl
  obtain ⟨a1, ea1, wa1⟩ := h1.inv_str (i := ty9) rfl rfl
  cases ea1
  exact ⟨⟨a0, a1⟩, rfl⟩
theorem openEdM : ∀ r, Sh tab 101 r → ∃ x : Ed, r = x.av := by
  intro r hr
  have lr := (hr.inv_st (i := ty101) rfl rfl).1
  obtain ⟨y0, y1, y2, y3, rfl⟩ : ∃ y0 y1 y2 y3, r = [y0, y1, y2, y3] := by
    match r, lr with
    | [y0, y1, y2, y3], _ => exact ⟨_, _, _, _, rfl⟩
  have h0 : Sh tab 46 [y0] := hr.inv_at (i := ty101) rfl rfl 0 rfl (j := ty46) rfl
  obtain ⟨a0', ea0, wa0⟩ := h0.inv_int (i := ty46) rfl rfl
  obtain ⟨a0, rfl⟩ := by_u32 wa0
  cases ea0
  have h1 : Sh tab 47 [y1] := hr.inv_at (i := ty101) rfl rfl 1 rfl (j := ty47) rfl
  obtain ⟨a1', ea1, wa1⟩ := h1.inv_int (i := ty47) rfl rfl
  obtain ⟨a1, rfl⟩ := by_u16 wa1
  cases ea1
  have h2 : Sh tab 63 [y2, y3] := hr.inv_at (i := ty101) rfl rfl 2 rfl (j := ty63) rfl
  have h3 : Sh tab 9 [y2] := h2.inv_at (i := ty63) rfl rfl 0 rfl (j := ty9) rfl
  obtain ⟨a2, ea2, wa2⟩ := h3.inv_str (i := ty9) rfl rfl
  cases ea2
  have h4 : Sh tab 9 [y3] := h2.inv_at (i := ty63) rfl rfl 1 rfl (j := ty9) rfl
  obtain ⟨a3, ea3, wa3⟩ := h4.inv_str (i := ty9) rfl rfl
  cases ea3
  exact ⟨⟨a0, a1, a2, a3⟩, rfl⟩
theorem openMsM : ∀ r, Sh tab 104 r → ∃ x : Ms, r = x.av := by
  intro r hr
  have lr := (hr.inv_st (i := ty104) rfl rfl).1
  obtain ⟨y0, y1, y2, y3, y4, y5, rfl⟩ : ∃ y0 y1 y2 y3 y4 y5, r = [y0, y1, y2, y3, y4, y5] := by
    match r, lr with
    | [y0, y1, y2, y3, y4, y5], _ => exact ⟨_, _, _, _, _, _, rfl⟩
  have h0 : Sh tab 5 [y0] := hr.inv_at (i := ty104) rfl rfl 0 rfl (j := ty5) rfl
  obtain ⟨a0', ea0, wa0⟩ := h0.inv_int (i := ty5) rfl rfl
  obtain ⟨a0, rfl⟩ := by_u8 wa0
  cases ea0
  have h1 : Sh tab 9 [y1] := hr.inv_at (i := ty104) rfl rfl 1 rfl (j := ty9) rfl
  obtain ⟨a1, ea1, wa1⟩ := h1.inv_str (i := ty9) rfl rfl
  cases ea1
  have h2 : Sh tab 9 [y2] := hr.inv_at (i := ty104) rfl rfl 2 rfl (j := ty9) rfl
  obtain ⟨a2, ea2, wa2⟩ := h2.inv_str (i := ty9) rfl rfl
  cases ea2
  have h3 : Sh tab 46 [y3] := hr.inv_at (i := ty104) rfl rfl 3 rfl (j := ty46) rfl
  obtain ⟨a3', ea3, wa3⟩ := h3.inv_int (i := ty46) rfl rfl
  obtain ⟨a3, rfl⟩ := by_u32 wa3
  cases ea3
  have h4 : Sh tab 47 [y4] := hr.inv_at (i := ty104) rfl rfl 4 rfl (j := ty47) rfl
  obtain ⟨a4', ea4, wa4⟩ := h4.inv_int (i := ty47) rfl rfl
  obtain ⟨a4, rfl⟩ := by_u16 wa4
  cases ea4
  have h5 : Sh tab 9 [y5] := hr.inv_at (i := ty104) rfl rfl 5 rfl (j := ty9) rfl
  obtain ⟨a5, ea5, wa5⟩ := h5.inv_str (i := ty9) rfl rfl
  cases ea5
  exact ⟨⟨a0, a1, a2, a3, a4, a5⟩, rfl⟩
theorem openSM : ∀ r, Sh tab 9 r → ∃ x : L, r = sav x := by
  intro r hr
  obtain ⟨a, e, w⟩ := hr.inv_str (i := ty9) rfl rfl
  exact ⟨a, e⟩
theorem openNdM {c : List AV} (s : Sh tab 27 c) : ∃ n : Nd, c = n.av ∧ n.fits := by
  have lr := (s.inv_st (i := ty27) rfl rfl).1
  obtain ⟨y0, y1, y2, y3, y4, rfl⟩ : ∃ y0 y1 y2 y3 y4, c = [y0, y1, y2, y3, y4] := by
    match c, lr with
    | [y0, y1, y2, y3, y4], _ => exact ⟨_, _, _, _, _, rfl⟩
  have h0 : Sh tab 4 [y0] := s.inv_at (i := ty27) rfl rfl 0 rfl (j := ty4) rfl
  have h1 : Sh tab 22 [y1] := s.inv_at (i := ty27) rfl rfl 1 rfl (j := ty22) rfl
  have h2 : Sh tab 23 [y2] := s.inv_at (i := ty27) rfl rfl 2 rfl (j := ty23) rfl
  have h3 : Sh tab 24 [y3] := s.inv_at (i := ty27) rfl rfl 3 rfl (j := ty24) rfl
  have h4 : Sh tab 25 [y4] := s.inv_at (i := ty27) rfl rfl 4 rfl (j := ty25) rfl
  obtain ⟨b, e0⟩ := h0.inv_bool (i := ty4) rfl rfl
  obtain ⟨r1, e1, w1, q1⟩ := h1.inv_sl (i := ty22) (j := ty43) rfl rfl rfl
  obtain ⟨l1, rfl⟩ := sh_map openPrM q1
  obtain ⟨r2, e2, w2, q2⟩ := h2.inv_sl (i := ty23) (j := ty9) rfl rfl rfl
  obtain ⟨l2, rfl⟩ := sh_map openSM q2
  obtain ⟨r3, e3, w3, q3⟩ := h3.inv_sl (i := ty24) (j := ty101) rfl rfl rfl
  obtain ⟨l3, rfl⟩ := sh_map openEdM q3
  obtain ⟨r4, e4, w4, q4⟩ := h4.inv_sl (i := ty25) (j := ty104) rfl rfl rfl
  obtain ⟨l4, rfl⟩ := sh_map openMsM q4
  cases e0; cases e1; cases e2; cases e3; cases e4
  refine ⟨⟨b, l1, l2, l3, l4⟩, rfl, ⟨?_, ?_, ?_, ?_⟩⟩
  · have := w1; rw [List.length_map] at this; exact this
  · have := w2; rw [List.length_map] at this; exact this
  · have := w3; rw [List.length_map] at this; exact this
  · have := w4; rw [List.length_map] at this; exact this
theorem sh_mapP {α : Type} {tab : Tab} {e : Nat} {f : α → List AV} {Q : α → Prop} (hf : ∀ r, Sh tab e r → ∃ x, r = f x ∧ Q x) : ∀ {rows : List (List AV)}, (∀ r ∈ rows, Sh tab e r) → ∃ l : List α, rows = l.map f ∧ ∀ x ∈ l, Q x
  | [], _ => ⟨[], rfl, fun x h => by cases h⟩
  | r :: rows, h => by
    obtain ⟨x, hx, hq⟩ := hf r (h r (by simp))
    obtain ⟨l, hl, hql⟩ := sh_mapP hf (rows := rows) fun q hq => h q (by simp [hq])
    exact ⟨x :: l, by rw [hx, hl]; rfl, fun y hy => by
      rcases List.mem_cons.1 hy with rfl | hy
      · exact hq
      · exact hql y hy⟩
theorem openIm : ∀ r, Sh tab 120 r → ∃ x : Im, r = x.av ∧ x.nd.fits := by
  intro r hr
  have lr := (hr.inv_st (i := ty120) rfl rfl).1
  obtain ⟨y0, y1, y2, y3, y4, y5, rfl⟩ : ∃ y0 y1 y2 y3 y4 y5, r = [y0, y1, y2, y3, y4, y5] := by
    match r, lr with
    | [y0, y1, y2, y3, y4, y5], _ => exact ⟨_, _, _, _, _, _, rfl⟩
  have h0 : Sh tab 46 [y0] := hr.inv_at (i := ty120) rfl rfl 0 rfl (j := ty46) rfl
  obtain ⟨a0', ea0, wa0⟩ := h0.inv_int (i := ty46) rfl rfl
  obtain ⟨a0, rfl⟩ := by_u32 wa0
  cases ea0
  have h1 : Sh tab 27 [y1, y2, y3, y4, y5] := hr.inv_at (i := ty120) rfl rfl 1 rfl (j := ty27) rfl
  obtain ⟨n, e, hf⟩ := openNdM h1
  exact ⟨⟨a0, n⟩, by rw [e]; rfl, hf⟩
/-- Rows that say less. -/
theorem Le.shR {sz : Nat} {rows rows' : List (List AV)} (h : LeL rows.flatten rows'.flatten) (hn : rows.length = rows'.length) (hl : ∀ r ∈ rows', r.length = sz) : Le (.sh sz rows) (.sh sz rows') := fun Γ m v hr => by
  cases hr with
  | sh0 =>
    have : rows' = [] := List.eq_nil_of_length_eq_zero (by simpa using hn.symm)
    subst this; exact .sh0
  | sh vs h1 h2 h3 h4 h5 h6 h7 h8 =>
    exact .sh vs h1 h2 (by rw [← hn]; exact h3) hl (by rw [h5, h.len]) h6 h7 fun j v d hv hd => by
      have hj : j < rows.flatten.length := by rw [h.len]; exact (List.getElem?_eq_some_iff.1 hd).1
      exact h.at j _ d (List.getElem?_eq_getElem hj) hd _ _ _ (h8 j v _ hv (List.getElem?_eq_getElem hj))
def lA : List Im := [⟨5, ⟨false, [], [], [⟨7, 1, [], []⟩], [⟨3, [98], [], 7, 1, [97]⟩]⟩⟩, ⟨7, ⟨true, [⟨[97], [49]⟩], [], [], []⟩⟩]
theorem get10A : get10 lA 5 [98] = ([49], true) := by decide
theorem imsA : Ims lA := ⟨by decide, fun i hi => by
  have : i = 0 ∨ i = 1 := by have : i < 2 := hi; omega
  rcases this with rfl | rfl <;> exact ⟨by decide, by decide, by decide, by decide⟩⟩
theorem gAwakeM : Good Try.prog 45 [] [] (.b true) [] := by
  have g := gGetP lA imsA 5 [98] (by decide) (by decide)
  rw [get10A] at g
  have g2 : Good Try.prog 46 [.sh 6 [[.i .u32 5, .b false, .nil, .nil, .sh 4 [[.i .u32 7, .i .u16 1, .s [], .s []]], .sh 6 [[.i .u8 3, .s [98], .s [], .i .u32 7, .i .u16 1, .s [97]]]], [.i .u32 7, .b true, .sh 2 [[.s [97], .s [49]]], .nil, .nil, .nil]], .i .u32 5, .s [98]] [] (.tup [.s [49], .b true]) [] :=
    g.le (.cons (Le.shR (.cons (.refl _) (.cons (.refl _) (.cons .nil (.cons .nil (.cons (.refl _) (.cons (.refl _) (.cons (.refl _) (.cons (.refl _) (.cons (.refl _) (.cons .nil (.cons .nil (.cons .nil .nil)))))))))))) rfl (by decide)) (.cons (.refl _) (.cons (.refl _) .nil)))
  refine Good.w tabOk mixed Try.func45 (N := 25) (by kernel_rfl) rfl (by (repeat (first | exact LE.nil | apply LE.cons)); done) (by (repeat (first | exact LE.nil | apply LE.cons)); done) fun D hD F => ?_
  repeat' (first
    | apply AO.nil
    | (apply AO.kCall 46; refine AO.sCall (hg := g2) (h := ?_))
    | (apply AO.kBuildS; first | refine AO.sBuildT (h := ?_) | refine AO.sBuildS (h := ?_))
    | (apply AO.kP; first | refine AO.sP (h := ?_) | refine AO.sPi (h := ?_))
    | apply AW.seq
    | (apply AW.kR; refine AW.sR (h := ?_))
    | apply AW.skip
    | apply AW.block
    | apply AW.out
    | (apply AW.kE; refine AW.sE (h := ?_))
    | apply AW.label
    | ((first | (apply AO.kG; first | refine AO.sgt (h1 := fun h => ?_) (h2 := fun h => ?_) | refine AO.sgf (h1 := fun h => ?_) (h2 := fun h => ?_) | refine AO.sgs (h := ?_))) <;> (try (first | exact Bool.noConfusion h | exact absurd h (by decide) | (simp at h; done) | (rw [h]; try simp only [nrm] at h; try rw [h]; try (exfalso; omega)) | skip))))
  all_goals first
    | exact AW.ret (hD rfl (Lx.b rfl))
    | (exfalso; simp_all; done)
    | trace_state
theorem gLawGets (l : List Im) (hl : l.length ≤ 9223372036854775807) (hf : ∀ x ∈ l, x.nd.fits) (b : B32) (k : L) : Good Try.prog 10 [.sh 6 (l.map Im.av), .i .u32 b.toNat, .s k] [] (.b true) [] := by
  have gG := gGreat9 l hl fun i hi => hf _ (mem_at' hi)
  cases hg : great9 l with
  | true =>
    rw [hg] at gG
    refine Good.w tabOk mixed Try.func10 (N := 53) (by kernel_rfl) rfl (by (repeat (first | exact LE.nil | apply LE.cons)); done) (by (repeat (first | exact LE.nil | apply LE.cons)); done) fun D hD F => ?_
    repeat' (first
    | apply AO.nil
    | (apply AO.kCall 44; refine AO.sCall (hg := gG) (h := ?_))
    | (apply AO.kCall 45; refine AO.sCall (hg := gAwakeM) (h := ?_))
    | (apply AO.kP; first | refine AO.sP (h := ?_) | refine AO.sPi (h := ?_))
    | apply AW.seq
    | (apply AW.kR; refine AW.sR (h := ?_))
    | apply AW.skip
    | apply AW.block
    | apply AW.out
    | (apply AW.kE; refine AW.sE (h := ?_))
    | apply AW.label
    | ((first | (apply AO.kG; first | refine AO.sgt (h1 := fun h => ?_) (h2 := fun h => ?_) | refine AO.sgf (h1 := fun h => ?_) (h2 := fun h => ?_) | refine AO.sgs (h := ?_)) | (apply AW.kC; refine AW.sC (h1 := fun h => ?_) (h2 := fun h => ?_))) <;> (try (first | exact Bool.noConfusion h | exact absurd h (by decide) | (simp at h; done) | (rw [h]; try simp only [nrm] at h; try rw [h]; try (exfalso; omega)) | skip))))
    all_goals first
      | exact AW.ret (hD rfl (Lx.b rfl))
      | trace_state
  | false =>
    rw [hg] at gG
    by_cases hk : k.length ≤ 100
    · unfold great9 at hg
      rw [Bool.or_eq_false_iff, decide_eq_false_iff_not, Bool.not_eq_false'] at hg
      have him : Ims l := ⟨by omega, fun i hi => great_small (by
        have := List.all_eq_true.1 hg.2 _ (mem_at' hi)
        simpa using this)⟩
      have g1 := gGetP l him b k (by omega) (by omega)
      have g2 : Good Try.prog 47 [.sh 6 (l.map Im.av), .i .u32 b.toNat, .s k] [] (.tup [.s (get10 l b k).1, .b (get10 l b k).2]) [] := by
        unfold get10
        cases hr : rightL (lead9 l) l with
        | false => rw [if_neg (by decide)]; exact gGetR0 l him b k (.inr hr)
        | true => rw [if_pos rfl]; exact gGetR l him hr _ b k (fuel_top hr b) (by omega)
      have g3 := gWaysP l him b
      have g4 := gWaysR l him b (by omega)
      generalize (if rightL (lead9 l) l = true then wW l b else 0) = w at *
      generalize get10 l b k = z at *
      refine Good.w tabOk mixed Try.func10 (N := 53) (by kernel_rfl) rfl (by (repeat (first | exact LE.nil | apply LE.cons)); done) (by (repeat (first | exact LE.nil | apply LE.cons)); done) fun D hD F => ?_
      repeat' (first
    | apply AO.nil
    | (apply AO.kCall 44; refine AO.sCall (hg := gG) (h := ?_))
    | (apply AO.kCall 46; refine AO.sCall (hg := g1) (h := ?_))
    | (apply AO.kCall 47; refine AO.sCall (hg := g2) (h := ?_))
    | (apply AO.kCall 48; refine AO.sCall (hg := g3) (h := ?_))
    | (apply AO.kCall 49; refine AO.sCall (hg := g4) (h := ?_))
    | (apply AO.kCall 45; refine AO.sCall (hg := gAwakeM) (h := ?_))
    | (apply AO.kP; first | refine AO.sP (h := ?_) | refine AO.sPi (h := ?_))
    | apply AW.seq
    | (apply AW.kR; refine AW.sR (h := ?_))
    | apply AW.skip
    | apply AW.block
    | apply AW.out
    | (apply AW.kE; refine AW.sE (h := ?_))
    | apply AW.label
    | ((first | (apply AO.kG; first | refine AO.sgt (h1 := fun h => ?_) (h2 := fun h => ?_) | refine AO.sgf (h1 := fun h => ?_) (h2 := fun h => ?_) | refine AO.sgs (h := ?_)) | (apply AW.kC; refine AW.sC (h1 := fun h => ?_) (h2 := fun h => ?_))) <;> (try (first | exact Bool.noConfusion h | exact absurd h (by decide) | (simp at h; done) | (rw [h]; try simp only [nrm] at h; try rw [h]; try (exfalso; omega)) | skip))))
      all_goals first
        | exact AW.ret (hD rfl (Lx.b rfl))
        | (exfalso; omega)
        | (exfalso; simp at *; done)
        | trace_state
    · refine Good.w tabOk mixed Try.func10 (N := 53) (by kernel_rfl) rfl (by (repeat (first | exact LE.nil | apply LE.cons)); done) (by (repeat (first | exact LE.nil | apply LE.cons)); done) fun D hD F => ?_
      repeat' (first
    | apply AO.nil
    | (apply AO.kCall 44; refine AO.sCall (hg := gG) (h := ?_))
    | (apply AO.kCall 45; refine AO.sCall (hg := gAwakeM) (h := ?_))
    | (apply AO.kP; first | refine AO.sP (h := ?_) | refine AO.sPi (h := ?_))
    | apply AW.seq
    | (apply AW.kR; refine AW.sR (h := ?_))
    | apply AW.skip
    | apply AW.block
    | apply AW.out
    | (apply AW.kE; refine AW.sE (h := ?_))
    | apply AW.label
    | ((first | (apply AO.kG; first | refine AO.sgt (h1 := fun h => ?_) (h2 := fun h => ?_) | refine AO.sgf (h1 := fun h => ?_) (h2 := fun h => ?_) | refine AO.sgs (h := ?_)) | (apply AW.kC; refine AW.sC (h1 := fun h => ?_) (h2 := fun h => ?_))) <;> (try (first | exact Bool.noConfusion h | exact absurd h (by decide) | (simp at h; done) | (rw [h]; try simp only [nrm] at h; try rw [h]; try (exfalso; omega)) | skip))))
      all_goals first
        | exact AW.ret (hD rfl (Lx.b rfl))
        | (exfalso; omega)
        | trace_state
end Go.Proofs.Ytocppeifkjdeiaa.Mv
