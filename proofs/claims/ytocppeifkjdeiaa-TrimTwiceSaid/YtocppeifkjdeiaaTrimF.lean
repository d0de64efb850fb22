/- What is trimmed may be. Plain. -/
import Derived.Test.YtocppeifkjdeiaaTrimD
namespace Go.Proofs.Ytocppeifkjdeiaa.Mv
open Go Go.Proofs
set_option linter.unusedSimpArgs false
set_option linter.unusedVariables false
set_option maxRecDepth 10000
set_option maxHeartbeats 4000000

theorem rise_pw : ∀ {ks : List L}, rise ks = true ↔ ks.Pairwise (fun x y => lt x y = true)
  | [] => by simp [rise]
  | [a] => by simp [rise]
  | a :: b :: r => by
    rw [rise_cons, Bool.and_eq_true, rise_pw (ks := b :: r)]
    constructor
    · rintro ⟨h1, h2⟩
      refine List.pairwise_cons.2 ⟨fun x hx => ?_, h2⟩
      rcases List.mem_cons.1 hx with rfl | hx
      · exact h1
      · exact lt_trans h1 ((List.pairwise_cons.1 h2).1 x hx)
    · intro h
      obtain ⟨h1, h2⟩ := List.pairwise_cons.1 h
      exact ⟨h1 b (by simp), h2⟩
theorem lt_cut {x y a : L} (hx : hp x a = true) (hy : hp y a = true) : lt (cutS x a) (cutS y a) = lt x y := by
  obtain ⟨s, rfl⟩ := hp_pre.1 hx
  obtain ⟨t, rfl⟩ := hp_pre.1 hy
  rw [cutS_hp hx, cutS_hp hy, List.drop_left', List.drop_left', lt_app] <;> rfl
theorem in_em {lo hi : L} {e : Bool} {k : L} (h : inR lo hi e k = true) : emR lo hi e = false := by
  simp only [inR, Bool.and_eq_true, Bool.not_eq_true', Bool.or_eq_true] at h
  rcases h.2 with g | g
  · rw [emR, g]; rfl
  · rw [emR, lt_of_le_lt h.1 g]; simp
theorem emC_some {x r : L × L × Bool} {k : L} (h1 : inR x.1 x.2.1 x.2.2 k = true) (h2 : inR r.1 r.2.1 r.2.2 k = true) : emC x r = false := by
  refine in_em (k := k) ?_
  rw [cS_in, h1, h2]; rfl
/-! ### a leaf -/
theorem leaf_parts {n : Nd} (h : leafOk n = true) : rise (n.pairs.map Pr.k) = true ∧ n.pairs.all prLen = true := by
  simp only [leafOk, Bool.and_eq_true] at h
  exact ⟨h.1.2, h.2⟩
theorem trPr_rise {l : List Pr} {r : L × L × Bool} {a : L} (hr : rise (l.map Pr.k) = true) (hu : hp (undS r.1 r.2.1 r.2.2) a = true) : rise ((trPr l r a).map Pr.k) = true := by
  rw [rise_pw, List.pairwise_map] at hr
  rw [rise_pw, trPr, List.pairwise_map, List.pairwise_map]
  have h := hr.filter (prKeep r)
  refine List.Pairwise.imp_of_mem ?_ h
  intro x y hx hy hxy
  have kx := (List.mem_filter.1 hx).2
  have ky := (List.mem_filter.1 hy).2
  have px := hp_trans ((und_facts _ _ _ _).2.2.1 kx) hu
  have py := hp_trans ((und_facts _ _ _ _).2.2.1 ky) hu
  show lt (cutS x.k a) (cutS y.k a) = true
  rw [lt_cut px py]; exact hxy
theorem trPr_all {l : List Pr} {r : L × L × Bool} {a : L} (h : l.all prLen = true) : (trPr l r a).all prLen = true := by
  rw [List.all_eq_true] at h ⊢
  intro x hx
  obtain ⟨y, hy, rfl⟩ := List.mem_map.1 hx
  have q := h y (List.mem_filter.1 hy).1
  have := cutS_len y.k a
  simp only [prLen, Bool.and_eq_true, decide_eq_true_eq] at q
  show (decide ((cutS y.k a).length ≤ 16) && decide (y.v.length ≤ 32)) = true
  rw [Bool.and_eq_true, decide_eq_true_eq, decide_eq_true_eq]; exact ⟨by omega, q.2⟩
/-! ### messages -/
theorem mv_may {m : Ms} {a : L} (h : msMay m = true) (h2 : (mvR m a).2 = true) : msMay (mvR m a).1 = true := by
  unfold mvR at h2 ⊢
  by_cases c : hp m.key a = true
  · rw [if_pos c]
    have l := cutS_len m.key a
    simp only [msMay, Bool.and_eq_true, decide_eq_true_eq] at h ⊢
    exact ⟨by omega, h.2⟩
  · rw [if_neg c] at h2 ⊢
    by_cases d : m.kind = 3 ∧ hp a m.key = true ∧ m.add.length + (cutS a m.key).length ≤ 16
    · rw [if_pos d]
      simp only [msMay, Bool.and_eq_true, decide_eq_true_eq] at h ⊢
      refine ⟨by simp, ?_⟩
      have h3 := h.2
      rw [d.1] at h3 ⊢
      simp only [show ¬ ((3 : UInt8) = 1) by decide, show ¬ ((3 : UInt8) = 2) by decide, if_false, if_true, Bool.and_eq_true, decide_eq_true_eq] at h3 ⊢
      exact ⟨⟨by rw [List.length_append]; exact d.2.2, h3.1.2⟩, h3.2⟩
    · rw [if_neg d] at h2; cases h2
theorem trMs_may {l : List Ms} {r : L × L × Bool} {a : L} (h : l.all msMay = true) (h2 : trMsOk l r a = true) : (trMsR l r a).all msMay = true := by
  rw [trMsOk, List.all_eq_true] at h2
  rw [List.all_eq_true] at h ⊢
  intro x hx
  obtain ⟨y, hy, rfl⟩ := List.mem_map.1 hx
  exact mv_may (h y (List.mem_filter.1 hy).1) (h2 y hy)
/-! ### kids -/
theorem rg_lo {n : Nd} {q : Nat} (h0 : 0 < q) (hl : n.pivots.length + 1 = n.kids.length) (hq : q < n.kids.length) : (rgN n q).1 = n.pivots.getD (q - 1) default := by
  unfold rgN; rw [if_neg (by omega)]
  simp only
  rw [if_pos (by omega), show (((q : Nat) : Int) - 1).toNat = q - 1 by omega]
theorem rg_hi {n : Nd} {j : Nat} (hl : n.pivots.length + 1 = n.kids.length) (hj : j < n.pivots.length) : (rgN n j).2.1 = n.pivots.getD j default ∧ (rgN n j).2.2 = true := by
  unfold rgN; rw [if_neg (by omega)]
  simp only
  rw [if_pos (by omega), show ((j : Nat) : Int).toNat = j by omega]
  exact ⟨rfl, decide_eq_true (by omega)⟩
/-- What holds of a node's kids while they are trimmed. -/
structure KI (n : Nd) (r : L × L × Bool) (a : L) (q : Nat) (ps : List L) (ks : List Ed) : Prop where
  len : (ks = [] ∧ ps = []) ∨ ps.length + 1 = ks.length
  most : ks.length ≤ q
  ok : ks.all edOk = true
  piv : ∀ p ∈ ps, p ≠ [] ∧ p.length ≤ 16 ∧ ∃ i, 0 < i ∧ i < q ∧ p = cutS (rgN n i).1 a ∧ hp (rgN n i).1 a = true
  up : ps.Pairwise (fun x y => lt x y = true)
  some : ks ≠ [] → ∃ j, j < q ∧ emC (rgN n j) r = false
  none : ks = [] → ∀ j, j < q → emC (rgN n j) r = true
theorem KI.start (n : Nd) (r : L × L × Bool) (a : L) : KI n r a 0 [] [] :=
  ⟨.inl ⟨rfl, rfl⟩, by simp, rfl, fun p hp => by simp at hp, List.Pairwise.nil, fun h => absurd rfl h, fun _ j hj => by omega⟩
theorem KI.skip {n : Nd} {r : L × L × Bool} {a : L} {q : Nat} {ps : List L} {ks : List Ed} (h : KI n r a q ps ks) (hq : emC (rgN n q) r = true) : KI n r a (q + 1) ps ks :=
  ⟨h.len, by have := h.most; omega, h.ok, fun p hp => by obtain ⟨a1, a2, i, b1, b2, b3⟩ := h.piv p hp; exact ⟨a1, a2, i, b1, by omega, b3⟩, h.up, fun g => by obtain ⟨j, j1, j2⟩ := h.some g; exact ⟨j, by omega, j2⟩, fun g j hj => by
    by_cases e : j = q
    · subst e; exact hq
    · exact h.none g j (by omega)⟩
theorem kid_edOk {n : Nd} {a : L} {q : Nat} (hq : q < n.kids.length) (hk : n.kids.all edOk = true) (h : kidOk n a q = true) : edOk (trKid n a q) = true := by
  have g := List.all_eq_true.1 hk (n.kids.getD q default) (by rw [List.getD_eq_getElem?_getD, List.getElem?_eq_getElem hq]; exact List.getElem_mem hq)
  simp only [kidOk, Bool.and_eq_true] at h
  simp only [edOk, Bool.and_eq_true] at g ⊢
  exact ⟨⟨g.1.1, h.2.1⟩, h.2.2⟩
theorem KI.more {n : Nd} {r : L × L × Bool} {a : L} {q : Nat} {ps : List L} {ks : List Ed} (hi : innerOk n = true) (hu : hp (undS r.1 r.2.1 r.2.2) a = true) (h : KI n r a q ps ks) (hq : q < n.kids.length) (he : emC (rgN n q) r = false) (hk : kidOk n a q = true) :
    KI n r a (q + 1) (if 0 < ks.length then ps ++ [cutS (rgN n q).1 a] else ps) (ks ++ [trKid n a q]) := by
  obtain ⟨pl, pr, _⟩ := inner_len hi
  have hi2 := hi
  simp only [innerOk, Bool.and_eq_true] at hi2
  have kok := hi2.1.1.2
  have p16 := hi2.1.2.2
  have ok2 : (ks ++ [trKid n a q]).all edOk = true := by
    rw [List.all_append, h.ok, List.all_cons, kid_edOk hq kok hk]; rfl
  have most2 : (ks ++ [trKid n a q]).length ≤ q + 1 := by
    have := h.most; simp; omega
  by_cases c : 0 < ks.length
  · rw [if_pos c]
    have hne : ks ≠ [] := fun e => by rw [e] at c; simp at c
    obtain ⟨j, j1, j2⟩ := h.some hne
    have hin := piv_in pl pr j1 hq j2 he
    have hpre : hp (rgN n q).1 a = true := hp_trans ((und_facts _ _ _ _).2.2.1 hin) hu
    have lo := rg_lo (n := n) (q := q) (by omega) pl hq
    refine ⟨.inr ?_, most2, ok2, ?_, ?_, fun _ => ⟨q, by omega, he⟩, fun e => by simp at e⟩
    · rcases h.len with ⟨e, _⟩ | e
      · exact absurd e hne
      · simp; omega
    · intro p hp'
      rcases List.mem_append.1 hp' with g | g
      · obtain ⟨a1, a2, i, b1, b2, b3⟩ := h.piv p g; exact ⟨a1, a2, i, b1, by omega, b3⟩
      · obtain rfl : p = cutS (rgN n q).1 a := by simpa using g
        refine ⟨?_, ?_, q, by omega, by omega, rfl, hpre⟩
        · intro e
          obtain ⟨k, k1, k2⟩ := emC_in j2
          have kp : hp k a = true := hp_trans ((und_facts _ _ _ _).2.2.1 k2) hu
          have hj := rg_hi (n := n) pl (show j < n.pivots.length by omega)
          have f1 : lt k (n.pivots.getD j default) = true := by
            simp only [inR, hj.1, hj.2, Bool.and_eq_true, Bool.not_true, Bool.false_or] at k1; exact k1.2
          have f2 := lt_of_lt_le f1 (le_rise pr (show j ≤ q - 1 by omega) (by omega))
          rw [← lo, ← lt_cut kp hpre, e, lt_nil] at f2
          cases f2
        · have := cutS_len (rgN n q).1 a
          have g16 := List.all_eq_true.1 p16 (n.pivots.getD (q - 1) default) (by rw [List.getD_eq_getElem?_getD, List.getElem?_eq_getElem (show q - 1 < n.pivots.length by omega)]; exact List.getElem_mem _)
          rw [← lo, decide_eq_true_eq] at g16
          omega
    · rw [List.pairwise_append]
      refine ⟨h.up, by simp, fun x hx y hy => ?_⟩
      obtain rfl : y = cutS (rgN n q).1 a := by simpa using hy
      obtain ⟨_, _, i, i0, iq, rfl, ip⟩ := h.piv x hx
      rw [lt_cut ip hpre, lo, rg_lo i0 pl (by omega)]
      exact rise_lt pr _ (by omega) (by omega)
  · rw [if_neg c]
    have e : ks = [] := List.eq_nil_of_length_eq_zero (by omega)
    have e2 : ps = [] := by
      rcases h.len with ⟨_, g⟩ | g
      · exact g
      · rw [e] at g; simp at g
    subst e; subst e2
    exact ⟨.inr rfl, most2, ok2, fun p hp' => by simp at hp', List.Pairwise.nil, fun _ => ⟨q, by omega, he⟩, fun e => by simp at e⟩
theorem KI.run {n : Nd} {r : L × L × Bool} {a : L} (hi : innerOk n = true) (hu : hp (undS r.1 r.2.1 r.2.2) a = true) : ∀ (u q : Nat) (ps : List L) (ks : List Ed), q + u = n.kids.length → KI n r a q ps ks → (kRun n r a u q ps ks).2 = true → KI n r a n.kids.length (kRun n r a u q ps ks).1.1 (kRun n r a u q ps ks).1.2
  | 0, q, ps, ks, hq, h, _ => by
    obtain rfl : q = n.kids.length := by omega
    exact h
  | u + 1, q, ps, ks, hq, h, hok => by
    rw [kRun] at hok ⊢
    by_cases c : emC (rgN n q) r = true
    · rw [if_pos c] at hok ⊢
      exact KI.run hi hu u (q + 1) _ _ (by omega) (h.skip c) hok
    · rw [if_neg c] at hok ⊢
      by_cases d : kidOk n a q = false
      · rw [if_pos d] at hok; cases hok
      · rw [if_neg d] at hok ⊢
        exact KI.run hi hu u (q + 1) _ _ (by omega) (h.more hi hu (by omega) (by simpa using c) (by simpa using d)) hok
/-- What is trimmed may be. -/
theorem tr_may {n : Nd} {r : L × L × Bool} {a : L} (h : trE n r a = 0) : mayN (trN n r a) = 0 := by
  by_cases h0 : mayN n = 0
  · cases g : (emR r.1 r.2.1 r.2.2 || !hp (undS r.1 r.2.1 r.2.2) a) with
    | true => rw [(tr1 h0 g).1] at h; cases h
    | false =>
      have g' := g
      simp only [Bool.or_eq_false_iff, Bool.not_eq_false'] at g'
      obtain ⟨g1, hu⟩ := g'
      cases hl : n.leaf with
      | true =>
        rw [(trL h0 g hl).2]
        obtain ⟨p1, p2⟩ := leaf_parts (may_leaf h0 hl)
        have m16 : n.pairs.length ≤ 16 := by
          unfold mayN at h0; split at h0
          · cases h0
          · omega
        have l16 := trPr_len n.pairs r a
        unfold mayN
        rw [if_neg (by simp only [List.length_nil]; omega)]
        simp only [if_true]
        rw [if_pos]
        simp only [leafOk, List.isEmpty_nil, Bool.true_and, Bool.and_eq_true]
        exact ⟨trPr_rise p1 hu, trPr_all p2⟩
      | false =>
        obtain ⟨hi, k8, b16⟩ := may_inner h0 hl
        cases h4 : (kRun n r a n.kids.length 0 [] []).2 with
        | false => rw [(trK1 h0 g hl h4).1] at h; cases h
        | true =>
          cases h5 : trMsOk n.buf r a with
          | false => rw [(trK2 h0 g hl h4 h5).1] at h; cases h
          | true =>
            rw [(trK3 h0 g hl h4 h5).2]
            have K := KI.run hi hu _ 0 [] [] (by omega) (KI.start n r a) h4
            generalize (kRun n r a n.kids.length 0 [] []).1.1 = ps at *
            generalize (kRun n r a n.kids.length 0 [] []).1.2 = ks at *
            obtain ⟨pl, pr, _⟩ := inner_len hi
            have hne : ks ≠ [] := fun e => by
              obtain ⟨e1, e2⟩ := kid_at (n := n) (k := r.1) pl pr
              have hb : bs (kidF n r.1) 0 n.pivots.length < n.kids.length := by omega
              have i1 := kid_in (n := n) (k := r.1) pl pr hb
              rw [e1, beq_self_eq_true] at i1
              have := K.none e _ hb
              rw [emC_some i1 (in_lo g1)] at this
              cases this
            have hlen : ps.length + 1 = ks.length := by
              rcases K.len with ⟨e, _⟩ | e
              · exact absurd e hne
              · exact e
            have hml := trMsR_len n.buf r a
            have hkm := K.most
            unfold mayN
            rw [if_neg (by simp only [List.length_nil]; omega)]
            simp only [Bool.false_eq_true, if_false]
            rw [if_pos]
            have i2 := hi
            simp only [innerOk, Bool.and_eq_true] at i2
            simp only [innerOk, List.isEmpty_nil, Bool.true_and, Bool.and_eq_true, decide_eq_true_eq, Bool.not_eq_true', List.isEmpty_eq_false_iff]
            refine ⟨⟨⟨⟨hne, hlen⟩, K.ok⟩, ?_, ?_⟩, trMs_may i2.2 h5⟩
            · rw [rise_pw, List.pairwise_cons]
              refine ⟨fun p hp' => ?_, K.up⟩
              have := (K.piv p hp').1
              rw [lt_nil_iff]; simpa using this
            · rw [List.all_eq_true]; intro p hp'
              exact decide_eq_true (K.piv p hp').2.1
  · rw [(tr3 h0).1] at h; cases h
end Go.Proofs.Ytocppeifkjdeiaa.Mv
