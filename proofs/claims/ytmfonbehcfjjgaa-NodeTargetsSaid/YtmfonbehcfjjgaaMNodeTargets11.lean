/- What the statement NodeTargets needs, part 11. Under no condition. -/
import Derived.Test.YtmfonbehcfjjgaaMNodeTargets10
/- Where a key leads in a trimmed node. Plain. -/
namespace Go.Proofs.Ytmfonbehcfjjgaa.Mv
open Go Go.Proofs
set_option linter.unusedSimpArgs false
set_option linter.unusedVariables false
set_option maxRecDepth 10000
set_option maxHeartbeats 4000000

theorem cut_iff {x a k : L} (h : hp x a = true) : cutS x a = k ↔ x = a ++ k := by
  obtain ⟨t, rfl⟩ := hp_pre.1 h
  rw [cutS_hp h, List.drop_left' rfl, List.append_cancel_left_eq]
/-! ### pairs -/
theorem getP_tr {r : L × L × Bool} {a k : L} (hu : hp (undS r.1 r.2.1 r.2.2) a = true) (hk : inR r.1 r.2.1 r.2.2 (a ++ k) = true) : ∀ l : List Pr, getP (trPr l r a) k = getP l (a ++ k)
  | [] => rfl
  | p :: l => by
    have ih := getP_tr hu hk l
    cases g : prKeep r p with
    | true =>
      have e : trPr (p :: l) r a = prCut a p :: trPr l r a := by rw [trPr, List.filter_cons_of_pos g]; rfl
      have hp' : hp p.k a = true := hp_trans ((und_facts _ _ _ _).2.2.1 g) hu
      rw [e, getP, getP, ih]
      have := cut_iff (k := k) hp'
      show (if cutS p.k a = k then some p.v else _) = _
      by_cases c : p.k = a ++ k
      · rw [if_pos c, if_pos (this.2 c)]
      · rw [if_neg c, if_neg (fun q => c (this.1 q))]
    | false =>
      have e : trPr (p :: l) r a = trPr l r a := by rw [trPr, List.filter_cons_of_neg (by rw [g]; decide)]; rfl
      rw [e, getP, ih, if_neg]
      intro c
      rw [prKeep, c, hk] at g; cases g
/-! ### messages -/
theorem next_in (p k : L) : inR p (p ++ [0]) true k = (k == p) := by
  rw [Bool.eq_iff_iff]
  simp only [inR, Bool.and_eq_true, Bool.not_eq_true', Bool.not_true, Bool.false_or, beq_iff_eq]
  constructor
  · rintro ⟨h1, h2⟩
    cases g : hp k p with
    | false => rw [lt_off [0] g] at h2; rw [h2] at h1; cases h1
    | true =>
      obtain ⟨t, rfl⟩ := hp_pre.1 g
      rw [lt_app] at h2
      cases t with
      | nil => simp
      | cons c t => rw [lt_one] at h2; simp at h2
  · rintro rfl
    exact ⟨lt_irrefl _, lt_pre _ 0 []⟩
theorem ab_in (m : Ms) (k : L) : inR (abS m).1 (abS m).2.1 (abS m).2.2 k = spk m k := by
  unfold abS spk
  by_cases h1 : m.kind = 1
  · rw [if_pos h1, if_neg (by rw [h1]; decide), h1]
    simp only [next_in]; simp
  · rw [if_neg h1]
    by_cases h2 : m.kind = 2
    · rw [if_pos h2, if_neg (by rw [h2]; decide), h2]
      simp only [next_in]; simp
    · rw [if_neg h2]
      by_cases h3 : m.kind = 3
      · rw [if_pos h3, if_pos h3]; exact of_in _ _
      · rw [if_neg h3, if_neg h3]
        have e1 : (m.kind == 1) = false := by simpa using h1
        have e2 : (m.kind == 2) = false := by simpa using h2
        rw [e1, e2]; simp [inR, lt_nil]
theorem spk_keep {r : L × L × Bool} {k : L} (hk : inR r.1 r.2.1 r.2.2 k = true) {m : Ms} (h : spk m k = true) : msKeep r m = true := by
  rw [← ab_in] at h
  rw [msKeep, emC_some h hk]; rfl
theorem eq_app {a t k : L} : (a ++ k == a ++ t) = (k == t) := by
  rw [Bool.eq_iff_iff]; simp
theorem spk_mv {m : Ms} {a k : L} (h : (mvR m a).2 = true) : spk (mvR m a).1 k = spk m (a ++ k) := by
  unfold mvR at h ⊢
  by_cases c : hp m.key a = true
  · rw [if_pos c]
    obtain ⟨t, e⟩ := hp_pre.1 c
    have e2 : cutS (a ++ t) a = t := by rw [cut_iff (hp_app a t)]
    simp only [spk, e2, e, hp_app2, eq_app]
  · rw [if_neg c] at h ⊢
    by_cases d : m.kind = 3 ∧ hp a m.key = true ∧ m.add.length + (cutS a m.key).length ≤ 16
    · rw [if_pos d]
      obtain ⟨t, e⟩ := hp_pre.1 d.2.1
      simp only [spk, d.1, if_true, hp_nil]
      rw [e, List.append_assoc, hp_app]
    · rw [if_neg d] at h; cases h
def msW (m : Ms) (k : L) : Wy := if m.kind = 1 then wayV m.val else if m.kind = 3 then onW m.block m.deep m.key m.add k else wayZ
theorem msW_mv {m : Ms} {a k : L} (h : (mvR m a).2 = true) : msW (mvR m a).1 k = msW m (a ++ k) := by
  unfold mvR at h ⊢
  by_cases c : hp m.key a = true
  · rw [if_pos c]
    obtain ⟨t, e⟩ := hp_pre.1 c
    have e2 : cutS (a ++ t) a = t := by rw [cut_iff (hp_app a t)]
    simp only [msW, e2, e, onW, hp_app2]
    have e3 : ∀ g : hp k t = true, upS t m.add k = upS (a ++ t) m.add (a ++ k) := fun g => by
      obtain ⟨x, rfl⟩ := hp_pre.1 g
      rw [upS_app, ← List.append_assoc, upS_app]
    by_cases g : hp k t = true
    · simp only [if_pos g, e3 g]
    · simp only [if_neg g]
  · rw [if_neg c] at h ⊢
    by_cases d : m.kind = 3 ∧ hp a m.key = true ∧ m.add.length + (cutS a m.key).length ≤ 16
    · rw [if_pos d]
      obtain ⟨t, e⟩ := hp_pre.1 d.2.1
      have e2 : cutS a m.key = t := by rw [cut_iff d.2.1]; exact e
      have n1 : ¬ ((3 : UInt8) = 1) := by decide
      simp only [msW, d.1, if_neg n1, if_true, onW, hp_nil, e2]
      rw [e, List.append_assoc, hp_app, if_pos rfl, upS_app]
      have : upS [] (m.add ++ t) k = m.add ++ (t ++ k) := by
        rw [show k = [] ++ k from rfl, upS_app]; simp
      rw [this]
    · rw [if_neg d] at h; cases h
/-- The last message that speaks. -/
def lastM (l : List Ms) (k : L) : Option Ms := (l.filter (fun m => spk m k)).getLast?
theorem lastI_spec {l : List Ms} {k : L} : ∀ q, q ≤ l.length → (lastI l k q < 0 ∧ ((l.take q).filter (fun m => spk m k)).getLast? = none) ∨ (0 ≤ lastI l k q ∧ ((l.take q).filter (fun m => spk m k)).getLast? = some (l.getD (lastI l k q).toNat default))
  | 0, _ => .inl ⟨by simp [lastI], by simp⟩
  | q + 1, hq => by
    rw [lastI]
    cases g : spk (l.getD q default) k with
    | true =>
      rw [if_pos rfl, filt_yes (p := fun m => spk m k) (by omega) g]
      exact .inr ⟨by omega, by rw [List.getLast?_append]; simp⟩
    | false =>
      rw [if_neg (by decide), filt_no (p := fun m => spk m k) (by omega) g]
      exact lastI_spec q (by omega)
theorem lastM_tr {l : List Ms} {r : L × L × Bool} {a k : L} (hok : trMsOk l r a = true) (hk : inR r.1 r.2.1 r.2.2 (a ++ k) = true) : lastM (trMsR l r a) k = (lastM l (a ++ k)).map (fun m => (mvR m a).1) := by
  have e : (trMsR l r a).filter (fun m => spk m k) = (l.filter (fun m => spk m (a ++ k))).map (fun m => (mvR m a).1) := by
    rw [trMsR, List.filter_map, List.filter_filter]
    congr 1
    rw [trMsOk, List.all_eq_true] at hok
    refine List.filter_congr fun m hm => ?_
    cases g : msKeep r m with
    | true =>
      rw [Bool.and_true]
      exact spk_mv (hok m (List.mem_filter.2 ⟨hm, g⟩))
    | false =>
      rw [Bool.and_false]
      cases q : spk m (a ++ k) with
      | false => rfl
      | true => rw [spk_keep hk q] at g; cases g
  rw [lastM, e, List.getLast?_map, lastM]
def kidW (n : Nd) (k : L) : Wy := onW (n.kids.getD (kidL n k n.kids.length).toNat default).block (n.kids.getD (kidL n k n.kids.length).toNat default).deep (n.kids.getD (kidL n k n.kids.length).toNat default).strip (n.kids.getD (kidL n k n.kids.length).toNat default).add k
theorem lead_in {n : Nd} {k : L} (hl : n.leaf = false) : leadN n k = match lastM n.buf k with | none => kidW n k | some m => msW m k := by
  unfold leadN
  rw [if_neg (by rw [hl]; decide)]
  rcases lastI_spec (l := n.buf) (k := k) n.buf.length (Nat.le_refl _) with ⟨h1, h2⟩ | ⟨h1, h2⟩
  · rw [List.take_length] at h2
    rw [if_pos h1, lastM, h2]; rfl
  · rw [List.take_length] at h2
    rw [if_neg (by omega), lastM, h2]; rfl
/-! ### kids */ -/
def kept (n : Nd) (r : L × L × Bool) (q : Nat) : List Nat := (List.range q).filter (fun i => !emC (rgN n i) r)
theorem kept_yes {n : Nd} {r : L × L × Bool} {q : Nat} (h : emC (rgN n q) r = false) : kept n r (q + 1) = kept n r q ++ [q] := by
  rw [kept, List.range_succ, List.filter_append, List.filter_cons_of_pos (by rw [h]; rfl)]; rfl
theorem kept_no {n : Nd} {r : L × L × Bool} {q : Nat} (h : emC (rgN n q) r = true) : kept n r (q + 1) = kept n r q := by
  rw [kept, List.range_succ, List.filter_append, List.filter_cons_of_neg (by rw [h]; decide), List.filter_nil, List.append_nil]; rfl
theorem kept_run {n : Nd} {r : L × L × Bool} {a : L} : ∀ (u q : Nat) (ps : List L) (ks : List Ed), q + u = n.kids.length → ks = (kept n r q).map (trKid n a) → ps = ((kept n r q).drop 1).map (fun i : Nat => cutS (rgN n i).1 a) → (kRun n r a u q ps ks).2 = true →
    (kRun n r a u q ps ks).1.2 = (kept n r n.kids.length).map (trKid n a) ∧ (kRun n r a u q ps ks).1.1 = ((kept n r n.kids.length).drop 1).map (fun i : Nat => cutS (rgN n i).1 a)
  | 0, q, ps, ks, hq, h1, h2, _ => by
    obtain rfl : q = n.kids.length := by omega
    exact ⟨h1, h2⟩
  | u + 1, q, ps, ks, hq, h1, h2, hok => by
    rw [kRun] at hok ⊢
    by_cases c : emC (rgN n q) r = true
    · rw [if_pos c] at hok ⊢
      exact kept_run u (q + 1) _ _ (by omega) (by rw [kept_no c]; exact h1) (by rw [kept_no c]; exact h2) hok
    · rw [if_neg c] at hok ⊢
      have c' : emC (rgN n q) r = false := by simpa using c
      by_cases d : kidOk n a q = false
      · rw [if_pos d] at hok; cases hok
      · rw [if_neg d] at hok ⊢
        refine kept_run u (q + 1) _ _ (by omega) (by rw [kept_yes c', List.map_append, ← h1]; rfl) ?_ hok
        rw [kept_yes c']
        have hl : ks.length = (kept n r q).length := by rw [h1, List.length_map]
        by_cases e : 0 < ks.length
        · rw [if_pos e, List.drop_append_of_le_length (by omega), List.map_append, ← h2]; rfl
        · rw [if_neg e]
          have e0 : kept n r q = [] := List.eq_nil_of_length_eq_zero (by omega)
          rw [h2, e0]; rfl
theorem ok_run {n : Nd} {r : L × L × Bool} {a : L} : ∀ (u q : Nat) (ps : List L) (ks : List Ed), (kRun n r a u q ps ks).2 = true → ∀ i, q ≤ i → i < q + u → emC (rgN n i) r = false → kidOk n a i = true
  | 0, q, ps, ks, _, i, h1, h2, _ => by omega
  | u + 1, q, ps, ks, hok, i, h1, h2, he => by
    rw [kRun] at hok
    by_cases c : emC (rgN n q) r = true
    · rw [if_pos c] at hok
      by_cases e : i = q
      · subst e; rw [c] at he; cases he
      · exact ok_run u (q + 1) _ _ hok i (by omega) (by omega) he
    · rw [if_neg c] at hok
      by_cases d : kidOk n a q = false
      · rw [if_pos d] at hok; cases hok
      · rw [if_neg d] at hok
        by_cases e : i = q
        · subst e; simpa using d
        · exact ok_run u (q + 1) _ _ hok i (by omega) (by omega) he
theorem kept_pw (n : Nd) (r : L × L × Bool) (q : Nat) : (kept n r q).Pairwise (· < ·) := List.Pairwise.filter _ List.pairwise_lt_range
theorem kept_mem {n : Nd} {r : L × L × Bool} {q i : Nat} : i ∈ kept n r q ↔ i < q ∧ emC (rgN n i) r = false := by
  rw [kept, List.mem_filter, List.mem_range]; simp
theorem getD_at {α : Type} [Inhabited α] {l : List α} {i : Nat} (h : i < l.length) : l.getD i default = l[i] := by
  rw [List.getD_eq_getElem?_getD, List.getElem?_eq_getElem h]; rfl
/-- The kid of a key in a trimmed node. -/
theorem kid_tr {n : Nd} {r : L × L × Bool} {a k : L} {ps : List L} {ks : List Ed} {ms : List Ms} (hi : innerOk n = true) (hu : hp (undS r.1 r.2.1 r.2.2) a = true) (hk : inR r.1 r.2.1 r.2.2 (a ++ k) = true)
    (h1 : ks = (kept n r n.kids.length).map (trKid n a)) (h2 : ps = ((kept n r n.kids.length).drop 1).map (fun i : Nat => cutS (rgN n i).1 a)) (hi2 : innerOk ⟨false, [], ps, ks, ms⟩ = true) :
    (ks.getD (kidL ⟨false, [], ps, ks, ms⟩ k ks.length).toNat default) = trKid n a (kidL n (a ++ k) n.kids.length).toNat ∧ (kidL n (a ++ k) n.kids.length).toNat < n.kids.length ∧ emC (rgN n (kidL n (a ++ k) n.kids.length).toNat) r = false := by
  obtain ⟨pl, pr, _⟩ := inner_len hi
  obtain ⟨e1, e2, e3⟩ := kidL_may (k := a ++ k) hi
  obtain ⟨b, hb⟩ : ∃ b : Nat, kidN n (a ++ k) = b := ⟨(kidN n (a ++ k)).toNat, by omega⟩
  rw [e1, hb]
  have hbl : b < n.kids.length := by omega
  have ib := kid_in (k := a ++ k) pl pr hbl
  rw [hb, beq_self_eq_true] at ib
  have eb := emC_some ib hk
  have mb : b ∈ kept n r n.kids.length := kept_mem.2 ⟨hbl, eb⟩
  obtain ⟨j, hj, hjb⟩ := List.getElem_of_mem mb
  generalize hK : kept n r n.kids.length = K at *
  have pw : K.Pairwise (· < ·) := hK ▸ kept_pw n r _
  have mem : ∀ i, i ∈ K ↔ i < n.kids.length ∧ emC (rgN n i) r = false := fun i => hK ▸ kept_mem
  obtain ⟨pl2, pr2, _⟩ := inner_len hi2
  dsimp only at pl2 pr2
  have lk : ks.length = K.length := by rw [h1, List.length_map]
  have hp1 : ∀ i (h : i < K.length), 0 < i → hp (rgN n K[i]).1 a = true := fun i h h0 => by
    have m1 := (mem K[i]).1 (List.getElem_mem h)
    have m0 := (mem K[0]).1 (List.getElem_mem (by omega))
    have lt0 : K[0] < K[i] := List.pairwise_iff_getElem.1 pw 0 i (by omega) h h0
    exact hp_trans ((und_facts _ _ _ _).2.2.1 (piv_in pl pr lt0 m1.1 m0.2 m1.2)) hu
  have pat : ∀ i (h : i + 1 < K.length), ps.getD i default = cutS (rgN n K[i + 1]).1 a := fun i h => by
    rw [getD_at (by rw [h2, List.length_map, List.length_drop]; omega)]
    simp only [h2, List.getElem_map, List.getElem_drop]
    simp only [Nat.add_comm 1 i]
  have in2 : inR (rgN ⟨false, [], ps, ks, ms⟩ j).1 (rgN ⟨false, [], ps, ks, ms⟩ j).2.1 (rgN ⟨false, [], ps, ks, ms⟩ j).2.2 k = true := by
    simp only [inR, Bool.and_eq_true, Bool.not_eq_true', Bool.or_eq_true] at ib ⊢
    constructor
    · by_cases h0 : 0 < j
      · rw [rg_lo h0 pl2 (by show j < ks.length; omega)]
        dsimp only
        have := pat (j - 1) (by omega)
        rw [this]
        have ej : K[j - 1 + 1]'(by omega) = b := by
          rw [← hjb]; congr 1; omega
        rw [ej]
        have hb2 : hp (rgN n b).1 a = true := by have := hp1 j hj h0; rw [hjb] at this; exact this
        obtain ⟨t, ht⟩ := hp_pre.1 hb2
        rw [(cut_iff hb2).2 ht]
        have q := ib.1
        rw [ht, lt_app] at q; exact q
      · obtain rfl : j = 0 := by omega
        have : (rgN ⟨false, [], ps, ks, ms⟩ (0 : Nat)).1 = [] := by
          unfold rgN; rw [if_neg (by dsimp only; omega)]; simp
        rw [this]; exact lt_nil _
    · by_cases hl : j < ps.length
      · obtain ⟨g1, g2⟩ := rg_hi (n := ⟨false, [], ps, ks, ms⟩) pl2 hl
        right
        rw [g1]
        dsimp only
        rw [pat j (by omega)]
        have hj1 : j + 1 < K.length := by omega
        have m1 := (mem K[j + 1]).1 (List.getElem_mem hj1)
        have lt1 : b < K[j + 1] := by rw [← hjb]; exact List.pairwise_iff_getElem.1 pw j (j + 1) hj hj1 (by omega)
        have hpre := hp1 (j + 1) hj1 (by omega)
        obtain ⟨t, ht⟩ := hp_pre.1 hpre
        rw [(cut_iff hpre).2 ht]
        have hh := rg_hi (n := n) pl (show b < n.pivots.length by omega)
        have f1 : lt (a ++ k) (n.pivots.getD b default) = true := by
          rcases ib.2 with q | q
          · rw [hh.2] at q; cases q
          · rw [hh.1] at q; exact q
        have f2 := lt_of_lt_le f1 (le_rise pr (show b ≤ K[j + 1] - 1 by omega) (by omega))
        rw [← rg_lo (n := n) (q := K[j + 1]) (by omega) pl m1.1, ht, lt_app] at f2
        exact f2
      · left
        unfold rgN; rw [if_neg (by dsimp only; omega)]
        exact decide_eq_false (by dsimp only; omega)
  have kk := kid_in (n := ⟨false, [], ps, ks, ms⟩) (k := k) pl2 pr2 (j := j) (by show j < ks.length; omega)
  rw [in2] at kk
  have kj : kidN ⟨false, [], ps, ks, ms⟩ k = (j : Int) := by have := beq_iff_eq.1 kk.symm; omega
  have kl := (kidL_may (k := k) hi2).1
  dsimp only at kl
  rw [kl, kj]
  refine ⟨?_, by omega, by rw [Int.toNat_natCast]; exact eb⟩
  rw [Int.toNat_natCast, Int.toNat_natCast, getD_at (by omega)]
  simp only [h1, List.getElem_map, hjb]
/-- Where a key leads in a trimmed node is where it led with the beginning ahead of it. -/
theorem lead_tr {n : Nd} {r : L × L × Bool} {a k : L} (h : trE n r a = 0) (hk : inR r.1 r.2.1 r.2.2 (a ++ k) = true) : stepN (trN n r a) k = stepN n (a ++ k) := by
  have hm := tr_may h
  have h0 : mayN n = 0 := by
    by_cases h0 : mayN n = 0
    · exact h0
    · rw [(tr3 h0).1] at h; cases h
  rw [stepN, stepN, if_pos hm, if_pos h0]
  cases g : (emR r.1 r.2.1 r.2.2 || !hp (undS r.1 r.2.1 r.2.2) a) with
  | true => rw [(tr1 h0 g).1] at h; cases h
  | false =>
    have g' := g
    simp only [Bool.or_eq_false_iff, Bool.not_eq_false'] at g'
    obtain ⟨g1, hu⟩ := g'
    cases hl : n.leaf with
    | true =>
      rw [(trL h0 g hl).2]
      unfold leadN
      rw [if_pos rfl, if_pos hl, getP_tr hu hk]
    | false =>
      cases h4 : (kRun n r a n.kids.length 0 [] []).2 with
      | false => rw [(trK1 h0 g hl h4).1] at h; cases h
      | true =>
        cases h5 : trMsOk n.buf r a with
        | false => rw [(trK2 h0 g hl h4 h5).1] at h; cases h
        | true =>
          have hi := (may_inner h0 hl).1
          rw [(trK3 h0 g hl h4 h5).2] at hm ⊢
          obtain ⟨q1, q2⟩ := kept_run n.kids.length 0 [] [] (by omega) rfl rfl h4
          have hi2 := (may_inner hm rfl).1
          have okr : ∀ b, b < n.kids.length → emC (rgN n b) r = false → kidOk n a b = true := fun b b1 b2 => ok_run _ _ _ _ h4 b (by omega) (by omega) b2
          generalize (kRun n r a n.kids.length 0 [] []).1.1 = ps at *
          generalize (kRun n r a n.kids.length 0 [] []).1.2 = ks at *
          rw [lead_in rfl, lead_in hl]
          dsimp only
          rw [lastM_tr h5 hk]
          cases o : lastM n.buf (a ++ k) with
          | none =>
            show kidW _ _ = kidW _ _
            obtain ⟨t1, t2, t3⟩ := kid_tr (ms := trMsR n.buf r a) hi hu hk q1 q2 hi2
            unfold kidW
            dsimp only
            rw [t1]
            generalize (kidL n (a ++ k) n.kids.length).toNat = b at *
            have ok : kidOk n a b = true := okr b t2 t3
            simp only [kidOk, Bool.and_eq_true] at ok
            obtain ⟨s1, s2⟩ := shift_law (n.kids.getD b default).strip (n.kids.getD b default).add a k ok.1
            simp only [trKid, onW, s1, s2]
          | some m =>
            show msW _ _ = msW _ _
            have mm := List.mem_of_getLast? o
            obtain ⟨m1, m2⟩ := List.mem_filter.1 mm
            rw [trMsOk, List.all_eq_true] at h5
            exact msW_mv (h5 m (List.mem_filter.2 ⟨m1, spk_keep hk m2⟩))
end Go.Proofs.Ytmfonbehcfjjgaa.Mv

/- The statement of where trimmed nodes lead. Under no condition. -/
namespace Go.Proofs.Ytmfonbehcfjjgaa.Mv
open Go Go.Proofs
set_option linter.unusedSimpArgs false
set_option linter.unusedVariables false
set_option maxRecDepth 10000
set_option maxHeartbeats 4000000
attribute [local irreducible] AW AO AR

theorem mv_sm {m : Ms} {a : L} (h : msSm m = true) (h2 : (mvR m a).2 = true) : msSm (mvR m a).1 = true := by
  unfold mvR at h2 ⊢
  have l := cutS_len m.key a
  simp only [msSm, Bool.and_eq_true, decide_eq_true_eq] at h
  by_cases c : hp m.key a = true
  · rw [if_pos c]
    simp only [msSm, Bool.and_eq_true, decide_eq_true_eq]; omega
  · rw [if_neg c] at h2 ⊢
    by_cases d : m.kind = 3 ∧ hp a m.key = true ∧ m.add.length + (cutS a m.key).length ≤ 16
    · rw [if_pos d]
      simp only [msSm, Bool.and_eq_true, decide_eq_true_eq, List.length_append, List.length_nil]; omega
    · rw [if_neg d] at h2; cases h2
theorem may_strs {n : Nd} (h : mayN n = 0) : n.strs := by
  rcases (by cases n.leaf <;> simp : n.leaf = true ∨ n.leaf = false) with hl | hl
  · obtain ⟨e1, e2, e3⟩ := leaf_len (may_leaf h hl)
    exact ⟨fun i hi => by rw [e2] at hi; simp at hi, by rw [e3]; rfl⟩
  · have hi := (may_inner h hl).1
    simp only [innerOk, Bool.and_eq_true] at hi
    refine ⟨fun i hik => ?_, ?_⟩
    · have := List.all_eq_true.1 hi.1.1.2 (n.kids.getD i default) (by rw [List.getD_eq_getElem?_getD, List.getElem?_eq_getElem hik]; exact List.getElem_mem hik)
      simp only [edOk, Bool.and_eq_true, decide_eq_true_eq] at this
      omega
    · rw [List.all_eq_true]
      intro m hm
      have := List.all_eq_true.1 hi.2 m hm
      simp only [msMay, Bool.and_eq_true, decide_eq_true_eq] at this
      simp only [msSm, Bool.and_eq_true, decide_eq_true_eq]
      refine ⟨by omega, ?_⟩
      have t := this.2
      split at t
      · simp only [Bool.and_eq_true, beq_iff_eq] at t; rw [t.2]; simp
      · split at t
        · simp only [Bool.and_eq_true, beq_iff_eq] at t; rw [t.2]; simp
        · split at t
          · simp only [Bool.and_eq_true, decide_eq_true_eq] at t; omega
          · cases t
theorem zero_strs : ndZ.strs := ⟨fun i hi => by simp [ndZ] at hi, rfl⟩
theorem trN_strs (n : Nd) (r : L × L × Bool) (a : L) : (trN n r a).strs := by
  by_cases h : trE n r a = 0
  · exact may_strs (tr_may h)
  · rw [trN_bad h]; exact zero_strs
end Go.Proofs.Ytmfonbehcfjjgaa.Mv
