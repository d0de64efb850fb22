/- Trimming twice: plain. Under no condition. -/
import Derived.Test.YtocppeifkjdeiaaTrimI
namespace Go.Proofs.Ytocppeifkjdeiaa.Mv
open Go Go.Proofs
set_option linter.unusedSimpArgs false
set_option linter.unusedVariables false

theorem und_of {lo hi : L} {e : Bool} {a : L} (h : emR lo hi e = false) (all : ∀ k, inR lo hi e k = true → hp k a = true) : hp (undS lo hi e) a = true := by
  rw [← ins_und h]
  have q3 := all lo (in_lo h)
  obtain ⟨s1, s2⟩ := (succ_facts a lo).1 q3
  simp only [insS, h, Bool.false_or, Bool.and_eq_true, Bool.or_eq_true, Bool.not_eq_true']
  refine ⟨s1, ?_⟩
  cases ok : succOk a with
  | false => exact .inl rfl
  | true =>
    right
    have bad : inR lo hi e (succS a) = false := by
      cases g : inR lo hi e (succS a) with
      | false => rfl
      | true =>
        have g2 := ((succ_facts a (succS a)).1 (all _ g)).2 ok
        rw [lt_irrefl] at g2; cases g2
    have s3 := lt_asymm (s2 ok)
    simp only [inR, s3, Bool.not_false, Bool.true_and, Bool.or_eq_false_iff, Bool.not_eq_false'] at bad
    exact ⟨bad.1, bad.2⟩
theorem ins_in {l1 h1 : L} {e1 : Bool} {l2 h2 : L} {e2 : Bool} (h : insS l1 h1 e1 l2 h2 e2 = true) {k : L} (hk : inR l1 h1 e1 k = true) : inR l2 h2 e2 k = true := by
  have he := in_em hk
  simp only [insS, he, Bool.false_or, Bool.and_eq_true, Bool.or_eq_true, Bool.not_eq_true'] at h
  simp only [inR, Bool.and_eq_true, Bool.or_eq_true, Bool.not_eq_true'] at hk ⊢
  refine ⟨le_trans' h.1 hk.1, ?_⟩
  rcases h.2 with q | ⟨q1, q2⟩
  · exact .inl q
  · right
    rcases hk.2 with g | g
    · rw [g] at q1; cases q1
    · exact lt_of_lt_le g q2
/-- A range with a beginning ahead. -/
def behind (a : L) (s : L × L × Bool) : L × L × Bool := ovS [] a s.1 s.2.1 s.2.2
theorem behind_in (a : L) (s : L × L × Bool) (t : L) : inR (behind a s).1 (behind a s).2.1 (behind a s).2.2 (a ++ t) = inR s.1 s.2.1 s.2.2 t := by
  rw [behind, ov_in, hp_app, upS_app]; rfl
theorem behind_hp {a : L} {s : L × L × Bool} {k : L} (h : inR (behind a s).1 (behind a s).2.1 (behind a s).2.2 k = true) : ∃ t, k = a ++ t ∧ inR s.1 s.2.1 s.2.2 t = true := by
  have h' := h
  rw [behind, ov_in, Bool.and_eq_true] at h
  obtain ⟨t, rfl⟩ := hp_pre.1 h.1
  rw [behind_in] at h'
  exact ⟨t, rfl, h'⟩
/-- What a trimmed node is. -/
theorem tr_parts {n : Nd} {r : L × L × Bool} {a : L} (h : trE n r a = 0) : mayN n = 0 ∧ emR r.1 r.2.1 r.2.2 = false ∧ hp (undS r.1 r.2.1 r.2.2) a = true ∧
    ((n.leaf = true ∧ trN n r a = ⟨true, trPr n.pairs r a, [], [], []⟩) ∨
     (n.leaf = false ∧ trMsOk n.buf r a = true ∧ trN n r a = ⟨false, [], ((kept n r n.kids.length).drop 1).map (fun i : Nat => cutS (rgN n i).1 a), (kept n r n.kids.length).map (trKid n a), trMsR n.buf r a⟩ ∧
      ∀ i, i < n.kids.length → emC (rgN n i) r = false → kidOk n a i = true)) := by
  have h0 : mayN n = 0 := by
    by_cases h0 : mayN n = 0
    · exact h0
    · rw [(tr3 h0).1] at h; cases h
  cases g : (emR r.1 r.2.1 r.2.2 || !hp (undS r.1 r.2.1 r.2.2) a) with
  | true => rw [(tr1 h0 g).1] at h; cases h
  | false =>
    have g' := g
    simp only [Bool.or_eq_false_iff, Bool.not_eq_false'] at g'
    refine ⟨h0, g'.1, g'.2, ?_⟩
    cases hl : n.leaf with
    | true => exact .inl ⟨rfl, (trL h0 g hl).2⟩
    | false =>
      right
      cases h4 : (kRun n r a n.kids.length 0 [] []).2 with
      | false => rw [(trK1 h0 g hl h4).1] at h; cases h
      | true =>
        cases h5 : trMsOk n.buf r a with
        | false => rw [(trK2 h0 g hl h4 h5).1] at h; cases h
        | true =>
          obtain ⟨q1, q2⟩ := kept_run n.kids.length 0 [] [] (by omega) rfl rfl h4
          refine ⟨rfl, rfl, ?_, fun b b1 b2 => ok_run _ _ _ _ h4 b (by omega) (by omega) b2⟩
          rw [(trK3 h0 g hl h4 h5).2, q1, q2]
theorem run_ok {n : Nd} {r : L × L × Bool} {a : L} : ∀ (u q : Nat) (ps : List L) (ks : List Ed), (∀ i, q ≤ i → i < q + u → emC (rgN n i) r = false → kidOk n a i = true) → (kRun n r a u q ps ks).2 = true
  | 0, q, ps, ks, _ => rfl
  | u + 1, q, ps, ks, h => by
    rw [kRun]
    by_cases c : emC (rgN n q) r = true
    · rw [if_pos c]; exact run_ok u (q + 1) _ _ fun i h1 h2 h3 => h i (by omega) (by omega) h3
    · rw [if_neg c]
      have c' : emC (rgN n q) r = false := by simpa using c
      rw [if_neg (by rw [h q (by omega) (by omega) c']; decide)]
      exact run_ok u (q + 1) _ _ fun i h1 h2 h3 => h i (by omega) (by omega) h3
theorem tr_leaf {n : Nd} {r : L × L × Bool} {a : L} (h0 : mayN n = 0) (h1 : emR r.1 r.2.1 r.2.2 = false) (h2 : hp (undS r.1 r.2.1 r.2.2) a = true) (hl : n.leaf = true) : trE n r a = 0 ∧ trN n r a = ⟨true, trPr n.pairs r a, [], [], []⟩ :=
  trL h0 (by rw [h1, h2]; rfl) hl
theorem tr_kids {n : Nd} {r : L × L × Bool} {a : L} (h0 : mayN n = 0) (h1 : emR r.1 r.2.1 r.2.2 = false) (h2 : hp (undS r.1 r.2.1 r.2.2) a = true) (hl : n.leaf = false) (h5 : trMsOk n.buf r a = true) (hk : ∀ i, i < n.kids.length → emC (rgN n i) r = false → kidOk n a i = true) :
    trE n r a = 0 ∧ trN n r a = ⟨false, [], ((kept n r n.kids.length).drop 1).map (fun i : Nat => cutS (rgN n i).1 a), (kept n r n.kids.length).map (trKid n a), trMsR n.buf r a⟩ := by
  have h4 : (kRun n r a n.kids.length 0 [] []).2 = true := run_ok _ _ _ _ fun i _ h2 h3 => hk i (by omega) h3
  obtain ⟨q1, q2⟩ := kept_run n.kids.length 0 [] [] (by omega) rfl rfl h4
  have := trK3 h0 (by rw [h1, h2]; rfl) hl h4 h5
  rw [q1, q2] at this
  exact this
theorem cut2 (a b u : L) : cutS (cutS (a ++ (b ++ u)) a) b = u ∧ cutS (a ++ (b ++ u)) (a ++ b) = u := by
  have e1 : cutS (a ++ (b ++ u)) a = b ++ u := (cut_iff (hp_app _ _)).2 rfl
  have e2 : cutS (b ++ u) b = u := (cut_iff (hp_app _ _)).2 rfl
  refine ⟨by rw [e1, e2], ?_⟩
  rw [← List.append_assoc]
  exact (cut_iff (hp_app _ _)).2 rfl
section
variable {r s : L × L × Bool} {a b : L}
theorem trPr_two (hu : hp (undS r.1 r.2.1 r.2.2) a = true) (hv : hp (undS s.1 s.2.1 s.2.2) b = true) (hi : ∀ k, inR (behind a s).1 (behind a s).2.1 (behind a s).2.2 k = true → inR r.1 r.2.1 r.2.2 k = true) (l : List Pr) :
    trPr (trPr l r a) s b = trPr l (behind a s) (a ++ b) := by
  have e : l.filter (fun p => (prKeep s ∘ prCut a) p && prKeep r p) = l.filter (prKeep (behind a s)) := by
    refine List.filter_congr fun p _ => ?_
    show (inR s.1 s.2.1 s.2.2 (cutS p.k a) && inR r.1 r.2.1 r.2.2 p.k) = inR (behind a s).1 (behind a s).2.1 (behind a s).2.2 p.k
    cases g : inR r.1 r.2.1 r.2.2 p.k with
    | true =>
      obtain ⟨t, ht⟩ := hp_pre.1 (hp_trans ((und_facts _ _ _ _).2.2.1 g) hu)
      rw [Bool.and_true, ht, behind_in, (cut_iff (hp_app a t)).2 rfl]
    | false =>
      rw [Bool.and_false]
      cases g2 : inR (behind a s).1 (behind a s).2.1 (behind a s).2.2 p.k with
      | false => rfl
      | true => rw [hi _ g2] at g; cases g
  rw [trPr, trPr, trPr, List.filter_map, List.map_map, List.filter_filter, e]
  refine List.map_congr_left fun p hp1 => ?_
  obtain ⟨_, h2⟩ := List.mem_filter.1 hp1
  obtain ⟨t, ht, h3⟩ := behind_hp h2
  obtain ⟨u, rfl⟩ := hp_pre.1 (hp_trans ((und_facts _ _ _ _).2.2.1 h3) hv)
  show prCut b (prCut a p) = prCut (a ++ b) p
  unfold prCut
  dsimp only
  rw [ht, (cut2 a b u).1, (cut2 a b u).2]
theorem keep_iff {m : Ms} : msKeep r m = true ↔ ∃ k, spk m k = true ∧ inR r.1 r.2.1 r.2.2 k = true := by
  constructor
  · intro h
    simp only [msKeep, Bool.not_eq_true'] at h
    obtain ⟨k, h1, h2⟩ := emC_in h
    exact ⟨k, by rw [← ab_in]; exact h1, h2⟩
  · rintro ⟨k, h1, h2⟩
    exact spk_keep h2 h1
theorem mv_two {m : Ms} (h1 : (mvR m a).2 = true) (h2 : (mvR (mvR m a).1 b).2 = true) : mvR m (a ++ b) = mvR (mvR m a).1 b := by
  by_cases c : hp m.key a = true
  · obtain ⟨t, e⟩ := hp_pre.1 c
    rw [mv1 c] at h2 ⊢
    have e2 : cutS m.key a = t := by rw [cut_iff c]; exact e
    rw [e2] at h2 ⊢
    by_cases d : hp t b = true
    · obtain ⟨u, rfl⟩ := hp_pre.1 d
      rw [mv1 (m := ⟨m.kind, b ++ u, m.val, m.block, m.deep, m.add⟩) (a := b) d, mv1 (by rw [e, hp_app2]; exact d)]
      have e3 := (cut2 a b u).2
      have e4 : cutS (b ++ u) b = u := (cut_iff (hp_app _ _)).2 rfl
      rw [e, e3]; dsimp only; rw [e4]
    · have d' : hp t b = false := by simpa using d
      unfold mvR at h2 ⊢
      dsimp only at h2 ⊢
      rw [if_neg d] at h2 ⊢
      by_cases f : m.kind = 3 ∧ hp b t = true ∧ m.add.length + (cutS b t).length ≤ 16
      · obtain ⟨u, rfl⟩ := hp_pre.1 f.2.1
        have e5 : cutS (t ++ u) t = u := (cut_iff (hp_app _ _)).2 rfl
        have e6 : cutS (a ++ (t ++ u)) (a ++ t) = u := by rw [← List.append_assoc]; exact (cut_iff (hp_app _ _)).2 rfl
        rw [if_pos f, if_neg (by rw [e, hp_app2]; exact d), if_pos (by rw [e, hp_app2, e6]; rw [e5] at f; exact f), e, e5, e6]
      · rw [if_neg f] at h2; cases h2
  · have c' : hp m.key a = false := by simpa using c
    have cb : ¬ hp m.key (a ++ b) = true := by rw [hp_less c']; decide
    by_cases f : m.kind = 3 ∧ hp a m.key = true ∧ m.add.length + (cutS a m.key).length ≤ 16
    · obtain ⟨t, e⟩ := hp_pre.1 f.2.1
      have e1 : mvR m a = (⟨m.kind, [], m.val, m.block, m.deep, m.add ++ cutS a m.key⟩, true) := by unfold mvR; rw [if_neg c, if_pos f]
      have et : cutS a m.key = t := by rw [cut_iff f.2.1]; exact e
      rw [e1] at h2 ⊢
      rw [et] at h2 ⊢ f
      by_cases d : b = []
      · subst d
        rw [mv1 (m := ⟨m.kind, [], m.val, m.block, m.deep, m.add ++ t⟩) (a := []) (hp_nil _), List.append_nil, e1, et]; rfl
      · have d' : ¬ hp [] b = true := fun q => d (by obtain ⟨u, hu⟩ := hp_pre.1 q; simpa using (List.append_eq_nil_iff.1 hu.symm).1)
        have eb : cutS b [] = b := by rw [cut_iff (hp_nil _)]; rfl
        have ec : cutS (a ++ b) m.key = t ++ b := by
          have : hp (a ++ b) m.key = true := by rw [e, List.append_assoc]; exact hp_app _ _
          rw [cut_iff this, e, List.append_assoc]
        unfold mvR at h2 ⊢
        dsimp only at h2 ⊢
        rw [if_neg d', eb] at h2 ⊢
        rw [if_neg cb, ec]
        by_cases g : m.kind = 3 ∧ hp b [] = true ∧ (m.add ++ t).length + b.length ≤ 16
        · rw [if_pos g, if_pos ⟨g.1, by rw [e, List.append_assoc]; exact hp_app _ _, by have := g.2.2; simp only [List.length_append] at this ⊢; omega⟩, List.append_assoc]
        · rw [if_neg g] at h2; cases h2
    · unfold mvR at h1; rw [if_neg c, if_neg f] at h1; cases h1
theorem keep_two (hi : ∀ k, inR (behind a s).1 (behind a s).2.1 (behind a s).2.2 k = true → inR r.1 r.2.1 r.2.2 k = true) {m : Ms} (hm : msKeep r m = true → (mvR m a).2 = true) : (msKeep s (mvR m a).1 && msKeep r m) = msKeep (behind a s) m := by
  rw [Bool.eq_iff_iff, Bool.and_eq_true]
  constructor
  · rintro ⟨h1, h2⟩
    obtain ⟨t, g1, g2⟩ := keep_iff.1 h1
    rw [spk_mv (hm h2)] at g1
    exact keep_iff.2 ⟨a ++ t, g1, by rw [behind_in]; exact g2⟩
  · intro h
    obtain ⟨k, g1, g2⟩ := keep_iff.1 h
    have h2 : msKeep r m = true := keep_iff.2 ⟨k, g1, hi k g2⟩
    obtain ⟨t, rfl, g3⟩ := behind_hp g2
    exact ⟨keep_iff.2 ⟨t, by rw [spk_mv (hm h2)]; exact g1, g3⟩, h2⟩
theorem trMs_two (hi : ∀ k, inR (behind a s).1 (behind a s).2.1 (behind a s).2.2 k = true → inR r.1 r.2.1 r.2.2 k = true) {l : List Ms} (h1 : trMsOk l r a = true) (h2 : trMsOk (trMsR l r a) s b = true) :
    trMsOk l (behind a s) (a ++ b) = true ∧ trMsR l (behind a s) (a ++ b) = trMsR (trMsR l r a) s b := by
  rw [trMsOk, List.all_eq_true] at h1 h2
  have h1' : ∀ m ∈ l, msKeep r m = true → (mvR m a).2 = true := fun m hm hk => h1 m (List.mem_filter.2 ⟨hm, hk⟩)
  have e : l.filter (fun m => (msKeep s ∘ fun m => (mvR m a).1) m && msKeep r m) = l.filter (msKeep (behind a s)) :=
    List.filter_congr fun m hm => keep_two hi (h1' m hm)
  have h2' : ∀ m ∈ l, msKeep (behind a s) m = true → (mvR m a).2 = true ∧ (mvR (mvR m a).1 b).2 = true := fun m hm hk => by
    rw [← keep_two hi (h1' m hm), Bool.and_eq_true] at hk
    refine ⟨h1' m hm hk.2, h2 _ (List.mem_filter.2 ⟨?_, hk.1⟩)⟩
    rw [trMsR]
    exact List.mem_map.2 ⟨m, List.mem_filter.2 ⟨hm, hk.2⟩, rfl⟩
  constructor
  · rw [trMsOk, List.all_eq_true]
    intro m hm
    obtain ⟨m1, m2⟩ := List.mem_filter.1 hm
    obtain ⟨q1, q2⟩ := h2' m m1 m2
    rw [mv_two q1 q2]; exact q2
  · rw [trMsR, trMsR, trMsR, List.filter_map, List.map_map, List.filter_filter, e]
    refine List.map_congr_left fun m hm => ?_
    obtain ⟨m1, m2⟩ := List.mem_filter.1 hm
    obtain ⟨q1, q2⟩ := h2' m m1 m2
    rw [mv_two q1 q2]; rfl
end
theorem join_two {a b s2 a2 : L} (h1 : joinOk [] a s2 a2 = true) (h2 : joinOk [] b (joinS [] a s2 a2) (joinA [] a s2 a2) = true) :
    joinOk [] (a ++ b) s2 a2 = true ∧ joinS [] b (joinS [] a s2 a2) (joinA [] a s2 a2) = joinS [] (a ++ b) s2 a2 ∧ joinA [] b (joinS [] a s2 a2) (joinA [] a s2 a2) = joinA [] (a ++ b) s2 a2 := by
  by_cases c : hp a s2 = true
  · obtain ⟨t, rfl⟩ := hp_pre.1 c
    obtain ⟨_, e2, e3⟩ := jA [] s2 t a2
    obtain ⟨f1, f2, f3⟩ := jA [] s2 (t ++ b) a2
    obtain ⟨g1, g2, g3⟩ := jA [] [] b (a2 ++ t)
    rw [e2, e3, List.append_assoc, f1, f2, f3]
    rw [List.nil_append] at g2 g3
    exact ⟨rfl, g2, by rw [g3, List.append_assoc]⟩
  · have c' : hp a s2 = false := by simpa using c
    simp only [joinOk, c', Bool.false_or] at h1
    obtain ⟨t, rfl⟩ := hp_pre.1 h1
    obtain ⟨_, e2, e3⟩ := jB [] a t a2
    rw [e2, e3, List.nil_append] at h2 ⊢
    have q1 : hp (a ++ b) (a ++ t) = hp b t := hp_app2 _ _ _
    have q2 : hp (a ++ t) (a ++ b) = hp t b := hp_app2 _ _ _
    simp only [joinOk] at h2
    have d1 : ((a ++ b).drop (a ++ t).length) = b.drop t.length := by rw [List.length_append, List.drop_append]; simp
    have d2 : ((a ++ t).drop (a ++ b).length) = t.drop b.length := by rw [List.length_append, List.drop_append]; simp
    refine ⟨by simp only [joinOk, q1, q2]; exact h2, ?_, ?_⟩
    · simp only [joinS, q1, q2, d2]
    · simp only [joinA, q1, q2, d1]
/-- In which kid of a trimmed node a key is. -/
theorem in_tr {n : Nd} {r : L × L × Bool} {a k : L} {ms : List Ms} (hi : innerOk n = true) (hu : hp (undS r.1 r.2.1 r.2.2) a = true) (hk : inR r.1 r.2.1 r.2.2 (a ++ k) = true)
    (hi2 : innerOk ⟨false, [], ((kept n r n.kids.length).drop 1).map (fun i : Nat => cutS (rgN n i).1 a), (kept n r n.kids.length).map (trKid n a), ms⟩ = true) {j : Nat} (hj : j < (kept n r n.kids.length).length) :
    inR (rgN n (kept n r n.kids.length)[j]).1 (rgN n (kept n r n.kids.length)[j]).2.1 (rgN n (kept n r n.kids.length)[j]).2.2 (a ++ k) =
    inR (rgN ⟨false, [], ((kept n r n.kids.length).drop 1).map (fun i : Nat => cutS (rgN n i).1 a), (kept n r n.kids.length).map (trKid n a), ms⟩ j).1 (rgN ⟨false, [], ((kept n r n.kids.length).drop 1).map (fun i : Nat => cutS (rgN n i).1 a), (kept n r n.kids.length).map (trKid n a), ms⟩ j).2.1
      (rgN ⟨false, [], ((kept n r n.kids.length).drop 1).map (fun i : Nat => cutS (rgN n i).1 a), (kept n r n.kids.length).map (trKid n a), ms⟩ j).2.2 k := by
  generalize h1 : (kept n r n.kids.length).map (trKid n a) = ks at *
  generalize h2 : ((kept n r n.kids.length).drop 1).map (fun i : Nat => cutS (rgN n i).1 a) = ps at *
  obtain ⟨pl, pr, _⟩ := inner_len hi
  generalize hK : kept n r n.kids.length = K at *
  have pw : K.Pairwise (· < ·) := hK ▸ kept_pw n r _
  have mem : ∀ i, i ∈ K ↔ i < n.kids.length ∧ emC (rgN n i) r = false := fun i => hK ▸ kept_mem
  obtain ⟨pl2, pr2, _⟩ := inner_len hi2
  dsimp only at pl2 pr2
  have lk : ks.length = K.length := by rw [← h1, List.length_map]
  have hp1 : ∀ i (h : i < K.length), 0 < i → hp (rgN n K[i]).1 a = true := fun i h h0 => by
    have m1 := (mem K[i]).1 (List.getElem_mem h)
    have m0 := (mem K[0]).1 (List.getElem_mem (by omega))
    have lt0 : K[0] < K[i] := List.pairwise_iff_getElem.1 pw 0 i (by omega) h h0
    exact hp_trans ((und_facts _ _ _ _).2.2.1 (piv_in pl pr lt0 m1.1 m0.2 m1.2)) hu
  have pat : ∀ i (h : i + 1 < K.length), ps.getD i default = cutS (rgN n K[i + 1]).1 a := fun i h => by
    rw [getD_at (by rw [← h2, List.length_map, List.length_drop]; omega)]
    simp only [← h2, List.getElem_map, List.getElem_drop]
    simp only [Nat.add_comm 1 i]
  -- in the kid of the node, so in that of the trimmed one
  have go : ∀ j (hj : j < K.length), inR (rgN n K[j]).1 (rgN n K[j]).2.1 (rgN n K[j]).2.2 (a ++ k) = true → inR (rgN ⟨false, [], ps, ks, ms⟩ j).1 (rgN ⟨false, [], ps, ks, ms⟩ j).2.1 (rgN ⟨false, [], ps, ks, ms⟩ j).2.2 k = true := by
    intro j hj ib
    have hbl : K[j] < n.kids.length := ((mem K[j]).1 (List.getElem_mem hj)).1
    simp only [inR, Bool.and_eq_true, Bool.not_eq_true', Bool.or_eq_true] at ib ⊢
    constructor
    · by_cases h0 : 0 < j
      · rw [rg_lo h0 pl2 (by show j < ks.length; omega)]
        dsimp only
        have := pat (j - 1) (by omega)
        rw [this]
        have ej : K[j - 1 + 1]'(by omega) = K[j] := by congr 1; omega
        rw [ej]
        have hb2 : hp (rgN n K[j]).1 a = true := hp1 j hj h0
        obtain ⟨t, ht⟩ := hp_pre.1 hb2
        rw [(cut_iff hb2).2 ht]
        have q := ib.1
        rw [ht, lt_app] at q; exact q
      · obtain rfl : j = 0 := by omega
        have : (rgN ⟨false, [], ps, ks, ms⟩ (0 : Nat)).1 = [] := by
          unfold rgN; rw [if_neg (by dsimp only; omega)]; simp
        rw [this]; exact lt_nil _
    · by_cases hl : j < ps.length
      · obtain ⟨g1, g2⟩ := rg_hi (n := ⟨false, [], ps, ks, ms⟩) pl2 hl
        right
        rw [g1]
        dsimp only
        rw [pat j (by omega)]
        have hj1 : j + 1 < K.length := by omega
        have m1 := (mem K[j + 1]).1 (List.getElem_mem hj1)
        have lt1 : K[j] < K[j + 1] := List.pairwise_iff_getElem.1 pw j (j + 1) hj hj1 (by omega)
        have hpre := hp1 (j + 1) hj1 (by omega)
        obtain ⟨t, ht⟩ := hp_pre.1 hpre
        rw [(cut_iff hpre).2 ht]
        have hh := rg_hi (n := n) pl (show K[j] < n.pivots.length by omega)
        have f1 : lt (a ++ k) (n.pivots.getD K[j] default) = true := by
          rcases ib.2 with q | q
          · rw [hh.2] at q; cases q
          · rw [hh.1] at q; exact q
        have f2 := lt_of_lt_le f1 (le_rise pr (show K[j] ≤ K[j + 1] - 1 by omega) (by omega))
        rw [← rg_lo (n := n) (q := K[j + 1]) (by omega) pl m1.1, ht, lt_app] at f2
        exact f2
      · left
        unfold rgN; rw [if_neg (by dsimp only; omega)]
        exact decide_eq_false (by dsimp only; omega)
  rw [Bool.eq_iff_iff]
  refine ⟨go j hj, fun h => ?_⟩
  -- each key is in one kid
  obtain ⟨e1, e2, e3⟩ := kidL_may (k := a ++ k) hi
  obtain ⟨b, hb⟩ : ∃ b : Nat, kidN n (a ++ k) = b := ⟨(kidN n (a ++ k)).toNat, by omega⟩
  have hbl : b < n.kids.length := by omega
  have ib := kid_in (k := a ++ k) pl pr hbl
  rw [hb, beq_self_eq_true] at ib
  have mb : b ∈ K := (mem b).2 ⟨hbl, emC_some ib hk⟩
  obtain ⟨i, hi', hib⟩ := List.getElem_of_mem mb
  have in2 := go i hi' (by rw [hib]; exact ib)
  have k1 := kid_in (n := ⟨false, [], ps, ks, ms⟩) (k := k) pl2 pr2 (j := j) (by show j < ks.length; omega)
  have k2 := kid_in (n := ⟨false, [], ps, ks, ms⟩) (k := k) pl2 pr2 (j := i) (by show i < ks.length; omega)
  rw [h] at k1; rw [in2] at k2
  have q1 := beq_iff_eq.1 k1.symm
  have q2 := beq_iff_eq.1 k2.symm
  obtain rfl : i = j := by omega
  rw [hib]; exact ib
theorem trim_two {n : Nd} {r s : L × L × Bool} {a b : L} (h1 : trE n r a = 0) (hin : insS (behind a s).1 (behind a s).2.1 (behind a s).2.2 r.1 r.2.1 r.2.2 = true) (h2 : trE (trN n r a) s b = 0) :
    trE n (behind a s) (a ++ b) = 0 ∧ trN n (behind a s) (a ++ b) = trN (trN n r a) s b := by
  have hi : ∀ k, inR (behind a s).1 (behind a s).2.1 (behind a s).2.2 k = true → inR r.1 r.2.1 r.2.2 k = true := fun k hk => ins_in hin hk
  have hm := tr_may h1
  obtain ⟨h0, r0, hu, hc⟩ := tr_parts h1
  obtain ⟨_, s0, hv, hd⟩ := tr_parts h2
  have b0 : emR (behind a s).1 (behind a s).2.1 (behind a s).2.2 = false := in_em (k := a ++ s.1) (by rw [behind_in]; exact in_lo s0)
  have hw : hp (undS (behind a s).1 (behind a s).2.1 (behind a s).2.2) (a ++ b) = true := und_of b0 fun k hk => by
    obtain ⟨t, rfl, h3⟩ := behind_hp hk
    rw [hp_app2]
    exact hp_trans ((und_facts _ _ _ _).2.2.1 h3) hv
  rcases hc with ⟨hl, e⟩ | ⟨hl, ho, e, hk⟩
  · rw [e] at hd ⊢
    rcases hd with ⟨_, e'⟩ | ⟨hl', _⟩
    · obtain ⟨g1, g2⟩ := tr_leaf h0 b0 hw hl
      rw [g2, e']
      dsimp only
      rw [trPr_two hu hv hi]
      exact ⟨g1, rfl⟩
    · cases hl'
  · have hI := (may_inner h0 hl).1
    rw [e] at hd hm ⊢
    have hI2 := (may_inner hm rfl).1
    rcases hd with ⟨hl', _⟩ | ⟨_, ho2, e', hk2⟩
    · cases hl'
    · dsimp only at ho2
      obtain ⟨m1, m2⟩ := trMs_two hi ho ho2
      rw [e']
      dsimp only
      obtain ⟨pl, pr, _⟩ := inner_len hI
      have inT : ∀ {k : L}, inR r.1 r.2.1 r.2.2 (a ++ k) = true → ∀ {j : Nat} (hj : j < (kept n r n.kids.length).length), _ = _ := fun hk j hj => in_tr (ms := trMsR n.buf r a) hI hu hk hI2 hj
      clear e e'
      generalize hM : (⟨false, [], ((kept n r n.kids.length).drop 1).map (fun i : Nat => cutS (rgN n i).1 a), (kept n r n.kids.length).map (trKid n a), trMsR n.buf r a⟩ : Nd) = M at *
      have Mk : M.kids = (kept n r n.kids.length).map (trKid n a) := by rw [← hM]
      have Mp : M.pivots = ((kept n r n.kids.length).drop 1).map (fun i : Nat => cutS (rgN n i).1 a) := by rw [← hM]
      obtain ⟨pl2, pr2, _⟩ := inner_len hI2
      have mem : ∀ i, i ∈ kept n r n.kids.length ↔ i < n.kids.length ∧ emC (rgN n i) r = false := fun i => kept_mem
      have pw := kept_pw n r n.kids.length
      rw [List.length_map]
      have sub : ∀ i, emC (rgN n i) (behind a s) = false → emC (rgN n i) r = false := fun i h => by
        obtain ⟨k, k1, k2⟩ := emC_in h
        exact emC_some k1 (hi _ k2)
      have k2e : kept n (behind a s) n.kids.length = (kept n r n.kids.length).filter (fun i : Nat => !emC (rgN n i) (behind a s)) := by
        rw [kept, kept, List.filter_filter]
        refine List.filter_congr fun i _ => ?_
        cases g : emC (rgN n i) (behind a s) with
        | true => rfl
        | false => rw [sub i g]; rfl
      generalize hK : kept n r n.kids.length = K at *
      have Kl : M.kids.length = K.length := by rw [Mk, List.length_map]
      -- a kid of the trimmed node is kept just if it is kept by the smaller range
      have emE : ∀ j (hj : j < K.length), emC (rgN M j) s = emC (rgN n K[j]) (behind a s) := fun j hj => by
        cases g : emC (rgN n K[j]) (behind a s) with
        | false =>
          obtain ⟨k, k1, k2⟩ := emC_in g
          obtain ⟨t, rfl, k3⟩ := behind_hp k2
          rw [inT (hi _ k2) hj] at k1
          exact emC_some k1 k3
        | true =>
          cases g2 : emC (rgN M j) s with
          | true => rfl
          | false =>
            obtain ⟨t, t1, t2⟩ := emC_in g2
            have t3 : inR (behind a s).1 (behind a s).2.1 (behind a s).2.2 (a ++ t) = true := by rw [behind_in]; exact t2
            rw [← inT (hi _ t3) hj] at t1
            rw [emC_some t1 t3] at g; cases g
      have Ke : K = (List.range K.length).map (fun j => K.getD j default) := by
        refine List.ext_getElem (by simp) fun i h1 h2 => ?_
        rw [List.getElem_map, List.getElem_range, getD_at h1]
      have Je : kept n (behind a s) n.kids.length = (kept M s K.length).map (fun j => K.getD j default) := by
        rw [k2e]
        conv => lhs; rw [Ke]
        rw [List.filter_map]
        congr 1
        rw [kept]
        refine List.filter_congr fun j hj => ?_
        have hj' : j < K.length := by simpa using hj
        show (!emC (rgN n (K.getD j default : Nat)) (behind a s)) = _
        rw [getD_at hj', emE j hj']
      have kidE : ∀ j, j < K.length → emC (rgN M j) s = false → kidOk n (a ++ b) (K.getD j default) = true ∧ trKid M b j = trKid n (a ++ b) (K.getD j default) := fun j hj hjs => by
        have c1 := hk2 j (by rw [Kl]; exact hj) hjs
        have m1 := (mem K[j]).1 (List.getElem_mem hj)
        have c2 := hk _ m1.1 m1.2
        have ek : M.kids.getD j default = trKid n a K[j] := by
          rw [getD_at (by rw [Kl]; exact hj)]
          simp only [Mk, List.getElem_map]
        rw [getD_at hj]
        simp only [kidOk, Bool.and_eq_true, decide_eq_true_eq] at c1 c2
        rw [ek] at c1
        obtain ⟨d1, d2, d3⟩ := join_two c2.1 c1.1
        have c3 := c1.2
        simp only [trKid] at c3
        rw [d2, d3] at c3
        refine ⟨?_, ?_⟩
        · simp only [kidOk, Bool.and_eq_true, decide_eq_true_eq]; exact ⟨d1, c3⟩
        · have : trKid M b j = ⟨(M.kids.getD j default).block, (M.kids.getD j default).deep, joinS [] b (M.kids.getD j default).strip (M.kids.getD j default).add, joinA [] b (M.kids.getD j default).strip (M.kids.getD j default).add⟩ := rfl
          rw [this, ek]
          simp only [trKid]
          rw [d2, d3]
      have hok : ∀ i, i < n.kids.length → emC (rgN n i) (behind a s) = false → kidOk n (a ++ b) i = true := fun i hi' he => by
        have : i ∈ kept n (behind a s) n.kids.length := kept_mem.2 ⟨hi', he⟩
        rw [Je] at this
        obtain ⟨j, j1, rfl⟩ := List.mem_map.1 this
        have j2 := kept_mem.1 j1
        exact (kidE j j2.1 j2.2).1
      obtain ⟨g1, g2⟩ := tr_kids h0 b0 hw hl m1 hok
      refine ⟨g1, ?_⟩
      rw [g2, m2, Je]
      have pwJ := kept_pw M s K.length
      have memJ : ∀ j, j ∈ kept M s K.length ↔ j < K.length ∧ emC (rgN M j) s = false := fun j => kept_mem
      generalize kept M s K.length = J at *
      congr 1
      · rw [← List.map_drop, List.map_map]
        refine List.map_congr_left fun j hj => ?_
        obtain ⟨q, hq, rfl⟩ := List.getElem_of_mem hj
        rw [List.length_drop] at hq
        rw [List.getElem_drop]
        have hq1 : 1 + q < J.length := by omega
        have j1 := (memJ J[1 + q]).1 (List.getElem_mem hq1)
        have j0 := (memJ J[0]).1 (List.getElem_mem (by omega))
        have lt0 : J[0] < J[1 + q] := List.pairwise_iff_getElem.1 pwJ 0 (1 + q) (by omega) hq1 (by omega)
        have ltK : K[J[0]]'j0.1 < K[J[1 + q]]'j1.1 := List.pairwise_iff_getElem.1 pw _ _ j0.1 j1.1 lt0
        have i1 := (mem (K[J[1 + q]]'j1.1)).1 (List.getElem_mem _)
        have pin := piv_in pl pr ltK i1.1 (by rw [← emE _ j0.1]; exact j0.2) (by rw [← emE _ j1.1]; exact j1.2)
        obtain ⟨t, ht, k3⟩ := behind_hp pin
        obtain ⟨u, rfl⟩ := hp_pre.1 (hp_trans ((und_facts _ _ _ _).2.2.1 k3) hv)
        show cutS (rgN n (K.getD J[1 + q] default : Nat)).1 (a ++ b) = cutS (rgN M (J[1 + q] : Nat)).1 b
        have e1 : (rgN M (J[1 + q] : Nat)).1 = cutS (rgN n (K[J[1 + q]]'j1.1 : Nat)).1 a := by
          rw [rg_lo (n := M) (by omega) pl2 (by rw [Kl]; exact j1.1), getD_at (by rw [Mp, List.length_map, List.length_drop]; omega)]
          simp only [Mp, List.getElem_map, List.getElem_drop]
          have : 1 + (J[1 + q] - 1) = J[1 + q] := by omega
          simp only [this]
        rw [e1, getD_at j1.1, ht, (cut2 a b u).1, (cut2 a b u).2]
      · rw [List.map_map]
        refine List.map_congr_left fun j hj => ?_
        have j1 := (memJ j).1 hj
        exact ((kidE j j1.1 j1.2).2).symm
end Go.Proofs.Ytocppeifkjdeiaa.Mv
