/- What the statement CodecBegins needs, part 13. Under no condition. -/
import Derived.Test.YtmfonbehcfjjgaaMCodecBegins12
/- The codec: a node read, plain. Under no condition. -/
namespace Go.Proofs.Ytmfonbehcfjjgaa.Mv
open Go Go.Proofs
set_option linter.unusedSimpArgs false
set_option linter.unusedVariables false
set_option maxRecDepth 10000

/-! ### the reader's parts -/
def cnt (most : Nat) : Par Nat := bd (tk 1) fun n => if most < n then bd (fl 13) fun _ => pu 0 else pu n
def prP : Par Pr := bd (txP 16) fun k => bd (txP 32) fun v => pu ⟨k, v⟩
def edP : Par Ed := bd (tk 4) fun b => bd (tk 2) fun d => bd (txP 16) fun s => bd (txP 16) fun a => pu ⟨BitVec.ofNat 32 b, BitVec.ofNat 16 d, s, a⟩
def kdP (k : Nat) : Par Unit := if k < 1 ∨ 3 < k then fl 7 else pu ()
def msQ (k : Nat) (key : L) : Par Ms :=
  if k = 1 then bd (txP 32) fun v => pu ⟨UInt8.ofNat k, key, v, 0, 0, []⟩
  else if k = 3 then bd (tk 4) fun b => bd (tk 2) fun d => bd (txP 16) fun a => pu ⟨UInt8.ofNat k, key, [], BitVec.ofNat 32 b, BitVec.ofNat 16 d, a⟩
  else pu ⟨UInt8.ofNat k, key, [], 0, 0, []⟩
def msP : Par Ms := bd (tk 1) fun k => bd (kdP k) fun _ => bd (txP 16) fun key => msQ k key
def leafP : Par Nd := bd (cnt 16) fun c => bd (rep prP c) fun ps => pu ⟨true, ps, [], [], []⟩
def c0P (c : Nat) : Par Unit := if c = 0 then fl 3 else pu ()
def innerP : Par Nd := bd (cnt 8) fun c => bd (c0P c) fun _ => bd (rep edP c) fun es => bd (rep (txP 16) (c - 1)) fun pv => bd (cnt 16) fun m => bd (rep msP m) fun ms => pu ⟨false, [], pv, es, ms⟩
def ndE : Nd := ⟨false, [], [], [], []⟩
def nodeP : Par Nd := bd (tk 1) fun k => if k = 1 then leafP else if k = 2 then innerP else bd (fl 7) fun _ => pu ndE

theorem pf_cnt (m : Nat) : Pf (cnt m) := (Pf.tk 1).bd fun n => ((Pf.fl (by decide)).bd fun _ => Pf.pu _).ite (Pf.pu _)
theorem pf_pr : Pf prP := (Pf.tx _).bd fun _ => (Pf.tx _).bd fun _ => Pf.pu _
theorem pf_ed : Pf edP := (Pf.tk _).bd fun _ => (Pf.tk _).bd fun _ => (Pf.tx _).bd fun _ => (Pf.tx _).bd fun _ => Pf.pu _
theorem pf_kd (k : Nat) : Pf (kdP k) := (Pf.fl (by decide)).ite (Pf.pu _)
theorem pf_msQ (k : Nat) (key : L) : Pf (msQ k key) := Pf.ite ((Pf.tx _).bd fun _ => Pf.pu _) (Pf.ite ((Pf.tk _).bd fun _ => (Pf.tk _).bd fun _ => (Pf.tx _).bd fun _ => Pf.pu _) (Pf.pu _))
theorem pf_ms : Pf msP := (Pf.tk _).bd fun _ => (pf_kd _).bd fun _ => (Pf.tx _).bd fun _ => pf_msQ _ _
theorem pf_leaf : Pf leafP := (pf_cnt _).bd fun _ => (pf_pr.rep _).bd fun _ => Pf.pu _
theorem pf_c0 (c : Nat) : Pf (c0P c) := (Pf.fl (by decide)).ite (Pf.pu _)
theorem pf_inner : Pf innerP := (pf_cnt _).bd fun _ => (pf_c0 _).bd fun _ => (pf_ed.rep _).bd fun _ => ((Pf.tx _).rep _).bd fun _ => (pf_cnt _).bd fun _ => (pf_ms.rep _).bd fun _ => Pf.pu _
theorem pf_node : Pf nodeP := (Pf.tk _).bd fun _ => Pf.ite pf_leaf (Pf.ite pf_inner ((Pf.fl (by decide)).bd fun _ => Pf.pu _))

/-! ### what was written is read -/
theorem wt_cnt {n most : Nat} (h : n ≤ most) (h2 : n < 256) : Wt (cnt most) (be n 1) n := (Wt.tk (by simpa using h2)).bdE (by rw [if_neg (by omega)]; exact Wt.pu _)
theorem wt_pr {p : Pr} (h : prLen p = true) : Wt prP (wPr p) p := by
  simp only [prLen, Bool.and_eq_true, decide_eq_true_eq] at h
  exact (Wt.tx h.1 (by decide)).bd ((Wt.tx h.2 (by decide)).bdE (Wt.pu _))
theorem wt_ed {e : Ed} (h : edOk e = true) : Wt edP (wEd e) e := by
  simp only [edOk, Bool.and_eq_true, decide_eq_true_eq] at h
  have h1 := e.block.isLt
  have h2 := e.deep.isLt
  unfold wEd
  rw [List.append_assoc, List.append_assoc]
  have he : (⟨BitVec.ofNat 32 e.block.toNat, BitVec.ofNat 16 e.deep.toNat, e.strip, e.add⟩ : Ed) = e := by simp
  refine (Wt.tk (by omega)).bd ((Wt.tk (by omega)).bd ((Wt.tx h.1.2 (by decide)).bd ((Wt.tx h.2 (by decide)).bdE ?_)))
  rw [he]; exact Wt.pu _
theorem wt_ms {m : Ms} (h : msMay m = true) : Wt msP (wMs m) m := by
  have h1 := m.block.isLt
  have h2 := m.deep.isLt
  have hk := m.kind.toNat_lt
  unfold msMay at h
  simp only [Bool.and_eq_true, decide_eq_true_eq] at h
  obtain ⟨hkey, h⟩ := h
  have ek : UInt8.ofNat m.kind.toNat = m.kind := by simp
  unfold wMs
  rw [List.append_assoc]
  have hkd : m.kind = 1 ∨ m.kind = 2 ∨ m.kind = 3 := by
    split at h
    · exact .inl (by assumption)
    · split at h
      · exact .inr (.inl (by assumption))
      · split at h
        · exact .inr (.inr (by assumption))
        · cases h
  have hkn : ¬ (m.kind.toNat < 1 ∨ 3 < m.kind.toNat) := by rcases hkd with e | e | e <;> rw [e] <;> decide
  refine (Wt.tk (by omega)).bd (Wt.bd0 (by rw [kdP, if_neg hkn]; exact Wt.pu _) ((Wt.tx hkey (by decide)).bd ?_))
  rcases hkd with e | e | e
  · rw [if_pos e] at h ⊢
    simp only [Bool.and_eq_true, decide_eq_true_eq, beq_iff_eq] at h
    have hm : (⟨UInt8.ofNat m.kind.toNat, m.key, m.val, 0, 0, []⟩ : Ms) = m := by
      obtain ⟨k, key, v, b, d, a⟩ := m
      dsimp only at h ek ⊢
      rw [ek, h.1.1.2, h.1.2, h.2]
    rw [msQ, if_pos (by rw [e]; decide)]
    exact (Wt.tx h.1.1.1 (by decide)).bdE (by rw [hm]; exact Wt.pu _)
  · have n1 : ¬ m.kind = 1 := by rw [e]; decide
    have n3 : ¬ m.kind = 3 := by rw [e]; decide
    rw [if_neg n1, if_pos e] at h
    rw [if_neg n1, if_neg n3]
    simp only [Bool.and_eq_true, decide_eq_true_eq, beq_iff_eq] at h
    have hm : (⟨UInt8.ofNat m.kind.toNat, m.key, [], 0, 0, []⟩ : Ms) = m := by
      obtain ⟨k, key, v, b, d, a⟩ := m
      dsimp only at h ek ⊢
      rw [ek, h.1.1.1, h.1.1.2, h.1.2, h.2]
    rw [msQ, if_neg (by rw [e]; decide), if_neg (by rw [e]; decide), hm]
    exact Wt.pu _
  · have n1 : ¬ m.kind = 1 := by rw [e]; decide
    have n2 : ¬ m.kind = 2 := by rw [e]; decide
    rw [if_neg n1, if_neg n2, if_pos e] at h
    rw [if_neg n1, if_pos e]
    simp only [Bool.and_eq_true, decide_eq_true_eq, beq_iff_eq] at h
    have hm : (⟨UInt8.ofNat m.kind.toNat, m.key, [], BitVec.ofNat 32 m.block.toNat, BitVec.ofNat 16 m.deep.toNat, m.add⟩ : Ms) = m := by
      obtain ⟨k, key, v, b, d, a⟩ := m
      dsimp only at h ek ⊢
      rw [ek, h.2]; simp
    rw [msQ, if_neg (by rw [e]; decide), if_pos (by rw [e]; decide), List.append_assoc]
    refine (Wt.tk (by omega)).bd ((Wt.tk (by omega)).bd ((Wt.tx h.1.1 (by decide)).bdE ?_))
    rw [hm]; exact Wt.pu _
theorem mem_at {α : Type} [Inhabited α] {l : List α} {i : Nat} (h : i < l.length) : l.getD i default ∈ l := by
  rw [List.getD_eq_getElem?_getD, List.getElem?_eq_getElem h]; exact List.getElem_mem _
theorem wt_rep {α : Type} [Inhabited α] {p : Par α} {w : α → L} {l : List α} (h : ∀ x ∈ l, Wt p (w x) x) : Wt (rep p l.length) (l.map w).flatten l := by
  have := Wt.rep (p := p) (w := w) (l := l) (fun i hi => h _ (mem_at hi)) l.length (Nat.le_refl _)
  rwa [List.take_length] at this
theorem may_cnt {n : Nd} (h : mayN n = 0) : n.pairs.length ≤ 16 ∧ n.kids.length ≤ 8 ∧ n.buf.length ≤ 16 := by
  unfold mayN at h
  split at h
  · cases h
  · omega
theorem leaf_is {n : Nd} (h : mayN n = 0) (hl : n.leaf = true) : n = ⟨true, n.pairs, [], [], []⟩ ∧ n.pairs.all prLen = true := by
  have ho := may_leaf h hl
  simp only [leafOk, Bool.and_eq_true, List.isEmpty_iff] at ho
  obtain ⟨leaf, pairs, pivots, kids, buf⟩ := n
  dsimp only at ho hl ⊢
  rw [hl, ho.1.1.1.1, ho.1.1.1.2, ho.1.1.2]
  exact ⟨rfl, ho.2⟩
theorem wt_node {n : Nd} (h : mayN n = 0) : Wt nodeP (wN n) n := by
  obtain ⟨c1, c2, c3⟩ := may_cnt h
  cases hl : n.leaf with
  | true =>
    obtain ⟨e, ha⟩ := leaf_is h hl
    unfold wN
    rw [if_pos hl, List.append_assoc]
    refine (Wt.tk (by decide)).bd ?_
    rw [if_pos rfl]
    refine (wt_cnt c1 (by omega)).bd (Wt.bdE (wt_rep fun x hx => wt_pr (List.all_eq_true.1 ha x hx)) ?_)
    rw [← e]; exact Wt.pu _
  | false =>
    have ho := (may_inner h hl).1
    simp only [innerOk, Bool.and_eq_true, decide_eq_true_eq, List.isEmpty_iff, Bool.not_eq_true'] at ho
    obtain ⟨⟨⟨⟨⟨o0, o5⟩, o1⟩, o2⟩, o3⟩, o4⟩ := ho
    have k0 : n.kids.length ≠ 0 := fun e => by rw [List.length_eq_zero_iff.1 e] at o5; cases o5
    have ek : n.pivots.length = n.kids.length - 1 := by omega
    unfold wN
    rw [if_neg (by rw [hl]; decide)]
    simp only [List.append_assoc]
    refine (Wt.tk (by decide)).bd ?_
    rw [if_neg (by decide), if_pos rfl]
    refine (wt_cnt c2 (by omega)).bd (Wt.bd0 (by rw [c0P, if_neg k0]; exact Wt.pu _) ((wt_rep fun x hx => wt_ed (List.all_eq_true.1 o2 x hx)).bd (Wt.bd (by rw [← ek]; exact wt_rep fun x hx => Wt.tx (by simpa using List.all_eq_true.1 o3.2 x hx) (by decide)) ((wt_cnt c3 (by omega)).bd (Wt.bdE (wt_rep fun x hx => wt_ms (List.all_eq_true.1 o4 x hx)) ?_)))))
    have e : (⟨false, [], n.pivots, n.kids, n.buf⟩ : Nd) = n := by
      obtain ⟨leaf, pairs, pivots, kids, buf⟩ := n
      dsimp only at hl o0 ⊢
      rw [hl, o0]
    rw [e]; exact Wt.pu _

/-! ### what is read was written -/
theorem rt_cnt (most : Nat) : Rt (cnt most) fun c l => l = be c 1 ∧ c ≤ most := by
  refine (Rt.bd (R' := fun n c l => c = n ∧ l = [] ∧ c ≤ most) (Pf.tk 1) (fun n => ((Pf.fl (by decide)).bd fun _ => Pf.pu _).ite (Pf.pu _)) (Rt.tk 1) fun n => ?_).mono fun c l hh => ?_
  · split
    · intro b q h1 h2; cases h2
    · exact (Rt.pu n).mono fun y l ⟨h1, h2⟩ => ⟨h1, h2, by omega⟩
  · obtain ⟨x, l1, l2, ⟨rfl, _⟩, ⟨rfl, rfl, h⟩, rfl⟩ := hh
    exact ⟨by rw [List.append_nil], h⟩
theorem rt_pr : Rt prP fun p l => l = wPr p ∧ True := by
  refine (Rt.bd (Pf.tx _) (fun _ => (Pf.tx _).bd fun _ => Pf.pu _) (Rt.tx (by decide)) fun k => Rt.bd (Pf.tx _) (fun _ => Pf.pu _) (Rt.tx (by decide)) fun v => Rt.pu _).mono fun p l hh => ?_
  obtain ⟨k, l1, l2, ⟨rfl, _⟩, ⟨v, l3, l4, ⟨rfl, _⟩, ⟨rfl, rfl⟩, rfl⟩, rfl⟩ := hh
  exact ⟨by rw [List.append_nil]; rfl, trivial⟩
theorem rt_ed : Rt edP fun e l => l = wEd e ∧ True := by
  refine (Rt.bd (Pf.tk _) (fun _ => (Pf.tk _).bd fun _ => (Pf.tx _).bd fun _ => (Pf.tx _).bd fun _ => Pf.pu _) (Rt.tk 4) fun b => Rt.bd (Pf.tk _) (fun _ => (Pf.tx _).bd fun _ => (Pf.tx _).bd fun _ => Pf.pu _) (Rt.tk 2) fun d =>
    Rt.bd (Pf.tx _) (fun _ => (Pf.tx _).bd fun _ => Pf.pu _) (Rt.tx (by decide)) fun s => Rt.bd (Pf.tx _) (fun _ => Pf.pu _) (Rt.tx (by decide)) fun a => Rt.pu _).mono fun e l hh => ?_
  obtain ⟨b, l1, _, ⟨rfl, hb⟩, ⟨d, l2, _, ⟨rfl, hd⟩, ⟨s, l3, _, ⟨rfl, _⟩, ⟨a, l4, _, ⟨rfl, _⟩, ⟨rfl, rfl⟩, rfl⟩, rfl⟩, rfl⟩, rfl⟩ := hh
  refine ⟨?_, trivial⟩
  have e1 : (BitVec.ofNat 32 b).toNat = b := by rw [BitVec.toNat_ofNat]; exact Nat.mod_eq_of_lt hb
  have e2 : (BitVec.ofNat 16 d).toNat = d := by rw [BitVec.toNat_ofNat]; exact Nat.mod_eq_of_lt hd
  simp only [wEd, e1, e2, List.append_nil, List.append_assoc]
theorem rt_ms : Rt msP fun m l => l = wMs m ∧ True := by
  refine (Rt.bd (R' := fun k m l => 1 ≤ k ∧ k ≤ 3 ∧ be k 1 ++ l = wMs m) (Pf.tk _) (fun _ => (pf_kd _).bd fun _ => (Pf.tx _).bd fun _ => pf_msQ _ _) (Rt.tk 1) fun k => ?_).mono fun m l hh => ?_
  · by_cases hk : k < 1 ∨ 3 < k
    · intro b q h1 h2
      have : (kdP k ⟨b, q, 0⟩).2.e = 0 := (Pf.bd (Pf.tx 16) fun key => pf_msQ k key).e0 h2
      rw [kdP, if_pos hk] at this; cases this
    · refine (Rt.bd (R := fun _ l => l = []) (R' := fun _ m l => be k 1 ++ l = wMs m) (pf_kd _) (fun _ => (Pf.tx _).bd fun _ => pf_msQ _ _) (by rw [kdP, if_neg hk]; exact (Rt.pu _).mono fun _ _ h => h.2) fun _ => ?_).mono fun m l hh => ?_
      · have e8 : (UInt8.ofNat k).toNat = k := by rw [UInt8.toNat_ofNat']; omega
        refine (Rt.bd (R' := fun key m l => be k 1 ++ (tx key ++ l) = wMs m) (Pf.tx _) (fun _ => pf_msQ _ _) (Rt.tx (by decide)) fun key => ?_).mono fun m l hh => ?_
        · unfold msQ
          split
          · rename_i e; subst e
            refine (Rt.bd (Pf.tx _) (fun _ => Pf.pu _) (Rt.tx (by decide)) fun v => Rt.pu _).mono fun m l hh => ?_
            obtain ⟨v, l1, l2, ⟨rfl, _⟩, ⟨rfl, rfl⟩, rfl⟩ := hh
            simp only [wMs, e8, List.append_nil, List.append_assoc]; rfl
          · rename_i n1
            split
            · rename_i e; subst e
              refine (Rt.bd (Pf.tk _) (fun _ => (Pf.tk _).bd fun _ => (Pf.tx _).bd fun _ => Pf.pu _) (Rt.tk 4) fun b => Rt.bd (Pf.tk _) (fun _ => (Pf.tx _).bd fun _ => Pf.pu _) (Rt.tk 2) fun d => Rt.bd (Pf.tx _) (fun _ => Pf.pu _) (Rt.tx (by decide)) fun a => Rt.pu _).mono fun m l hh => ?_
              obtain ⟨b, l1, _, ⟨rfl, hb⟩, ⟨d, l2, _, ⟨rfl, hd⟩, ⟨a, l4, _, ⟨rfl, _⟩, ⟨rfl, rfl⟩, rfl⟩, rfl⟩, rfl⟩ := hh
              have e1 : (BitVec.ofNat 32 b).toNat = b := by rw [BitVec.toNat_ofNat]; exact Nat.mod_eq_of_lt hb
              have e2 : (BitVec.ofNat 16 d).toNat = d := by rw [BitVec.toNat_ofNat]; exact Nat.mod_eq_of_lt hd
              simp only [wMs, e8, e1, e2, List.append_nil, List.append_assoc]; rfl
            · rename_i n3
              have e : k = 2 := by omega
              subst e
              refine (Rt.pu _).mono fun m l hh => ?_
              obtain ⟨rfl, rfl⟩ := hh
              have n1 : ¬ UInt8.ofNat 2 = 1 := by decide
              have n3 : ¬ UInt8.ofNat 2 = 3 := by decide
              simp only [wMs, e8, if_neg n1, if_neg n3, List.append_nil, List.append_assoc]
        · obtain ⟨key, l1, l2, ⟨rfl, _⟩, h, rfl⟩ := hh
          exact h
      · obtain ⟨_, l1, l2, rfl, h, rfl⟩ := hh
        exact ⟨by omega, by omega, h⟩
  · obtain ⟨k, l1, l2, ⟨rfl, _⟩, ⟨_, _, h⟩, rfl⟩ := hh
    exact ⟨h, trivial⟩
theorem rt_node : Rt nodeP fun n l => l = wN n := by
  refine (Rt.bd (R' := fun k n l => be k 1 ++ l = wN n) (Pf.tk _) (fun _ => Pf.ite pf_leaf (Pf.ite pf_inner ((Pf.fl (by decide)).bd fun _ => Pf.pu _))) (Rt.tk 1) fun k => ?_).mono fun n l hh => ?_
  · split
    · rename_i e; subst e
      refine (Rt.bd (pf_cnt _) (fun _ => (pf_pr.rep _).bd fun _ => Pf.pu _) (rt_cnt 16) fun c => Rt.bd (pf_pr.rep _) (fun _ => Pf.pu _) (Rt.rep pf_pr rt_pr c) fun ps => Rt.pu _).mono fun n l hh => ?_
      obtain ⟨c, l1, _, ⟨rfl, _⟩, ⟨ps, l2, _, ⟨rfl, rfl, _⟩, ⟨rfl, rfl⟩, rfl⟩, rfl⟩ := hh
      simp only [wN, if_pos, List.append_nil, List.append_assoc]
    · split
      · rename_i e; subst e
        refine (Rt.bd (R' := fun c n l => be 2 1 ++ (be c 1 ++ l) = wN n) (pf_cnt _) (fun _ => (pf_c0 _).bd fun _ => (pf_ed.rep _).bd fun _ => ((Pf.tx _).rep _).bd fun _ => (pf_cnt _).bd fun _ => (pf_ms.rep _).bd fun _ => Pf.pu _) (rt_cnt 8) fun c => ?_).mono fun n l hh => ?_
        · by_cases hc : c = 0
          · intro b q h1 h2
            have : (c0P c ⟨b, q, 0⟩).2.e = 0 := (Pf.bd (pf_ed.rep c) fun _ => ((Pf.tx 16).rep (c - 1)).bd fun _ => (pf_cnt 16).bd fun _ => (pf_ms.rep _).bd fun _ => Pf.pu _).e0 h2
            rw [c0P, if_pos hc] at this; cases this
          · refine (Rt.bd (R := fun _ l => l = []) (pf_c0 _) (fun _ => (pf_ed.rep _).bd fun _ => ((Pf.tx _).rep _).bd fun _ => (pf_cnt _).bd fun _ => (pf_ms.rep _).bd fun _ => Pf.pu _) (by rw [c0P, if_neg hc]; exact (Rt.pu _).mono fun _ _ h => h.2) fun _ =>
              Rt.bd (pf_ed.rep _) (fun _ => ((Pf.tx _).rep _).bd fun _ => (pf_cnt _).bd fun _ => (pf_ms.rep _).bd fun _ => Pf.pu _) (Rt.rep pf_ed rt_ed c) fun es => Rt.bd ((Pf.tx _).rep _) (fun _ => (pf_cnt _).bd fun _ => (pf_ms.rep _).bd fun _ => Pf.pu _) (Rt.rep (Pf.tx 16) (Rt.tx (by decide)) (c - 1)) fun pv =>
              Rt.bd (pf_cnt _) (fun _ => (pf_ms.rep _).bd fun _ => Pf.pu _) (rt_cnt 16) fun m => Rt.bd (pf_ms.rep _) (fun _ => Pf.pu _) (Rt.rep pf_ms rt_ms m) fun ms => Rt.pu _).mono fun n l hh => ?_
            obtain ⟨_, _, _, rfl, ⟨es, _, _, ⟨rfl, rfl, _⟩, ⟨pv, _, _, ⟨rfl, _, _⟩, ⟨m, _, _, ⟨rfl, _⟩, ⟨ms, _, _, ⟨rfl, rfl, _⟩, ⟨rfl, rfl⟩, rfl⟩, rfl⟩, rfl⟩, rfl⟩, rfl⟩ := hh
            simp only [wN, Bool.false_eq_true, if_false, List.append_nil, List.append_assoc, List.nil_append]
        · obtain ⟨c, l1, l2, ⟨rfl, _⟩, h, rfl⟩ := hh
          exact h
      · intro b q h1 h2; cases h2
  · obtain ⟨k, l1, l2, ⟨rfl, _⟩, h, rfl⟩ := hh
    exact h

/-! ### the node of any bytes -/
/-- The error's number; the node. -/
def getE (b : L) : Int := if endR (nodeP ⟨b, 0, 0⟩).2 = 0 ∧ mayN (nodeP ⟨b, 0, 0⟩).1 ≠ 0 then 3 else endR (nodeP ⟨b, 0, 0⟩).2
def getV (b : L) : Nd := if getE b = 0 then (nodeP ⟨b, 0, 0⟩).1 else ndE
theorem get_writ {b : L} (h : getE b = 0) : mayN (getV b) = 0 ∧ wN (getV b) = b := by
  have hE := h
  rw [getV, if_pos h]
  unfold getE at h
  split at h
  · cases h
  · rename_i hh
    have hm : mayN (nodeP ⟨b, 0, 0⟩).1 = 0 := Decidable.byContradiction fun hn => hh ⟨h, hn⟩
    refine ⟨hm, ?_⟩
    have hp := (pf_node.mo ⟨b, 0, 0⟩ (Nat.zero_le _)).2
    have hb := pf_node.bb ⟨b, 0, 0⟩
    dsimp only at hp hb
    unfold endR at h
    split at h
    · cases h
    · rename_i h4
      rw [hb] at h4
      obtain ⟨l, h5, h6⟩ := rt_node b 0 (Nat.zero_le _) h
      have : (nodeP ⟨b, 0, 0⟩).2.p = b.length := by
        by_cases hlt : (nodeP ⟨b, 0, 0⟩).2.p < b.length
        · exact absurd ⟨h, hlt⟩ h4
        · omega
      rw [this, List.take_length, List.take_zero, List.nil_append] at h6
      rw [← h5, ← h6]
theorem get_put {n : Nd} (h : mayN n = 0) : getE (wN n) = 0 ∧ getV (wN n) = n := by
  have hw := wt_node h [] []
  simp only [List.nil_append, List.append_nil, List.length_nil, Nat.zero_add] at hw
  have e : getE (wN n) = 0 := by
    unfold getE
    rw [hw]
    have : endR ⟨wN n, (wN n).length, 0⟩ = 0 := by unfold endR; rw [if_neg (by simp)]
    rw [if_neg (by rw [h]; simp), this]
  refine ⟨e, ?_⟩
  rw [getV, if_pos e, hw]
theorem get_begin {n : Nd} (h : mayN n = 0) {k : Nat} (hk : k < (wN n).length) : getE ((wN n).take k) = 2 := by
  have hw := wt_node h [] []
  simp only [List.nil_append, List.append_nil, List.length_nil, Nat.zero_add] at hw
  have hp := pf_node.pre (wN n) 0 k (Nat.zero_le _) (by omega) (by rw [hw])
  have hm := (pf_node.mo ⟨(wN n).take k, 0, 0⟩ (Nat.zero_le _)).2
  dsimp only at hm
  rw [List.length_take] at hm
  rcases hp with e2 | ⟨_, e⟩
  · have : endR (nodeP ⟨(wN n).take k, 0, 0⟩).2 = 2 := by
      unfold endR
      rw [if_neg (by rw [e2]; simp), e2]
    unfold getE
    rw [this, if_neg (by simp)]
  · rw [e, hw] at hm
    dsimp only at hm
    omega
end Go.Proofs.Ytmfonbehcfjjgaa.Mv

/- The codec: the program's reader. Under no condition. -/
namespace Go.Proofs.Ytmfonbehcfjjgaa.Mv
open Go Go.Proofs
set_option linter.unusedSimpArgs false
set_option linter.unusedVariables false
set_option maxRecDepth 10000
set_option maxHeartbeats 4000000
attribute [local irreducible] AW AO AR

/-- A reader that is within its bytes. -/
def Rd.ok (r : Rd) : Prop := r.b.length ≤ 1000000 ∧ r.p ≤ r.b.length
theorem Pf.ok {α : Type} {p : Par α} (hp : Pf p) {r : Rd} (h : r.ok) : (p r).2.ok := by
  have := hp.mo r h.2
  have e := hp.bb r
  exact ⟨by rw [e]; exact h.1, by rw [e]; exact this.2⟩
theorem cnt_eq (m : Nat) (r : Rd) : cnt m r = if m < takeV r 1 then (0, failR (takeR r 1) 13) else (takeV r 1, takeR r 1) := by
  show (if m < takeV r 1 then bd (fl 13) fun _ => pu 0 else pu (takeV r 1)) (takeR r 1) = _
  split <;> rfl
theorem cnt_le (m : Nat) (r : Rd) : (cnt m r).1 ≤ m := by
  rw [cnt_eq]; split
  · exact Nat.zero_le _
  · dsimp only; omega
abbrev rdP : AV := .agg [.ptr 1000000 0]
theorem gCnt (r : Rd) (m : Nat) (hr : r.ok) : Good Try.prog 112 [rdP, .i .i64 m] [(1000000, .bx r.av)] (.i .i64 ((cnt m r).1 : Nat)) [(1000000, .bx (cnt m r).2.av)] := by
  have g := gGet8 r hr.1 hr.2
  have w : IntKind.wrap .i64 (takeV r 1 : Int) = takeV r 1 := wrap64 (by have := takeV_lt r 1; omega)
  have gF := gFail (takeR r 1) 13
  rw [cnt_eq]
  refine Good.wM tabOk mixed Try.func112 (N := 17) (by kernel_rfl) rfl (by (repeat (first | exact LE.nil | apply LE.cons)); done) (by (repeat (first | exact LE.nil | apply LE.cons)); done) (by exact rfl) fun D hD F => ?_
  repeat' (first
    | apply AO.nil
    | (apply AO.kCall 77; refine AO.callM [(1000000, 1000000)] (hg := (g)) (hc := by exact rfl) (ha := by (repeat constructor); done) (hl := by (repeat (first | exact LeL.nil | (refine LeL.cons (Le.refl _) ?_) | (refine LeL.cons Le.gr ?_) | (refine LeL.cons Le.nil ?_))); done) (hi := by (repeat (first | exact Rho.here | exact Rho.nil | (refine Rho.there ?_ ?_; exact rfl) | exact RnL.nil | apply RnL.cons | exact RoL.nil | exact Lent.nil | exact Apd.nil | apply Apd.cons | (refine Lent.cons ?_ ?_ ?_ ?_ ?_) | (refine RoL.cons ?_ ?_ ?_) | (refine RnL.same ?_; exact rfl) | constructor | exact rfl)); done) (ht := by exact rfl) (hr := by (repeat (first | exact Rho.here | exact Rho.nil | (refine Rho.there ?_ ?_; exact rfl) | exact RnL.nil | apply RnL.cons | exact RoL.nil | exact Lent.nil | exact Apd.nil | apply Apd.cons | (refine Lent.cons ?_ ?_ ?_ ?_ ?_) | (refine RoL.cons ?_ ?_ ?_) | (refine RnL.same ?_; exact rfl) | constructor | exact rfl)); done) (ho := by (repeat (first | exact Rho.here | exact Rho.nil | (refine Rho.there ?_ ?_; exact rfl) | exact RnL.nil | apply RnL.cons | exact RoL.nil | exact Lent.nil | exact Apd.nil | apply Apd.cons | (refine Lent.cons ?_ ?_ ?_ ?_ ?_) | (refine RoL.cons ?_ ?_ ?_) | (refine RnL.same ?_; exact rfl) | constructor | exact rfl)); done) (hn := by exact rfl) (hB := by (repeat (first | exact Rho.here | exact Rho.nil | (refine Rho.there ?_ ?_; exact rfl) | exact RnL.nil | apply RnL.cons | exact RoL.nil | exact Lent.nil | exact Apd.nil | apply Apd.cons | (refine Lent.cons ?_ ?_ ?_ ?_ ?_) | (refine RoL.cons ?_ ?_ ?_) | (refine RnL.same ?_; exact rfl) | constructor | exact rfl)); done) (h := ?_))
    | (apply AO.kCall 80; refine AO.callM [(1000000, 1000000)] (hg := (gF)) (hc := by exact rfl) (ha := by (repeat constructor); done) (hl := by (repeat (first | exact LeL.nil | (refine LeL.cons (Le.refl _) ?_) | (refine LeL.cons Le.gr ?_) | (refine LeL.cons Le.nil ?_))); done) (hi := by (repeat (first | exact Rho.here | exact Rho.nil | (refine Rho.there ?_ ?_; exact rfl) | exact RnL.nil | apply RnL.cons | exact RoL.nil | exact Lent.nil | exact Apd.nil | apply Apd.cons | (refine Lent.cons ?_ ?_ ?_ ?_ ?_) | (refine RoL.cons ?_ ?_ ?_) | (refine RnL.same ?_; exact rfl) | constructor | exact rfl)); done) (ht := by exact rfl) (hr := by (repeat (first | exact Rho.here | exact Rho.nil | (refine Rho.there ?_ ?_; exact rfl) | exact RnL.nil | apply RnL.cons | exact RoL.nil | exact Lent.nil | exact Apd.nil | apply Apd.cons | (refine Lent.cons ?_ ?_ ?_ ?_ ?_) | (refine RoL.cons ?_ ?_ ?_) | (refine RnL.same ?_; exact rfl) | constructor | exact rfl)); done) (ho := by (repeat (first | exact Rho.here | exact Rho.nil | (refine Rho.there ?_ ?_; exact rfl) | exact RnL.nil | apply RnL.cons | exact RoL.nil | exact Lent.nil | exact Apd.nil | apply Apd.cons | (refine Lent.cons ?_ ?_ ?_ ?_ ?_) | (refine RoL.cons ?_ ?_ ?_) | (refine RnL.same ?_; exact rfl) | constructor | exact rfl)); done) (hn := by exact rfl) (hB := by (repeat (first | exact Rho.here | exact Rho.nil | (refine Rho.there ?_ ?_; exact rfl) | exact RnL.nil | apply RnL.cons | exact RoL.nil | exact Lent.nil | exact Apd.nil | apply Apd.cons | (refine Lent.cons ?_ ?_ ?_ ?_ ?_) | (refine RoL.cons ?_ ?_ ?_) | (refine RnL.same ?_; exact rfl) | constructor | exact rfl)); done) (h := ?_))
    | (apply AO.kBox; refine AO.sBox (h := ?_))
    | (apply AO.kCv; first | refine AO.sBytes (h := ?_) | refine AO.sStr (h := ?_) | refine AO.sStrR (h := ?_))
    | (apply AO.kP; first | refine AO.sP (h := ?_) | refine AO.sPi (h := ?_) | refine AO.sLoadB (h := ?_))
    | apply AW.seq
    | (apply AW.kR; refine AW.sR (h := ?_))
    | apply AW.skip
    | apply AW.block
    | apply AW.out
    | (apply AW.kE; refine AW.sE (h := ?_))
    | apply AW.label
    | ((first | (apply AW.kC; refine AW.sC (h1 := fun h => ?_) (h2 := fun h => ?_))) <;> (try (first | exact Bool.noConfusion h | exact absurd h (by decide) | (simp at h; done) | (rw [h]; try simp only [nrm] at h; try rw [h]; try (exfalso; omega)) | skip))))
  all_goals simp only [w] at *
  · rw [if_pos (by omega)] at hD
    exact AW.ret (hD rfl .refl (.cons .refl .nil))
  · rw [if_neg (by omega)] at hD
    exact AW.ret (hD rfl .refl (.cons .refl .nil))
theorem gTxt (r : Rd) (hr : r.ok) : Good Try.prog 113 [rdP] [(1000000, .bx r.av)] (.s (txP 16 r).1) [(1000000, .bx (txP 16 r).2.av)] := by
  have g := gGetText r 16 hr.1 hr.2
  refine Good.wM tabOk mixed Try.func113 (N := 6) (by kernel_rfl) rfl (by (repeat (first | exact LE.nil | apply LE.cons)); done) (by (repeat (first | exact LE.nil | apply LE.cons)); done) (by exact rfl) fun D hD F => ?_
  repeat' (first
    | apply AO.nil
    | (apply AO.kCall 114; refine AO.callM [(1000000, 1000000)] (hg := (g)) (hc := by exact rfl) (ha := by (repeat constructor); done) (hl := by (repeat (first | exact LeL.nil | (refine LeL.cons (Le.refl _) ?_) | (refine LeL.cons Le.gr ?_) | (refine LeL.cons Le.nil ?_))); done) (hi := by (repeat (first | exact Rho.here | exact Rho.nil | (refine Rho.there ?_ ?_; exact rfl) | exact RnL.nil | apply RnL.cons | exact RoL.nil | exact Lent.nil | exact Apd.nil | apply Apd.cons | (refine Lent.cons ?_ ?_ ?_ ?_ ?_) | (refine RoL.cons ?_ ?_ ?_) | (refine RnL.same ?_; exact rfl) | constructor | exact rfl)); done) (ht := by exact rfl) (hr := by (repeat (first | exact Rho.here | exact Rho.nil | (refine Rho.there ?_ ?_; exact rfl) | exact RnL.nil | apply RnL.cons | exact RoL.nil | exact Lent.nil | exact Apd.nil | apply Apd.cons | (refine Lent.cons ?_ ?_ ?_ ?_ ?_) | (refine RoL.cons ?_ ?_ ?_) | (refine RnL.same ?_; exact rfl) | constructor | exact rfl)); done) (ho := by (repeat (first | exact Rho.here | exact Rho.nil | (refine Rho.there ?_ ?_; exact rfl) | exact RnL.nil | apply RnL.cons | exact RoL.nil | exact Lent.nil | exact Apd.nil | apply Apd.cons | (refine Lent.cons ?_ ?_ ?_ ?_ ?_) | (refine RoL.cons ?_ ?_ ?_) | (refine RnL.same ?_; exact rfl) | constructor | exact rfl)); done) (hn := by exact rfl) (hB := by (repeat (first | exact Rho.here | exact Rho.nil | (refine Rho.there ?_ ?_; exact rfl) | exact RnL.nil | apply RnL.cons | exact RoL.nil | exact Lent.nil | exact Apd.nil | apply Apd.cons | (refine Lent.cons ?_ ?_ ?_ ?_ ?_) | (refine RoL.cons ?_ ?_ ?_) | (refine RnL.same ?_; exact rfl) | constructor | exact rfl)); done) (h := ?_))
    | (apply AO.kBox; refine AO.sBox (h := ?_))
    | (apply AO.kP; first | refine AO.sP (h := ?_) | refine AO.sPi (h := ?_) | refine AO.sLoadB (h := ?_))
    | apply AW.seq
    | (apply AW.kR; refine AW.sR (h := ?_))
    | apply AW.skip
    | apply AW.block
    | apply AW.out
    | (apply AW.kE; refine AW.sE (h := ?_))
    | apply AW.label)
  exact AW.ret (hD rfl .refl (.cons .refl .nil))
theorem gPairs (r : Rd) (hr : r.ok) : Good Try.prog 78 [rdP] [(1000000, .bx r.av)] (.sh 2 ((rep prP (cnt 16 r).1 (cnt 16 r).2).1.map Pr.av)) [(1000000, .bx (rep prP (cnt 16 r).1 (cnt 16 r).2).2.av)] := by
  have gC := gCnt r 16 hr
  have lc := cnt_le 16 r
  have hc := (pf_cnt 16).ok hr
  refine Good.wM tabOk mixed Try.func78 (N := 19) (by kernel_rfl) rfl (by (repeat (first | exact LE.nil | apply LE.cons)); done) (by (repeat (first | exact LE.nil | apply LE.cons)); done) (by exact rfl) fun D hD F => ?_
  repeat' (first
    | apply AO.nil
    | (apply AO.kCall 112; refine AO.callM [(1000000, 1000000)] (hg := (gC)) (hc := by exact rfl) (ha := by (repeat constructor); done) (hl := by (repeat (first | exact LeL.nil | (refine LeL.cons (Le.refl _) ?_) | (refine LeL.cons Le.gr ?_) | (refine LeL.cons Le.nil ?_))); done) (hi := by (repeat (first | exact Rho.here | exact Rho.nil | (refine Rho.there ?_ ?_; exact rfl) | exact RnL.nil | apply RnL.cons | exact RoL.nil | exact Lent.nil | exact Apd.nil | apply Apd.cons | (refine Lent.cons ?_ ?_ ?_ ?_ ?_) | (refine RoL.cons ?_ ?_ ?_) | (refine RnL.same ?_; exact rfl) | constructor | exact rfl)); done) (ht := by exact rfl) (hr := by (repeat (first | exact Rho.here | exact Rho.nil | (refine Rho.there ?_ ?_; exact rfl) | exact RnL.nil | apply RnL.cons | exact RoL.nil | exact Lent.nil | exact Apd.nil | apply Apd.cons | (refine Lent.cons ?_ ?_ ?_ ?_ ?_) | (refine RoL.cons ?_ ?_ ?_) | (refine RnL.same ?_; exact rfl) | constructor | exact rfl)); done) (ho := by (repeat (first | exact Rho.here | exact Rho.nil | (refine Rho.there ?_ ?_; exact rfl) | exact RnL.nil | apply RnL.cons | exact RoL.nil | exact Lent.nil | exact Apd.nil | apply Apd.cons | (refine Lent.cons ?_ ?_ ?_ ?_ ?_) | (refine RoL.cons ?_ ?_ ?_) | (refine RnL.same ?_; exact rfl) | constructor | exact rfl)); done) (hn := by exact rfl) (hB := by (repeat (first | exact Rho.here | exact Rho.nil | (refine Rho.there ?_ ?_; exact rfl) | exact RnL.nil | apply RnL.cons | exact RoL.nil | exact Lent.nil | exact Apd.nil | apply Apd.cons | (refine Lent.cons ?_ ?_ ?_ ?_ ?_) | (refine RoL.cons ?_ ?_ ?_) | (refine RnL.same ?_; exact rfl) | constructor | exact rfl)); done) (h := ?_))
    | (apply AO.kBuildS; first | refine AO.sBuildT (h := ?_) | refine AO.sBuildS (h := ?_))
    | (apply AO.kApp; first | refine AO.sGrowT (h := ?_) | refine AO.sNewT (h := ?_) | refine AO.sGrowBT (h := ?_) | refine AO.sGrow (h := ?_) | refine AO.sNewr (h := ?_))
    | (apply AO.kBox; refine AO.sBox (h := ?_))
    | (apply AO.kAdd; refine AO.sAdd (h := ?_))
    | (apply AO.kP; first | refine AO.sP (h := ?_) | refine AO.sPi (h := ?_) | refine AO.sLoadB (h := ?_) | refine AO.sSameB (h := ?_))
    | (apply AO.kP; refine AO.eqNil (h1 := fun h => ?_) (h2 := ?_))
    | apply AW.seq
    | (apply AW.kR; refine AW.sR (h := ?_))
    | apply AW.skip
    | apply AW.block
    | apply AW.out
    | (apply AW.kE; refine AW.sE (h := ?_))
    | apply AW.label
    | (apply AW.kRd; refine AW.sRd (h := ?_))
    | ((first | (apply AW.kC; refine AW.sC (h1 := fun h => ?_) (h2 := fun h => ?_))) <;> (try (first | exact Bool.noConfusion h | exact absurd h (by decide) | (simp at h; done) | (rw [h]; try simp only [nrm] at h; try rw [h]; try (exfalso; omega)) | skip)))
    | (apply AR.kAny; first | (apply AR.kCall 112; refine AR.callM [(1000000, 1000000)] (hg := (gC)) (hc := by exact rfl) (ha := by (repeat constructor); done) (hl := by (repeat (first | exact LeL.nil | (refine LeL.cons (Le.refl _) ?_) | (refine LeL.cons Le.gr ?_) | (refine LeL.cons Le.nil ?_))); done) (hi := by (repeat (first | exact Rho.here | exact Rho.nil | (refine Rho.there ?_ ?_; exact rfl) | exact RnL.nil | apply RnL.cons | exact RoL.nil | exact Lent.nil | exact Apd.nil | apply Apd.cons | (refine Lent.cons ?_ ?_ ?_ ?_ ?_) | (refine RoL.cons ?_ ?_ ?_) | (refine RnL.same ?_; exact rfl) | constructor | exact rfl)); done) (ht := by exact rfl) (hr := by (repeat (first | exact Rho.here | exact Rho.nil | (refine Rho.there ?_ ?_; exact rfl) | exact RnL.nil | apply RnL.cons | exact RoL.nil | exact Lent.nil | exact Apd.nil | apply Apd.cons | (refine Lent.cons ?_ ?_ ?_ ?_ ?_) | (refine RoL.cons ?_ ?_ ?_) | (refine RnL.same ?_; exact rfl) | constructor | exact rfl)); done) (ho := by (repeat (first | exact Rho.here | exact Rho.nil | (refine Rho.there ?_ ?_; exact rfl) | exact RnL.nil | apply RnL.cons | exact RoL.nil | exact Lent.nil | exact Apd.nil | apply Apd.cons | (refine Lent.cons ?_ ?_ ?_ ?_ ?_) | (refine RoL.cons ?_ ?_ ?_) | (refine RnL.same ?_; exact rfl) | constructor | exact rfl)); done) (hn := by exact rfl) (hB := by (repeat (first | exact Rho.here | exact Rho.nil | (refine Rho.there ?_ ?_; exact rfl) | exact RnL.nil | apply RnL.cons | exact RoL.nil | exact Lent.nil | exact Apd.nil | apply Apd.cons | (refine Lent.cons ?_ ?_ ?_ ?_ ?_) | (refine RoL.cons ?_ ?_ ?_) | (refine RnL.same ?_; exact rfl) | constructor | exact rfl)); done) (htg := by (repeat (first | exact LE.nil | apply LE.cons)); done) (h := ?_)) | (apply AR.kBuildS; first | refine AR.sBuildT (h := ?_) | refine AR.sBuildS (h := ?_)) | (apply AR.kApp; first | refine AR.sGrowT (h := ?_) | refine AR.sNewT (h := ?_) | refine AR.sGrowBT (h := ?_) | refine AR.sGrow (h := ?_) | refine AR.sNewr (h := ?_)) | (apply AR.kBox; refine AR.sBox (h := ?_)) | (apply AR.kAdd; refine AR.sAdd (h := ?_)) | (apply AR.kP; first | refine AR.sP (h := ?_) | refine AR.sPi (h := ?_)))
    | (apply AR.kNil; refine AR.sNil (h := ?_)))
  generalize (cnt 16 r).1 = c at *
  generalize (cnt 16 r).2 = r1 at *
  refine AW.nilrow 900 87 2 (St.freeB_ok rfl) (st' := ⟨[(1, .ptr 1 0), (3, .gr 900 87 2 []), (5, .i .i64 c), (6, .i .i64 0)], [(1, .bx [.ptr 1000000 0]), (900, .gw 0), (1000000, .bx r1.av)]⟩) ⟨by ((repeat' (first | exact LeT.nil | apply LeT.cons | exact Lx.nilG | apply Lx.s | apply Lx.b | apply Lx.i | exact Lx.refl)) <;> (first | rfl | assumption | omega | (simp only [List.length_map, BS_len]; done) | skip)), by ((repeat' (first | exact LeB.nil | apply LeB.cons | exact Ol.refl)) <;> (first | rfl | skip))⟩ ?_
  refine AW.loopI (fun q : Nat => q ≤ c) (fun q => ⟨[(1, .ptr 1 0), (3, .gr 900 87 2 ((rep prP q r1).1.map Pr.av)), (5, .i .i64 c), (6, .i .i64 q)], [(1, .bx [.ptr 1000000 0]), (900, .gw ((rep prP q r1).1.map Pr.av).length), (1000000, .bx (rep prP q r1).2.av)]⟩) (fun q => c - q) 0 (by simp) (by (constructor <;> (repeat' (first | exact LeT.nil | exact LeB.nil | apply LeT.cons | apply LeB.cons | exact Ol.refl | apply Lx.s | apply Lx.b | apply Lx.i | exact Lx.refl)) <;> (first | rfl | assumption | omega | (simp only [List.length_map, BS_len]; done) | skip))) fun m q hq ih => ?_
  have lq : ((rep prP q r1).1.map Pr.av).length = q := by rw [List.length_map, rep_len]
  by_cases hq2 : q < c
  · have hq' := (pf_pr.rep q).ok hc
    have e1 : rep prP (q + 1) r1 = ((rep prP q r1).1 ++ [⟨(txP 16 (rep prP q r1).2).1, (txP 32 (txP 16 (rep prP q r1).2).2).1⟩], (txP 32 (txP 16 (rep prP q r1).2).2).2) := rfl
    generalize rep prP q r1 = z at *
    obtain ⟨xs, rq⟩ := z
    dsimp only at *
    have g1 := gTxt rq hq'
    have h1 := (Pf.tx 16).ok hq'
    have g2 := gGetText (txP 16 rq).2 32 h1.1 h1.2
    repeat' (first
    | apply AO.nil
    | (apply AO.kCall 113; refine AO.callM [(1000000, 1000000)] (hg := (g1)) (hc := by exact rfl) (ha := by (repeat constructor); done) (hl := by (repeat (first | exact LeL.nil | (refine LeL.cons (Le.refl _) ?_) | (refine LeL.cons Le.gr ?_) | (refine LeL.cons Le.nil ?_))); done) (hi := by (repeat (first | exact Rho.here | exact Rho.nil | (refine Rho.there ?_ ?_; exact rfl) | exact RnL.nil | apply RnL.cons | exact RoL.nil | exact Lent.nil | exact Apd.nil | apply Apd.cons | (refine Lent.cons ?_ ?_ ?_ ?_ ?_) | (refine RoL.cons ?_ ?_ ?_) | (refine RnL.same ?_; exact rfl) | constructor | exact rfl)); done) (ht := by exact rfl) (hr := by (repeat (first | exact Rho.here | exact Rho.nil | (refine Rho.there ?_ ?_; exact rfl) | exact RnL.nil | apply RnL.cons | exact RoL.nil | exact Lent.nil | exact Apd.nil | apply Apd.cons | (refine Lent.cons ?_ ?_ ?_ ?_ ?_) | (refine RoL.cons ?_ ?_ ?_) | (refine RnL.same ?_; exact rfl) | constructor | exact rfl)); done) (ho := by (repeat (first | exact Rho.here | exact Rho.nil | (refine Rho.there ?_ ?_; exact rfl) | exact RnL.nil | apply RnL.cons | exact RoL.nil | exact Lent.nil | exact Apd.nil | apply Apd.cons | (refine Lent.cons ?_ ?_ ?_ ?_ ?_) | (refine RoL.cons ?_ ?_ ?_) | (refine RnL.same ?_; exact rfl) | constructor | exact rfl)); done) (hn := by exact rfl) (hB := by (repeat (first | exact Rho.here | exact Rho.nil | (refine Rho.there ?_ ?_; exact rfl) | exact RnL.nil | apply RnL.cons | exact RoL.nil | exact Lent.nil | exact Apd.nil | apply Apd.cons | (refine Lent.cons ?_ ?_ ?_ ?_ ?_) | (refine RoL.cons ?_ ?_ ?_) | (refine RnL.same ?_; exact rfl) | constructor | exact rfl)); done) (h := ?_))
    | (apply AO.kCall 114; refine AO.callM [(1000000, 1000000)] (hg := (g2)) (hc := by exact rfl) (ha := by (repeat constructor); done) (hl := by (repeat (first | exact LeL.nil | (refine LeL.cons (Le.refl _) ?_) | (refine LeL.cons Le.gr ?_) | (refine LeL.cons Le.nil ?_))); done) (hi := by (repeat (first | exact Rho.here | exact Rho.nil | (refine Rho.there ?_ ?_; exact rfl) | exact RnL.nil | apply RnL.cons | exact RoL.nil | exact Lent.nil | exact Apd.nil | apply Apd.cons | (refine Lent.cons ?_ ?_ ?_ ?_ ?_) | (refine RoL.cons ?_ ?_ ?_) | (refine RnL.same ?_; exact rfl) | constructor | exact rfl)); done) (ht := by exact rfl) (hr := by (repeat (first | exact Rho.here | exact Rho.nil | (refine Rho.there ?_ ?_; exact rfl) | exact RnL.nil | apply RnL.cons | exact RoL.nil | exact Lent.nil | exact Apd.nil | apply Apd.cons | (refine Lent.cons ?_ ?_ ?_ ?_ ?_) | (refine RoL.cons ?_ ?_ ?_) | (refine RnL.same ?_; exact rfl) | constructor | exact rfl)); done) (ho := by (repeat (first | exact Rho.here | exact Rho.nil | (refine Rho.there ?_ ?_; exact rfl) | exact RnL.nil | apply RnL.cons | exact RoL.nil | exact Lent.nil | exact Apd.nil | apply Apd.cons | (refine Lent.cons ?_ ?_ ?_ ?_ ?_) | (refine RoL.cons ?_ ?_ ?_) | (refine RnL.same ?_; exact rfl) | constructor | exact rfl)); done) (hn := by exact rfl) (hB := by (repeat (first | exact Rho.here | exact Rho.nil | (refine Rho.there ?_ ?_; exact rfl) | exact RnL.nil | apply RnL.cons | exact RoL.nil | exact Lent.nil | exact Apd.nil | apply Apd.cons | (refine Lent.cons ?_ ?_ ?_ ?_ ?_) | (refine RoL.cons ?_ ?_ ?_) | (refine RnL.same ?_; exact rfl) | constructor | exact rfl)); done) (h := ?_))
    | (apply AO.kBuildS; first | refine AO.sBuildT (h := ?_) | refine AO.sBuildS (h := ?_))
    | (apply AO.kApp; first | refine AO.sGrowT (h := ?_) | refine AO.sNewT (h := ?_) | refine AO.sGrowBT (h := ?_) | refine AO.sGrow (h := ?_) | refine AO.sNewr (h := ?_))
    | (apply AO.kBox; refine AO.sBox (h := ?_))
    | (apply AO.kAdd; refine AO.sAdd (h := ?_))
    | (apply AO.kP; first | refine AO.sP (h := ?_) | refine AO.sPi (h := ?_) | refine AO.sLoadB (h := ?_) | refine AO.sSameB (h := ?_))
    | (apply AO.kP; refine AO.eqNil (h1 := fun h => ?_) (h2 := ?_))
    | apply AW.seq
    | (apply AW.kR; refine AW.sR (h := ?_))
    | apply AW.skip
    | apply AW.block
    | apply AW.out
    | (apply AW.kE; refine AW.sE (h := ?_))
    | apply AW.label
    | (apply AW.kRd; refine AW.sRd (h := ?_))
    | ((first | (apply AW.kC; refine AW.sC (h1 := fun h => ?_) (h2 := fun h => ?_))) <;> (try (first | exact Bool.noConfusion h | exact absurd h (by decide) | (simp at h; done) | (rw [h]; try simp only [nrm] at h; try rw [h]; try (exfalso; omega)) | skip)))
    | (apply AR.kAny; first | (apply AR.kCall 113; refine AR.callM [(1000000, 1000000)] (hg := (g1)) (hc := by exact rfl) (ha := by (repeat constructor); done) (hl := by (repeat (first | exact LeL.nil | (refine LeL.cons (Le.refl _) ?_) | (refine LeL.cons Le.gr ?_) | (refine LeL.cons Le.nil ?_))); done) (hi := by (repeat (first | exact Rho.here | exact Rho.nil | (refine Rho.there ?_ ?_; exact rfl) | exact RnL.nil | apply RnL.cons | exact RoL.nil | exact Lent.nil | exact Apd.nil | apply Apd.cons | (refine Lent.cons ?_ ?_ ?_ ?_ ?_) | (refine RoL.cons ?_ ?_ ?_) | (refine RnL.same ?_; exact rfl) | constructor | exact rfl)); done) (ht := by exact rfl) (hr := by (repeat (first | exact Rho.here | exact Rho.nil | (refine Rho.there ?_ ?_; exact rfl) | exact RnL.nil | apply RnL.cons | exact RoL.nil | exact Lent.nil | exact Apd.nil | apply Apd.cons | (refine Lent.cons ?_ ?_ ?_ ?_ ?_) | (refine RoL.cons ?_ ?_ ?_) | (refine RnL.same ?_; exact rfl) | constructor | exact rfl)); done) (ho := by (repeat (first | exact Rho.here | exact Rho.nil | (refine Rho.there ?_ ?_; exact rfl) | exact RnL.nil | apply RnL.cons | exact RoL.nil | exact Lent.nil | exact Apd.nil | apply Apd.cons | (refine Lent.cons ?_ ?_ ?_ ?_ ?_) | (refine RoL.cons ?_ ?_ ?_) | (refine RnL.same ?_; exact rfl) | constructor | exact rfl)); done) (hn := by exact rfl) (hB := by (repeat (first | exact Rho.here | exact Rho.nil | (refine Rho.there ?_ ?_; exact rfl) | exact RnL.nil | apply RnL.cons | exact RoL.nil | exact Lent.nil | exact Apd.nil | apply Apd.cons | (refine Lent.cons ?_ ?_ ?_ ?_ ?_) | (refine RoL.cons ?_ ?_ ?_) | (refine RnL.same ?_; exact rfl) | constructor | exact rfl)); done) (htg := by (repeat (first | exact LE.nil | apply LE.cons)); done) (h := ?_)) | (apply AR.kCall 114; refine AR.callM [(1000000, 1000000)] (hg := (g2)) (hc := by exact rfl) (ha := by (repeat constructor); done) (hl := by (repeat (first | exact LeL.nil | (refine LeL.cons (Le.refl _) ?_) | (refine LeL.cons Le.gr ?_) | (refine LeL.cons Le.nil ?_))); done) (hi := by (repeat (first | exact Rho.here | exact Rho.nil | (refine Rho.there ?_ ?_; exact rfl) | exact RnL.nil | apply RnL.cons | exact RoL.nil | exact Lent.nil | exact Apd.nil | apply Apd.cons | (refine Lent.cons ?_ ?_ ?_ ?_ ?_) | (refine RoL.cons ?_ ?_ ?_) | (refine RnL.same ?_; exact rfl) | constructor | exact rfl)); done) (ht := by exact rfl) (hr := by (repeat (first | exact Rho.here | exact Rho.nil | (refine Rho.there ?_ ?_; exact rfl) | exact RnL.nil | apply RnL.cons | exact RoL.nil | exact Lent.nil | exact Apd.nil | apply Apd.cons | (refine Lent.cons ?_ ?_ ?_ ?_ ?_) | (refine RoL.cons ?_ ?_ ?_) | (refine RnL.same ?_; exact rfl) | constructor | exact rfl)); done) (ho := by (repeat (first | exact Rho.here | exact Rho.nil | (refine Rho.there ?_ ?_; exact rfl) | exact RnL.nil | apply RnL.cons | exact RoL.nil | exact Lent.nil | exact Apd.nil | apply Apd.cons | (refine Lent.cons ?_ ?_ ?_ ?_ ?_) | (refine RoL.cons ?_ ?_ ?_) | (refine RnL.same ?_; exact rfl) | constructor | exact rfl)); done) (hn := by exact rfl) (hB := by (repeat (first | exact Rho.here | exact Rho.nil | (refine Rho.there ?_ ?_; exact rfl) | exact RnL.nil | apply RnL.cons | exact RoL.nil | exact Lent.nil | exact Apd.nil | apply Apd.cons | (refine Lent.cons ?_ ?_ ?_ ?_ ?_) | (refine RoL.cons ?_ ?_ ?_) | (refine RnL.same ?_; exact rfl) | constructor | exact rfl)); done) (htg := by (repeat (first | exact LE.nil | apply LE.cons)); done) (h := ?_)) | (apply AR.kBuildS; first | refine AR.sBuildT (h := ?_) | refine AR.sBuildS (h := ?_)) | (apply AR.kApp; first | refine AR.sGrowT (h := ?_) | refine AR.sNewT (h := ?_) | refine AR.sGrowBT (h := ?_) | refine AR.sGrow (h := ?_) | refine AR.sNewr (h := ?_)) | (apply AR.kBox; refine AR.sBox (h := ?_)) | (apply AR.kAdd; refine AR.sAdd (h := ?_)) | (apply AR.kP; first | refine AR.sP (h := ?_) | refine AR.sPi (h := ?_)))
    | (apply AR.kNil; refine AR.sNil (h := ?_)))
    all_goals first
      | (exfalso; omega)
      | (refine ih (q + 1) _ (by omega) (by omega) ?_
         simp only [e1]
         ((constructor <;> (repeat' (first | exact LeT.nil | exact LeB.nil | apply LeT.cons | apply LeB.cons | exact Ol.refl | apply Lx.s | apply Lx.b | apply Lx.i | exact Lx.refl)) <;> (first | rfl | assumption | omega | (simp only [List.length_map, BS_len]; done) | skip)) <;> (first | (refine Lx.eq (congrArg (AV.gr _ _ _) ?_); simp only [List.map_append, List.map_cons, List.map_nil]; rfl) | (refine Ol.eq (congrArg Ob.gw ?_); simp only [List.map_append, List.map_cons, List.map_nil, List.length_append, List.length_map, List.length_cons, List.length_nil]; done) | (refine Ol.bx ?_; (repeat' (first | exact LxL.nil | apply LxL.cons | exact Lx.refl | (refine Lx.eq (congrArg (AV.gr _ _ _) ?_); simp only [List.map_append, List.map_cons, List.map_nil]; rfl)))) | skip)))
  · obtain rfl : q = c := by omega
    repeat' (first
    | apply AO.nil
    | (apply AO.kBuildS; first | refine AO.sBuildT (h := ?_) | refine AO.sBuildS (h := ?_))
    | (apply AO.kApp; first | refine AO.sGrowT (h := ?_) | refine AO.sNewT (h := ?_) | refine AO.sGrowBT (h := ?_) | refine AO.sGrow (h := ?_) | refine AO.sNewr (h := ?_))
    | (apply AO.kBox; refine AO.sBox (h := ?_))
    | (apply AO.kAdd; refine AO.sAdd (h := ?_))
    | (apply AO.kP; first | refine AO.sP (h := ?_) | refine AO.sPi (h := ?_) | refine AO.sLoadB (h := ?_) | refine AO.sSameB (h := ?_))
    | (apply AO.kP; refine AO.eqNil (h1 := fun h => ?_) (h2 := ?_))
    | apply AW.seq
    | (apply AW.kR; refine AW.sR (h := ?_))
    | apply AW.skip
    | apply AW.block
    | apply AW.out
    | (apply AW.kE; refine AW.sE (h := ?_))
    | apply AW.label
    | (apply AW.kRd; refine AW.sRd (h := ?_))
    | ((first | (apply AW.kC; refine AW.sC (h1 := fun h => ?_) (h2 := fun h => ?_))) <;> (try (first | exact Bool.noConfusion h | exact absurd h (by decide) | (simp at h; done) | (rw [h]; try simp only [nrm] at h; try rw [h]; try (exfalso; omega)) | skip)))
    | (apply AR.kAny; first | (apply AR.kBuildS; first | refine AR.sBuildT (h := ?_) | refine AR.sBuildS (h := ?_)) | (apply AR.kApp; first | refine AR.sGrowT (h := ?_) | refine AR.sNewT (h := ?_) | refine AR.sGrowBT (h := ?_) | refine AR.sGrow (h := ?_) | refine AR.sNewr (h := ?_)) | (apply AR.kBox; refine AR.sBox (h := ?_)) | (apply AR.kAdd; refine AR.sAdd (h := ?_)) | (apply AR.kP; first | refine AR.sP (h := ?_) | refine AR.sPi (h := ?_)))
    | (apply AR.kNil; refine AR.sNil (h := ?_)))
    all_goals first
      | (exfalso; omega)
      | exact AW.ret (hD rfl Lx.gr (.cons .refl .nil))
theorem u8k {k : Nat} (h : k < 256) : ((UInt8.ofNat k).toNat : Int) = k := by
  rw [UInt8.toNat_ofNat']; congr 1; omega
theorem b32k {k : Nat} (h : k < 4294967296) : ((BitVec.ofNat 32 k).toNat : Int) = k := by
  rw [BitVec.toNat_ofNat]; congr 1; omega
theorem b16k {k : Nat} (h : k < 65536) : ((BitVec.ofNat 16 k).toNat : Int) = k := by
  rw [BitVec.toNat_ofNat]; congr 1; omega
theorem gMsgP (r : Rd) (hr : r.ok) : Good Try.prog 117 [rdP] [(1000000, .bx r.av)] (.agg (msP r).1.av) [(1000000, .bx (msP r).2.av)] := by
  have g8 := gGet8 r hr.1 hr.2
  have v256 : takeV r 1 < 256 := takeV_lt r 1
  have h1 : (takeR r 1).ok := (Pf.tk 1).ok hr
  have gF := gFail (takeR r 1) 7
  have e : msP r = msQ (takeV r 1) (txP 16 (kdP (takeV r 1) (takeR r 1)).2).1 (txP 16 (kdP (takeV r 1) (takeR r 1)).2).2 := rfl
  rw [e]
  generalize takeV r 1 = k at *
  generalize takeR r 1 = r1 at *
  by_cases hk : k < 1 ∨ 3 < k
  · have ek : (kdP k r1).2 = failR r1 7 := by rw [kdP, if_pos hk]; rfl
    have h2 : (failR r1 7).ok := by rw [← ek]; exact (pf_kd k).ok h1
    have gT := gTxt _ h2
    rw [ek]
    generalize failR r1 7 = r2 at *
    generalize txP 16 r2 = z at *
    obtain ⟨key, r3⟩ := z
    dsimp only at *
    rw [msQ, if_neg (by omega), if_neg (by omega)]
    refine Good.wM tabOk mixed Try.func117 (N := 44) (by kernel_rfl) rfl (by (repeat (first | exact LE.nil | apply LE.cons)); done) (by (repeat (first | exact LE.nil | apply LE.cons)); done) (by exact rfl) fun D hD F => ?_
    repeat' (first
    | apply AO.nil
    | (apply AO.kCall 77; refine AO.callM [(1000000, 1000000)] (hg := (g8)) (hc := by exact rfl) (ha := by (repeat constructor); done) (hl := by (repeat (first | exact LeL.nil | (refine LeL.cons (Le.refl _) ?_) | (refine LeL.cons Le.gr ?_) | (refine LeL.cons Le.nil ?_))); done) (hi := by (repeat (first | exact Rho.here | exact Rho.nil | (refine Rho.there ?_ ?_; exact rfl) | exact RnL.nil | apply RnL.cons | exact RoL.nil | exact Lent.nil | exact Apd.nil | apply Apd.cons | (refine Lent.cons ?_ ?_ ?_ ?_ ?_) | (refine RoL.cons ?_ ?_ ?_) | (refine RnL.same ?_; exact rfl) | constructor | exact rfl)); done) (ht := by exact rfl) (hr := by (repeat (first | exact Rho.here | exact Rho.nil | (refine Rho.there ?_ ?_; exact rfl) | exact RnL.nil | apply RnL.cons | exact RoL.nil | exact Lent.nil | exact Apd.nil | apply Apd.cons | (refine Lent.cons ?_ ?_ ?_ ?_ ?_) | (refine RoL.cons ?_ ?_ ?_) | (refine RnL.same ?_; exact rfl) | constructor | exact rfl)); done) (ho := by (repeat (first | exact Rho.here | exact Rho.nil | (refine Rho.there ?_ ?_; exact rfl) | exact RnL.nil | apply RnL.cons | exact RoL.nil | exact Lent.nil | exact Apd.nil | apply Apd.cons | (refine Lent.cons ?_ ?_ ?_ ?_ ?_) | (refine RoL.cons ?_ ?_ ?_) | (refine RnL.same ?_; exact rfl) | constructor | exact rfl)); done) (hn := by exact rfl) (hB := by (repeat (first | exact Rho.here | exact Rho.nil | (refine Rho.there ?_ ?_; exact rfl) | exact RnL.nil | apply RnL.cons | exact RoL.nil | exact Lent.nil | exact Apd.nil | apply Apd.cons | (refine Lent.cons ?_ ?_ ?_ ?_ ?_) | (refine RoL.cons ?_ ?_ ?_) | (refine RnL.same ?_; exact rfl) | constructor | exact rfl)); done) (h := ?_))
    | (apply AO.kCall 80; refine AO.callM [(1000000, 1000000)] (hg := (gF)) (hc := by exact rfl) (ha := by (repeat constructor); done) (hl := by (repeat (first | exact LeL.nil | (refine LeL.cons (Le.refl _) ?_) | (refine LeL.cons Le.gr ?_) | (refine LeL.cons Le.nil ?_))); done) (hi := by (repeat (first | exact Rho.here | exact Rho.nil | (refine Rho.there ?_ ?_; exact rfl) | exact RnL.nil | apply RnL.cons | exact RoL.nil | exact Lent.nil | exact Apd.nil | apply Apd.cons | (refine Lent.cons ?_ ?_ ?_ ?_ ?_) | (refine RoL.cons ?_ ?_ ?_) | (refine RnL.same ?_; exact rfl) | constructor | exact rfl)); done) (ht := by exact rfl) (hr := by (repeat (first | exact Rho.here | exact Rho.nil | (refine Rho.there ?_ ?_; exact rfl) | exact RnL.nil | apply RnL.cons | exact RoL.nil | exact Lent.nil | exact Apd.nil | apply Apd.cons | (refine Lent.cons ?_ ?_ ?_ ?_ ?_) | (refine RoL.cons ?_ ?_ ?_) | (refine RnL.same ?_; exact rfl) | constructor | exact rfl)); done) (ho := by (repeat (first | exact Rho.here | exact Rho.nil | (refine Rho.there ?_ ?_; exact rfl) | exact RnL.nil | apply RnL.cons | exact RoL.nil | exact Lent.nil | exact Apd.nil | apply Apd.cons | (refine Lent.cons ?_ ?_ ?_ ?_ ?_) | (refine RoL.cons ?_ ?_ ?_) | (refine RnL.same ?_; exact rfl) | constructor | exact rfl)); done) (hn := by exact rfl) (hB := by (repeat (first | exact Rho.here | exact Rho.nil | (refine Rho.there ?_ ?_; exact rfl) | exact RnL.nil | apply RnL.cons | exact RoL.nil | exact Lent.nil | exact Apd.nil | apply Apd.cons | (refine Lent.cons ?_ ?_ ?_ ?_ ?_) | (refine RoL.cons ?_ ?_ ?_) | (refine RnL.same ?_; exact rfl) | constructor | exact rfl)); done) (h := ?_))
    | (apply AO.kBox; refine AO.sBox (h := ?_))
    | (apply AO.kAlloc; refine AO.sAlloc (h := ?_))
    | (apply AO.kStore; first | refine AO.sStore (h := ?_) | refine AO.sStB (h := ?_))
    | (apply AO.kP; first | refine AO.sP (h := ?_) | refine AO.sPi (h := ?_) | refine AO.sLoadB (h := ?_))
    | apply AW.seq
    | (apply AW.kR; refine AW.sR (h := ?_))
    | apply AW.skip
    | apply AW.block
    | apply AW.out
    | (apply AW.kE; refine AW.sE (h := ?_))
    | apply AW.label
    | (apply AW.kRd; refine AW.sRd (h := ?_))
    | ((first | (apply AO.kG; first | refine AO.sgt (h1 := fun h => ?_) (h2 := fun h => ?_) | refine AO.sgf (h1 := fun h => ?_) (h2 := fun h => ?_) | refine AO.sgs (h := ?_)) | (apply AW.kC; refine AW.sC (h1 := fun h => ?_) (h2 := fun h => ?_)) | (apply AR.kAny; apply AR.kG; first | refine AR.sgt (h1 := fun h => ?_) (h2 := fun h => ?_) | refine AR.sgf (h1 := fun h => ?_) (h2 := fun h => ?_) | refine AR.sgs (h := ?_))) <;> (try (first | exact Bool.noConfusion h | exact absurd h (by decide) | (simp at h; done) | (rw [h]; try simp only [nrm] at h; try rw [h]; try (exfalso; omega)) | skip)))
    | (apply AR.kAny; first | (apply AR.kCall 77; refine AR.callM [(1000000, 1000000)] (hg := (g8)) (hc := by exact rfl) (ha := by (repeat constructor); done) (hl := by (repeat (first | exact LeL.nil | (refine LeL.cons (Le.refl _) ?_) | (refine LeL.cons Le.gr ?_) | (refine LeL.cons Le.nil ?_))); done) (hi := by (repeat (first | exact Rho.here | exact Rho.nil | (refine Rho.there ?_ ?_; exact rfl) | exact RnL.nil | apply RnL.cons | exact RoL.nil | exact Lent.nil | exact Apd.nil | apply Apd.cons | (refine Lent.cons ?_ ?_ ?_ ?_ ?_) | (refine RoL.cons ?_ ?_ ?_) | (refine RnL.same ?_; exact rfl) | constructor | exact rfl)); done) (ht := by exact rfl) (hr := by (repeat (first | exact Rho.here | exact Rho.nil | (refine Rho.there ?_ ?_; exact rfl) | exact RnL.nil | apply RnL.cons | exact RoL.nil | exact Lent.nil | exact Apd.nil | apply Apd.cons | (refine Lent.cons ?_ ?_ ?_ ?_ ?_) | (refine RoL.cons ?_ ?_ ?_) | (refine RnL.same ?_; exact rfl) | constructor | exact rfl)); done) (ho := by (repeat (first | exact Rho.here | exact Rho.nil | (refine Rho.there ?_ ?_; exact rfl) | exact RnL.nil | apply RnL.cons | exact RoL.nil | exact Lent.nil | exact Apd.nil | apply Apd.cons | (refine Lent.cons ?_ ?_ ?_ ?_ ?_) | (refine RoL.cons ?_ ?_ ?_) | (refine RnL.same ?_; exact rfl) | constructor | exact rfl)); done) (hn := by exact rfl) (hB := by (repeat (first | exact Rho.here | exact Rho.nil | (refine Rho.there ?_ ?_; exact rfl) | exact RnL.nil | apply RnL.cons | exact RoL.nil | exact Lent.nil | exact Apd.nil | apply Apd.cons | (refine Lent.cons ?_ ?_ ?_ ?_ ?_) | (refine RoL.cons ?_ ?_ ?_) | (refine RnL.same ?_; exact rfl) | constructor | exact rfl)); done) (htg := by (repeat (first | exact LE.nil | apply LE.cons)); done) (h := ?_)) | (apply AR.kCall 80; refine AR.callM [(1000000, 1000000)] (hg := (gF)) (hc := by exact rfl) (ha := by (repeat constructor); done) (hl := by (repeat (first | exact LeL.nil | (refine LeL.cons (Le.refl _) ?_) | (refine LeL.cons Le.gr ?_) | (refine LeL.cons Le.nil ?_))); done) (hi := by (repeat (first | exact Rho.here | exact Rho.nil | (refine Rho.there ?_ ?_; exact rfl) | exact RnL.nil | apply RnL.cons | exact RoL.nil | exact Lent.nil | exact Apd.nil | apply Apd.cons | (refine Lent.cons ?_ ?_ ?_ ?_ ?_) | (refine RoL.cons ?_ ?_ ?_) | (refine RnL.same ?_; exact rfl) | constructor | exact rfl)); done) (ht := by exact rfl) (hr := by (repeat (first | exact Rho.here | exact Rho.nil | (refine Rho.there ?_ ?_; exact rfl) | exact RnL.nil | apply RnL.cons | exact RoL.nil | exact Lent.nil | exact Apd.nil | apply Apd.cons | (refine Lent.cons ?_ ?_ ?_ ?_ ?_) | (refine RoL.cons ?_ ?_ ?_) | (refine RnL.same ?_; exact rfl) | constructor | exact rfl)); done) (ho := by (repeat (first | exact Rho.here | exact Rho.nil | (refine Rho.there ?_ ?_; exact rfl) | exact RnL.nil | apply RnL.cons | exact RoL.nil | exact Lent.nil | exact Apd.nil | apply Apd.cons | (refine Lent.cons ?_ ?_ ?_ ?_ ?_) | (refine RoL.cons ?_ ?_ ?_) | (refine RnL.same ?_; exact rfl) | constructor | exact rfl)); done) (hn := by exact rfl) (hB := by (repeat (first | exact Rho.here | exact Rho.nil | (refine Rho.there ?_ ?_; exact rfl) | exact RnL.nil | apply RnL.cons | exact RoL.nil | exact Lent.nil | exact Apd.nil | apply Apd.cons | (refine Lent.cons ?_ ?_ ?_ ?_ ?_) | (refine RoL.cons ?_ ?_ ?_) | (refine RnL.same ?_; exact rfl) | constructor | exact rfl)); done) (htg := by (repeat (first | exact LE.nil | apply LE.cons)); done) (h := ?_)) | (apply AR.kBox; refine AR.sBox (h := ?_)) | (apply AR.kAlloc; refine AR.sAlloc (h := ?_)) | (apply AR.kStore; refine AR.sStore (h := ?_)) | (apply AR.kP; first | refine AR.sP (h := ?_) | refine AR.sPi (h := ?_)))
    | (apply AR.kNil; refine AR.sNil (h := ?_)))
    all_goals try (exfalso; omega)
    all_goals repeat' (first
    | apply AO.nil
    | (apply AO.kCall 113; refine AO.callM [(1000000, 1000000)] (hg := (gT)) (hc := by exact rfl) (ha := by (repeat constructor); done) (hl := by (repeat (first | exact LeL.nil | (refine LeL.cons (Le.refl _) ?_) | (refine LeL.cons Le.gr ?_) | (refine LeL.cons Le.nil ?_))); done) (hi := by (repeat (first | exact Rho.here | exact Rho.nil | (refine Rho.there ?_ ?_; exact rfl) | exact RnL.nil | apply RnL.cons | exact RoL.nil | exact Lent.nil | exact Apd.nil | apply Apd.cons | (refine Lent.cons ?_ ?_ ?_ ?_ ?_) | (refine RoL.cons ?_ ?_ ?_) | (refine RnL.same ?_; exact rfl) | constructor | exact rfl)); done) (ht := by exact rfl) (hr := by (repeat (first | exact Rho.here | exact Rho.nil | (refine Rho.there ?_ ?_; exact rfl) | exact RnL.nil | apply RnL.cons | exact RoL.nil | exact Lent.nil | exact Apd.nil | apply Apd.cons | (refine Lent.cons ?_ ?_ ?_ ?_ ?_) | (refine RoL.cons ?_ ?_ ?_) | (refine RnL.same ?_; exact rfl) | constructor | exact rfl)); done) (ho := by (repeat (first | exact Rho.here | exact Rho.nil | (refine Rho.there ?_ ?_; exact rfl) | exact RnL.nil | apply RnL.cons | exact RoL.nil | exact Lent.nil | exact Apd.nil | apply Apd.cons | (refine Lent.cons ?_ ?_ ?_ ?_ ?_) | (refine RoL.cons ?_ ?_ ?_) | (refine RnL.same ?_; exact rfl) | constructor | exact rfl)); done) (hn := by exact rfl) (hB := by (repeat (first | exact Rho.here | exact Rho.nil | (refine Rho.there ?_ ?_; exact rfl) | exact RnL.nil | apply RnL.cons | exact RoL.nil | exact Lent.nil | exact Apd.nil | apply Apd.cons | (refine Lent.cons ?_ ?_ ?_ ?_ ?_) | (refine RoL.cons ?_ ?_ ?_) | (refine RnL.same ?_; exact rfl) | constructor | exact rfl)); done) (h := ?_))
    | (apply AO.kBox; refine AO.sBox (h := ?_))
    | (apply AO.kAlloc; refine AO.sAlloc (h := ?_))
    | (apply AO.kStore; first | refine AO.sStore (h := ?_) | refine AO.sStB (h := ?_))
    | (apply AO.kP; first | refine AO.sP (h := ?_) | refine AO.sPi (h := ?_) | refine AO.sLoadB (h := ?_))
    | apply AW.seq
    | (apply AW.kR; refine AW.sR (h := ?_))
    | apply AW.skip
    | apply AW.block
    | apply AW.out
    | (apply AW.kE; refine AW.sE (h := ?_))
    | apply AW.label
    | (apply AW.kRd; refine AW.sRd (h := ?_))
    | ((first | (apply AO.kG; first | refine AO.sgt (h1 := fun h => ?_) (h2 := fun h => ?_) | refine AO.sgf (h1 := fun h => ?_) (h2 := fun h => ?_) | refine AO.sgs (h := ?_)) | (apply AW.kC; refine AW.sC (h1 := fun h => ?_) (h2 := fun h => ?_)) | (apply AR.kAny; apply AR.kG; first | refine AR.sgt (h1 := fun h => ?_) (h2 := fun h => ?_) | refine AR.sgf (h1 := fun h => ?_) (h2 := fun h => ?_) | refine AR.sgs (h := ?_))) <;> (try (first | exact Bool.noConfusion h | exact absurd h (by decide) | (simp at h; done) | (rw [h]; try simp only [nrm] at h; try rw [h]; try (exfalso; omega)) | skip)))
    | (apply AR.kAny; first | (apply AR.kCall 113; refine AR.callM [(1000000, 1000000)] (hg := (gT)) (hc := by exact rfl) (ha := by (repeat constructor); done) (hl := by (repeat (first | exact LeL.nil | (refine LeL.cons (Le.refl _) ?_) | (refine LeL.cons Le.gr ?_) | (refine LeL.cons Le.nil ?_))); done) (hi := by (repeat (first | exact Rho.here | exact Rho.nil | (refine Rho.there ?_ ?_; exact rfl) | exact RnL.nil | apply RnL.cons | exact RoL.nil | exact Lent.nil | exact Apd.nil | apply Apd.cons | (refine Lent.cons ?_ ?_ ?_ ?_ ?_) | (refine RoL.cons ?_ ?_ ?_) | (refine RnL.same ?_; exact rfl) | constructor | exact rfl)); done) (ht := by exact rfl) (hr := by (repeat (first | exact Rho.here | exact Rho.nil | (refine Rho.there ?_ ?_; exact rfl) | exact RnL.nil | apply RnL.cons | exact RoL.nil | exact Lent.nil | exact Apd.nil | apply Apd.cons | (refine Lent.cons ?_ ?_ ?_ ?_ ?_) | (refine RoL.cons ?_ ?_ ?_) | (refine RnL.same ?_; exact rfl) | constructor | exact rfl)); done) (ho := by (repeat (first | exact Rho.here | exact Rho.nil | (refine Rho.there ?_ ?_; exact rfl) | exact RnL.nil | apply RnL.cons | exact RoL.nil | exact Lent.nil | exact Apd.nil | apply Apd.cons | (refine Lent.cons ?_ ?_ ?_ ?_ ?_) | (refine RoL.cons ?_ ?_ ?_) | (refine RnL.same ?_; exact rfl) | constructor | exact rfl)); done) (hn := by exact rfl) (hB := by (repeat (first | exact Rho.here | exact Rho.nil | (refine Rho.there ?_ ?_; exact rfl) | exact RnL.nil | apply RnL.cons | exact RoL.nil | exact Lent.nil | exact Apd.nil | apply Apd.cons | (refine Lent.cons ?_ ?_ ?_ ?_ ?_) | (refine RoL.cons ?_ ?_ ?_) | (refine RnL.same ?_; exact rfl) | constructor | exact rfl)); done) (htg := by (repeat (first | exact LE.nil | apply LE.cons)); done) (h := ?_)) | (apply AR.kBox; refine AR.sBox (h := ?_)) | (apply AR.kAlloc; refine AR.sAlloc (h := ?_)) | (apply AR.kStore; refine AR.sStore (h := ?_)) | (apply AR.kP; first | refine AR.sP (h := ?_) | refine AR.sPi (h := ?_)))
    | (apply AR.kNil; refine AR.sNil (h := ?_)))
    all_goals first
      | (exfalso; omega)
      | (exfalso; simp at h; omega)
      | (exfalso; simp at *; omega)
      | exact AW.ret (hD rfl (.agg (.cons (Lx.i (u8k v256).symm) (.cons .refl (.cons .refl (.cons .refl (.cons .refl (.cons .refl .nil))))))) (.cons .refl .nil))
      | skip
  · have ek : (kdP k r1).2 = r1 := by rw [kdP, if_neg hk]; rfl
    have gT := gTxt _ h1
    have h3 := (Pf.tx 16).ok h1
    rw [ek]
    generalize txP 16 r1 = z at *
    obtain ⟨key, r3⟩ := z
    dsimp only at *
    have gV := gGetText r3 32 h3.1 h3.2
    have gB := gGet32 r3 h3.1 h3.2
    have vb : takeV r3 4 < 4294967296 := takeV_lt r3 4
    have h4 : (takeR r3 4).ok := (Pf.tk 4).ok h3
    have gP := gGet16 (takeR r3 4) h4.1 h4.2
    have vd : takeV (takeR r3 4) 2 < 65536 := takeV_lt _ 2
    have h5 : (takeR (takeR r3 4) 2).ok := (Pf.tk 2).ok h4
    have gA := gTxt _ h5
    refine Good.wM tabOk mixed Try.func117 (N := 44) (by kernel_rfl) rfl (by (repeat (first | exact LE.nil | apply LE.cons)); done) (by (repeat (first | exact LE.nil | apply LE.cons)); done) (by exact rfl) fun D hD F => ?_
    repeat' (first
    | apply AO.nil
    | (apply AO.kCall 77; refine AO.callM [(1000000, 1000000)] (hg := (g8)) (hc := by exact rfl) (ha := by (repeat constructor); done) (hl := by (repeat (first | exact LeL.nil | (refine LeL.cons (Le.refl _) ?_) | (refine LeL.cons Le.gr ?_) | (refine LeL.cons Le.nil ?_))); done) (hi := by (repeat (first | exact Rho.here | exact Rho.nil | (refine Rho.there ?_ ?_; exact rfl) | exact RnL.nil | apply RnL.cons | exact RoL.nil | exact Lent.nil | exact Apd.nil | apply Apd.cons | (refine Lent.cons ?_ ?_ ?_ ?_ ?_) | (refine RoL.cons ?_ ?_ ?_) | (refine RnL.same ?_; exact rfl) | constructor | exact rfl)); done) (ht := by exact rfl) (hr := by (repeat (first | exact Rho.here | exact Rho.nil | (refine Rho.there ?_ ?_; exact rfl) | exact RnL.nil | apply RnL.cons | exact RoL.nil | exact Lent.nil | exact Apd.nil | apply Apd.cons | (refine Lent.cons ?_ ?_ ?_ ?_ ?_) | (refine RoL.cons ?_ ?_ ?_) | (refine RnL.same ?_; exact rfl) | constructor | exact rfl)); done) (ho := by (repeat (first | exact Rho.here | exact Rho.nil | (refine Rho.there ?_ ?_; exact rfl) | exact RnL.nil | apply RnL.cons | exact RoL.nil | exact Lent.nil | exact Apd.nil | apply Apd.cons | (refine Lent.cons ?_ ?_ ?_ ?_ ?_) | (refine RoL.cons ?_ ?_ ?_) | (refine RnL.same ?_; exact rfl) | constructor | exact rfl)); done) (hn := by exact rfl) (hB := by (repeat (first | exact Rho.here | exact Rho.nil | (refine Rho.there ?_ ?_; exact rfl) | exact RnL.nil | apply RnL.cons | exact RoL.nil | exact Lent.nil | exact Apd.nil | apply Apd.cons | (refine Lent.cons ?_ ?_ ?_ ?_ ?_) | (refine RoL.cons ?_ ?_ ?_) | (refine RnL.same ?_; exact rfl) | constructor | exact rfl)); done) (h := ?_))
    | (apply AO.kBox; refine AO.sBox (h := ?_))
    | (apply AO.kAlloc; refine AO.sAlloc (h := ?_))
    | (apply AO.kStore; first | refine AO.sStore (h := ?_) | refine AO.sStB (h := ?_))
    | (apply AO.kP; first | refine AO.sP (h := ?_) | refine AO.sPi (h := ?_) | refine AO.sLoadB (h := ?_))
    | apply AW.seq
    | (apply AW.kR; refine AW.sR (h := ?_))
    | apply AW.skip
    | apply AW.block
    | apply AW.out
    | (apply AW.kE; refine AW.sE (h := ?_))
    | apply AW.label
    | (apply AW.kRd; refine AW.sRd (h := ?_))
    | ((first | (apply AO.kG; first | refine AO.sgt (h1 := fun h => ?_) (h2 := fun h => ?_) | refine AO.sgf (h1 := fun h => ?_) (h2 := fun h => ?_) | refine AO.sgs (h := ?_)) | (apply AW.kC; refine AW.sC (h1 := fun h => ?_) (h2 := fun h => ?_)) | (apply AR.kAny; apply AR.kG; first | refine AR.sgt (h1 := fun h => ?_) (h2 := fun h => ?_) | refine AR.sgf (h1 := fun h => ?_) (h2 := fun h => ?_) | refine AR.sgs (h := ?_))) <;> (try (first | exact Bool.noConfusion h | exact absurd h (by decide) | (simp at h; done) | (rw [h]; try simp only [nrm] at h; try rw [h]; try (exfalso; omega)) | skip)))
    | (apply AR.kAny; first | (apply AR.kCall 77; refine AR.callM [(1000000, 1000000)] (hg := (g8)) (hc := by exact rfl) (ha := by (repeat constructor); done) (hl := by (repeat (first | exact LeL.nil | (refine LeL.cons (Le.refl _) ?_) | (refine LeL.cons Le.gr ?_) | (refine LeL.cons Le.nil ?_))); done) (hi := by (repeat (first | exact Rho.here | exact Rho.nil | (refine Rho.there ?_ ?_; exact rfl) | exact RnL.nil | apply RnL.cons | exact RoL.nil | exact Lent.nil | exact Apd.nil | apply Apd.cons | (refine Lent.cons ?_ ?_ ?_ ?_ ?_) | (refine RoL.cons ?_ ?_ ?_) | (refine RnL.same ?_; exact rfl) | constructor | exact rfl)); done) (ht := by exact rfl) (hr := by (repeat (first | exact Rho.here | exact Rho.nil | (refine Rho.there ?_ ?_; exact rfl) | exact RnL.nil | apply RnL.cons | exact RoL.nil | exact Lent.nil | exact Apd.nil | apply Apd.cons | (refine Lent.cons ?_ ?_ ?_ ?_ ?_) | (refine RoL.cons ?_ ?_ ?_) | (refine RnL.same ?_; exact rfl) | constructor | exact rfl)); done) (ho := by (repeat (first | exact Rho.here | exact Rho.nil | (refine Rho.there ?_ ?_; exact rfl) | exact RnL.nil | apply RnL.cons | exact RoL.nil | exact Lent.nil | exact Apd.nil | apply Apd.cons | (refine Lent.cons ?_ ?_ ?_ ?_ ?_) | (refine RoL.cons ?_ ?_ ?_) | (refine RnL.same ?_; exact rfl) | constructor | exact rfl)); done) (hn := by exact rfl) (hB := by (repeat (first | exact Rho.here | exact Rho.nil | (refine Rho.there ?_ ?_; exact rfl) | exact RnL.nil | apply RnL.cons | exact RoL.nil | exact Lent.nil | exact Apd.nil | apply Apd.cons | (refine Lent.cons ?_ ?_ ?_ ?_ ?_) | (refine RoL.cons ?_ ?_ ?_) | (refine RnL.same ?_; exact rfl) | constructor | exact rfl)); done) (htg := by (repeat (first | exact LE.nil | apply LE.cons)); done) (h := ?_)) | (apply AR.kBox; refine AR.sBox (h := ?_)) | (apply AR.kAlloc; refine AR.sAlloc (h := ?_)) | (apply AR.kStore; refine AR.sStore (h := ?_)) | (apply AR.kP; first | refine AR.sP (h := ?_) | refine AR.sPi (h := ?_)))
    | (apply AR.kNil; refine AR.sNil (h := ?_)))
    all_goals try (exfalso; omega)
    repeat' (first
    | apply AO.nil
    | (apply AO.kCall 113; refine AO.callM [(1000000, 1000000)] (hg := (gT)) (hc := by exact rfl) (ha := by (repeat constructor); done) (hl := by (repeat (first | exact LeL.nil | (refine LeL.cons (Le.refl _) ?_) | (refine LeL.cons Le.gr ?_) | (refine LeL.cons Le.nil ?_))); done) (hi := by (repeat (first | exact Rho.here | exact Rho.nil | (refine Rho.there ?_ ?_; exact rfl) | exact RnL.nil | apply RnL.cons | exact RoL.nil | exact Lent.nil | exact Apd.nil | apply Apd.cons | (refine Lent.cons ?_ ?_ ?_ ?_ ?_) | (refine RoL.cons ?_ ?_ ?_) | (refine RnL.same ?_; exact rfl) | constructor | exact rfl)); done) (ht := by exact rfl) (hr := by (repeat (first | exact Rho.here | exact Rho.nil | (refine Rho.there ?_ ?_; exact rfl) | exact RnL.nil | apply RnL.cons | exact RoL.nil | exact Lent.nil | exact Apd.nil | apply Apd.cons | (refine Lent.cons ?_ ?_ ?_ ?_ ?_) | (refine RoL.cons ?_ ?_ ?_) | (refine RnL.same ?_; exact rfl) | constructor | exact rfl)); done) (ho := by (repeat (first | exact Rho.here | exact Rho.nil | (refine Rho.there ?_ ?_; exact rfl) | exact RnL.nil | apply RnL.cons | exact RoL.nil | exact Lent.nil | exact Apd.nil | apply Apd.cons | (refine Lent.cons ?_ ?_ ?_ ?_ ?_) | (refine RoL.cons ?_ ?_ ?_) | (refine RnL.same ?_; exact rfl) | constructor | exact rfl)); done) (hn := by exact rfl) (hB := by (repeat (first | exact Rho.here | exact Rho.nil | (refine Rho.there ?_ ?_; exact rfl) | exact RnL.nil | apply RnL.cons | exact RoL.nil | exact Lent.nil | exact Apd.nil | apply Apd.cons | (refine Lent.cons ?_ ?_ ?_ ?_ ?_) | (refine RoL.cons ?_ ?_ ?_) | (refine RnL.same ?_; exact rfl) | constructor | exact rfl)); done) (h := ?_))
    | (apply AO.kCall 114; refine AO.callM [(1000000, 1000000)] (hg := (gV)) (hc := by exact rfl) (ha := by (repeat constructor); done) (hl := by (repeat (first | exact LeL.nil | (refine LeL.cons (Le.refl _) ?_) | (refine LeL.cons Le.gr ?_) | (refine LeL.cons Le.nil ?_))); done) (hi := by (repeat (first | exact Rho.here | exact Rho.nil | (refine Rho.there ?_ ?_; exact rfl) | exact RnL.nil | apply RnL.cons | exact RoL.nil | exact Lent.nil | exact Apd.nil | apply Apd.cons | (refine Lent.cons ?_ ?_ ?_ ?_ ?_) | (refine RoL.cons ?_ ?_ ?_) | (refine RnL.same ?_; exact rfl) | constructor | exact rfl)); done) (ht := by exact rfl) (hr := by (repeat (first | exact Rho.here | exact Rho.nil | (refine Rho.there ?_ ?_; exact rfl) | exact RnL.nil | apply RnL.cons | exact RoL.nil | exact Lent.nil | exact Apd.nil | apply Apd.cons | (refine Lent.cons ?_ ?_ ?_ ?_ ?_) | (refine RoL.cons ?_ ?_ ?_) | (refine RnL.same ?_; exact rfl) | constructor | exact rfl)); done) (ho := by (repeat (first | exact Rho.here | exact Rho.nil | (refine Rho.there ?_ ?_; exact rfl) | exact RnL.nil | apply RnL.cons | exact RoL.nil | exact Lent.nil | exact Apd.nil | apply Apd.cons | (refine Lent.cons ?_ ?_ ?_ ?_ ?_) | (refine RoL.cons ?_ ?_ ?_) | (refine RnL.same ?_; exact rfl) | constructor | exact rfl)); done) (hn := by exact rfl) (hB := by (repeat (first | exact Rho.here | exact Rho.nil | (refine Rho.there ?_ ?_; exact rfl) | exact RnL.nil | apply RnL.cons | exact RoL.nil | exact Lent.nil | exact Apd.nil | apply Apd.cons | (refine Lent.cons ?_ ?_ ?_ ?_ ?_) | (refine RoL.cons ?_ ?_ ?_) | (refine RnL.same ?_; exact rfl) | constructor | exact rfl)); done) (h := ?_))
    | (apply AO.kCall 115; refine AO.callM [(1000000, 1000000)] (hg := (gB)) (hc := by exact rfl) (ha := by (repeat constructor); done) (hl := by (repeat (first | exact LeL.nil | (refine LeL.cons (Le.refl _) ?_) | (refine LeL.cons Le.gr ?_) | (refine LeL.cons Le.nil ?_))); done) (hi := by (repeat (first | exact Rho.here | exact Rho.nil | (refine Rho.there ?_ ?_; exact rfl) | exact RnL.nil | apply RnL.cons | exact RoL.nil | exact Lent.nil | exact Apd.nil | apply Apd.cons | (refine Lent.cons ?_ ?_ ?_ ?_ ?_) | (refine RoL.cons ?_ ?_ ?_) | (refine RnL.same ?_; exact rfl) | constructor | exact rfl)); done) (ht := by exact rfl) (hr := by (repeat (first | exact Rho.here | exact Rho.nil | (refine Rho.there ?_ ?_; exact rfl) | exact RnL.nil | apply RnL.cons | exact RoL.nil | exact Lent.nil | exact Apd.nil | apply Apd.cons | (refine Lent.cons ?_ ?_ ?_ ?_ ?_) | (refine RoL.cons ?_ ?_ ?_) | (refine RnL.same ?_; exact rfl) | constructor | exact rfl)); done) (ho := by (repeat (first | exact Rho.here | exact Rho.nil | (refine Rho.there ?_ ?_; exact rfl) | exact RnL.nil | apply RnL.cons | exact RoL.nil | exact Lent.nil | exact Apd.nil | apply Apd.cons | (refine Lent.cons ?_ ?_ ?_ ?_ ?_) | (refine RoL.cons ?_ ?_ ?_) | (refine RnL.same ?_; exact rfl) | constructor | exact rfl)); done) (hn := by exact rfl) (hB := by (repeat (first | exact Rho.here | exact Rho.nil | (refine Rho.there ?_ ?_; exact rfl) | exact RnL.nil | apply RnL.cons | exact RoL.nil | exact Lent.nil | exact Apd.nil | apply Apd.cons | (refine Lent.cons ?_ ?_ ?_ ?_ ?_) | (refine RoL.cons ?_ ?_ ?_) | (refine RnL.same ?_; exact rfl) | constructor | exact rfl)); done) (h := ?_))
    | (apply AO.kCall 116; refine AO.callM [(1000000, 1000000)] (hg := (gP)) (hc := by exact rfl) (ha := by (repeat constructor); done) (hl := by (repeat (first | exact LeL.nil | (refine LeL.cons (Le.refl _) ?_) | (refine LeL.cons Le.gr ?_) | (refine LeL.cons Le.nil ?_))); done) (hi := by (repeat (first | exact Rho.here | exact Rho.nil | (refine Rho.there ?_ ?_; exact rfl) | exact RnL.nil | apply RnL.cons | exact RoL.nil | exact Lent.nil | exact Apd.nil | apply Apd.cons | (refine Lent.cons ?_ ?_ ?_ ?_ ?_) | (refine RoL.cons ?_ ?_ ?_) | (refine RnL.same ?_; exact rfl) | constructor | exact rfl)); done) (ht := by exact rfl) (hr := by (repeat (first | exact Rho.here | exact Rho.nil | (refine Rho.there ?_ ?_; exact rfl) | exact RnL.nil | apply RnL.cons | exact RoL.nil | exact Lent.nil | exact Apd.nil | apply Apd.cons | (refine Lent.cons ?_ ?_ ?_ ?_ ?_) | (refine RoL.cons ?_ ?_ ?_) | (refine RnL.same ?_; exact rfl) | constructor | exact rfl)); done) (ho := by (repeat (first | exact Rho.here | exact Rho.nil | (refine Rho.there ?_ ?_; exact rfl) | exact RnL.nil | apply RnL.cons | exact RoL.nil | exact Lent.nil | exact Apd.nil | apply Apd.cons | (refine Lent.cons ?_ ?_ ?_ ?_ ?_) | (refine RoL.cons ?_ ?_ ?_) | (refine RnL.same ?_; exact rfl) | constructor | exact rfl)); done) (hn := by exact rfl) (hB := by (repeat (first | exact Rho.here | exact Rho.nil | (refine Rho.there ?_ ?_; exact rfl) | exact RnL.nil | apply RnL.cons | exact RoL.nil | exact Lent.nil | exact Apd.nil | apply Apd.cons | (refine Lent.cons ?_ ?_ ?_ ?_ ?_) | (refine RoL.cons ?_ ?_ ?_) | (refine RnL.same ?_; exact rfl) | constructor | exact rfl)); done) (h := ?_))
    | (apply AO.kBox; refine AO.sBox (h := ?_))
    | (apply AO.kAlloc; refine AO.sAlloc (h := ?_))
    | (apply AO.kStore; first | refine AO.sStore (h := ?_) | refine AO.sStB (h := ?_))
    | (apply AO.kP; first | refine AO.sP (h := ?_) | refine AO.sPi (h := ?_) | refine AO.sLoadB (h := ?_))
    | apply AW.seq
    | (apply AW.kR; refine AW.sR (h := ?_))
    | apply AW.skip
    | apply AW.block
    | apply AW.out
    | (apply AW.kE; refine AW.sE (h := ?_))
    | apply AW.label
    | (apply AW.kRd; refine AW.sRd (h := ?_))
    | ((first | (apply AO.kG; first | refine AO.sgt (h1 := fun h => ?_) (h2 := fun h => ?_) | refine AO.sgf (h1 := fun h => ?_) (h2 := fun h => ?_) | refine AO.sgs (h := ?_)) | (apply AW.kC; refine AW.sC (h1 := fun h => ?_) (h2 := fun h => ?_)) | (apply AR.kAny; apply AR.kG; first | refine AR.sgt (h1 := fun h => ?_) (h2 := fun h => ?_) | refine AR.sgf (h1 := fun h => ?_) (h2 := fun h => ?_) | refine AR.sgs (h := ?_))) <;> (try (first | exact Bool.noConfusion h | exact absurd h (by decide) | (simp at h; done) | (rw [h]; try simp only [nrm] at h; try rw [h]; try (exfalso; omega)) | skip)))
    | (apply AR.kAny; first | (apply AR.kCall 113; refine AR.callM [(1000000, 1000000)] (hg := (gA)) (hc := by exact rfl) (ha := by (repeat constructor); done) (hl := by (repeat (first | exact LeL.nil | (refine LeL.cons (Le.refl _) ?_) | (refine LeL.cons Le.gr ?_) | (refine LeL.cons Le.nil ?_))); done) (hi := by (repeat (first | exact Rho.here | exact Rho.nil | (refine Rho.there ?_ ?_; exact rfl) | exact RnL.nil | apply RnL.cons | exact RoL.nil | exact Lent.nil | exact Apd.nil | apply Apd.cons | (refine Lent.cons ?_ ?_ ?_ ?_ ?_) | (refine RoL.cons ?_ ?_ ?_) | (refine RnL.same ?_; exact rfl) | constructor | exact rfl)); done) (ht := by exact rfl) (hr := by (repeat (first | exact Rho.here | exact Rho.nil | (refine Rho.there ?_ ?_; exact rfl) | exact RnL.nil | apply RnL.cons | exact RoL.nil | exact Lent.nil | exact Apd.nil | apply Apd.cons | (refine Lent.cons ?_ ?_ ?_ ?_ ?_) | (refine RoL.cons ?_ ?_ ?_) | (refine RnL.same ?_; exact rfl) | constructor | exact rfl)); done) (ho := by (repeat (first | exact Rho.here | exact Rho.nil | (refine Rho.there ?_ ?_; exact rfl) | exact RnL.nil | apply RnL.cons | exact RoL.nil | exact Lent.nil | exact Apd.nil | apply Apd.cons | (refine Lent.cons ?_ ?_ ?_ ?_ ?_) | (refine RoL.cons ?_ ?_ ?_) | (refine RnL.same ?_; exact rfl) | constructor | exact rfl)); done) (hn := by exact rfl) (hB := by (repeat (first | exact Rho.here | exact Rho.nil | (refine Rho.there ?_ ?_; exact rfl) | exact RnL.nil | apply RnL.cons | exact RoL.nil | exact Lent.nil | exact Apd.nil | apply Apd.cons | (refine Lent.cons ?_ ?_ ?_ ?_ ?_) | (refine RoL.cons ?_ ?_ ?_) | (refine RnL.same ?_; exact rfl) | constructor | exact rfl)); done) (htg := by (repeat (first | exact LE.nil | apply LE.cons)); done) (h := ?_)) | (apply AR.kCall 114; refine AR.callM [(1000000, 1000000)] (hg := (gV)) (hc := by exact rfl) (ha := by (repeat constructor); done) (hl := by (repeat (first | exact LeL.nil | (refine LeL.cons (Le.refl _) ?_) | (refine LeL.cons Le.gr ?_) | (refine LeL.cons Le.nil ?_))); done) (hi := by (repeat (first | exact Rho.here | exact Rho.nil | (refine Rho.there ?_ ?_; exact rfl) | exact RnL.nil | apply RnL.cons | exact RoL.nil | exact Lent.nil | exact Apd.nil | apply Apd.cons | (refine Lent.cons ?_ ?_ ?_ ?_ ?_) | (refine RoL.cons ?_ ?_ ?_) | (refine RnL.same ?_; exact rfl) | constructor | exact rfl)); done) (ht := by exact rfl) (hr := by (repeat (first | exact Rho.here | exact Rho.nil | (refine Rho.there ?_ ?_; exact rfl) | exact RnL.nil | apply RnL.cons | exact RoL.nil | exact Lent.nil | exact Apd.nil | apply Apd.cons | (refine Lent.cons ?_ ?_ ?_ ?_ ?_) | (refine RoL.cons ?_ ?_ ?_) | (refine RnL.same ?_; exact rfl) | constructor | exact rfl)); done) (ho := by (repeat (first | exact Rho.here | exact Rho.nil | (refine Rho.there ?_ ?_; exact rfl) | exact RnL.nil | apply RnL.cons | exact RoL.nil | exact Lent.nil | exact Apd.nil | apply Apd.cons | (refine Lent.cons ?_ ?_ ?_ ?_ ?_) | (refine RoL.cons ?_ ?_ ?_) | (refine RnL.same ?_; exact rfl) | constructor | exact rfl)); done) (hn := by exact rfl) (hB := by (repeat (first | exact Rho.here | exact Rho.nil | (refine Rho.there ?_ ?_; exact rfl) | exact RnL.nil | apply RnL.cons | exact RoL.nil | exact Lent.nil | exact Apd.nil | apply Apd.cons | (refine Lent.cons ?_ ?_ ?_ ?_ ?_) | (refine RoL.cons ?_ ?_ ?_) | (refine RnL.same ?_; exact rfl) | constructor | exact rfl)); done) (htg := by (repeat (first | exact LE.nil | apply LE.cons)); done) (h := ?_)) | (apply AR.kCall 115; refine AR.callM [(1000000, 1000000)] (hg := (gB)) (hc := by exact rfl) (ha := by (repeat constructor); done) (hl := by (repeat (first | exact LeL.nil | (refine LeL.cons (Le.refl _) ?_) | (refine LeL.cons Le.gr ?_) | (refine LeL.cons Le.nil ?_))); done) (hi := by (repeat (first | exact Rho.here | exact Rho.nil | (refine Rho.there ?_ ?_; exact rfl) | exact RnL.nil | apply RnL.cons | exact RoL.nil | exact Lent.nil | exact Apd.nil | apply Apd.cons | (refine Lent.cons ?_ ?_ ?_ ?_ ?_) | (refine RoL.cons ?_ ?_ ?_) | (refine RnL.same ?_; exact rfl) | constructor | exact rfl)); done) (ht := by exact rfl) (hr := by (repeat (first | exact Rho.here | exact Rho.nil | (refine Rho.there ?_ ?_; exact rfl) | exact RnL.nil | apply RnL.cons | exact RoL.nil | exact Lent.nil | exact Apd.nil | apply Apd.cons | (refine Lent.cons ?_ ?_ ?_ ?_ ?_) | (refine RoL.cons ?_ ?_ ?_) | (refine RnL.same ?_; exact rfl) | constructor | exact rfl)); done) (ho := by (repeat (first | exact Rho.here | exact Rho.nil | (refine Rho.there ?_ ?_; exact rfl) | exact RnL.nil | apply RnL.cons | exact RoL.nil | exact Lent.nil | exact Apd.nil | apply Apd.cons | (refine Lent.cons ?_ ?_ ?_ ?_ ?_) | (refine RoL.cons ?_ ?_ ?_) | (refine RnL.same ?_; exact rfl) | constructor | exact rfl)); done) (hn := by exact rfl) (hB := by (repeat (first | exact Rho.here | exact Rho.nil | (refine Rho.there ?_ ?_; exact rfl) | exact RnL.nil | apply RnL.cons | exact RoL.nil | exact Lent.nil | exact Apd.nil | apply Apd.cons | (refine Lent.cons ?_ ?_ ?_ ?_ ?_) | (refine RoL.cons ?_ ?_ ?_) | (refine RnL.same ?_; exact rfl) | constructor | exact rfl)); done) (htg := by (repeat (first | exact LE.nil | apply LE.cons)); done) (h := ?_)) | (apply AR.kCall 116; refine AR.callM [(1000000, 1000000)] (hg := (gP)) (hc := by exact rfl) (ha := by (repeat constructor); done) (hl := by (repeat (first | exact LeL.nil | (refine LeL.cons (Le.refl _) ?_) | (refine LeL.cons Le.gr ?_) | (refine LeL.cons Le.nil ?_))); done) (hi := by (repeat (first | exact Rho.here | exact Rho.nil | (refine Rho.there ?_ ?_; exact rfl) | exact RnL.nil | apply RnL.cons | exact RoL.nil | exact Lent.nil | exact Apd.nil | apply Apd.cons | (refine Lent.cons ?_ ?_ ?_ ?_ ?_) | (refine RoL.cons ?_ ?_ ?_) | (refine RnL.same ?_; exact rfl) | constructor | exact rfl)); done) (ht := by exact rfl) (hr := by (repeat (first | exact Rho.here | exact Rho.nil | (refine Rho.there ?_ ?_; exact rfl) | exact RnL.nil | apply RnL.cons | exact RoL.nil | exact Lent.nil | exact Apd.nil | apply Apd.cons | (refine Lent.cons ?_ ?_ ?_ ?_ ?_) | (refine RoL.cons ?_ ?_ ?_) | (refine RnL.same ?_; exact rfl) | constructor | exact rfl)); done) (ho := by (repeat (first | exact Rho.here | exact Rho.nil | (refine Rho.there ?_ ?_; exact rfl) | exact RnL.nil | apply RnL.cons | exact RoL.nil | exact Lent.nil | exact Apd.nil | apply Apd.cons | (refine Lent.cons ?_ ?_ ?_ ?_ ?_) | (refine RoL.cons ?_ ?_ ?_) | (refine RnL.same ?_; exact rfl) | constructor | exact rfl)); done) (hn := by exact rfl) (hB := by (repeat (first | exact Rho.here | exact Rho.nil | (refine Rho.there ?_ ?_; exact rfl) | exact RnL.nil | apply RnL.cons | exact RoL.nil | exact Lent.nil | exact Apd.nil | apply Apd.cons | (refine Lent.cons ?_ ?_ ?_ ?_ ?_) | (refine RoL.cons ?_ ?_ ?_) | (refine RnL.same ?_; exact rfl) | constructor | exact rfl)); done) (htg := by (repeat (first | exact LE.nil | apply LE.cons)); done) (h := ?_)) | (apply AR.kBox; refine AR.sBox (h := ?_)) | (apply AR.kAlloc; refine AR.sAlloc (h := ?_)) | (apply AR.kStore; refine AR.sStore (h := ?_)) | (apply AR.kP; first | refine AR.sP (h := ?_) | refine AR.sPi (h := ?_)))
    | (apply AR.kNil; refine AR.sNil (h := ?_)))
    all_goals try (exfalso; omega)
    · obtain rfl : k = 1 := by omega
      exact AW.ret (hD rfl (.agg (.cons (Lx.i rfl) (.cons .refl (.cons .refl (.cons .refl (.cons .refl (.cons .refl .nil))))))) (.cons .refl .nil))
    · obtain rfl : k = 3 := by omega
      exact AW.ret (hD rfl (.agg (.cons (Lx.i rfl) (.cons .refl (.cons .refl (.cons (Lx.i (b32k vb).symm) (.cons (Lx.i (b16k vd).symm) (.cons .refl .nil))))))) (.cons .refl .nil))
    · rw [msQ, if_neg (by omega), if_neg (by omega)] at hD
      exact AW.ret (hD rfl (.agg (.cons (Lx.i (u8k v256).symm) (.cons .refl (.cons .refl (.cons .refl (.cons .refl (.cons .refl .nil))))))) (.cons .refl .nil))
end Go.Proofs.Ytmfonbehcfjjgaa.Mv

/- The codec: the program's reader of an inner node. Under no condition. -/
namespace Go.Proofs.Ytmfonbehcfjjgaa.Mv
open Go Go.Proofs
set_option linter.unusedSimpArgs false
set_option linter.unusedVariables false
set_option maxRecDepth 10000
set_option maxHeartbeats 4000000
attribute [local irreducible] AW AO AR

theorem inner_eq (r : Rd) : innerP r = (⟨false, [], (rep (txP 16) ((cnt 8 r).1 - 1) (rep edP (cnt 8 r).1 (c0P (cnt 8 r).1 (cnt 8 r).2).2).2).1, (rep edP (cnt 8 r).1 (c0P (cnt 8 r).1 (cnt 8 r).2).2).1,
    (rep msP (cnt 16 (rep (txP 16) ((cnt 8 r).1 - 1) (rep edP (cnt 8 r).1 (c0P (cnt 8 r).1 (cnt 8 r).2).2).2).2).1 (cnt 16 (rep (txP 16) ((cnt 8 r).1 - 1) (rep edP (cnt 8 r).1 (c0P (cnt 8 r).1 (cnt 8 r).2).2).2).2).2).1⟩,
    (rep msP (cnt 16 (rep (txP 16) ((cnt 8 r).1 - 1) (rep edP (cnt 8 r).1 (c0P (cnt 8 r).1 (cnt 8 r).2).2).2).2).1 (cnt 16 (rep (txP 16) ((cnt 8 r).1 - 1) (rep edP (cnt 8 r).1 (c0P (cnt 8 r).1 (cnt 8 r).2).2).2).2).2).2) := rfl
theorem gInner (r : Rd) (hr : r.ok) : Good Try.prog 79 [rdP] [(1000000, .bx r.av)] (.agg (innerP r).1.av) [(1000000, .bx (innerP r).2.av)] := by
  have gC := gCnt r 8 hr
  have lc := cnt_le 8 r
  have hc := (pf_cnt 8).ok hr
  rw [inner_eq]
  generalize (cnt 8 r).1 = c at *
  generalize (cnt 8 r).2 = r1 at *
  have gF := gFail r1 3
  have h2 := (pf_c0 c).ok hc
  have e2 : (c0P c r1).2 = if c = 0 then failR r1 3 else r1 := by unfold c0P; split <;> rfl
  generalize (c0P c r1).2 = r2 at *
  have hE := fun q => (pf_ed.rep q).ok h2
  have hP := fun q => ((Pf.tx 16).rep q).ok (hE c)
  have gM := gCnt (rep (txP 16) (c - 1) (rep edP c r2).2).2 16 (hP _)
  have lm := cnt_le 16 (rep (txP 16) (c - 1) (rep edP c r2).2).2
  have hm := (pf_cnt 16).ok (hP (c - 1))
  generalize (cnt 16 (rep (txP 16) (c - 1) (rep edP c r2).2).2).1 = m0 at *
  generalize (cnt 16 (rep (txP 16) (c - 1) (rep edP c r2).2).2).2 = r5 at *
  refine Good.wM tabOk mixed Try.func79 (N := 63) (by kernel_rfl) rfl (by (repeat (first | exact LE.nil | apply LE.cons)); done) (by (repeat (first | exact LE.nil | apply LE.cons)); done) (by exact rfl) fun D hD F => ?_
  (repeat (first | apply AW.seq | apply AW.block)); apply AW.kR; refine AW.sR (h := ?_); repeat' (first
    | apply AO.nil
    | (apply AO.kBuildS; first | refine AO.sBuildT (h := ?_) | refine AO.sBuildS (h := ?_))
    | (apply AO.kApp; first | refine AO.sGrowT (h := ?_) | refine AO.sNewT (h := ?_) | refine AO.sGrowBT (h := ?_) | refine AO.sGrow (h := ?_) | refine AO.sNewr (h := ?_))
    | (apply AO.kBox; refine AO.sBox (h := ?_))
    | (apply AO.kAlloc; refine AO.sAlloc (h := ?_))
    | (apply AO.kStore; first | refine AO.sStore (h := ?_) | refine AO.sStB (h := ?_))
    | (apply AO.kAdd; refine AO.sAdd (h := ?_))
    | (apply AO.kSub; refine AO.sSub (h := ?_))
    | (apply AO.kP; first | refine AO.sP (h := ?_) | refine AO.sPi (h := ?_) | refine AO.sLoadB (h := ?_) | refine AO.sSameB (h := ?_)))
  (repeat (first | apply AW.seq | apply AW.block)); apply AW.kR; refine AW.sR (h := ?_); repeat' (first
    | apply AO.nil
    | (apply AO.kBuildS; first | refine AO.sBuildT (h := ?_) | refine AO.sBuildS (h := ?_))
    | (apply AO.kApp; first | refine AO.sGrowT (h := ?_) | refine AO.sNewT (h := ?_) | refine AO.sGrowBT (h := ?_) | refine AO.sGrow (h := ?_) | refine AO.sNewr (h := ?_))
    | (apply AO.kBox; refine AO.sBox (h := ?_))
    | (apply AO.kAlloc; refine AO.sAlloc (h := ?_))
    | (apply AO.kStore; first | refine AO.sStore (h := ?_) | refine AO.sStB (h := ?_))
    | (apply AO.kAdd; refine AO.sAdd (h := ?_))
    | (apply AO.kSub; refine AO.sSub (h := ?_))
    | (apply AO.kP; first | refine AO.sP (h := ?_) | refine AO.sPi (h := ?_) | refine AO.sLoadB (h := ?_) | refine AO.sSameB (h := ?_)))
  (repeat (first | apply AW.seq | apply AW.block)); apply AW.kR; refine AW.sR (h := ?_); repeat' (first
    | apply AO.nil
    | (apply AO.kCall 112; refine AO.callM [(1000000, 1000000)] (hg := (gC)) (hc := by exact rfl) (ha := by (repeat constructor); done) (hl := by (repeat (first | exact LeL.nil | (refine LeL.cons (Le.refl _) ?_) | (refine LeL.cons Le.gr ?_) | (refine LeL.cons Le.nil ?_))); done) (hi := by (repeat (first | exact Rho.here | exact Rho.nil | (refine Rho.there ?_ ?_; exact rfl) | exact RnL.nil | apply RnL.cons | exact RoL.nil | exact Lent.nil | exact Apd.nil | apply Apd.cons | (refine Lent.cons ?_ ?_ ?_ ?_ ?_) | (refine RoL.cons ?_ ?_ ?_) | (refine RnL.same ?_; exact rfl) | constructor | exact rfl)); done) (ht := by exact rfl) (hr := by (repeat (first | exact Rho.here | exact Rho.nil | (refine Rho.there ?_ ?_; exact rfl) | exact RnL.nil | apply RnL.cons | exact RoL.nil | exact Lent.nil | exact Apd.nil | apply Apd.cons | (refine Lent.cons ?_ ?_ ?_ ?_ ?_) | (refine RoL.cons ?_ ?_ ?_) | (refine RnL.same ?_; exact rfl) | constructor | exact rfl)); done) (ho := by (repeat (first | exact Rho.here | exact Rho.nil | (refine Rho.there ?_ ?_; exact rfl) | exact RnL.nil | apply RnL.cons | exact RoL.nil | exact Lent.nil | exact Apd.nil | apply Apd.cons | (refine Lent.cons ?_ ?_ ?_ ?_ ?_) | (refine RoL.cons ?_ ?_ ?_) | (refine RnL.same ?_; exact rfl) | constructor | exact rfl)); done) (hn := by exact rfl) (hB := by (repeat (first | exact Rho.here | exact Rho.nil | (refine Rho.there ?_ ?_; exact rfl) | exact RnL.nil | apply RnL.cons | exact RoL.nil | exact Lent.nil | exact Apd.nil | apply Apd.cons | (refine Lent.cons ?_ ?_ ?_ ?_ ?_) | (refine RoL.cons ?_ ?_ ?_) | (refine RnL.same ?_; exact rfl) | constructor | exact rfl)); done) (h := ?_))
    | (apply AO.kBuildS; first | refine AO.sBuildT (h := ?_) | refine AO.sBuildS (h := ?_))
    | (apply AO.kApp; first | refine AO.sGrowT (h := ?_) | refine AO.sNewT (h := ?_) | refine AO.sGrowBT (h := ?_) | refine AO.sGrow (h := ?_) | refine AO.sNewr (h := ?_))
    | (apply AO.kBox; refine AO.sBox (h := ?_))
    | (apply AO.kAlloc; refine AO.sAlloc (h := ?_))
    | (apply AO.kStore; first | refine AO.sStore (h := ?_) | refine AO.sStB (h := ?_))
    | (apply AO.kAdd; refine AO.sAdd (h := ?_))
    | (apply AO.kSub; refine AO.sSub (h := ?_))
    | (apply AO.kP; first | refine AO.sP (h := ?_) | refine AO.sPi (h := ?_) | refine AO.sLoadB (h := ?_) | refine AO.sSameB (h := ?_)))
  (repeat (first | apply AW.seq | apply AW.block)); apply AW.kR; refine AW.sR (h := ?_); repeat' (first
    | apply AO.nil
    | (apply AO.kBuildS; first | refine AO.sBuildT (h := ?_) | refine AO.sBuildS (h := ?_))
    | (apply AO.kApp; first | refine AO.sGrowT (h := ?_) | refine AO.sNewT (h := ?_) | refine AO.sGrowBT (h := ?_) | refine AO.sGrow (h := ?_) | refine AO.sNewr (h := ?_))
    | (apply AO.kBox; refine AO.sBox (h := ?_))
    | (apply AO.kAlloc; refine AO.sAlloc (h := ?_))
    | (apply AO.kStore; first | refine AO.sStore (h := ?_) | refine AO.sStB (h := ?_))
    | (apply AO.kAdd; refine AO.sAdd (h := ?_))
    | (apply AO.kSub; refine AO.sSub (h := ?_))
    | (apply AO.kP; first | refine AO.sP (h := ?_) | refine AO.sPi (h := ?_) | refine AO.sLoadB (h := ?_) | refine AO.sSameB (h := ?_)))
  refine AW.join ⟨[(1, .ptr 1 0), (2, .ptr 2 0), (3, .ptr 3 0), (4, .i .i64 c)], [(1, .bx [.ptr 1000000 0]), (2, .bx [.b false, .nil, .nil, .nil, .nil]), (3, .bx [.b false, .nil, .nil, .nil, .nil]), (1000000, .bx r2.av)]⟩ ?_ ?_
  · intro k' hk'
    repeat' (first
    | apply AO.nil
    | (apply AO.kCall 80; refine AO.callM [(1000000, 1000000)] (hg := (gF)) (hc := by exact rfl) (ha := by (repeat constructor); done) (hl := by (repeat (first | exact LeL.nil | (refine LeL.cons (Le.refl _) ?_) | (refine LeL.cons Le.gr ?_) | (refine LeL.cons Le.nil ?_))); done) (hi := by (repeat (first | exact Rho.here | exact Rho.nil | (refine Rho.there ?_ ?_; exact rfl) | exact RnL.nil | apply RnL.cons | exact RoL.nil | exact Lent.nil | exact Apd.nil | apply Apd.cons | (refine Lent.cons ?_ ?_ ?_ ?_ ?_) | (refine RoL.cons ?_ ?_ ?_) | (refine RnL.same ?_; exact rfl) | constructor | exact rfl)); done) (ht := by exact rfl) (hr := by (repeat (first | exact Rho.here | exact Rho.nil | (refine Rho.there ?_ ?_; exact rfl) | exact RnL.nil | apply RnL.cons | exact RoL.nil | exact Lent.nil | exact Apd.nil | apply Apd.cons | (refine Lent.cons ?_ ?_ ?_ ?_ ?_) | (refine RoL.cons ?_ ?_ ?_) | (refine RnL.same ?_; exact rfl) | constructor | exact rfl)); done) (ho := by (repeat (first | exact Rho.here | exact Rho.nil | (refine Rho.there ?_ ?_; exact rfl) | exact RnL.nil | apply RnL.cons | exact RoL.nil | exact Lent.nil | exact Apd.nil | apply Apd.cons | (refine Lent.cons ?_ ?_ ?_ ?_ ?_) | (refine RoL.cons ?_ ?_ ?_) | (refine RnL.same ?_; exact rfl) | constructor | exact rfl)); done) (hn := by exact rfl) (hB := by (repeat (first | exact Rho.here | exact Rho.nil | (refine Rho.there ?_ ?_; exact rfl) | exact RnL.nil | apply RnL.cons | exact RoL.nil | exact Lent.nil | exact Apd.nil | apply Apd.cons | (refine Lent.cons ?_ ?_ ?_ ?_ ?_) | (refine RoL.cons ?_ ?_ ?_) | (refine RnL.same ?_; exact rfl) | constructor | exact rfl)); done) (h := ?_))
    | (apply AO.kBuildS; first | refine AO.sBuildT (h := ?_) | refine AO.sBuildS (h := ?_))
    | (apply AO.kApp; first | refine AO.sGrowT (h := ?_) | refine AO.sNewT (h := ?_) | refine AO.sGrowBT (h := ?_) | refine AO.sGrow (h := ?_) | refine AO.sNewr (h := ?_))
    | (apply AO.kBox; refine AO.sBox (h := ?_))
    | (apply AO.kAlloc; refine AO.sAlloc (h := ?_))
    | (apply AO.kStore; first | refine AO.sStore (h := ?_) | refine AO.sStB (h := ?_))
    | (apply AO.kAdd; refine AO.sAdd (h := ?_))
    | (apply AO.kSub; refine AO.sSub (h := ?_))
    | (apply AO.kP; first | refine AO.sP (h := ?_) | refine AO.sPi (h := ?_) | refine AO.sLoadB (h := ?_) | refine AO.sSameB (h := ?_))
    | apply AW.seq
    | (apply AW.kR; refine AW.sR (h := ?_))
    | apply AW.skip
    | apply AW.block
    | apply AW.out
    | (apply AW.kE; refine AW.sE (h := ?_))
    | apply AW.label
    | (apply AW.kRd; refine AW.sRd (h := ?_))
    | ((first | (apply AW.kC; refine AW.sC (h1 := fun h => ?_) (h2 := fun h => ?_))) <;> (try (first | exact Bool.noConfusion h | exact absurd h (by decide) | (simp at h; done) | (rw [h]; try simp only [nrm] at h; try rw [h]; try (exfalso; omega)) | skip)))
    | (apply AR.kAny; first | (apply AR.kCall 80; refine AR.callM [(1000000, 1000000)] (hg := (gF)) (hc := by exact rfl) (ha := by (repeat constructor); done) (hl := by (repeat (first | exact LeL.nil | (refine LeL.cons (Le.refl _) ?_) | (refine LeL.cons Le.gr ?_) | (refine LeL.cons Le.nil ?_))); done) (hi := by (repeat (first | exact Rho.here | exact Rho.nil | (refine Rho.there ?_ ?_; exact rfl) | exact RnL.nil | apply RnL.cons | exact RoL.nil | exact Lent.nil | exact Apd.nil | apply Apd.cons | (refine Lent.cons ?_ ?_ ?_ ?_ ?_) | (refine RoL.cons ?_ ?_ ?_) | (refine RnL.same ?_; exact rfl) | constructor | exact rfl)); done) (ht := by exact rfl) (hr := by (repeat (first | exact Rho.here | exact Rho.nil | (refine Rho.there ?_ ?_; exact rfl) | exact RnL.nil | apply RnL.cons | exact RoL.nil | exact Lent.nil | exact Apd.nil | apply Apd.cons | (refine Lent.cons ?_ ?_ ?_ ?_ ?_) | (refine RoL.cons ?_ ?_ ?_) | (refine RnL.same ?_; exact rfl) | constructor | exact rfl)); done) (ho := by (repeat (first | exact Rho.here | exact Rho.nil | (refine Rho.there ?_ ?_; exact rfl) | exact RnL.nil | apply RnL.cons | exact RoL.nil | exact Lent.nil | exact Apd.nil | apply Apd.cons | (refine Lent.cons ?_ ?_ ?_ ?_ ?_) | (refine RoL.cons ?_ ?_ ?_) | (refine RnL.same ?_; exact rfl) | constructor | exact rfl)); done) (hn := by exact rfl) (hB := by (repeat (first | exact Rho.here | exact Rho.nil | (refine Rho.there ?_ ?_; exact rfl) | exact RnL.nil | apply RnL.cons | exact RoL.nil | exact Lent.nil | exact Apd.nil | apply Apd.cons | (refine Lent.cons ?_ ?_ ?_ ?_ ?_) | (refine RoL.cons ?_ ?_ ?_) | (refine RnL.same ?_; exact rfl) | constructor | exact rfl)); done) (htg := by (repeat (first | exact LE.nil | apply LE.cons)); done) (h := ?_)) | (apply AR.kBuildS; first | refine AR.sBuildT (h := ?_) | refine AR.sBuildS (h := ?_)) | (apply AR.kApp; first | refine AR.sGrowT (h := ?_) | refine AR.sNewT (h := ?_) | refine AR.sGrowBT (h := ?_) | refine AR.sGrow (h := ?_) | refine AR.sNewr (h := ?_)) | (apply AR.kBox; refine AR.sBox (h := ?_)) | (apply AR.kAlloc; refine AR.sAlloc (h := ?_)) | (apply AR.kStore; refine AR.sStore (h := ?_)) | (apply AR.kAdd; refine AR.sAdd (h := ?_)) | (apply AR.kSub; refine AR.sSub (h := ?_)) | (apply AR.kP; first | refine AR.sP (h := ?_) | refine AR.sPi (h := ?_)))
    | (apply AR.kNil; refine AR.sNil (h := ?_)))
    · have e : c = 0 := by omega
      rw [if_pos e] at e2
      subst e2
      exact hk' _ (by (constructor <;> (repeat' (first | exact LeT.nil | exact LeB.nil | apply LeT.cons | apply LeB.cons | exact Ol.refl | apply Lx.s | apply Lx.b | apply Lx.i | exact Lx.refl)) <;> (first | rfl | assumption | omega | (simp only [List.length_map, BS_len]; done) | skip)))
    · have e : ¬ c = 0 := by omega
      rw [if_neg e] at e2
      subst e2
      exact hk' _ (by (constructor <;> (repeat' (first | exact LeT.nil | exact LeB.nil | apply LeT.cons | apply LeB.cons | exact Ol.refl | apply Lx.s | apply Lx.b | apply Lx.i | exact Lx.refl)) <;> (first | rfl | assumption | omega | (simp only [List.length_map, BS_len]; done) | skip)))
  refine AW.nilrow 901 9 1 (St.freeB_ok rfl) (st' := ⟨[(1, .ptr 1 0), (2, .ptr 2 0), (3, .ptr 3 0), (4, .i .i64 c)], [(1, .bx [.ptr 1000000 0]), (2, .bx [.b false, .nil, .nil, .nil, .nil]), (3, .bx [.b false, .nil, .gr 901 9 1 [], .nil, .nil]), (901, .gw 0), (1000000, .bx r2.av)]⟩) ⟨by ((repeat' (first | exact LeT.nil | apply LeT.cons | exact Lx.nilG | apply Lx.s | apply Lx.b | apply Lx.i | exact Lx.refl)) <;> (first | rfl | assumption | omega | (simp only [List.length_map, BS_len]; done) | skip)), .cons .refl (.cons .refl (.cons (.bx (.cons .refl (.cons .refl (.cons Lx.nilG (.cons .refl (.cons .refl .nil)))))) (.cons .refl (.cons .refl .nil))))⟩ ?_
  refine AW.nilrow 902 65 4 (St.freeB_ok rfl) (st' := ⟨[(1, .ptr 1 0), (2, .ptr 2 0), (3, .ptr 3 0), (4, .i .i64 c)], [(1, .bx [.ptr 1000000 0]), (2, .bx [.b false, .nil, .nil, .nil, .nil]), (3, .bx [.b false, .nil, .gr 901 9 1 [], .gr 902 65 4 [], .nil]), (901, .gw 0), (902, .gw 0), (1000000, .bx r2.av)]⟩) ⟨by ((repeat' (first | exact LeT.nil | apply LeT.cons | exact Lx.nilG | apply Lx.s | apply Lx.b | apply Lx.i | exact Lx.refl)) <;> (first | rfl | assumption | omega | (simp only [List.length_map, BS_len]; done) | skip)), .cons .refl (.cons .refl (.cons (.bx (.cons .refl (.cons .refl (.cons .refl (.cons Lx.nilG (.cons .refl .nil)))))) (.cons .refl (.cons .refl (.cons .refl .nil)))))⟩ ?_
  refine AW.nilrow 903 71 6 (St.freeB_ok rfl) (st' := ⟨[(1, .ptr 1 0), (2, .ptr 2 0), (3, .ptr 3 0), (4, .i .i64 c)], [(1, .bx [.ptr 1000000 0]), (2, .bx [.b false, .nil, .nil, .nil, .nil]), (3, .bx [.b false, .nil, .gr 901 9 1 [], .gr 902 65 4 [], .gr 903 71 6 []]), (901, .gw 0), (902, .gw 0), (903, .gw 0), (1000000, .bx r2.av)]⟩) ⟨by ((repeat' (first | exact LeT.nil | apply LeT.cons | exact Lx.nilG | apply Lx.s | apply Lx.b | apply Lx.i | exact Lx.refl)) <;> (first | rfl | assumption | omega | (simp only [List.length_map, BS_len]; done) | skip)), .cons .refl (.cons .refl (.cons (.bx (.cons .refl (.cons .refl (.cons .refl (.cons .refl (.cons Lx.nilG .nil)))))) (.cons .refl (.cons .refl (.cons .refl (.cons .refl .nil))))))⟩ ?_
  repeat' (first
    | apply AO.nil
    | (apply AO.kBuildS; first | refine AO.sBuildT (h := ?_) | refine AO.sBuildS (h := ?_))
    | (apply AO.kApp; first | refine AO.sGrowT (h := ?_) | refine AO.sNewT (h := ?_) | refine AO.sGrowBT (h := ?_) | refine AO.sGrow (h := ?_) | refine AO.sNewr (h := ?_))
    | (apply AO.kBox; refine AO.sBox (h := ?_))
    | (apply AO.kAlloc; refine AO.sAlloc (h := ?_))
    | (apply AO.kStore; first | refine AO.sStore (h := ?_) | refine AO.sStB (h := ?_))
    | (apply AO.kAdd; refine AO.sAdd (h := ?_))
    | (apply AO.kSub; refine AO.sSub (h := ?_))
    | (apply AO.kP; first | refine AO.sP (h := ?_) | refine AO.sPi (h := ?_) | refine AO.sLoadB (h := ?_) | refine AO.sSameB (h := ?_))
    | apply AW.seq
    | (apply AW.kR; refine AW.sR (h := ?_))
    | apply AW.skip
    | apply AW.block
    | apply AW.out
    | (apply AW.kE; refine AW.sE (h := ?_))
    | apply AW.label
    | (apply AW.kRd; refine AW.sRd (h := ?_))
    | ((first | (apply AW.kC; refine AW.sC (h1 := fun h => ?_) (h2 := fun h => ?_))) <;> (try (first | exact Bool.noConfusion h | exact absurd h (by decide) | (simp at h; done) | (rw [h]; try simp only [nrm] at h; try rw [h]; try (exfalso; omega)) | skip)))
    | (apply AR.kAny; first | (apply AR.kBuildS; first | refine AR.sBuildT (h := ?_) | refine AR.sBuildS (h := ?_)) | (apply AR.kApp; first | refine AR.sGrowT (h := ?_) | refine AR.sNewT (h := ?_) | refine AR.sGrowBT (h := ?_) | refine AR.sGrow (h := ?_) | refine AR.sNewr (h := ?_)) | (apply AR.kBox; refine AR.sBox (h := ?_)) | (apply AR.kAlloc; refine AR.sAlloc (h := ?_)) | (apply AR.kStore; refine AR.sStore (h := ?_)) | (apply AR.kAdd; refine AR.sAdd (h := ?_)) | (apply AR.kSub; refine AR.sSub (h := ?_)) | (apply AR.kP; first | refine AR.sP (h := ?_) | refine AR.sPi (h := ?_)))
    | (apply AR.kNil; refine AR.sNil (h := ?_)))
  refine AW.loopI (fun q : Nat => q ≤ c) (fun q => ⟨[(1, .ptr 1 0), (2, .ptr 2 0), (3, .ptr 3 0), (4, .i .i64 c), (13, .i .i64 c), (14, .i .i64 q)], [(1, .bx [.ptr 1000000 0]), (2, .bx [.b false, .nil, .nil, .nil, .nil]), (3, .bx [.b false, .nil, .gr 901 9 1 [], .gr 902 65 4 ((rep edP q r2).1.map Ed.av), .gr 903 71 6 []]), (901, .gw 0), (902, .gw ((rep edP q r2).1.map Ed.av).length), (903, .gw 0), (1000000, .bx (rep edP q r2).2.av)]⟩) (fun q => c - q) 0 (by simp) (by (constructor <;> (repeat' (first | exact LeT.nil | exact LeB.nil | apply LeT.cons | apply LeB.cons | exact Ol.refl | apply Lx.s | apply Lx.b | apply Lx.i | exact Lx.refl)) <;> (first | rfl | assumption | omega | (simp only [List.length_map, BS_len]; done) | skip))) fun m q hq ih => ?_
  have lq : ((rep edP q r2).1.map Ed.av).length = q := by rw [List.length_map, rep_len]
  by_cases hq2 : q < c
  · have hq' := hE q
    have e1 : rep edP (q + 1) r2 = ((rep edP q r2).1 ++ [(edP (rep edP q r2).2).1], (edP (rep edP q r2).2).2) := rfl
    generalize rep edP q r2 = z at *
    obtain ⟨xs, rq⟩ := z
    dsimp only at *
    have vb : takeV rq 4 < 4294967296 := takeV_lt rq 4
    have h4 : (takeR rq 4).ok := (Pf.tk 4).ok hq'
    have vd : takeV (takeR rq 4) 2 < 65536 := takeV_lt _ 2
    have h5 : (takeR (takeR rq 4) 2).ok := (Pf.tk 2).ok h4
    have gB : Good Try.prog 115 [.ptr 1000000 0] [(1000000, .bx rq.av)] (.i .u32 ((BitVec.ofNat 32 (takeV rq 4)).toNat : Int)) [(1000000, .bx (takeR rq 4).av)] := by rw [b32k vb]; exact gGet32 rq hq'.1 hq'.2
    have gD : Good Try.prog 116 [.ptr 1000000 0] [(1000000, .bx (takeR rq 4).av)] (.i .u16 ((BitVec.ofNat 16 (takeV (takeR rq 4) 2)).toNat : Int)) [(1000000, .bx (takeR (takeR rq 4) 2).av)] := by rw [b16k vd]; exact gGet16 _ h4.1 h4.2
    have gS := gTxt _ h5
    have h6 := (Pf.tx 16).ok h5
    have gA := gTxt _ h6
    have ed : edP rq = (⟨BitVec.ofNat 32 (takeV rq 4), BitVec.ofNat 16 (takeV (takeR rq 4) 2), (txP 16 (takeR (takeR rq 4) 2)).1, (txP 16 (txP 16 (takeR (takeR rq 4) 2)).2).1⟩, (txP 16 (txP 16 (takeR (takeR rq 4) 2)).2).2) := rfl
    rw [ed] at e1
    repeat' (first
    | apply AO.nil
    | (apply AO.kCall 115; refine AO.callM [(1000000, 1000000)] (hg := (gB)) (hc := by exact rfl) (ha := by (repeat constructor); done) (hl := by (repeat (first | exact LeL.nil | (refine LeL.cons (Le.refl _) ?_) | (refine LeL.cons Le.gr ?_) | (refine LeL.cons Le.nil ?_))); done) (hi := by (repeat (first | exact Rho.here | exact Rho.nil | (refine Rho.there ?_ ?_; exact rfl) | exact RnL.nil | apply RnL.cons | exact RoL.nil | exact Lent.nil | exact Apd.nil | apply Apd.cons | (refine Lent.cons ?_ ?_ ?_ ?_ ?_) | (refine RoL.cons ?_ ?_ ?_) | (refine RnL.same ?_; exact rfl) | constructor | exact rfl)); done) (ht := by exact rfl) (hr := by (repeat (first | exact Rho.here | exact Rho.nil | (refine Rho.there ?_ ?_; exact rfl) | exact RnL.nil | apply RnL.cons | exact RoL.nil | exact Lent.nil | exact Apd.nil | apply Apd.cons | (refine Lent.cons ?_ ?_ ?_ ?_ ?_) | (refine RoL.cons ?_ ?_ ?_) | (refine RnL.same ?_; exact rfl) | constructor | exact rfl)); done) (ho := by (repeat (first | exact Rho.here | exact Rho.nil | (refine Rho.there ?_ ?_; exact rfl) | exact RnL.nil | apply RnL.cons | exact RoL.nil | exact Lent.nil | exact Apd.nil | apply Apd.cons | (refine Lent.cons ?_ ?_ ?_ ?_ ?_) | (refine RoL.cons ?_ ?_ ?_) | (refine RnL.same ?_; exact rfl) | constructor | exact rfl)); done) (hn := by exact rfl) (hB := by (repeat (first | exact Rho.here | exact Rho.nil | (refine Rho.there ?_ ?_; exact rfl) | exact RnL.nil | apply RnL.cons | exact RoL.nil | exact Lent.nil | exact Apd.nil | apply Apd.cons | (refine Lent.cons ?_ ?_ ?_ ?_ ?_) | (refine RoL.cons ?_ ?_ ?_) | (refine RnL.same ?_; exact rfl) | constructor | exact rfl)); done) (h := ?_))
    | (apply AO.kCall 116; refine AO.callM [(1000000, 1000000)] (hg := (gD)) (hc := by exact rfl) (ha := by (repeat constructor); done) (hl := by (repeat (first | exact LeL.nil | (refine LeL.cons (Le.refl _) ?_) | (refine LeL.cons Le.gr ?_) | (refine LeL.cons Le.nil ?_))); done) (hi := by (repeat (first | exact Rho.here | exact Rho.nil | (refine Rho.there ?_ ?_; exact rfl) | exact RnL.nil | apply RnL.cons | exact RoL.nil | exact Lent.nil | exact Apd.nil | apply Apd.cons | (refine Lent.cons ?_ ?_ ?_ ?_ ?_) | (refine RoL.cons ?_ ?_ ?_) | (refine RnL.same ?_; exact rfl) | constructor | exact rfl)); done) (ht := by exact rfl) (hr := by (repeat (first | exact Rho.here | exact Rho.nil | (refine Rho.there ?_ ?_; exact rfl) | exact RnL.nil | apply RnL.cons | exact RoL.nil | exact Lent.nil | exact Apd.nil | apply Apd.cons | (refine Lent.cons ?_ ?_ ?_ ?_ ?_) | (refine RoL.cons ?_ ?_ ?_) | (refine RnL.same ?_; exact rfl) | constructor | exact rfl)); done) (ho := by (repeat (first | exact Rho.here | exact Rho.nil | (refine Rho.there ?_ ?_; exact rfl) | exact RnL.nil | apply RnL.cons | exact RoL.nil | exact Lent.nil | exact Apd.nil | apply Apd.cons | (refine Lent.cons ?_ ?_ ?_ ?_ ?_) | (refine RoL.cons ?_ ?_ ?_) | (refine RnL.same ?_; exact rfl) | constructor | exact rfl)); done) (hn := by exact rfl) (hB := by (repeat (first | exact Rho.here | exact Rho.nil | (refine Rho.there ?_ ?_; exact rfl) | exact RnL.nil | apply RnL.cons | exact RoL.nil | exact Lent.nil | exact Apd.nil | apply Apd.cons | (refine Lent.cons ?_ ?_ ?_ ?_ ?_) | (refine RoL.cons ?_ ?_ ?_) | (refine RnL.same ?_; exact rfl) | constructor | exact rfl)); done) (h := ?_))
    | (apply AO.kBuildS; first | refine AO.sBuildT (h := ?_) | refine AO.sBuildS (h := ?_))
    | (apply AO.kApp; first | refine AO.sGrowT (h := ?_) | refine AO.sNewT (h := ?_) | refine AO.sGrowBT (h := ?_) | refine AO.sGrow (h := ?_) | refine AO.sNewr (h := ?_))
    | (apply AO.kBox; refine AO.sBox (h := ?_))
    | (apply AO.kAlloc; refine AO.sAlloc (h := ?_))
    | (apply AO.kStore; first | refine AO.sStore (h := ?_) | refine AO.sStB (h := ?_))
    | (apply AO.kAdd; refine AO.sAdd (h := ?_))
    | (apply AO.kSub; refine AO.sSub (h := ?_))
    | (apply AO.kP; first | refine AO.sP (h := ?_) | refine AO.sPi (h := ?_) | refine AO.sLoadB (h := ?_) | refine AO.sSameB (h := ?_))
    | apply AW.seq
    | (apply AW.kR; refine AW.sR (h := ?_))
    | apply AW.skip
    | apply AW.block
    | apply AW.out
    | (apply AW.kE; refine AW.sE (h := ?_))
    | apply AW.label
    | (apply AW.kRd; refine AW.sRd (h := ?_))
    | ((first | (apply AW.kC; refine AW.sC (h1 := fun h => ?_) (h2 := fun h => ?_))) <;> (try (first | exact Bool.noConfusion h | exact absurd h (by decide) | (simp at h; done) | (rw [h]; try simp only [nrm] at h; try rw [h]; try (exfalso; omega)) | skip)))
    | (apply AR.kAny; first | (apply AR.kCall 115; refine AR.callM [(1000000, 1000000)] (hg := (gB)) (hc := by exact rfl) (ha := by (repeat constructor); done) (hl := by (repeat (first | exact LeL.nil | (refine LeL.cons (Le.refl _) ?_) | (refine LeL.cons Le.gr ?_) | (refine LeL.cons Le.nil ?_))); done) (hi := by (repeat (first | exact Rho.here | exact Rho.nil | (refine Rho.there ?_ ?_; exact rfl) | exact RnL.nil | apply RnL.cons | exact RoL.nil | exact Lent.nil | exact Apd.nil | apply Apd.cons | (refine Lent.cons ?_ ?_ ?_ ?_ ?_) | (refine RoL.cons ?_ ?_ ?_) | (refine RnL.same ?_; exact rfl) | constructor | exact rfl)); done) (ht := by exact rfl) (hr := by (repeat (first | exact Rho.here | exact Rho.nil | (refine Rho.there ?_ ?_; exact rfl) | exact RnL.nil | apply RnL.cons | exact RoL.nil | exact Lent.nil | exact Apd.nil | apply Apd.cons | (refine Lent.cons ?_ ?_ ?_ ?_ ?_) | (refine RoL.cons ?_ ?_ ?_) | (refine RnL.same ?_; exact rfl) | constructor | exact rfl)); done) (ho := by (repeat (first | exact Rho.here | exact Rho.nil | (refine Rho.there ?_ ?_; exact rfl) | exact RnL.nil | apply RnL.cons | exact RoL.nil | exact Lent.nil | exact Apd.nil | apply Apd.cons | (refine Lent.cons ?_ ?_ ?_ ?_ ?_) | (refine RoL.cons ?_ ?_ ?_) | (refine RnL.same ?_; exact rfl) | constructor | exact rfl)); done) (hn := by exact rfl) (hB := by (repeat (first | exact Rho.here | exact Rho.nil | (refine Rho.there ?_ ?_; exact rfl) | exact RnL.nil | apply RnL.cons | exact RoL.nil | exact Lent.nil | exact Apd.nil | apply Apd.cons | (refine Lent.cons ?_ ?_ ?_ ?_ ?_) | (refine RoL.cons ?_ ?_ ?_) | (refine RnL.same ?_; exact rfl) | constructor | exact rfl)); done) (htg := by (repeat (first | exact LE.nil | apply LE.cons)); done) (h := ?_)) | (apply AR.kCall 116; refine AR.callM [(1000000, 1000000)] (hg := (gD)) (hc := by exact rfl) (ha := by (repeat constructor); done) (hl := by (repeat (first | exact LeL.nil | (refine LeL.cons (Le.refl _) ?_) | (refine LeL.cons Le.gr ?_) | (refine LeL.cons Le.nil ?_))); done) (hi := by (repeat (first | exact Rho.here | exact Rho.nil | (refine Rho.there ?_ ?_; exact rfl) | exact RnL.nil | apply RnL.cons | exact RoL.nil | exact Lent.nil | exact Apd.nil | apply Apd.cons | (refine Lent.cons ?_ ?_ ?_ ?_ ?_) | (refine RoL.cons ?_ ?_ ?_) | (refine RnL.same ?_; exact rfl) | constructor | exact rfl)); done) (ht := by exact rfl) (hr := by (repeat (first | exact Rho.here | exact Rho.nil | (refine Rho.there ?_ ?_; exact rfl) | exact RnL.nil | apply RnL.cons | exact RoL.nil | exact Lent.nil | exact Apd.nil | apply Apd.cons | (refine Lent.cons ?_ ?_ ?_ ?_ ?_) | (refine RoL.cons ?_ ?_ ?_) | (refine RnL.same ?_; exact rfl) | constructor | exact rfl)); done) (ho := by (repeat (first | exact Rho.here | exact Rho.nil | (refine Rho.there ?_ ?_; exact rfl) | exact RnL.nil | apply RnL.cons | exact RoL.nil | exact Lent.nil | exact Apd.nil | apply Apd.cons | (refine Lent.cons ?_ ?_ ?_ ?_ ?_) | (refine RoL.cons ?_ ?_ ?_) | (refine RnL.same ?_; exact rfl) | constructor | exact rfl)); done) (hn := by exact rfl) (hB := by (repeat (first | exact Rho.here | exact Rho.nil | (refine Rho.there ?_ ?_; exact rfl) | exact RnL.nil | apply RnL.cons | exact RoL.nil | exact Lent.nil | exact Apd.nil | apply Apd.cons | (refine Lent.cons ?_ ?_ ?_ ?_ ?_) | (refine RoL.cons ?_ ?_ ?_) | (refine RnL.same ?_; exact rfl) | constructor | exact rfl)); done) (htg := by (repeat (first | exact LE.nil | apply LE.cons)); done) (h := ?_)) | (apply AR.kBuildS; first | refine AR.sBuildT (h := ?_) | refine AR.sBuildS (h := ?_)) | (apply AR.kApp; first | refine AR.sGrowT (h := ?_) | refine AR.sNewT (h := ?_) | refine AR.sGrowBT (h := ?_) | refine AR.sGrow (h := ?_) | refine AR.sNewr (h := ?_)) | (apply AR.kBox; refine AR.sBox (h := ?_)) | (apply AR.kAlloc; refine AR.sAlloc (h := ?_)) | (apply AR.kStore; refine AR.sStore (h := ?_)) | (apply AR.kAdd; refine AR.sAdd (h := ?_)) | (apply AR.kSub; refine AR.sSub (h := ?_)) | (apply AR.kP; first | refine AR.sP (h := ?_) | refine AR.sPi (h := ?_)))
    | (apply AR.kNil; refine AR.sNil (h := ?_)))
    all_goals try (exfalso; omega)
    (first | (apply AO.kCall 113; refine AO.callM [(1000000, 1000000)] (hg := (gS)) (hc := by exact rfl) (ha := by (repeat constructor); done) (hl := by (repeat (first | exact LeL.nil | (refine LeL.cons (Le.refl _) ?_) | (refine LeL.cons Le.gr ?_) | (refine LeL.cons Le.nil ?_))); done) (hi := by (repeat (first | exact Rho.here | exact Rho.nil | (refine Rho.there ?_ ?_; exact rfl) | exact RnL.nil | apply RnL.cons | exact RoL.nil | exact Lent.nil | exact Apd.nil | apply Apd.cons | (refine Lent.cons ?_ ?_ ?_ ?_ ?_) | (refine RoL.cons ?_ ?_ ?_) | (refine RnL.same ?_; exact rfl) | constructor | exact rfl)); done) (ht := by exact rfl) (hr := by (repeat (first | exact Rho.here | exact Rho.nil | (refine Rho.there ?_ ?_; exact rfl) | exact RnL.nil | apply RnL.cons | exact RoL.nil | exact Lent.nil | exact Apd.nil | apply Apd.cons | (refine Lent.cons ?_ ?_ ?_ ?_ ?_) | (refine RoL.cons ?_ ?_ ?_) | (refine RnL.same ?_; exact rfl) | constructor | exact rfl)); done) (ho := by (repeat (first | exact Rho.here | exact Rho.nil | (refine Rho.there ?_ ?_; exact rfl) | exact RnL.nil | apply RnL.cons | exact RoL.nil | exact Lent.nil | exact Apd.nil | apply Apd.cons | (refine Lent.cons ?_ ?_ ?_ ?_ ?_) | (refine RoL.cons ?_ ?_ ?_) | (refine RnL.same ?_; exact rfl) | constructor | exact rfl)); done) (hn := by exact rfl) (hB := by (repeat (first | exact Rho.here | exact Rho.nil | (refine Rho.there ?_ ?_; exact rfl) | exact RnL.nil | apply RnL.cons | exact RoL.nil | exact Lent.nil | exact Apd.nil | apply Apd.cons | (refine Lent.cons ?_ ?_ ?_ ?_ ?_) | (refine RoL.cons ?_ ?_ ?_) | (refine RnL.same ?_; exact rfl) | constructor | exact rfl)); done) (h := ?_)) | (apply AR.kAny; (apply AR.kCall 113; refine AR.callM [(1000000, 1000000)] (hg := (gS)) (hc := by exact rfl) (ha := by (repeat constructor); done) (hl := by (repeat (first | exact LeL.nil | (refine LeL.cons (Le.refl _) ?_) | (refine LeL.cons Le.gr ?_) | (refine LeL.cons Le.nil ?_))); done) (hi := by (repeat (first | exact Rho.here | exact Rho.nil | (refine Rho.there ?_ ?_; exact rfl) | exact RnL.nil | apply RnL.cons | exact RoL.nil | exact Lent.nil | exact Apd.nil | apply Apd.cons | (refine Lent.cons ?_ ?_ ?_ ?_ ?_) | (refine RoL.cons ?_ ?_ ?_) | (refine RnL.same ?_; exact rfl) | constructor | exact rfl)); done) (ht := by exact rfl) (hr := by (repeat (first | exact Rho.here | exact Rho.nil | (refine Rho.there ?_ ?_; exact rfl) | exact RnL.nil | apply RnL.cons | exact RoL.nil | exact Lent.nil | exact Apd.nil | apply Apd.cons | (refine Lent.cons ?_ ?_ ?_ ?_ ?_) | (refine RoL.cons ?_ ?_ ?_) | (refine RnL.same ?_; exact rfl) | constructor | exact rfl)); done) (ho := by (repeat (first | exact Rho.here | exact Rho.nil | (refine Rho.there ?_ ?_; exact rfl) | exact RnL.nil | apply RnL.cons | exact RoL.nil | exact Lent.nil | exact Apd.nil | apply Apd.cons | (refine Lent.cons ?_ ?_ ?_ ?_ ?_) | (refine RoL.cons ?_ ?_ ?_) | (refine RnL.same ?_; exact rfl) | constructor | exact rfl)); done) (hn := by exact rfl) (hB := by (repeat (first | exact Rho.here | exact Rho.nil | (refine Rho.there ?_ ?_; exact rfl) | exact RnL.nil | apply RnL.cons | exact RoL.nil | exact Lent.nil | exact Apd.nil | apply Apd.cons | (refine Lent.cons ?_ ?_ ?_ ?_ ?_) | (refine RoL.cons ?_ ?_ ?_) | (refine RnL.same ?_; exact rfl) | constructor | exact rfl)); done) (htg := by (repeat (first | exact LE.nil | apply LE.cons)); done) (h := ?_))))
    repeat' (first
    | apply AO.nil
    | (apply AO.kBuildS; first | refine AO.sBuildT (h := ?_) | refine AO.sBuildS (h := ?_))
    | (apply AO.kApp; first | refine AO.sGrowT (h := ?_) | refine AO.sNewT (h := ?_) | refine AO.sGrowBT (h := ?_) | refine AO.sGrow (h := ?_) | refine AO.sNewr (h := ?_))
    | (apply AO.kBox; refine AO.sBox (h := ?_))
    | (apply AO.kAlloc; refine AO.sAlloc (h := ?_))
    | (apply AO.kStore; first | refine AO.sStore (h := ?_) | refine AO.sStB (h := ?_))
    | (apply AO.kAdd; refine AO.sAdd (h := ?_))
    | (apply AO.kSub; refine AO.sSub (h := ?_))
    | (apply AO.kP; first | refine AO.sP (h := ?_) | refine AO.sPi (h := ?_) | refine AO.sLoadB (h := ?_) | refine AO.sSameB (h := ?_))
    | apply AW.seq
    | (apply AW.kR; refine AW.sR (h := ?_))
    | apply AW.skip
    | apply AW.block
    | apply AW.out
    | (apply AW.kE; refine AW.sE (h := ?_))
    | apply AW.label
    | (apply AW.kRd; refine AW.sRd (h := ?_))
    | ((first | (apply AW.kC; refine AW.sC (h1 := fun h => ?_) (h2 := fun h => ?_))) <;> (try (first | exact Bool.noConfusion h | exact absurd h (by decide) | (simp at h; done) | (rw [h]; try simp only [nrm] at h; try rw [h]; try (exfalso; omega)) | skip)))
    | (apply AR.kAny; first | (apply AR.kBuildS; first | refine AR.sBuildT (h := ?_) | refine AR.sBuildS (h := ?_)) | (apply AR.kApp; first | refine AR.sGrowT (h := ?_) | refine AR.sNewT (h := ?_) | refine AR.sGrowBT (h := ?_) | refine AR.sGrow (h := ?_) | refine AR.sNewr (h := ?_)) | (apply AR.kBox; refine AR.sBox (h := ?_)) | (apply AR.kAlloc; refine AR.sAlloc (h := ?_)) | (apply AR.kStore; refine AR.sStore (h := ?_)) | (apply AR.kAdd; refine AR.sAdd (h := ?_)) | (apply AR.kSub; refine AR.sSub (h := ?_)) | (apply AR.kP; first | refine AR.sP (h := ?_) | refine AR.sPi (h := ?_)))
    | (apply AR.kNil; refine AR.sNil (h := ?_)))
    (first | (apply AO.kCall 113; refine AO.callM [(1000000, 1000000)] (hg := (gA)) (hc := by exact rfl) (ha := by (repeat constructor); done) (hl := by (repeat (first | exact LeL.nil | (refine LeL.cons (Le.refl _) ?_) | (refine LeL.cons Le.gr ?_) | (refine LeL.cons Le.nil ?_))); done) (hi := by (repeat (first | exact Rho.here | exact Rho.nil | (refine Rho.there ?_ ?_; exact rfl) | exact RnL.nil | apply RnL.cons | exact RoL.nil | exact Lent.nil | exact Apd.nil | apply Apd.cons | (refine Lent.cons ?_ ?_ ?_ ?_ ?_) | (refine RoL.cons ?_ ?_ ?_) | (refine RnL.same ?_; exact rfl) | constructor | exact rfl)); done) (ht := by exact rfl) (hr := by (repeat (first | exact Rho.here | exact Rho.nil | (refine Rho.there ?_ ?_; exact rfl) | exact RnL.nil | apply RnL.cons | exact RoL.nil | exact Lent.nil | exact Apd.nil | apply Apd.cons | (refine Lent.cons ?_ ?_ ?_ ?_ ?_) | (refine RoL.cons ?_ ?_ ?_) | (refine RnL.same ?_; exact rfl) | constructor | exact rfl)); done) (ho := by (repeat (first | exact Rho.here | exact Rho.nil | (refine Rho.there ?_ ?_; exact rfl) | exact RnL.nil | apply RnL.cons | exact RoL.nil | exact Lent.nil | exact Apd.nil | apply Apd.cons | (refine Lent.cons ?_ ?_ ?_ ?_ ?_) | (refine RoL.cons ?_ ?_ ?_) | (refine RnL.same ?_; exact rfl) | constructor | exact rfl)); done) (hn := by exact rfl) (hB := by (repeat (first | exact Rho.here | exact Rho.nil | (refine Rho.there ?_ ?_; exact rfl) | exact RnL.nil | apply RnL.cons | exact RoL.nil | exact Lent.nil | exact Apd.nil | apply Apd.cons | (refine Lent.cons ?_ ?_ ?_ ?_ ?_) | (refine RoL.cons ?_ ?_ ?_) | (refine RnL.same ?_; exact rfl) | constructor | exact rfl)); done) (h := ?_)) | (apply AR.kAny; (apply AR.kCall 113; refine AR.callM [(1000000, 1000000)] (hg := (gA)) (hc := by exact rfl) (ha := by (repeat constructor); done) (hl := by (repeat (first | exact LeL.nil | (refine LeL.cons (Le.refl _) ?_) | (refine LeL.cons Le.gr ?_) | (refine LeL.cons Le.nil ?_))); done) (hi := by (repeat (first | exact Rho.here | exact Rho.nil | (refine Rho.there ?_ ?_; exact rfl) | exact RnL.nil | apply RnL.cons | exact RoL.nil | exact Lent.nil | exact Apd.nil | apply Apd.cons | (refine Lent.cons ?_ ?_ ?_ ?_ ?_) | (refine RoL.cons ?_ ?_ ?_) | (refine RnL.same ?_; exact rfl) | constructor | exact rfl)); done) (ht := by exact rfl) (hr := by (repeat (first | exact Rho.here | exact Rho.nil | (refine Rho.there ?_ ?_; exact rfl) | exact RnL.nil | apply RnL.cons | exact RoL.nil | exact Lent.nil | exact Apd.nil | apply Apd.cons | (refine Lent.cons ?_ ?_ ?_ ?_ ?_) | (refine RoL.cons ?_ ?_ ?_) | (refine RnL.same ?_; exact rfl) | constructor | exact rfl)); done) (ho := by (repeat (first | exact Rho.here | exact Rho.nil | (refine Rho.there ?_ ?_; exact rfl) | exact RnL.nil | apply RnL.cons | exact RoL.nil | exact Lent.nil | exact Apd.nil | apply Apd.cons | (refine Lent.cons ?_ ?_ ?_ ?_ ?_) | (refine RoL.cons ?_ ?_ ?_) | (refine RnL.same ?_; exact rfl) | constructor | exact rfl)); done) (hn := by exact rfl) (hB := by (repeat (first | exact Rho.here | exact Rho.nil | (refine Rho.there ?_ ?_; exact rfl) | exact RnL.nil | apply RnL.cons | exact RoL.nil | exact Lent.nil | exact Apd.nil | apply Apd.cons | (refine Lent.cons ?_ ?_ ?_ ?_ ?_) | (refine RoL.cons ?_ ?_ ?_) | (refine RnL.same ?_; exact rfl) | constructor | exact rfl)); done) (htg := by (repeat (first | exact LE.nil | apply LE.cons)); done) (h := ?_))))
    repeat' (first
    | apply AO.nil
    | (apply AO.kBuildS; first | refine AO.sBuildT (h := ?_) | refine AO.sBuildS (h := ?_))
    | (apply AO.kApp; first | refine AO.sGrowT (h := ?_) | refine AO.sNewT (h := ?_) | refine AO.sGrowBT (h := ?_) | refine AO.sGrow (h := ?_) | refine AO.sNewr (h := ?_))
    | (apply AO.kBox; refine AO.sBox (h := ?_))
    | (apply AO.kAlloc; refine AO.sAlloc (h := ?_))
    | (apply AO.kStore; first | refine AO.sStore (h := ?_) | refine AO.sStB (h := ?_))
    | (apply AO.kAdd; refine AO.sAdd (h := ?_))
    | (apply AO.kSub; refine AO.sSub (h := ?_))
    | (apply AO.kP; first | refine AO.sP (h := ?_) | refine AO.sPi (h := ?_) | refine AO.sLoadB (h := ?_) | refine AO.sSameB (h := ?_))
    | apply AW.seq
    | (apply AW.kR; refine AW.sR (h := ?_))
    | apply AW.skip
    | apply AW.block
    | apply AW.out
    | (apply AW.kE; refine AW.sE (h := ?_))
    | apply AW.label
    | (apply AW.kRd; refine AW.sRd (h := ?_))
    | ((first | (apply AW.kC; refine AW.sC (h1 := fun h => ?_) (h2 := fun h => ?_))) <;> (try (first | exact Bool.noConfusion h | exact absurd h (by decide) | (simp at h; done) | (rw [h]; try simp only [nrm] at h; try rw [h]; try (exfalso; omega)) | skip)))
    | (apply AR.kAny; first | (apply AR.kBuildS; first | refine AR.sBuildT (h := ?_) | refine AR.sBuildS (h := ?_)) | (apply AR.kApp; first | refine AR.sGrowT (h := ?_) | refine AR.sNewT (h := ?_) | refine AR.sGrowBT (h := ?_) | refine AR.sGrow (h := ?_) | refine AR.sNewr (h := ?_)) | (apply AR.kBox; refine AR.sBox (h := ?_)) | (apply AR.kAlloc; refine AR.sAlloc (h := ?_)) | (apply AR.kStore; refine AR.sStore (h := ?_)) | (apply AR.kAdd; refine AR.sAdd (h := ?_)) | (apply AR.kSub; refine AR.sSub (h := ?_)) | (apply AR.kP; first | refine AR.sP (h := ?_) | refine AR.sPi (h := ?_)))
    | (apply AR.kNil; refine AR.sNil (h := ?_)))
    refine ih (q + 1) _ (by omega) (by omega) ?_
    simp only [e1]
    ((constructor <;> (repeat' (first | exact LeT.nil | exact LeB.nil | apply LeT.cons | apply LeB.cons | exact Ol.refl | apply Lx.s | apply Lx.b | apply Lx.i | exact Lx.refl)) <;> (first | rfl | assumption | omega | (simp only [List.length_map, BS_len]; done) | skip)) <;> (first | (refine Lx.eq (congrArg (AV.gr _ _ _) ?_); simp only [List.map_append, List.map_cons, List.map_nil]; rfl) | (refine Ol.eq (congrArg Ob.gw ?_); simp only [List.map_append, List.map_cons, List.map_nil, List.length_append, List.length_map, List.length_cons, List.length_nil]; done) | (refine Ol.bx ?_; (repeat' (first | exact LxL.nil | apply LxL.cons | exact Lx.refl | (refine Lx.eq (congrArg (AV.gr _ _ _) ?_); simp only [List.map_append, List.map_cons, List.map_nil]; rfl)))) | skip))
  · obtain rfl : c = q := by omega
    generalize rep edP c r2 = z at *
    obtain ⟨es, r3⟩ := z
    dsimp only at *
    repeat' (first
    | apply AO.nil
    | (apply AO.kBuildS; first | refine AO.sBuildT (h := ?_) | refine AO.sBuildS (h := ?_))
    | (apply AO.kApp; first | refine AO.sGrowT (h := ?_) | refine AO.sNewT (h := ?_) | refine AO.sGrowBT (h := ?_) | refine AO.sGrow (h := ?_) | refine AO.sNewr (h := ?_))
    | (apply AO.kBox; refine AO.sBox (h := ?_))
    | (apply AO.kAlloc; refine AO.sAlloc (h := ?_))
    | (apply AO.kStore; first | refine AO.sStore (h := ?_) | refine AO.sStB (h := ?_))
    | (apply AO.kAdd; refine AO.sAdd (h := ?_))
    | (apply AO.kSub; refine AO.sSub (h := ?_))
    | (apply AO.kP; first | refine AO.sP (h := ?_) | refine AO.sPi (h := ?_) | refine AO.sLoadB (h := ?_) | refine AO.sSameB (h := ?_))
    | apply AW.seq
    | (apply AW.kR; refine AW.sR (h := ?_))
    | apply AW.skip
    | apply AW.block
    | apply AW.out
    | (apply AW.kE; refine AW.sE (h := ?_))
    | apply AW.label
    | (apply AW.kRd; refine AW.sRd (h := ?_))
    | ((first | (apply AW.kC; refine AW.sC (h1 := fun h => ?_) (h2 := fun h => ?_))) <;> (try (first | exact Bool.noConfusion h | exact absurd h (by decide) | (simp at h; done) | (rw [h]; try simp only [nrm] at h; try rw [h]; try (exfalso; omega)) | skip)))
    | (apply AR.kAny; first | (apply AR.kBuildS; first | refine AR.sBuildT (h := ?_) | refine AR.sBuildS (h := ?_)) | (apply AR.kApp; first | refine AR.sGrowT (h := ?_) | refine AR.sNewT (h := ?_) | refine AR.sGrowBT (h := ?_) | refine AR.sGrow (h := ?_) | refine AR.sNewr (h := ?_)) | (apply AR.kBox; refine AR.sBox (h := ?_)) | (apply AR.kAlloc; refine AR.sAlloc (h := ?_)) | (apply AR.kStore; refine AR.sStore (h := ?_)) | (apply AR.kAdd; refine AR.sAdd (h := ?_)) | (apply AR.kSub; refine AR.sSub (h := ?_)) | (apply AR.kP; first | refine AR.sP (h := ?_) | refine AR.sPi (h := ?_)))
    | (apply AR.kNil; refine AR.sNil (h := ?_)))
    all_goals try (exfalso; omega)
    refine AW.loopI (fun q : Nat => q ≤ c - 1) (fun q => ⟨[(1, .ptr 1 0), (2, .ptr 2 0), (3, .ptr 3 0), (39, .i .i64 ((c : Int) - 1)), (40, .i .i64 q)], [(1, .bx [.ptr 1000000 0]), (2, .bx [.b false, .nil, .nil, .nil, .nil]), (3, .bx [.b false, .nil, .gr 901 9 1 ((rep (txP 16) q r3).1.map sav), .gr 902 65 4 (es.map Ed.av), .gr 903 71 6 []]), (901, .gw ((rep (txP 16) q r3).1.map sav).length), (903, .gw 0), (1000000, .bx (rep (txP 16) q r3).2.av)]⟩) (fun q => c - 1 - q) 0 (by simp) (by (constructor <;> (repeat' (first | exact LeT.nil | exact LeB.nil | apply LeT.cons | apply LeB.cons | exact Ol.refl | apply Lx.s | apply Lx.b | apply Lx.i | exact Lx.refl)) <;> (first | rfl | assumption | omega | (simp only [List.length_map, BS_len]; done) | skip))) fun m q hq ih => ?_
    have lq : ((rep (txP 16) q r3).1.map sav).length = q := by rw [List.length_map, rep_len]
    by_cases hq2 : q < c - 1
    · have hq' := hP q
      have e1 : rep (txP 16) (q + 1) r3 = ((rep (txP 16) q r3).1 ++ [(txP 16 (rep (txP 16) q r3).2).1], (txP 16 (rep (txP 16) q r3).2).2) := rfl
      generalize rep (txP 16) q r3 = z at *
      obtain ⟨xs, rq⟩ := z
      dsimp only at *
      have gT := gTxt _ hq'
      repeat' (first
    | apply AO.nil
    | (apply AO.kCall 113; refine AO.callM [(1000000, 1000000)] (hg := (gT)) (hc := by exact rfl) (ha := by (repeat constructor); done) (hl := by (repeat (first | exact LeL.nil | (refine LeL.cons (Le.refl _) ?_) | (refine LeL.cons Le.gr ?_) | (refine LeL.cons Le.nil ?_))); done) (hi := by (repeat (first | exact Rho.here | exact Rho.nil | (refine Rho.there ?_ ?_; exact rfl) | exact RnL.nil | apply RnL.cons | exact RoL.nil | exact Lent.nil | exact Apd.nil | apply Apd.cons | (refine Lent.cons ?_ ?_ ?_ ?_ ?_) | (refine RoL.cons ?_ ?_ ?_) | (refine RnL.same ?_; exact rfl) | constructor | exact rfl)); done) (ht := by exact rfl) (hr := by (repeat (first | exact Rho.here | exact Rho.nil | (refine Rho.there ?_ ?_; exact rfl) | exact RnL.nil | apply RnL.cons | exact RoL.nil | exact Lent.nil | exact Apd.nil | apply Apd.cons | (refine Lent.cons ?_ ?_ ?_ ?_ ?_) | (refine RoL.cons ?_ ?_ ?_) | (refine RnL.same ?_; exact rfl) | constructor | exact rfl)); done) (ho := by (repeat (first | exact Rho.here | exact Rho.nil | (refine Rho.there ?_ ?_; exact rfl) | exact RnL.nil | apply RnL.cons | exact RoL.nil | exact Lent.nil | exact Apd.nil | apply Apd.cons | (refine Lent.cons ?_ ?_ ?_ ?_ ?_) | (refine RoL.cons ?_ ?_ ?_) | (refine RnL.same ?_; exact rfl) | constructor | exact rfl)); done) (hn := by exact rfl) (hB := by (repeat (first | exact Rho.here | exact Rho.nil | (refine Rho.there ?_ ?_; exact rfl) | exact RnL.nil | apply RnL.cons | exact RoL.nil | exact Lent.nil | exact Apd.nil | apply Apd.cons | (refine Lent.cons ?_ ?_ ?_ ?_ ?_) | (refine RoL.cons ?_ ?_ ?_) | (refine RnL.same ?_; exact rfl) | constructor | exact rfl)); done) (h := ?_))
    | (apply AO.kBuildS; first | refine AO.sBuildT (h := ?_) | refine AO.sBuildS (h := ?_))
    | (apply AO.kApp; first | refine AO.sGrowT (h := ?_) | refine AO.sNewT (h := ?_) | refine AO.sGrowBT (h := ?_) | refine AO.sGrow (h := ?_) | refine AO.sNewr (h := ?_))
    | (apply AO.kBox; refine AO.sBox (h := ?_))
    | (apply AO.kAlloc; refine AO.sAlloc (h := ?_))
    | (apply AO.kStore; first | refine AO.sStore (h := ?_) | refine AO.sStB (h := ?_))
    | (apply AO.kAdd; refine AO.sAdd (h := ?_))
    | (apply AO.kSub; refine AO.sSub (h := ?_))
    | (apply AO.kP; first | refine AO.sP (h := ?_) | refine AO.sPi (h := ?_) | refine AO.sLoadB (h := ?_) | refine AO.sSameB (h := ?_))
    | apply AW.seq
    | (apply AW.kR; refine AW.sR (h := ?_))
    | apply AW.skip
    | apply AW.block
    | apply AW.out
    | (apply AW.kE; refine AW.sE (h := ?_))
    | apply AW.label
    | (apply AW.kRd; refine AW.sRd (h := ?_))
    | ((first | (apply AW.kC; refine AW.sC (h1 := fun h => ?_) (h2 := fun h => ?_))) <;> (try (first | exact Bool.noConfusion h | exact absurd h (by decide) | (simp at h; done) | (rw [h]; try simp only [nrm] at h; try rw [h]; try (exfalso; omega)) | skip)))
    | (apply AR.kAny; first | (apply AR.kCall 113; refine AR.callM [(1000000, 1000000)] (hg := (gT)) (hc := by exact rfl) (ha := by (repeat constructor); done) (hl := by (repeat (first | exact LeL.nil | (refine LeL.cons (Le.refl _) ?_) | (refine LeL.cons Le.gr ?_) | (refine LeL.cons Le.nil ?_))); done) (hi := by (repeat (first | exact Rho.here | exact Rho.nil | (refine Rho.there ?_ ?_; exact rfl) | exact RnL.nil | apply RnL.cons | exact RoL.nil | exact Lent.nil | exact Apd.nil | apply Apd.cons | (refine Lent.cons ?_ ?_ ?_ ?_ ?_) | (refine RoL.cons ?_ ?_ ?_) | (refine RnL.same ?_; exact rfl) | constructor | exact rfl)); done) (ht := by exact rfl) (hr := by (repeat (first | exact Rho.here | exact Rho.nil | (refine Rho.there ?_ ?_; exact rfl) | exact RnL.nil | apply RnL.cons | exact RoL.nil | exact Lent.nil | exact Apd.nil | apply Apd.cons | (refine Lent.cons ?_ ?_ ?_ ?_ ?_) | (refine RoL.cons ?_ ?_ ?_) | (refine RnL.same ?_; exact rfl) | constructor | exact rfl)); done) (ho := by (repeat (first | exact Rho.here | exact Rho.nil | (refine Rho.there ?_ ?_; exact rfl) | exact RnL.nil | apply RnL.cons | exact RoL.nil | exact Lent.nil | exact Apd.nil | apply Apd.cons | (refine Lent.cons ?_ ?_ ?_ ?_ ?_) | (refine RoL.cons ?_ ?_ ?_) | (refine RnL.same ?_; exact rfl) | constructor | exact rfl)); done) (hn := by exact rfl) (hB := by (repeat (first | exact Rho.here | exact Rho.nil | (refine Rho.there ?_ ?_; exact rfl) | exact RnL.nil | apply RnL.cons | exact RoL.nil | exact Lent.nil | exact Apd.nil | apply Apd.cons | (refine Lent.cons ?_ ?_ ?_ ?_ ?_) | (refine RoL.cons ?_ ?_ ?_) | (refine RnL.same ?_; exact rfl) | constructor | exact rfl)); done) (htg := by (repeat (first | exact LE.nil | apply LE.cons)); done) (h := ?_)) | (apply AR.kBuildS; first | refine AR.sBuildT (h := ?_) | refine AR.sBuildS (h := ?_)) | (apply AR.kApp; first | refine AR.sGrowT (h := ?_) | refine AR.sNewT (h := ?_) | refine AR.sGrowBT (h := ?_) | refine AR.sGrow (h := ?_) | refine AR.sNewr (h := ?_)) | (apply AR.kBox; refine AR.sBox (h := ?_)) | (apply AR.kAlloc; refine AR.sAlloc (h := ?_)) | (apply AR.kStore; refine AR.sStore (h := ?_)) | (apply AR.kAdd; refine AR.sAdd (h := ?_)) | (apply AR.kSub; refine AR.sSub (h := ?_)) | (apply AR.kP; first | refine AR.sP (h := ?_) | refine AR.sPi (h := ?_)))
    | (apply AR.kNil; refine AR.sNil (h := ?_)))
      all_goals try (exfalso; omega)
      refine ih (q + 1) _ (by omega) (by omega) ?_
      simp only [e1]
      ((constructor <;> (repeat' (first | exact LeT.nil | exact LeB.nil | apply LeT.cons | apply LeB.cons | exact Ol.refl | apply Lx.s | apply Lx.b | apply Lx.i | exact Lx.refl)) <;> (first | rfl | assumption | omega | (simp only [List.length_map, BS_len]; done) | skip)) <;> (first | (refine Lx.eq (congrArg (AV.gr _ _ _) ?_); simp only [List.map_append, List.map_cons, List.map_nil]; rfl) | (refine Ol.eq (congrArg Ob.gw ?_); simp only [List.map_append, List.map_cons, List.map_nil, List.length_append, List.length_map, List.length_cons, List.length_nil]; done) | (refine Ol.bx ?_; (repeat' (first | exact LxL.nil | apply LxL.cons | exact Lx.refl | (refine Lx.eq (congrArg (AV.gr _ _ _) ?_); simp only [List.map_append, List.map_cons, List.map_nil]; rfl)))) | skip))
    · obtain rfl : c - 1 = q := by omega
      generalize rep (txP 16) (c - 1) r3 = z at *
      obtain ⟨pv, r4⟩ := z
      dsimp only at *
      repeat' (first
    | apply AO.nil
    | (apply AO.kCall 112; refine AO.callM [(1000000, 1000000)] (hg := (gM)) (hc := by exact rfl) (ha := by (repeat constructor); done) (hl := by (repeat (first | exact LeL.nil | (refine LeL.cons (Le.refl _) ?_) | (refine LeL.cons Le.gr ?_) | (refine LeL.cons Le.nil ?_))); done) (hi := by (repeat (first | exact Rho.here | exact Rho.nil | (refine Rho.there ?_ ?_; exact rfl) | exact RnL.nil | apply RnL.cons | exact RoL.nil | exact Lent.nil | exact Apd.nil | apply Apd.cons | (refine Lent.cons ?_ ?_ ?_ ?_ ?_) | (refine RoL.cons ?_ ?_ ?_) | (refine RnL.same ?_; exact rfl) | constructor | exact rfl)); done) (ht := by exact rfl) (hr := by (repeat (first | exact Rho.here | exact Rho.nil | (refine Rho.there ?_ ?_; exact rfl) | exact RnL.nil | apply RnL.cons | exact RoL.nil | exact Lent.nil | exact Apd.nil | apply Apd.cons | (refine Lent.cons ?_ ?_ ?_ ?_ ?_) | (refine RoL.cons ?_ ?_ ?_) | (refine RnL.same ?_; exact rfl) | constructor | exact rfl)); done) (ho := by (repeat (first | exact Rho.here | exact Rho.nil | (refine Rho.there ?_ ?_; exact rfl) | exact RnL.nil | apply RnL.cons | exact RoL.nil | exact Lent.nil | exact Apd.nil | apply Apd.cons | (refine Lent.cons ?_ ?_ ?_ ?_ ?_) | (refine RoL.cons ?_ ?_ ?_) | (refine RnL.same ?_; exact rfl) | constructor | exact rfl)); done) (hn := by exact rfl) (hB := by (repeat (first | exact Rho.here | exact Rho.nil | (refine Rho.there ?_ ?_; exact rfl) | exact RnL.nil | apply RnL.cons | exact RoL.nil | exact Lent.nil | exact Apd.nil | apply Apd.cons | (refine Lent.cons ?_ ?_ ?_ ?_ ?_) | (refine RoL.cons ?_ ?_ ?_) | (refine RnL.same ?_; exact rfl) | constructor | exact rfl)); done) (h := ?_))
    | (apply AO.kBuildS; first | refine AO.sBuildT (h := ?_) | refine AO.sBuildS (h := ?_))
    | (apply AO.kApp; first | refine AO.sGrowT (h := ?_) | refine AO.sNewT (h := ?_) | refine AO.sGrowBT (h := ?_) | refine AO.sGrow (h := ?_) | refine AO.sNewr (h := ?_))
    | (apply AO.kBox; refine AO.sBox (h := ?_))
    | (apply AO.kAlloc; refine AO.sAlloc (h := ?_))
    | (apply AO.kStore; first | refine AO.sStore (h := ?_) | refine AO.sStB (h := ?_))
    | (apply AO.kAdd; refine AO.sAdd (h := ?_))
    | (apply AO.kSub; refine AO.sSub (h := ?_))
    | (apply AO.kP; first | refine AO.sP (h := ?_) | refine AO.sPi (h := ?_) | refine AO.sLoadB (h := ?_) | refine AO.sSameB (h := ?_))
    | apply AW.seq
    | (apply AW.kR; refine AW.sR (h := ?_))
    | apply AW.skip
    | apply AW.block
    | apply AW.out
    | (apply AW.kE; refine AW.sE (h := ?_))
    | apply AW.label
    | (apply AW.kRd; refine AW.sRd (h := ?_))
    | ((first | (apply AW.kC; refine AW.sC (h1 := fun h => ?_) (h2 := fun h => ?_))) <;> (try (first | exact Bool.noConfusion h | exact absurd h (by decide) | (simp at h; done) | (rw [h]; try simp only [nrm] at h; try rw [h]; try (exfalso; omega)) | skip)))
    | (apply AR.kAny; first | (apply AR.kCall 112; refine AR.callM [(1000000, 1000000)] (hg := (gM)) (hc := by exact rfl) (ha := by (repeat constructor); done) (hl := by (repeat (first | exact LeL.nil | (refine LeL.cons (Le.refl _) ?_) | (refine LeL.cons Le.gr ?_) | (refine LeL.cons Le.nil ?_))); done) (hi := by (repeat (first | exact Rho.here | exact Rho.nil | (refine Rho.there ?_ ?_; exact rfl) | exact RnL.nil | apply RnL.cons | exact RoL.nil | exact Lent.nil | exact Apd.nil | apply Apd.cons | (refine Lent.cons ?_ ?_ ?_ ?_ ?_) | (refine RoL.cons ?_ ?_ ?_) | (refine RnL.same ?_; exact rfl) | constructor | exact rfl)); done) (ht := by exact rfl) (hr := by (repeat (first | exact Rho.here | exact Rho.nil | (refine Rho.there ?_ ?_; exact rfl) | exact RnL.nil | apply RnL.cons | exact RoL.nil | exact Lent.nil | exact Apd.nil | apply Apd.cons | (refine Lent.cons ?_ ?_ ?_ ?_ ?_) | (refine RoL.cons ?_ ?_ ?_) | (refine RnL.same ?_; exact rfl) | constructor | exact rfl)); done) (ho := by (repeat (first | exact Rho.here | exact Rho.nil | (refine Rho.there ?_ ?_; exact rfl) | exact RnL.nil | apply RnL.cons | exact RoL.nil | exact Lent.nil | exact Apd.nil | apply Apd.cons | (refine Lent.cons ?_ ?_ ?_ ?_ ?_) | (refine RoL.cons ?_ ?_ ?_) | (refine RnL.same ?_; exact rfl) | constructor | exact rfl)); done) (hn := by exact rfl) (hB := by (repeat (first | exact Rho.here | exact Rho.nil | (refine Rho.there ?_ ?_; exact rfl) | exact RnL.nil | apply RnL.cons | exact RoL.nil | exact Lent.nil | exact Apd.nil | apply Apd.cons | (refine Lent.cons ?_ ?_ ?_ ?_ ?_) | (refine RoL.cons ?_ ?_ ?_) | (refine RnL.same ?_; exact rfl) | constructor | exact rfl)); done) (htg := by (repeat (first | exact LE.nil | apply LE.cons)); done) (h := ?_)) | (apply AR.kBuildS; first | refine AR.sBuildT (h := ?_) | refine AR.sBuildS (h := ?_)) | (apply AR.kApp; first | refine AR.sGrowT (h := ?_) | refine AR.sNewT (h := ?_) | refine AR.sGrowBT (h := ?_) | refine AR.sGrow (h := ?_) | refine AR.sNewr (h := ?_)) | (apply AR.kBox; refine AR.sBox (h := ?_)) | (apply AR.kAlloc; refine AR.sAlloc (h := ?_)) | (apply AR.kStore; refine AR.sStore (h := ?_)) | (apply AR.kAdd; refine AR.sAdd (h := ?_)) | (apply AR.kSub; refine AR.sSub (h := ?_)) | (apply AR.kP; first | refine AR.sP (h := ?_) | refine AR.sPi (h := ?_)))
    | (apply AR.kNil; refine AR.sNil (h := ?_)))
      all_goals try (exfalso; omega)
      refine AW.loopI (fun q : Nat => q ≤ m0) (fun q => ⟨[(1, .ptr 1 0), (2, .ptr 2 0), (3, .ptr 3 0), (51, .i .i64 m0), (52, .i .i64 q)], [(1, .bx [.ptr 1000000 0]), (2, .bx [.b false, .nil, .nil, .nil, .nil]), (3, .bx [.b false, .nil, .gr 901 9 1 (pv.map sav), .gr 902 65 4 (es.map Ed.av), .gr 903 71 6 ((rep msP q r5).1.map Ms.av)]), (903, .gw ((rep msP q r5).1.map Ms.av).length), (1000000, .bx (rep msP q r5).2.av)]⟩) (fun q => m0 - q) 0 (by simp) (by (constructor <;> (repeat' (first | exact LeT.nil | exact LeB.nil | apply LeT.cons | apply LeB.cons | exact Ol.refl | apply Lx.s | apply Lx.b | apply Lx.i | exact Lx.refl)) <;> (first | rfl | assumption | omega | (simp only [List.length_map, BS_len]; done) | skip))) fun m q hq ih => ?_
      have lq : ((rep msP q r5).1.map Ms.av).length = q := by rw [List.length_map, rep_len]
      by_cases hq2 : q < m0
      · have hq' := (pf_ms.rep q).ok hm
        have e1 : rep msP (q + 1) r5 = ((rep msP q r5).1 ++ [(msP (rep msP q r5).2).1], (msP (rep msP q r5).2).2) := rfl
        generalize rep msP q r5 = z at *
        obtain ⟨xs, rq⟩ := z
        dsimp only at *
        have gT := gMsgP _ hq'
        repeat' (first
    | apply AO.nil
    | (apply AO.kCall 117; refine AO.callM [(1000000, 1000000)] (hg := (gT)) (hc := by exact rfl) (ha := by (repeat constructor); done) (hl := by (repeat (first | exact LeL.nil | (refine LeL.cons (Le.refl _) ?_) | (refine LeL.cons Le.gr ?_) | (refine LeL.cons Le.nil ?_))); done) (hi := by (repeat (first | exact Rho.here | exact Rho.nil | (refine Rho.there ?_ ?_; exact rfl) | exact RnL.nil | apply RnL.cons | exact RoL.nil | exact Lent.nil | exact Apd.nil | apply Apd.cons | (refine Lent.cons ?_ ?_ ?_ ?_ ?_) | (refine RoL.cons ?_ ?_ ?_) | (refine RnL.same ?_; exact rfl) | constructor | exact rfl)); done) (ht := by exact rfl) (hr := by (repeat (first | exact Rho.here | exact Rho.nil | (refine Rho.there ?_ ?_; exact rfl) | exact RnL.nil | apply RnL.cons | exact RoL.nil | exact Lent.nil | exact Apd.nil | apply Apd.cons | (refine Lent.cons ?_ ?_ ?_ ?_ ?_) | (refine RoL.cons ?_ ?_ ?_) | (refine RnL.same ?_; exact rfl) | constructor | exact rfl)); done) (ho := by (repeat (first | exact Rho.here | exact Rho.nil | (refine Rho.there ?_ ?_; exact rfl) | exact RnL.nil | apply RnL.cons | exact RoL.nil | exact Lent.nil | exact Apd.nil | apply Apd.cons | (refine Lent.cons ?_ ?_ ?_ ?_ ?_) | (refine RoL.cons ?_ ?_ ?_) | (refine RnL.same ?_; exact rfl) | constructor | exact rfl)); done) (hn := by exact rfl) (hB := by (repeat (first | exact Rho.here | exact Rho.nil | (refine Rho.there ?_ ?_; exact rfl) | exact RnL.nil | apply RnL.cons | exact RoL.nil | exact Lent.nil | exact Apd.nil | apply Apd.cons | (refine Lent.cons ?_ ?_ ?_ ?_ ?_) | (refine RoL.cons ?_ ?_ ?_) | (refine RnL.same ?_; exact rfl) | constructor | exact rfl)); done) (h := ?_))
    | (apply AO.kBuildS; first | refine AO.sBuildT (h := ?_) | refine AO.sBuildS (h := ?_))
    | (apply AO.kApp; first | refine AO.sGrowT (h := ?_) | refine AO.sNewT (h := ?_) | refine AO.sGrowBT (h := ?_) | refine AO.sGrow (h := ?_) | refine AO.sNewr (h := ?_))
    | (apply AO.kBox; refine AO.sBox (h := ?_))
    | (apply AO.kAlloc; refine AO.sAlloc (h := ?_))
    | (apply AO.kStore; first | refine AO.sStore (h := ?_) | refine AO.sStB (h := ?_))
    | (apply AO.kAdd; refine AO.sAdd (h := ?_))
    | (apply AO.kSub; refine AO.sSub (h := ?_))
    | (apply AO.kP; first | refine AO.sP (h := ?_) | refine AO.sPi (h := ?_) | refine AO.sLoadB (h := ?_) | refine AO.sSameB (h := ?_))
    | apply AW.seq
    | (apply AW.kR; refine AW.sR (h := ?_))
    | apply AW.skip
    | apply AW.block
    | apply AW.out
    | (apply AW.kE; refine AW.sE (h := ?_))
    | apply AW.label
    | (apply AW.kRd; refine AW.sRd (h := ?_))
    | ((first | (apply AW.kC; refine AW.sC (h1 := fun h => ?_) (h2 := fun h => ?_))) <;> (try (first | exact Bool.noConfusion h | exact absurd h (by decide) | (simp at h; done) | (rw [h]; try simp only [nrm] at h; try rw [h]; try (exfalso; omega)) | skip)))
    | (apply AR.kAny; first | (apply AR.kCall 117; refine AR.callM [(1000000, 1000000)] (hg := (gT)) (hc := by exact rfl) (ha := by (repeat constructor); done) (hl := by (repeat (first | exact LeL.nil | (refine LeL.cons (Le.refl _) ?_) | (refine LeL.cons Le.gr ?_) | (refine LeL.cons Le.nil ?_))); done) (hi := by (repeat (first | exact Rho.here | exact Rho.nil | (refine Rho.there ?_ ?_; exact rfl) | exact RnL.nil | apply RnL.cons | exact RoL.nil | exact Lent.nil | exact Apd.nil | apply Apd.cons | (refine Lent.cons ?_ ?_ ?_ ?_ ?_) | (refine RoL.cons ?_ ?_ ?_) | (refine RnL.same ?_; exact rfl) | constructor | exact rfl)); done) (ht := by exact rfl) (hr := by (repeat (first | exact Rho.here | exact Rho.nil | (refine Rho.there ?_ ?_; exact rfl) | exact RnL.nil | apply RnL.cons | exact RoL.nil | exact Lent.nil | exact Apd.nil | apply Apd.cons | (refine Lent.cons ?_ ?_ ?_ ?_ ?_) | (refine RoL.cons ?_ ?_ ?_) | (refine RnL.same ?_; exact rfl) | constructor | exact rfl)); done) (ho := by (repeat (first | exact Rho.here | exact Rho.nil | (refine Rho.there ?_ ?_; exact rfl) | exact RnL.nil | apply RnL.cons | exact RoL.nil | exact Lent.nil | exact Apd.nil | apply Apd.cons | (refine Lent.cons ?_ ?_ ?_ ?_ ?_) | (refine RoL.cons ?_ ?_ ?_) | (refine RnL.same ?_; exact rfl) | constructor | exact rfl)); done) (hn := by exact rfl) (hB := by (repeat (first | exact Rho.here | exact Rho.nil | (refine Rho.there ?_ ?_; exact rfl) | exact RnL.nil | apply RnL.cons | exact RoL.nil | exact Lent.nil | exact Apd.nil | apply Apd.cons | (refine Lent.cons ?_ ?_ ?_ ?_ ?_) | (refine RoL.cons ?_ ?_ ?_) | (refine RnL.same ?_; exact rfl) | constructor | exact rfl)); done) (htg := by (repeat (first | exact LE.nil | apply LE.cons)); done) (h := ?_)) | (apply AR.kBuildS; first | refine AR.sBuildT (h := ?_) | refine AR.sBuildS (h := ?_)) | (apply AR.kApp; first | refine AR.sGrowT (h := ?_) | refine AR.sNewT (h := ?_) | refine AR.sGrowBT (h := ?_) | refine AR.sGrow (h := ?_) | refine AR.sNewr (h := ?_)) | (apply AR.kBox; refine AR.sBox (h := ?_)) | (apply AR.kAlloc; refine AR.sAlloc (h := ?_)) | (apply AR.kStore; refine AR.sStore (h := ?_)) | (apply AR.kAdd; refine AR.sAdd (h := ?_)) | (apply AR.kSub; refine AR.sSub (h := ?_)) | (apply AR.kP; first | refine AR.sP (h := ?_) | refine AR.sPi (h := ?_)))
    | (apply AR.kNil; refine AR.sNil (h := ?_)))
        all_goals try (exfalso; omega)
        refine ih (q + 1) _ (by omega) (by omega) ?_
        simp only [e1]
        ((constructor <;> (repeat' (first | exact LeT.nil | exact LeB.nil | apply LeT.cons | apply LeB.cons | exact Ol.refl | apply Lx.s | apply Lx.b | apply Lx.i | exact Lx.refl)) <;> (first | rfl | assumption | omega | (simp only [List.length_map, BS_len]; done) | skip)) <;> (first | (refine Lx.eq (congrArg (AV.gr _ _ _) ?_); simp only [List.map_append, List.map_cons, List.map_nil]; rfl) | (refine Ol.eq (congrArg Ob.gw ?_); simp only [List.map_append, List.map_cons, List.map_nil, List.length_append, List.length_map, List.length_cons, List.length_nil]; done) | (refine Ol.bx ?_; (repeat' (first | exact LxL.nil | apply LxL.cons | exact Lx.refl | (refine Lx.eq (congrArg (AV.gr _ _ _) ?_); simp only [List.map_append, List.map_cons, List.map_nil]; rfl)))) | skip))
      · obtain rfl : m0 = q := by omega
        repeat' (first
    | apply AO.nil
    | (apply AO.kBuildS; first | refine AO.sBuildT (h := ?_) | refine AO.sBuildS (h := ?_))
    | (apply AO.kApp; first | refine AO.sGrowT (h := ?_) | refine AO.sNewT (h := ?_) | refine AO.sGrowBT (h := ?_) | refine AO.sGrow (h := ?_) | refine AO.sNewr (h := ?_))
    | (apply AO.kBox; refine AO.sBox (h := ?_))
    | (apply AO.kAlloc; refine AO.sAlloc (h := ?_))
    | (apply AO.kStore; first | refine AO.sStore (h := ?_) | refine AO.sStB (h := ?_))
    | (apply AO.kAdd; refine AO.sAdd (h := ?_))
    | (apply AO.kSub; refine AO.sSub (h := ?_))
    | (apply AO.kP; first | refine AO.sP (h := ?_) | refine AO.sPi (h := ?_) | refine AO.sLoadB (h := ?_) | refine AO.sSameB (h := ?_))
    | apply AW.seq
    | (apply AW.kR; refine AW.sR (h := ?_))
    | apply AW.skip
    | apply AW.block
    | apply AW.out
    | (apply AW.kE; refine AW.sE (h := ?_))
    | apply AW.label
    | (apply AW.kRd; refine AW.sRd (h := ?_))
    | ((first | (apply AW.kC; refine AW.sC (h1 := fun h => ?_) (h2 := fun h => ?_))) <;> (try (first | exact Bool.noConfusion h | exact absurd h (by decide) | (simp at h; done) | (rw [h]; try simp only [nrm] at h; try rw [h]; try (exfalso; omega)) | skip)))
    | (apply AR.kAny; first | (apply AR.kBuildS; first | refine AR.sBuildT (h := ?_) | refine AR.sBuildS (h := ?_)) | (apply AR.kApp; first | refine AR.sGrowT (h := ?_) | refine AR.sNewT (h := ?_) | refine AR.sGrowBT (h := ?_) | refine AR.sGrow (h := ?_) | refine AR.sNewr (h := ?_)) | (apply AR.kBox; refine AR.sBox (h := ?_)) | (apply AR.kAlloc; refine AR.sAlloc (h := ?_)) | (apply AR.kStore; refine AR.sStore (h := ?_)) | (apply AR.kAdd; refine AR.sAdd (h := ?_)) | (apply AR.kSub; refine AR.sSub (h := ?_)) | (apply AR.kP; first | refine AR.sP (h := ?_) | refine AR.sPi (h := ?_)))
    | (apply AR.kNil; refine AR.sNil (h := ?_)))
        all_goals try (exfalso; omega)
        exact AW.ret (hD rfl (Lx.agg (.cons .refl (.cons .nil (.cons .gr (.cons .gr (.cons .gr .nil)))))) (.cons .refl .nil))
end Go.Proofs.Ytmfonbehcfjjgaa.Mv

/- The codec: Get, whole. Under no condition. -/
namespace Go.Proofs.Ytmfonbehcfjjgaa.Mv
open Go Go.Proofs
set_option linter.unusedSimpArgs false
set_option linter.unusedVariables false
set_option maxRecDepth 10000
set_option maxHeartbeats 4000000
attribute [local irreducible] AW AO AR

theorem leaf_eq (r : Rd) : leafP r = (⟨true, (rep prP (cnt 16 r).1 (cnt 16 r).2).1, [], [], []⟩, (rep prP (cnt 16 r).1 (cnt 16 r).2).2) := rfl
theorem node_small (r : Rd) : (nodeP r).1.small := by
  have e : nodeP r = (if takeV r 1 = 1 then leafP else if takeV r 1 = 2 then innerP else bd (fl 7) fun _ => pu ndE) (takeR r 1) := rfl
  rw [e]
  split
  · rw [leaf_eq]
    have := cnt_le 16 (takeR r 1)
    exact ⟨by dsimp only; rw [rep_len]; omega, by simp, by simp, by simp⟩
  · split
    · rw [inner_eq]
      have h1 := cnt_le 8 (takeR r 1)
      exact ⟨by simp, by dsimp only; rw [rep_len]; omega, by dsimp only; rw [rep_len]; omega, by dsimp only; rw [rep_len]; exact Nat.le_trans (cnt_le 16 _) (by decide)⟩
    · exact ⟨by simp [bd, pu, ndE], by simp [bd, pu, ndE], by simp [bd, pu, ndE], by simp [bd, pu, ndE]⟩
theorem gCGet (b : L) (hb : b.length ≤ 1000000) : Good Try.prog 36 [.sh 1 (BS b)] [] (.tup [.agg (getV b).av, .i .i64 (getE b)]) [] := by
  have hr : Rd.ok ⟨b, 0, 0⟩ := ⟨hb, Nat.zero_le _⟩
  have gN := fun t => gNew b hb t
  have g8 := gGet8 ⟨b, 0, 0⟩ hr.1 hr.2
  have v256 : takeV ⟨b, 0, 0⟩ 1 < 256 := takeV_lt _ 1
  have h1 : (takeR ⟨b, 0, 0⟩ 1).ok := (Pf.tk 1).ok hr
  have hN := pf_node.ok hr
  have hs := node_small ⟨b, 0, 0⟩
  have gF := gFail (takeR ⟨b, 0, 0⟩ 1) 7
  have gL := gPairs _ h1
  have gI := gInner _ h1
  have e : nodeP ⟨b, 0, 0⟩ = (if takeV ⟨b, 0, 0⟩ 1 = 1 then leafP else if takeV ⟨b, 0, 0⟩ 1 = 2 then innerP else bd (fl 7) fun _ => pu ndE) (takeR ⟨b, 0, 0⟩ 1) := rfl
  have eV : getV b = if getE b = 0 then (nodeP ⟨b, 0, 0⟩).1 else ndE := rfl
  rw [eV]
  unfold getE
  generalize takeV ⟨b, 0, 0⟩ 1 = k at *
  generalize takeR ⟨b, 0, 0⟩ 1 = r1 at *
  generalize nodeP ⟨b, 0, 0⟩ = z at *
  obtain ⟨n, rN⟩ := z
  dsimp only at *
  have gE := gEnd rN hN.1
  have gM := gMay n hs
  refine Good.w tabOk mixed Try.func36 (N := 41) (by kernel_rfl) rfl (by (repeat (first | exact LE.nil | apply LE.cons)); done) (by (repeat (first | exact LE.nil | apply LE.cons)); done) fun D hD F => ?_
  (repeat (first | apply AW.seq | apply AW.block)); apply AW.kR; refine AW.sR (h := ?_); repeat' (first
    | apply AO.nil
    | (apply AO.kAlloc; refine AO.sAlloc (h := ?_))
    | (apply AO.kStore; first | refine AO.sStore (h := ?_) | refine AO.sStB (h := ?_))
    | (apply AO.kP; first | refine AO.sP (h := ?_) | refine AO.sPi (h := ?_) | refine AO.sLoadB (h := ?_)))
  (repeat (first | apply AW.seq | apply AW.block)); apply AW.kR; refine AW.sR (h := ?_); repeat' (first
    | apply AO.nil
    | (apply AO.kCall 76; refine AO.sCall1 (hg := ( gN _)) (h := ?_))
    | (apply AO.kAlloc; refine AO.sAlloc (h := ?_))
    | (apply AO.kStore; first | refine AO.sStore (h := ?_) | refine AO.sStB (h := ?_))
    | (apply AO.kP; first | refine AO.sP (h := ?_) | refine AO.sPi (h := ?_) | refine AO.sLoadB (h := ?_)))
  (repeat (first | apply AW.seq | apply AW.block)); apply AW.kR; refine AW.sR (h := ?_); repeat' (first
    | apply AO.nil
    | (apply AO.kAlloc; refine AO.sAlloc (h := ?_))
    | (apply AO.kStore; first | refine AO.sStore (h := ?_) | refine AO.sStB (h := ?_))
    | (apply AO.kP; first | refine AO.sP (h := ?_) | refine AO.sPi (h := ?_) | refine AO.sLoadB (h := ?_)))
  (repeat (first | apply AW.seq | apply AW.block)); apply AW.kR; refine AW.sR (h := ?_); repeat' (first
    | apply AO.nil
    | (apply AO.kCall 77; refine AO.callM [(1000000, 8)] (hg := (g8)) (hc := by exact rfl) (ha := by (repeat constructor); done) (hl := by (repeat (first | exact LeL.nil | (refine LeL.cons (Le.refl _) ?_) | (refine LeL.cons Le.gr ?_) | (refine LeL.cons Le.nil ?_))); done) (hi := by (repeat (first | exact Rho.here | exact Rho.nil | (refine Rho.there ?_ ?_; exact rfl) | exact RnL.nil | apply RnL.cons | exact RoL.nil | exact Lent.nil | exact Apd.nil | apply Apd.cons | (refine Lent.cons ?_ ?_ ?_ ?_ ?_) | (refine RoL.cons ?_ ?_ ?_) | (refine RnL.same ?_; exact rfl) | constructor | exact rfl)); done) (ht := by exact rfl) (hr := by (repeat (first | exact Rho.here | exact Rho.nil | (refine Rho.there ?_ ?_; exact rfl) | exact RnL.nil | apply RnL.cons | exact RoL.nil | exact Lent.nil | exact Apd.nil | apply Apd.cons | (refine Lent.cons ?_ ?_ ?_ ?_ ?_) | (refine RoL.cons ?_ ?_ ?_) | (refine RnL.same ?_; exact rfl) | constructor | exact rfl)); done) (ho := by (repeat (first | exact Rho.here | exact Rho.nil | (refine Rho.there ?_ ?_; exact rfl) | exact RnL.nil | apply RnL.cons | exact RoL.nil | exact Lent.nil | exact Apd.nil | apply Apd.cons | (refine Lent.cons ?_ ?_ ?_ ?_ ?_) | (refine RoL.cons ?_ ?_ ?_) | (refine RnL.same ?_; exact rfl) | constructor | exact rfl)); done) (hn := by exact rfl) (hB := by (repeat (first | exact Rho.here | exact Rho.nil | (refine Rho.there ?_ ?_; exact rfl) | exact RnL.nil | apply RnL.cons | exact RoL.nil | exact Lent.nil | exact Apd.nil | apply Apd.cons | (refine Lent.cons ?_ ?_ ?_ ?_ ?_) | (refine RoL.cons ?_ ?_ ?_) | (refine RnL.same ?_; exact rfl) | constructor | exact rfl)); done) (h := ?_))
    | (apply AO.kAlloc; refine AO.sAlloc (h := ?_))
    | (apply AO.kStore; first | refine AO.sStore (h := ?_) | refine AO.sStB (h := ?_))
    | (apply AO.kP; first | refine AO.sP (h := ?_) | refine AO.sPi (h := ?_) | refine AO.sLoadB (h := ?_)))
  apply AW.block
  refine AW.joinB ⟨[(2, .ptr 2 0), (4, .ptr 4 0), (5, .ptr 5 0)], [(2, .bx [.b false, .nil, .nil, .nil, .nil]), (4, .bx [.ptr 8 0]), (5, .bx n.av), (8, .bx rN.av)]⟩ ?_ ?_
  · intro k' hk'
    repeat' (first
    | apply AO.nil
    | (apply AO.kCall 78; refine AO.callM [(1000000, 8)] (hg := (gL)) (hc := by exact rfl) (ha := by (repeat constructor); done) (hl := by (repeat (first | exact LeL.nil | (refine LeL.cons (Le.refl _) ?_) | (refine LeL.cons Le.gr ?_) | (refine LeL.cons Le.nil ?_))); done) (hi := by (repeat (first | exact Rho.here | exact Rho.nil | (refine Rho.there ?_ ?_; exact rfl) | exact RnL.nil | apply RnL.cons | exact RoL.nil | exact Lent.nil | exact Apd.nil | apply Apd.cons | (refine Lent.cons ?_ ?_ ?_ ?_ ?_) | (refine RoL.cons ?_ ?_ ?_) | (refine RnL.same ?_; exact rfl) | constructor | exact rfl)); done) (ht := by exact rfl) (hr := by (repeat (first | exact Rho.here | exact Rho.nil | (refine Rho.there ?_ ?_; exact rfl) | exact RnL.nil | apply RnL.cons | exact RoL.nil | exact Lent.nil | exact Apd.nil | apply Apd.cons | (refine Lent.cons ?_ ?_ ?_ ?_ ?_) | (refine RoL.cons ?_ ?_ ?_) | (refine RnL.same ?_; exact rfl) | constructor | exact rfl)); done) (ho := by (repeat (first | exact Rho.here | exact Rho.nil | (refine Rho.there ?_ ?_; exact rfl) | exact RnL.nil | apply RnL.cons | exact RoL.nil | exact Lent.nil | exact Apd.nil | apply Apd.cons | (refine Lent.cons ?_ ?_ ?_ ?_ ?_) | (refine RoL.cons ?_ ?_ ?_) | (refine RnL.same ?_; exact rfl) | constructor | exact rfl)); done) (hn := by exact rfl) (hB := by (repeat (first | exact Rho.here | exact Rho.nil | (refine Rho.there ?_ ?_; exact rfl) | exact RnL.nil | apply RnL.cons | exact RoL.nil | exact Lent.nil | exact Apd.nil | apply Apd.cons | (refine Lent.cons ?_ ?_ ?_ ?_ ?_) | (refine RoL.cons ?_ ?_ ?_) | (refine RnL.same ?_; exact rfl) | constructor | exact rfl)); done) (h := ?_))
    | (apply AO.kCall 79; refine AO.callM [(1000000, 8)] (hg := (gI)) (hc := by exact rfl) (ha := by (repeat constructor); done) (hl := by (repeat (first | exact LeL.nil | (refine LeL.cons (Le.refl _) ?_) | (refine LeL.cons Le.gr ?_) | (refine LeL.cons Le.nil ?_))); done) (hi := by (repeat (first | exact Rho.here | exact Rho.nil | (refine Rho.there ?_ ?_; exact rfl) | exact RnL.nil | apply RnL.cons | exact RoL.nil | exact Lent.nil | exact Apd.nil | apply Apd.cons | (refine Lent.cons ?_ ?_ ?_ ?_ ?_) | (refine RoL.cons ?_ ?_ ?_) | (refine RnL.same ?_; exact rfl) | constructor | exact rfl)); done) (ht := by exact rfl) (hr := by (repeat (first | exact Rho.here | exact Rho.nil | (refine Rho.there ?_ ?_; exact rfl) | exact RnL.nil | apply RnL.cons | exact RoL.nil | exact Lent.nil | exact Apd.nil | apply Apd.cons | (refine Lent.cons ?_ ?_ ?_ ?_ ?_) | (refine RoL.cons ?_ ?_ ?_) | (refine RnL.same ?_; exact rfl) | constructor | exact rfl)); done) (ho := by (repeat (first | exact Rho.here | exact Rho.nil | (refine Rho.there ?_ ?_; exact rfl) | exact RnL.nil | apply RnL.cons | exact RoL.nil | exact Lent.nil | exact Apd.nil | apply Apd.cons | (refine Lent.cons ?_ ?_ ?_ ?_ ?_) | (refine RoL.cons ?_ ?_ ?_) | (refine RnL.same ?_; exact rfl) | constructor | exact rfl)); done) (hn := by exact rfl) (hB := by (repeat (first | exact Rho.here | exact Rho.nil | (refine Rho.there ?_ ?_; exact rfl) | exact RnL.nil | apply RnL.cons | exact RoL.nil | exact Lent.nil | exact Apd.nil | apply Apd.cons | (refine Lent.cons ?_ ?_ ?_ ?_ ?_) | (refine RoL.cons ?_ ?_ ?_) | (refine RnL.same ?_; exact rfl) | constructor | exact rfl)); done) (h := ?_))
    | (apply AO.kCall 80; refine AO.callM [(1000000, 8)] (hg := (gF)) (hc := by exact rfl) (ha := by (repeat constructor); done) (hl := by (repeat (first | exact LeL.nil | (refine LeL.cons (Le.refl _) ?_) | (refine LeL.cons Le.gr ?_) | (refine LeL.cons Le.nil ?_))); done) (hi := by (repeat (first | exact Rho.here | exact Rho.nil | (refine Rho.there ?_ ?_; exact rfl) | exact RnL.nil | apply RnL.cons | exact RoL.nil | exact Lent.nil | exact Apd.nil | apply Apd.cons | (refine Lent.cons ?_ ?_ ?_ ?_ ?_) | (refine RoL.cons ?_ ?_ ?_) | (refine RnL.same ?_; exact rfl) | constructor | exact rfl)); done) (ht := by exact rfl) (hr := by (repeat (first | exact Rho.here | exact Rho.nil | (refine Rho.there ?_ ?_; exact rfl) | exact RnL.nil | apply RnL.cons | exact RoL.nil | exact Lent.nil | exact Apd.nil | apply Apd.cons | (refine Lent.cons ?_ ?_ ?_ ?_ ?_) | (refine RoL.cons ?_ ?_ ?_) | (refine RnL.same ?_; exact rfl) | constructor | exact rfl)); done) (ho := by (repeat (first | exact Rho.here | exact Rho.nil | (refine Rho.there ?_ ?_; exact rfl) | exact RnL.nil | apply RnL.cons | exact RoL.nil | exact Lent.nil | exact Apd.nil | apply Apd.cons | (refine Lent.cons ?_ ?_ ?_ ?_ ?_) | (refine RoL.cons ?_ ?_ ?_) | (refine RnL.same ?_; exact rfl) | constructor | exact rfl)); done) (hn := by exact rfl) (hB := by (repeat (first | exact Rho.here | exact Rho.nil | (refine Rho.there ?_ ?_; exact rfl) | exact RnL.nil | apply RnL.cons | exact RoL.nil | exact Lent.nil | exact Apd.nil | apply Apd.cons | (refine Lent.cons ?_ ?_ ?_ ?_ ?_) | (refine RoL.cons ?_ ?_ ?_) | (refine RnL.same ?_; exact rfl) | constructor | exact rfl)); done) (h := ?_))
    | (apply AO.kAlloc; refine AO.sAlloc (h := ?_))
    | (apply AO.kStore; first | refine AO.sStore (h := ?_) | refine AO.sStB (h := ?_))
    | (apply AO.kP; first | refine AO.sP (h := ?_) | refine AO.sPi (h := ?_) | refine AO.sLoadB (h := ?_))
    | apply AW.seq
    | (apply AW.kR; refine AW.sR (h := ?_))
    | apply AW.skip
    | apply AW.block
    | apply AW.out
    | (apply AW.kE; refine AW.sE (h := ?_))
    | apply AW.label
    | ((first | (apply AO.kG; first | refine AO.sgt (h1 := fun h => ?_) (h2 := fun h => ?_) | refine AO.sgf (h1 := fun h => ?_) (h2 := fun h => ?_) | refine AO.sgs (h := ?_)) | (apply AW.kC; refine AW.sC (h1 := fun h => ?_) (h2 := fun h => ?_))) <;> (try (first | exact Bool.noConfusion h | exact absurd h (by decide) | (simp at h; done) | (rw [h]; try simp only [nrm] at h; try rw [h]; try (exfalso; omega)) | skip))))
    · have ek : k = 1 := by omega
      rw [if_pos ek, leaf_eq] at e
      have e1 := congrArg Prod.fst e
      have e2 := congrArg Prod.snd e
      dsimp only at e1 e2
      subst e1; subst e2
      exact hk' _ ⟨by ((repeat' (first | exact LeT.nil | apply LeT.cons | apply Lx.s | apply Lx.b | apply Lx.i | exact Lx.refl)) <;> (first | rfl | assumption | omega | (simp only [List.length_map, BS_len]; done) | skip)), .cons .refl (.cons .refl (.cons (.bx (.cons .refl (.cons .refl (.cons Lx.nil (.cons Lx.nil (.cons Lx.nil .nil)))))) (.cons .refl .nil)))⟩
    · have ek : k = 2 := by omega
      rw [if_neg (by omega), if_pos ek] at e
      have e1 := congrArg Prod.fst e
      have e2 := congrArg Prod.snd e
      dsimp only at e1 e2
      subst e1; subst e2
      exact hk' _ ⟨by ((repeat' (first | exact LeT.nil | apply LeT.cons | apply Lx.s | apply Lx.b | apply Lx.i | exact Lx.refl)) <;> (first | rfl | assumption | omega | (simp only [List.length_map, BS_len]; done) | skip)), .cons .refl (.cons .refl (.cons .refl (.cons .refl .nil)))⟩
    · rw [if_neg (by omega), if_neg (by omega)] at e
      have e1 := congrArg Prod.fst e
      have e2 := congrArg Prod.snd e
      dsimp only [bd, fl, pu] at e1 e2
      subst e1; subst e2
      exact hk' _ ⟨by ((repeat' (first | exact LeT.nil | apply LeT.cons | apply Lx.s | apply Lx.b | apply Lx.i | exact Lx.refl)) <;> (first | rfl | assumption | omega | (simp only [List.length_map, BS_len]; done) | skip)), .cons .refl (.cons .refl (.cons (.bx (.cons .refl (.cons Lx.nil (.cons Lx.nil (.cons Lx.nil (.cons Lx.nil .nil)))))) (.cons .refl .nil)))⟩
  · have nz : Lx Tr (.agg [.b false, .nil, .nil, .nil, .nil]) (.agg ndE.av) := .agg (.cons .refl (.cons Lx.nil (.cons Lx.nil (.cons Lx.nil (.cons Lx.nil .nil)))))
    repeat' (first
    | apply AO.nil
    | (apply AO.kCall 81; refine AO.callM [(1000000, 8)] (hg := (gE)) (hc := by exact rfl) (ha := by (repeat constructor); done) (hl := by (repeat (first | exact LeL.nil | (refine LeL.cons (Le.refl _) ?_) | (refine LeL.cons Le.gr ?_) | (refine LeL.cons Le.nil ?_))); done) (hi := by (repeat (first | exact Rho.here | exact Rho.nil | (refine Rho.there ?_ ?_; exact rfl) | exact RnL.nil | apply RnL.cons | exact RoL.nil | exact Lent.nil | exact Apd.nil | apply Apd.cons | (refine Lent.cons ?_ ?_ ?_ ?_ ?_) | (refine RoL.cons ?_ ?_ ?_) | (refine RnL.same ?_; exact rfl) | constructor | exact rfl)); done) (ht := by exact rfl) (hr := by (repeat (first | exact Rho.here | exact Rho.nil | (refine Rho.there ?_ ?_; exact rfl) | exact RnL.nil | apply RnL.cons | exact RoL.nil | exact Lent.nil | exact Apd.nil | apply Apd.cons | (refine Lent.cons ?_ ?_ ?_ ?_ ?_) | (refine RoL.cons ?_ ?_ ?_) | (refine RnL.same ?_; exact rfl) | constructor | exact rfl)); done) (ho := by (repeat (first | exact Rho.here | exact Rho.nil | (refine Rho.there ?_ ?_; exact rfl) | exact RnL.nil | apply RnL.cons | exact RoL.nil | exact Lent.nil | exact Apd.nil | apply Apd.cons | (refine Lent.cons ?_ ?_ ?_ ?_ ?_) | (refine RoL.cons ?_ ?_ ?_) | (refine RnL.same ?_; exact rfl) | constructor | exact rfl)); done) (hn := by exact rfl) (hB := by (repeat (first | exact Rho.here | exact Rho.nil | (refine Rho.there ?_ ?_; exact rfl) | exact RnL.nil | apply RnL.cons | exact RoL.nil | exact Lent.nil | exact Apd.nil | apply Apd.cons | (refine Lent.cons ?_ ?_ ?_ ?_ ?_) | (refine RoL.cons ?_ ?_ ?_) | (refine RnL.same ?_; exact rfl) | constructor | exact rfl)); done) (h := ?_))
    | (apply AO.kCall 39; refine AO.sCall (hg := gM) (h := ?_))
    | (apply AO.kAlloc; refine AO.sAlloc (h := ?_))
    | (apply AO.kStore; first | refine AO.sStore (h := ?_) | refine AO.sStB (h := ?_))
    | (apply AO.kP; first | refine AO.sP (h := ?_) | refine AO.sPi (h := ?_) | refine AO.sLoadB (h := ?_))
    | apply AW.seq
    | (apply AW.kR; refine AW.sR (h := ?_))
    | apply AW.skip
    | apply AW.block
    | apply AW.out
    | (apply AW.kE; refine AW.sE (h := ?_))
    | apply AW.label
    | ((first | (apply AO.kG; first | refine AO.sgt (h1 := fun h => ?_) (h2 := fun h => ?_) | refine AO.sgf (h1 := fun h => ?_) (h2 := fun h => ?_) | refine AO.sgs (h := ?_)) | (apply AW.kC; refine AW.sC (h1 := fun h => ?_) (h2 := fun h => ?_))) <;> (try (first | exact Bool.noConfusion h | exact absurd h (by decide) | (simp at h; done) | (rw [h]; try simp only [nrm] at h; try rw [h]; try (exfalso; omega)) | skip))))
    · have a : endR rN = 0 := ‹_›
      have m : mayN n ≠ 0 := by
        have h' : ((mayN n : Int) != 0) = true := ‹_›
        simpa using h'
      simp only [if_pos (And.intro a m)] at hD
      exact AW.ret (hD rfl (.tup (.cons (by rw [if_neg (by decide)]; exact nz) (.cons .refl .nil))))
    · have a : endR rN = 0 := ‹_›
      have m : ¬ mayN n ≠ 0 := by
        have h' : ((mayN n : Int) != 0) = false := ‹_›
        simpa using h'
      simp only [if_neg (fun h : endR rN = 0 ∧ mayN n ≠ 0 => m h.2), if_pos a] at hD
      exact AW.ret (hD rfl (.tup (.cons .refl (.cons (Lx.i a.symm) .nil))))
    · have a : ¬ endR rN = 0 := ‹_›
      simp only [if_neg (fun h : endR rN = 0 ∧ mayN n ≠ 0 => a h.1), if_neg a] at hD
      exact AW.ret (hD rfl (.tup (.cons nz (.cons .refl .nil))))
    · exfalso
      have a : ¬ endR rN = 0 := ‹_›
      simp at h; exact a h
end Go.Proofs.Ytmfonbehcfjjgaa.Mv

/- The codec: the document's reader. Under no condition. -/
namespace Go.Proofs.Ytmfonbehcfjjgaa.Mv
open Go Go.Proofs
set_option linter.unusedSimpArgs false
set_option linter.unusedVariables false
set_option maxRecDepth 10000
set_option maxHeartbeats 4000000
attribute [local irreducible] AW AO AR

theorem gRFail (r : Rd) (x : Int) : Good Try.prog 85 [.agg r.av, .i .i64 x] [] (.agg (failR r x).av) [] := by
  refine Good.w tabOk mixed Try.func85 (N := 11) (by kernel_rfl) rfl (by (repeat (first | exact LE.nil | apply LE.cons)); done) (by (repeat (first | exact LE.nil | apply LE.cons)); done) fun D hD F => ?_
  repeat' (first
    | apply AO.nil
    | (apply AO.kBox; refine AO.sBox (h := ?_))
    | (apply AO.kAlloc; refine AO.sAlloc (h := ?_))
    | (apply AO.kStore; first | refine AO.sStore (h := ?_) | refine AO.sStB (h := ?_))
    | (apply AO.kP; first | refine AO.sP (h := ?_) | refine AO.sPi (h := ?_) | refine AO.sLoadB (h := ?_))
    | apply AW.seq
    | (apply AW.kR; refine AW.sR (h := ?_))
    | apply AW.skip
    | apply AW.block
    | apply AW.out
    | (apply AW.kE; refine AW.sE (h := ?_))
    | apply AW.label
    | ((first | (apply AW.kC; refine AW.sC (h1 := fun h => ?_) (h2 := fun h => ?_))) <;> (try (first | exact Bool.noConfusion h | exact absurd h (by decide) | (simp at h; done) | (rw [h]; try simp only [nrm] at h; try rw [h]; try (exfalso; omega)) | skip))))
  · rw [failR, if_pos h] at hD
    exact AW.ret (hD rfl .refl)
  · rw [failR, if_neg h] at hD
    exact AW.ret (hD rfl .refl)
theorem gRCnt (r : Rd) (m : Nat) (hr : r.ok) : Good Try.prog 83 [.agg r.av, .i .u64 m] [] (.tup [.i .i64 ((cnt m r).1 : Nat), .agg (cnt m r).2.av]) [] := by
  have g := gRGet r 1 (by decide) hr.1 hr.2
  have w : IntKind.wrap .i64 (takeV r 1 : Int) = takeV r 1 := wrap64 (by have := takeV_lt r 1; omega)
  have gF := gRFail (takeR r 1) 13
  rw [cnt_eq]
  refine Good.w tabOk mixed Try.func83 (N := 20) (by kernel_rfl) rfl (by (repeat (first | exact LE.nil | apply LE.cons)); done) (by (repeat (first | exact LE.nil | apply LE.cons)); done) fun D hD F => ?_
  repeat' (first
    | apply AO.nil
    | (apply AO.kCall 82; refine AO.sCall (hg := g) (h := ?_))
    | (apply AO.kCall 85; refine AO.sCall (hg := gF) (h := ?_))
    | (apply AO.kBox; refine AO.sBox (h := ?_))
    | (apply AO.kAlloc; refine AO.sAlloc (h := ?_))
    | (apply AO.kStore; first | refine AO.sStore (h := ?_) | refine AO.sStB (h := ?_))
    | (apply AO.kCv; first | refine AO.sBytes (h := ?_) | refine AO.sStr (h := ?_) | refine AO.sStrR (h := ?_))
    | (apply AO.kP; first | refine AO.sP (h := ?_) | refine AO.sPi (h := ?_) | refine AO.sLoadB (h := ?_))
    | apply AW.seq
    | (apply AW.kR; refine AW.sR (h := ?_))
    | apply AW.skip
    | apply AW.block
    | apply AW.out
    | (apply AW.kE; refine AW.sE (h := ?_))
    | apply AW.label
    | (apply AW.kRd; refine AW.sRd (h := ?_))
    | ((first | (apply AW.kC; refine AW.sC (h1 := fun h => ?_) (h2 := fun h => ?_))) <;> (try (first | exact Bool.noConfusion h | exact absurd h (by decide) | (simp at h; done) | (rw [h]; try simp only [nrm] at h; try rw [h]; try (exfalso; omega)) | skip)))
    | (apply AR.kAny; first | (apply AR.kCall 82; refine AR.sCall (hg := g) (h := ?_)) | (apply AR.kCall 85; refine AR.sCall (hg := gF) (h := ?_)) | (apply AR.kBox; refine AR.sBox (h := ?_)) | (apply AR.kAlloc; refine AR.sAlloc (h := ?_)) | (apply AR.kStore; refine AR.sStore (h := ?_)) | (apply AR.kCv; refine AR.sStrR (h := ?_)) | (apply AR.kP; first | refine AR.sP (h := ?_) | refine AR.sPi (h := ?_)))
    | (apply AR.kNil; refine AR.sNil (h := ?_)))
  all_goals simp only [w] at *
  · rw [if_pos (by omega)] at hD
    exact AW.ret (hD rfl .refl)
  · rw [if_neg (by omega)] at hD
    exact AW.ret (hD rfl .refl)
theorem w32k {k : Nat} (h : k < 4294967296) : IntKind.wrap .u32 (k : Int) = ((BitVec.ofNat 32 k).toNat : Int) := by
  rw [b32k h]; exact wrapN (.inr (.inr ⟨rfl, h⟩))
theorem w16k {k : Nat} (h : k < 65536) : IntKind.wrap .u16 (k : Int) = ((BitVec.ofNat 16 k).toNat : Int) := by
  rw [b16k h]; exact wrapN (.inr (.inl ⟨rfl, h⟩))
theorem w8k {k : Nat} (h : k < 256) : IntKind.wrap .u8 (k : Int) = ((UInt8.ofNat k).toNat : Int) := by
  rw [u8k h]; exact wrapN (.inl ⟨rfl, h⟩)
theorem gREdge (r : Rd) (hr : r.ok) : Good Try.prog 86 [.agg r.av] [] (.tup [.agg (edP r).1.av, .agg (edP r).2.av]) [] := by
  have g1 := gRGet r 4 (by decide) hr.1 hr.2
  have vb : takeV r 4 < 4294967296 := takeV_lt r 4
  have h4 : (takeR r 4).ok := (Pf.tk 4).ok hr
  have g2 := gRGet (takeR r 4) 2 (by decide) h4.1 h4.2
  have vd : takeV (takeR r 4) 2 < 65536 := takeV_lt _ 2
  have h5 : (takeR (takeR r 4) 2).ok := (Pf.tk 2).ok h4
  have g3 := gRGetText _ 16 h5.1 h5.2
  have h6 := (Pf.tx 16).ok h5
  have g4 := gRGetText _ 16 h6.1 h6.2
  have ed : edP r = (⟨BitVec.ofNat 32 (takeV r 4), BitVec.ofNat 16 (takeV (takeR r 4) 2), (txP 16 (takeR (takeR r 4) 2)).1, (txP 16 (txP 16 (takeR (takeR r 4) 2)).2).1⟩, (txP 16 (txP 16 (takeR (takeR r 4) 2)).2).2) := rfl
  rw [ed]
  refine Good.w tabOk mixed Try.func86 (N := 37) (by kernel_rfl) rfl (by (repeat (first | exact LE.nil | apply LE.cons)); done) (by (repeat (first | exact LE.nil | apply LE.cons)); done) fun D hD F => ?_
  repeat' (first
    | apply AO.nil
    | (apply AO.kBox; refine AO.sBox (h := ?_))
    | (apply AO.kAlloc; refine AO.sAlloc (h := ?_))
    | (apply AO.kStore; first | refine AO.sStore (h := ?_) | refine AO.sStB (h := ?_))
    | (apply AO.kCv; first | refine AO.sBytes (h := ?_) | refine AO.sStr (h := ?_) | refine AO.sStrR (h := ?_))
    | (apply AO.kP; first | refine AO.sP (h := ?_) | refine AO.sPi (h := ?_) | refine AO.sLoadB (h := ?_))
    | apply AW.seq
    | (apply AW.kR; refine AW.sR (h := ?_))
    | apply AW.skip
    | apply AW.block
    | apply AW.out
    | (apply AW.kE; refine AW.sE (h := ?_))
    | apply AW.label
    | (apply AW.kRd; refine AW.sRd (h := ?_))
    | (apply AR.kAny; first | (apply AR.kBox; refine AR.sBox (h := ?_)) | (apply AR.kAlloc; refine AR.sAlloc (h := ?_)) | (apply AR.kStore; refine AR.sStore (h := ?_)) | (apply AR.kCv; refine AR.sStrR (h := ?_)) | (apply AR.kP; first | refine AR.sP (h := ?_) | refine AR.sPi (h := ?_)))
    | (apply AR.kNil; refine AR.sNil (h := ?_)))
  (first | (apply AO.kCall 82; refine AO.sCall (hg := g1) (h := ?_)) | (apply AR.kAny; (apply AR.kCall 82; refine AR.sCall (hg := g1) (h := ?_))))
  repeat' (first
    | apply AO.nil
    | (apply AO.kBox; refine AO.sBox (h := ?_))
    | (apply AO.kAlloc; refine AO.sAlloc (h := ?_))
    | (apply AO.kStore; first | refine AO.sStore (h := ?_) | refine AO.sStB (h := ?_))
    | (apply AO.kCv; first | refine AO.sBytes (h := ?_) | refine AO.sStr (h := ?_) | refine AO.sStrR (h := ?_))
    | (apply AO.kP; first | refine AO.sP (h := ?_) | refine AO.sPi (h := ?_) | refine AO.sLoadB (h := ?_))
    | apply AW.seq
    | (apply AW.kR; refine AW.sR (h := ?_))
    | apply AW.skip
    | apply AW.block
    | apply AW.out
    | (apply AW.kE; refine AW.sE (h := ?_))
    | apply AW.label
    | (apply AW.kRd; refine AW.sRd (h := ?_))
    | (apply AR.kAny; first | (apply AR.kBox; refine AR.sBox (h := ?_)) | (apply AR.kAlloc; refine AR.sAlloc (h := ?_)) | (apply AR.kStore; refine AR.sStore (h := ?_)) | (apply AR.kCv; refine AR.sStrR (h := ?_)) | (apply AR.kP; first | refine AR.sP (h := ?_) | refine AR.sPi (h := ?_)))
    | (apply AR.kNil; refine AR.sNil (h := ?_)))
  (first | (apply AO.kCall 82; refine AO.sCall (hg := g2) (h := ?_)) | (apply AR.kAny; (apply AR.kCall 82; refine AR.sCall (hg := g2) (h := ?_))))
  repeat' (first
    | apply AO.nil
    | (apply AO.kBox; refine AO.sBox (h := ?_))
    | (apply AO.kAlloc; refine AO.sAlloc (h := ?_))
    | (apply AO.kStore; first | refine AO.sStore (h := ?_) | refine AO.sStB (h := ?_))
    | (apply AO.kCv; first | refine AO.sBytes (h := ?_) | refine AO.sStr (h := ?_) | refine AO.sStrR (h := ?_))
    | (apply AO.kP; first | refine AO.sP (h := ?_) | refine AO.sPi (h := ?_) | refine AO.sLoadB (h := ?_))
    | apply AW.seq
    | (apply AW.kR; refine AW.sR (h := ?_))
    | apply AW.skip
    | apply AW.block
    | apply AW.out
    | (apply AW.kE; refine AW.sE (h := ?_))
    | apply AW.label
    | (apply AW.kRd; refine AW.sRd (h := ?_))
    | (apply AR.kAny; first | (apply AR.kBox; refine AR.sBox (h := ?_)) | (apply AR.kAlloc; refine AR.sAlloc (h := ?_)) | (apply AR.kStore; refine AR.sStore (h := ?_)) | (apply AR.kCv; refine AR.sStrR (h := ?_)) | (apply AR.kP; first | refine AR.sP (h := ?_) | refine AR.sPi (h := ?_)))
    | (apply AR.kNil; refine AR.sNil (h := ?_)))
  (first | (apply AO.kCall 84; refine AO.sCall (hg := g3) (h := ?_)) | (apply AR.kAny; (apply AR.kCall 84; refine AR.sCall (hg := g3) (h := ?_))))
  repeat' (first
    | apply AO.nil
    | (apply AO.kBox; refine AO.sBox (h := ?_))
    | (apply AO.kAlloc; refine AO.sAlloc (h := ?_))
    | (apply AO.kStore; first | refine AO.sStore (h := ?_) | refine AO.sStB (h := ?_))
    | (apply AO.kCv; first | refine AO.sBytes (h := ?_) | refine AO.sStr (h := ?_) | refine AO.sStrR (h := ?_))
    | (apply AO.kP; first | refine AO.sP (h := ?_) | refine AO.sPi (h := ?_) | refine AO.sLoadB (h := ?_))
    | apply AW.seq
    | (apply AW.kR; refine AW.sR (h := ?_))
    | apply AW.skip
    | apply AW.block
    | apply AW.out
    | (apply AW.kE; refine AW.sE (h := ?_))
    | apply AW.label
    | (apply AW.kRd; refine AW.sRd (h := ?_))
    | (apply AR.kAny; first | (apply AR.kBox; refine AR.sBox (h := ?_)) | (apply AR.kAlloc; refine AR.sAlloc (h := ?_)) | (apply AR.kStore; refine AR.sStore (h := ?_)) | (apply AR.kCv; refine AR.sStrR (h := ?_)) | (apply AR.kP; first | refine AR.sP (h := ?_) | refine AR.sPi (h := ?_)))
    | (apply AR.kNil; refine AR.sNil (h := ?_)))
  (first | (apply AO.kCall 84; refine AO.sCall (hg := g4) (h := ?_)) | (apply AR.kAny; (apply AR.kCall 84; refine AR.sCall (hg := g4) (h := ?_))))
  repeat' (first
    | apply AO.nil
    | (apply AO.kBox; refine AO.sBox (h := ?_))
    | (apply AO.kAlloc; refine AO.sAlloc (h := ?_))
    | (apply AO.kStore; first | refine AO.sStore (h := ?_) | refine AO.sStB (h := ?_))
    | (apply AO.kCv; first | refine AO.sBytes (h := ?_) | refine AO.sStr (h := ?_) | refine AO.sStrR (h := ?_))
    | (apply AO.kP; first | refine AO.sP (h := ?_) | refine AO.sPi (h := ?_) | refine AO.sLoadB (h := ?_))
    | apply AW.seq
    | (apply AW.kR; refine AW.sR (h := ?_))
    | apply AW.skip
    | apply AW.block
    | apply AW.out
    | (apply AW.kE; refine AW.sE (h := ?_))
    | apply AW.label
    | (apply AW.kRd; refine AW.sRd (h := ?_))
    | (apply AR.kAny; first | (apply AR.kBox; refine AR.sBox (h := ?_)) | (apply AR.kAlloc; refine AR.sAlloc (h := ?_)) | (apply AR.kStore; refine AR.sStore (h := ?_)) | (apply AR.kCv; refine AR.sStrR (h := ?_)) | (apply AR.kP; first | refine AR.sP (h := ?_) | refine AR.sPi (h := ?_)))
    | (apply AR.kNil; refine AR.sNil (h := ?_)))
  exact AW.ret (hD rfl (.tup (.cons (.agg (.cons (Lx.i (w32k vb)) (.cons (Lx.i (w16k vd)) (.cons .refl (.cons .refl .nil))))) (.cons .refl .nil))))
/-- A message, asL the document reads it. -/
def msR : Par Ms := fun r => if takeV r 1 < 1 ∨ 3 < takeV r 1 then (⟨0, [], [], 0, 0, []⟩, failR (takeR r 1) 7) else msP r
theorem msP_eq (r : Rd) : msP r = msQ (takeV r 1) (txP 16 (kdP (takeV r 1) (takeR r 1)).2).1 (txP 16 (kdP (takeV r 1) (takeR r 1)).2).2 := rfl
theorem msR_eq (r : Rd) : (msR r).2 = (msP r).2 ∧ ((msP r).2.e = 0 → (msR r).1 = (msP r).1) := by
  unfold msR
  split
  · rename_i hk
    rw [msP_eq]
    have ek : (kdP (takeV r 1) (takeR r 1)).2 = failR (takeR r 1) 7 := by rw [kdP, if_pos hk]; rfl
    rw [ek]
    have he : (failR (takeR r 1) 7).e ≠ 0 := by
      unfold failR; split
      · simp
      · assumption
    have h1 := (Pf.tx 16).st _ he
    have h2 := (pf_msQ (takeV r 1) (txP 16 (failR (takeR r 1) 7)).1).st _ (show (txP 16 (failR (takeR r 1) 7)).2.e ≠ 0 by rw [h1]; exact he)
    rw [h2, h1]
    exact ⟨rfl, fun h => absurd h he⟩
  · exact ⟨rfl, fun _ => rfl⟩
theorem msR_ok {r : Rd} (h : r.ok) : (msR r).2.ok := by rw [(msR_eq r).1]; exact pf_ms.ok h
theorem gRMsg (r : Rd) (hr : r.ok) : Good Try.prog 87 [.agg r.av] [] (.tup [.agg (msR r).1.av, .agg (msR r).2.av]) [] := by
  have g8 := gRGet r 1 (by decide) hr.1 hr.2
  have v256 : takeV r 1 < 256 := takeV_lt r 1
  have h1 : (takeR r 1).ok := (Pf.tk 1).ok hr
  have gF := gRFail (takeR r 1) 7
  have e := msP_eq r
  unfold msR
  rw [e]
  generalize takeV r 1 = k at *
  generalize takeR r 1 = r1 at *
  by_cases hk : k < 1 ∨ 3 < k
  · rw [if_pos hk]
    refine Good.w tabOk mixed Try.func87 (N := 76) (by kernel_rfl) rfl (by (repeat (first | exact LE.nil | apply LE.cons)); done) (by (repeat (first | exact LE.nil | apply LE.cons)); done) fun D hD F => ?_
    repeat' (first
    | apply AO.nil
    | (apply AO.kBox; refine AO.sBox (h := ?_))
    | (apply AO.kAlloc; refine AO.sAlloc (h := ?_))
    | (apply AO.kStore; first | refine AO.sStore (h := ?_) | refine AO.sStB (h := ?_))
    | (apply AO.kCv; first | refine AO.sBytes (h := ?_) | refine AO.sStr (h := ?_) | refine AO.sStrR (h := ?_))
    | (apply AO.kP; first | refine AO.sP (h := ?_) | refine AO.sPi (h := ?_) | refine AO.sLoadB (h := ?_))
    | apply AW.seq
    | (apply AW.kR; refine AW.sR (h := ?_))
    | apply AW.skip
    | apply AW.block
    | apply AW.out
    | (apply AW.kE; refine AW.sE (h := ?_))
    | apply AW.label
    | (apply AW.kRd; refine AW.sRd (h := ?_))
    | ((first | (apply AO.kG; first | refine AO.sgt (h1 := fun h => ?_) (h2 := fun h => ?_) | refine AO.sgf (h1 := fun h => ?_) (h2 := fun h => ?_) | refine AO.sgs (h := ?_)) | (apply AW.kC; refine AW.sC (h1 := fun h => ?_) (h2 := fun h => ?_)) | (apply AR.kAny; apply AR.kG; first | refine AR.sgt (h1 := fun h => ?_) (h2 := fun h => ?_) | refine AR.sgf (h1 := fun h => ?_) (h2 := fun h => ?_) | refine AR.sgs (h := ?_))) <;> (try (first | exact Bool.noConfusion h | exact absurd h (by decide) | (simp at h; done) | (rw [h]; try simp only [nrm] at h; try rw [h]; try (exfalso; omega)) | skip)))
    | (apply AR.kAny; first | (apply AR.kBox; refine AR.sBox (h := ?_)) | (apply AR.kAlloc; refine AR.sAlloc (h := ?_)) | (apply AR.kStore; refine AR.sStore (h := ?_)) | (apply AR.kCv; refine AR.sStrR (h := ?_)) | (apply AR.kP; first | refine AR.sP (h := ?_) | refine AR.sPi (h := ?_)))
    | (apply AR.kNil; refine AR.sNil (h := ?_)))
    (first | (apply AO.kCall 82; refine AO.sCall (hg := g8) (h := ?_)) | (apply AR.kAny; (apply AR.kCall 82; refine AR.sCall (hg := g8) (h := ?_))))
    repeat' (first
    | apply AO.nil
    | (apply AO.kCall 85; refine AO.sCall (hg := gF) (h := ?_))
    | (apply AO.kBox; refine AO.sBox (h := ?_))
    | (apply AO.kAlloc; refine AO.sAlloc (h := ?_))
    | (apply AO.kStore; first | refine AO.sStore (h := ?_) | refine AO.sStB (h := ?_))
    | (apply AO.kCv; first | refine AO.sBytes (h := ?_) | refine AO.sStr (h := ?_) | refine AO.sStrR (h := ?_))
    | (apply AO.kP; first | refine AO.sP (h := ?_) | refine AO.sPi (h := ?_) | refine AO.sLoadB (h := ?_))
    | apply AW.seq
    | (apply AW.kR; refine AW.sR (h := ?_))
    | apply AW.skip
    | apply AW.block
    | apply AW.out
    | (apply AW.kE; refine AW.sE (h := ?_))
    | apply AW.label
    | (apply AW.kRd; refine AW.sRd (h := ?_))
    | ((first | (apply AO.kG; first | refine AO.sgt (h1 := fun h => ?_) (h2 := fun h => ?_) | refine AO.sgf (h1 := fun h => ?_) (h2 := fun h => ?_) | refine AO.sgs (h := ?_)) | (apply AW.kC; refine AW.sC (h1 := fun h => ?_) (h2 := fun h => ?_)) | (apply AR.kAny; apply AR.kG; first | refine AR.sgt (h1 := fun h => ?_) (h2 := fun h => ?_) | refine AR.sgf (h1 := fun h => ?_) (h2 := fun h => ?_) | refine AR.sgs (h := ?_))) <;> (try (first | exact Bool.noConfusion h | exact absurd h (by decide) | (simp at h; done) | (rw [h]; try simp only [nrm] at h; try rw [h]; try (exfalso; omega)) | skip)))
    | (apply AR.kAny; first | (apply AR.kCall 85; refine AR.sCall (hg := gF) (h := ?_)) | (apply AR.kBox; refine AR.sBox (h := ?_)) | (apply AR.kAlloc; refine AR.sAlloc (h := ?_)) | (apply AR.kStore; refine AR.sStore (h := ?_)) | (apply AR.kCv; refine AR.sStrR (h := ?_)) | (apply AR.kP; first | refine AR.sP (h := ?_) | refine AR.sPi (h := ?_)))
    | (apply AR.kNil; refine AR.sNil (h := ?_)))
    all_goals first
      | (exfalso; omega)
      | exact AW.ret (hD rfl .refl)
      | exact AW.ret (hD rfl (.tup (.cons (.agg (.cons .refl (.cons .refl (.cons .refl (.cons .refl (.cons .refl (.cons .refl .nil))))))) (.cons .refl .nil))))
  · rw [if_neg hk]
    have ek : (kdP k r1).2 = r1 := by rw [kdP, if_neg hk]; rfl
    rw [ek]
    have gT := gRGetText r1 16 h1.1 h1.2
    have h3 : (txP 16 r1).2.ok := (Pf.tx 16).ok h1
    have et : textP r1 ((16 : Nat) : Int) = txP 16 r1 := rfl
    have gT : Good Try.prog 84 [.agg r1.av, .i .i64 16] [] (.tup [.s (txP 16 r1).1, .agg (txP 16 r1).2.av]) [] := gT
    generalize txP 16 r1 = z at *
    obtain ⟨key, r3⟩ := z
    dsimp only at *
    have gV := gRGetText r3 32 h3.1 h3.2
    have gB := gRGet r3 4 (by decide) h3.1 h3.2
    have vb : takeV r3 4 < 4294967296 := takeV_lt r3 4
    have h4 : (takeR r3 4).ok := (Pf.tk 4).ok h3
    have gP := gRGet (takeR r3 4) 2 (by decide) h4.1 h4.2
    have vd : takeV (takeR r3 4) 2 < 65536 := takeV_lt _ 2
    have h5 : (takeR (takeR r3 4) 2).ok := (Pf.tk 2).ok h4
    have gA := gRGetText _ 16 h5.1 h5.2
    refine Good.w tabOk mixed Try.func87 (N := 76) (by kernel_rfl) rfl (by (repeat (first | exact LE.nil | apply LE.cons)); done) (by (repeat (first | exact LE.nil | apply LE.cons)); done) fun D hD F => ?_
    repeat' (first
    | apply AO.nil
    | (apply AO.kBox; refine AO.sBox (h := ?_))
    | (apply AO.kAlloc; refine AO.sAlloc (h := ?_))
    | (apply AO.kStore; first | refine AO.sStore (h := ?_) | refine AO.sStB (h := ?_))
    | (apply AO.kCv; first | refine AO.sBytes (h := ?_) | refine AO.sStr (h := ?_) | refine AO.sStrR (h := ?_))
    | (apply AO.kP; first | refine AO.sP (h := ?_) | refine AO.sPi (h := ?_) | refine AO.sLoadB (h := ?_))
    | apply AW.seq
    | (apply AW.kR; refine AW.sR (h := ?_))
    | apply AW.skip
    | apply AW.block
    | apply AW.out
    | (apply AW.kE; refine AW.sE (h := ?_))
    | apply AW.label
    | (apply AW.kRd; refine AW.sRd (h := ?_))
    | ((first | (apply AO.kG; first | refine AO.sgt (h1 := fun h => ?_) (h2 := fun h => ?_) | refine AO.sgf (h1 := fun h => ?_) (h2 := fun h => ?_) | refine AO.sgs (h := ?_)) | (apply AW.kC; refine AW.sC (h1 := fun h => ?_) (h2 := fun h => ?_)) | (apply AR.kAny; apply AR.kG; first | refine AR.sgt (h1 := fun h => ?_) (h2 := fun h => ?_) | refine AR.sgf (h1 := fun h => ?_) (h2 := fun h => ?_) | refine AR.sgs (h := ?_))) <;> (try (first | exact Bool.noConfusion h | exact absurd h (by decide) | (simp at h; done) | (rw [h]; try simp only [nrm] at h; try rw [h]; try (exfalso; omega)) | skip)))
    | (apply AR.kAny; first | (apply AR.kBox; refine AR.sBox (h := ?_)) | (apply AR.kAlloc; refine AR.sAlloc (h := ?_)) | (apply AR.kStore; refine AR.sStore (h := ?_)) | (apply AR.kCv; refine AR.sStrR (h := ?_)) | (apply AR.kP; first | refine AR.sP (h := ?_) | refine AR.sPi (h := ?_)))
    | (apply AR.kNil; refine AR.sNil (h := ?_)))
    (first | (apply AO.kCall 82; refine AO.sCall (hg := g8) (h := ?_)) | (apply AR.kAny; (apply AR.kCall 82; refine AR.sCall (hg := g8) (h := ?_))))
    repeat' (first
    | apply AO.nil
    | (apply AO.kBox; refine AO.sBox (h := ?_))
    | (apply AO.kAlloc; refine AO.sAlloc (h := ?_))
    | (apply AO.kStore; first | refine AO.sStore (h := ?_) | refine AO.sStB (h := ?_))
    | (apply AO.kCv; first | refine AO.sBytes (h := ?_) | refine AO.sStr (h := ?_) | refine AO.sStrR (h := ?_))
    | (apply AO.kP; first | refine AO.sP (h := ?_) | refine AO.sPi (h := ?_) | refine AO.sLoadB (h := ?_))
    | apply AW.seq
    | (apply AW.kR; refine AW.sR (h := ?_))
    | apply AW.skip
    | apply AW.block
    | apply AW.out
    | (apply AW.kE; refine AW.sE (h := ?_))
    | apply AW.label
    | (apply AW.kRd; refine AW.sRd (h := ?_))
    | ((first | (apply AO.kG; first | refine AO.sgt (h1 := fun h => ?_) (h2 := fun h => ?_) | refine AO.sgf (h1 := fun h => ?_) (h2 := fun h => ?_) | refine AO.sgs (h := ?_)) | (apply AW.kC; refine AW.sC (h1 := fun h => ?_) (h2 := fun h => ?_)) | (apply AR.kAny; apply AR.kG; first | refine AR.sgt (h1 := fun h => ?_) (h2 := fun h => ?_) | refine AR.sgf (h1 := fun h => ?_) (h2 := fun h => ?_) | refine AR.sgs (h := ?_))) <;> (try (first | exact Bool.noConfusion h | exact absurd h (by decide) | (simp at h; done) | (rw [h]; try simp only [nrm] at h; try rw [h]; try (exfalso; omega)) | skip)))
    | (apply AR.kAny; first | (apply AR.kBox; refine AR.sBox (h := ?_)) | (apply AR.kAlloc; refine AR.sAlloc (h := ?_)) | (apply AR.kStore; refine AR.sStore (h := ?_)) | (apply AR.kCv; refine AR.sStrR (h := ?_)) | (apply AR.kP; first | refine AR.sP (h := ?_) | refine AR.sPi (h := ?_)))
    | (apply AR.kNil; refine AR.sNil (h := ?_)))
    all_goals try (exfalso; omega)
    (first | (apply AO.kCall 84; refine AO.sCall (hg := gT) (h := ?_)) | (apply AR.kAny; (apply AR.kCall 84; refine AR.sCall (hg := gT) (h := ?_))))
    repeat' (first
    | apply AO.nil
    | (apply AO.kBox; refine AO.sBox (h := ?_))
    | (apply AO.kAlloc; refine AO.sAlloc (h := ?_))
    | (apply AO.kStore; first | refine AO.sStore (h := ?_) | refine AO.sStB (h := ?_))
    | (apply AO.kCv; first | refine AO.sBytes (h := ?_) | refine AO.sStr (h := ?_) | refine AO.sStrR (h := ?_))
    | (apply AO.kP; first | refine AO.sP (h := ?_) | refine AO.sPi (h := ?_) | refine AO.sLoadB (h := ?_))
    | apply AW.seq
    | (apply AW.kR; refine AW.sR (h := ?_))
    | apply AW.skip
    | apply AW.block
    | apply AW.out
    | (apply AW.kE; refine AW.sE (h := ?_))
    | apply AW.label
    | (apply AW.kRd; refine AW.sRd (h := ?_))
    | ((first | (apply AO.kG; first | refine AO.sgt (h1 := fun h => ?_) (h2 := fun h => ?_) | refine AO.sgf (h1 := fun h => ?_) (h2 := fun h => ?_) | refine AO.sgs (h := ?_)) | (apply AW.kC; refine AW.sC (h1 := fun h => ?_) (h2 := fun h => ?_)) | (apply AR.kAny; apply AR.kG; first | refine AR.sgt (h1 := fun h => ?_) (h2 := fun h => ?_) | refine AR.sgf (h1 := fun h => ?_) (h2 := fun h => ?_) | refine AR.sgs (h := ?_))) <;> (try (first | exact Bool.noConfusion h | exact absurd h (by decide) | (simp at h; done) | (rw [h]; try simp only [nrm] at h; try rw [h]; try (exfalso; omega)) | skip)))
    | (apply AR.kAny; first | (apply AR.kBox; refine AR.sBox (h := ?_)) | (apply AR.kAlloc; refine AR.sAlloc (h := ?_)) | (apply AR.kStore; refine AR.sStore (h := ?_)) | (apply AR.kCv; refine AR.sStrR (h := ?_)) | (apply AR.kP; first | refine AR.sP (h := ?_) | refine AR.sPi (h := ?_)))
    | (apply AR.kNil; refine AR.sNil (h := ?_)))
    · (first | (apply AO.kCall 84; refine AO.sCall (hg := gV) (h := ?_)) | (apply AR.kAny; (apply AR.kCall 84; refine AR.sCall (hg := gV) (h := ?_))))
      repeat' (first
    | apply AO.nil
    | (apply AO.kBox; refine AO.sBox (h := ?_))
    | (apply AO.kAlloc; refine AO.sAlloc (h := ?_))
    | (apply AO.kStore; first | refine AO.sStore (h := ?_) | refine AO.sStB (h := ?_))
    | (apply AO.kCv; first | refine AO.sBytes (h := ?_) | refine AO.sStr (h := ?_) | refine AO.sStrR (h := ?_))
    | (apply AO.kP; first | refine AO.sP (h := ?_) | refine AO.sPi (h := ?_) | refine AO.sLoadB (h := ?_))
    | apply AW.seq
    | (apply AW.kR; refine AW.sR (h := ?_))
    | apply AW.skip
    | apply AW.block
    | apply AW.out
    | (apply AW.kE; refine AW.sE (h := ?_))
    | apply AW.label
    | (apply AW.kRd; refine AW.sRd (h := ?_))
    | ((first | (apply AO.kG; first | refine AO.sgt (h1 := fun h => ?_) (h2 := fun h => ?_) | refine AO.sgf (h1 := fun h => ?_) (h2 := fun h => ?_) | refine AO.sgs (h := ?_)) | (apply AW.kC; refine AW.sC (h1 := fun h => ?_) (h2 := fun h => ?_)) | (apply AR.kAny; apply AR.kG; first | refine AR.sgt (h1 := fun h => ?_) (h2 := fun h => ?_) | refine AR.sgf (h1 := fun h => ?_) (h2 := fun h => ?_) | refine AR.sgs (h := ?_))) <;> (try (first | exact Bool.noConfusion h | exact absurd h (by decide) | (simp at h; done) | (rw [h]; try simp only [nrm] at h; try rw [h]; try (exfalso; omega)) | skip)))
    | (apply AR.kAny; first | (apply AR.kBox; refine AR.sBox (h := ?_)) | (apply AR.kAlloc; refine AR.sAlloc (h := ?_)) | (apply AR.kStore; refine AR.sStore (h := ?_)) | (apply AR.kCv; refine AR.sStrR (h := ?_)) | (apply AR.kP; first | refine AR.sP (h := ?_) | refine AR.sPi (h := ?_)))
    | (apply AR.kNil; refine AR.sNil (h := ?_)))
      obtain rfl : k = 1 := by omega
      exact AW.ret (hD rfl (.tup (.cons (.agg (.cons (Lx.i rfl) (.cons .refl (.cons .refl (.cons .refl (.cons .refl (.cons .refl .nil))))))) (.cons .refl .nil))))
    · (first | (apply AO.kCall 82; refine AO.sCall (hg := gB) (h := ?_)) | (apply AR.kAny; (apply AR.kCall 82; refine AR.sCall (hg := gB) (h := ?_))))
      repeat' (first
    | apply AO.nil
    | (apply AO.kBox; refine AO.sBox (h := ?_))
    | (apply AO.kAlloc; refine AO.sAlloc (h := ?_))
    | (apply AO.kStore; first | refine AO.sStore (h := ?_) | refine AO.sStB (h := ?_))
    | (apply AO.kCv; first | refine AO.sBytes (h := ?_) | refine AO.sStr (h := ?_) | refine AO.sStrR (h := ?_))
    | (apply AO.kP; first | refine AO.sP (h := ?_) | refine AO.sPi (h := ?_) | refine AO.sLoadB (h := ?_))
    | apply AW.seq
    | (apply AW.kR; refine AW.sR (h := ?_))
    | apply AW.skip
    | apply AW.block
    | apply AW.out
    | (apply AW.kE; refine AW.sE (h := ?_))
    | apply AW.label
    | (apply AW.kRd; refine AW.sRd (h := ?_))
    | ((first | (apply AO.kG; first | refine AO.sgt (h1 := fun h => ?_) (h2 := fun h => ?_) | refine AO.sgf (h1 := fun h => ?_) (h2 := fun h => ?_) | refine AO.sgs (h := ?_)) | (apply AW.kC; refine AW.sC (h1 := fun h => ?_) (h2 := fun h => ?_)) | (apply AR.kAny; apply AR.kG; first | refine AR.sgt (h1 := fun h => ?_) (h2 := fun h => ?_) | refine AR.sgf (h1 := fun h => ?_) (h2 := fun h => ?_) | refine AR.sgs (h := ?_))) <;> (try (first | exact Bool.noConfusion h | exact absurd h (by decide) | (simp at h; done) | (rw [h]; try simp only [nrm] at h; try rw [h]; try (exfalso; omega)) | skip)))
    | (apply AR.kAny; first | (apply AR.kBox; refine AR.sBox (h := ?_)) | (apply AR.kAlloc; refine AR.sAlloc (h := ?_)) | (apply AR.kStore; refine AR.sStore (h := ?_)) | (apply AR.kCv; refine AR.sStrR (h := ?_)) | (apply AR.kP; first | refine AR.sP (h := ?_) | refine AR.sPi (h := ?_)))
    | (apply AR.kNil; refine AR.sNil (h := ?_)))
      (first | (apply AO.kCall 82; refine AO.sCall (hg := gP) (h := ?_)) | (apply AR.kAny; (apply AR.kCall 82; refine AR.sCall (hg := gP) (h := ?_))))
      repeat' (first
    | apply AO.nil
    | (apply AO.kBox; refine AO.sBox (h := ?_))
    | (apply AO.kAlloc; refine AO.sAlloc (h := ?_))
    | (apply AO.kStore; first | refine AO.sStore (h := ?_) | refine AO.sStB (h := ?_))
    | (apply AO.kCv; first | refine AO.sBytes (h := ?_) | refine AO.sStr (h := ?_) | refine AO.sStrR (h := ?_))
    | (apply AO.kP; first | refine AO.sP (h := ?_) | refine AO.sPi (h := ?_) | refine AO.sLoadB (h := ?_))
    | apply AW.seq
    | (apply AW.kR; refine AW.sR (h := ?_))
    | apply AW.skip
    | apply AW.block
    | apply AW.out
    | (apply AW.kE; refine AW.sE (h := ?_))
    | apply AW.label
    | (apply AW.kRd; refine AW.sRd (h := ?_))
    | ((first | (apply AO.kG; first | refine AO.sgt (h1 := fun h => ?_) (h2 := fun h => ?_) | refine AO.sgf (h1 := fun h => ?_) (h2 := fun h => ?_) | refine AO.sgs (h := ?_)) | (apply AW.kC; refine AW.sC (h1 := fun h => ?_) (h2 := fun h => ?_)) | (apply AR.kAny; apply AR.kG; first | refine AR.sgt (h1 := fun h => ?_) (h2 := fun h => ?_) | refine AR.sgf (h1 := fun h => ?_) (h2 := fun h => ?_) | refine AR.sgs (h := ?_))) <;> (try (first | exact Bool.noConfusion h | exact absurd h (by decide) | (simp at h; done) | (rw [h]; try simp only [nrm] at h; try rw [h]; try (exfalso; omega)) | skip)))
    | (apply AR.kAny; first | (apply AR.kBox; refine AR.sBox (h := ?_)) | (apply AR.kAlloc; refine AR.sAlloc (h := ?_)) | (apply AR.kStore; refine AR.sStore (h := ?_)) | (apply AR.kCv; refine AR.sStrR (h := ?_)) | (apply AR.kP; first | refine AR.sP (h := ?_) | refine AR.sPi (h := ?_)))
    | (apply AR.kNil; refine AR.sNil (h := ?_)))
      (first | (apply AO.kCall 84; refine AO.sCall (hg := gA) (h := ?_)) | (apply AR.kAny; (apply AR.kCall 84; refine AR.sCall (hg := gA) (h := ?_))))
      repeat' (first
    | apply AO.nil
    | (apply AO.kBox; refine AO.sBox (h := ?_))
    | (apply AO.kAlloc; refine AO.sAlloc (h := ?_))
    | (apply AO.kStore; first | refine AO.sStore (h := ?_) | refine AO.sStB (h := ?_))
    | (apply AO.kCv; first | refine AO.sBytes (h := ?_) | refine AO.sStr (h := ?_) | refine AO.sStrR (h := ?_))
    | (apply AO.kP; first | refine AO.sP (h := ?_) | refine AO.sPi (h := ?_) | refine AO.sLoadB (h := ?_))
    | apply AW.seq
    | (apply AW.kR; refine AW.sR (h := ?_))
    | apply AW.skip
    | apply AW.block
    | apply AW.out
    | (apply AW.kE; refine AW.sE (h := ?_))
    | apply AW.label
    | (apply AW.kRd; refine AW.sRd (h := ?_))
    | ((first | (apply AO.kG; first | refine AO.sgt (h1 := fun h => ?_) (h2 := fun h => ?_) | refine AO.sgf (h1 := fun h => ?_) (h2 := fun h => ?_) | refine AO.sgs (h := ?_)) | (apply AW.kC; refine AW.sC (h1 := fun h => ?_) (h2 := fun h => ?_)) | (apply AR.kAny; apply AR.kG; first | refine AR.sgt (h1 := fun h => ?_) (h2 := fun h => ?_) | refine AR.sgf (h1 := fun h => ?_) (h2 := fun h => ?_) | refine AR.sgs (h := ?_))) <;> (try (first | exact Bool.noConfusion h | exact absurd h (by decide) | (simp at h; done) | (rw [h]; try simp only [nrm] at h; try rw [h]; try (exfalso; omega)) | skip)))
    | (apply AR.kAny; first | (apply AR.kBox; refine AR.sBox (h := ?_)) | (apply AR.kAlloc; refine AR.sAlloc (h := ?_)) | (apply AR.kStore; refine AR.sStore (h := ?_)) | (apply AR.kCv; refine AR.sStrR (h := ?_)) | (apply AR.kP; first | refine AR.sP (h := ?_) | refine AR.sPi (h := ?_)))
    | (apply AR.kNil; refine AR.sNil (h := ?_)))
      obtain rfl : k = 3 := by omega
      exact AW.ret (hD rfl (.tup (.cons (.agg (.cons (Lx.i rfl) (.cons .refl (.cons .refl (.cons (Lx.i (w32k vb)) (.cons (Lx.i (w16k vd)) (.cons .refl .nil))))))) (.cons .refl .nil))))
    · rw [msQ, if_neg (by omega), if_neg (by omega)] at hD
      exact AW.ret (hD rfl (.tup (.cons (.agg (.cons (Lx.i (w8k v256)) (.cons .refl (.cons .refl (.cons .refl (.cons .refl (.cons .refl .nil))))))) (.cons .refl .nil))))
theorem repR_eq (r : Rd) : ∀ n, (rep msR n r).2 = (rep msP n r).2 ∧ ((rep msP n r).2.e = 0 → (rep msR n r).1 = (rep msP n r).1)
  | 0 => ⟨rfl, fun _ => rfl⟩
  | n + 1 => by
    obtain ⟨i1, i2⟩ := repR_eq r n
    have a : rep msR (n + 1) r = ((rep msR n r).1 ++ [(msR (rep msR n r).2).1], (msR (rep msR n r).2).2) := rfl
    have b : rep msP (n + 1) r = ((rep msP n r).1 ++ [(msP (rep msP n r).2).1], (msP (rep msP n r).2).2) := rfl
    rw [a, b, i1]
    obtain ⟨m1, m2⟩ := msR_eq (rep msP n r).2
    refine ⟨m1, fun h => ?_⟩
    dsimp only at h ⊢
    rw [i2 (pf_ms.e0 h), m2 h]
end Go.Proofs.Ytmfonbehcfjjgaa.Mv

/- The codec: the document's Get. Under no condition. -/
namespace Go.Proofs.Ytmfonbehcfjjgaa.Mv
open Go Go.Proofs
set_option linter.unusedSimpArgs false
set_option linter.unusedVariables false
set_option maxRecDepth 10000
set_option maxHeartbeats 4000000
attribute [local irreducible] AW AO AR

theorem zN : Lx Tr (.agg [.b false, .nil, .nil, .nil, .nil]) (.agg ndE.av) := .agg (.cons .refl (.cons Lx.nil (.cons Lx.nil (.cons Lx.nil (.cons Lx.nil .nil)))))
theorem take1 {b : L} (h : takeV ⟨b, 0, 0⟩ 1 ≠ 0) : takeR ⟨b, 0, 0⟩ 1 = ⟨b, 1, 0⟩ := by
  by_cases hb : b.length < 0 + 1
  · exact absurd (take_s (r := ⟨b, 0, 0⟩) (s := 1) rfl hb).1 h
  · exact (take_v (r := ⟨b, 0, 0⟩) (s := 1) rfl (by show 0 + 1 ≤ b.length; omega)).2
theorem gRGetLeaf (b : L) (hb : b.length ≤ 1000000) (hk : takeV ⟨b, 0, 0⟩ 1 = 1) : Good Try.prog 37 [.sh 1 (BS b)] [] (.tup [.agg (getV b).av, .i .i64 (getE b)]) [] := by
  have hr : Rd.ok ⟨b, 0, 0⟩ := ⟨hb, Nat.zero_le _⟩
  have g8 : Good Try.prog 82 [.agg [.sh 1 (BS b), .i .i64 0, .i .i64 0], .i .i64 1] [] (.tup [.i .u64 (takeV ⟨b, 0, 0⟩ 1), .agg (takeR ⟨b, 0, 0⟩ 1).av]) [] := gRGet ⟨b, 0, 0⟩ 1 (by decide) hr.1 hr.2
  have h1 : (takeR ⟨b, 0, 0⟩ 1).ok := (Pf.tk 1).ok hr
  have hN := pf_node.ok hr
  have hs := node_small ⟨b, 0, 0⟩
  have gC := gRCnt _ 16 h1
  have lc := cnt_le 16 (takeR ⟨b, 0, 0⟩ 1)
  have hc := (pf_cnt 16).ok h1
  have e : nodeP ⟨b, 0, 0⟩ = leafP (takeR ⟨b, 0, 0⟩ 1) := by
    show (if takeV ⟨b, 0, 0⟩ 1 = 1 then leafP else if takeV ⟨b, 0, 0⟩ 1 = 2 then innerP else bd (fl 7) fun _ => pu ndE) (takeR ⟨b, 0, 0⟩ 1) = _
    rw [if_pos hk]
  rw [leaf_eq] at e
  have eV : getV b = if getE b = 0 then (nodeP ⟨b, 0, 0⟩).1 else ndE := rfl
  rw [eV]
  unfold getE
  have er := take1 (b := b) (by rw [hk]; decide)
  rw [hk] at g8
  rw [er] at g8 h1 gC lc hc e
  have g8 : Good Try.prog 82 [.agg [.sh 1 (BS b), .i .i64 0, .i .i64 0], .i .i64 1] [] (.tup [.i .u64 1, .agg [.sh 1 (BS b), .i .i64 1, .i .i64 0]]) [] := g8
  have gC : Good Try.prog 83 [.agg [.sh 1 (BS b), .i .i64 1, .i .i64 0], .i .u64 16] [] _ [] := gC
  rw [e] at hN hs ⊢
  dsimp only at hN hs ⊢
  generalize (cnt 16 ⟨b, 1, 0⟩).1 = c at *
  generalize (cnt 16 ⟨b, 1, 0⟩).2 = r2 at *
  have gE := gREnd _ hN.1
  have gM := gMay' _ hs
  refine Good.w tabOk mixed Try.func37 (N := 160) (by kernel_rfl) rfl (by (repeat (first | exact LE.nil | apply LE.cons)); done) (by (repeat (first | exact LE.nil | apply LE.cons)); done) fun D hD F => ?_
  repeat' (first
    | apply AO.nil
    | (apply AO.kCall 82; refine AO.sCall (hg := g8) (h := ?_))
    | (apply AO.kCall 83; refine AO.sCall (hg := gC) (h := ?_))
    | (apply AO.kBuildS; first | refine AO.sBuildT (h := ?_) | refine AO.sBuildS (h := ?_))
    | (apply AO.kApp; first | refine AO.sGrowT (h := ?_) | refine AO.sNewT (h := ?_) | refine AO.sGrowBT (h := ?_) | refine AO.sGrow (h := ?_) | refine AO.sNewr (h := ?_))
    | (apply AO.kAlloc; refine AO.sAlloc (h := ?_))
    | (apply AO.kStore; first | refine AO.sStore (h := ?_) | refine AO.sStB (h := ?_))
    | (apply AO.kAdd; refine AO.sAdd (h := ?_))
    | (apply AO.kP; first | refine AO.sP (h := ?_) | refine AO.sPi (h := ?_) | refine AO.sLoadB (h := ?_) | refine AO.sSameB (h := ?_))
    | apply AW.seq
    | (apply AW.kR; refine AW.sR (h := ?_))
    | apply AW.skip
    | apply AW.block
    | apply AW.out
    | (apply AW.kE; refine AW.sE (h := ?_))
    | apply AW.label
    | ((first | (apply AO.kG; first | refine AO.sgt (h1 := fun h => ?_) (h2 := fun h => ?_) | refine AO.sgf (h1 := fun h => ?_) (h2 := fun h => ?_) | refine AO.sgs (h := ?_)) | (apply AW.kC; refine AW.sC (h1 := fun h => ?_) (h2 := fun h => ?_))) <;> (try (first | exact Bool.noConfusion h | exact absurd h (by decide) | (simp at h; done) | (rw [h]; try simp only [nrm] at h; try rw [h]; try (exfalso; omega)) | skip))))
  refine AW.nilrow 900 87 2 (St.freeB_ok rfl) (st' := ⟨[(2, .ptr 2 0), (4, .ptr 4 0), (5, .ptr 5 0), (6, .i .u64 1), (7, .ptr 7 0), (8, .i .i64 c), (10, .i .i64 0)], [(2, .bx [.b false, .nil, .nil, .nil, .nil]), (4, .bx [.b false, .nil, .nil, .nil, .nil]), (5, .bx [.b true, .gr 900 87 2 [], .nil, .nil, .nil]), (900, .gw 0), (7, .bx r2.av)]⟩) ⟨by ((repeat' (first | exact LeT.nil | apply LeT.cons | exact Lx.nilG | apply Lx.s | apply Lx.b | apply Lx.i | exact Lx.refl)) <;> (first | rfl | assumption | omega | (simp only [List.length_map, BS_len]; done) | skip)), .cons .refl (.cons .refl (.cons (.bx (.cons .refl (.cons Lx.nilG (.cons .refl (.cons .refl (.cons .refl .nil)))))) (.cons .refl (.cons .refl .nil))))⟩ ?_
  refine AW.loopI (fun q : Nat => q ≤ c) (fun q => ⟨[(2, .ptr 2 0), (4, .ptr 4 0), (5, .ptr 5 0), (6, .i .u64 1), (7, .ptr 7 0), (8, .i .i64 c), (10, .i .i64 q)], [(2, .bx [.b false, .nil, .nil, .nil, .nil]), (4, .bx [.b false, .nil, .nil, .nil, .nil]), (5, .bx [.b true, .gr 900 87 2 ((rep prP q r2).1.map Pr.av), .nil, .nil, .nil]), (900, .gw ((rep prP q r2).1.map Pr.av).length), (7, .bx (rep prP q r2).2.av)]⟩) (fun q => c - q) 0 (by simp) (by (constructor <;> (repeat' (first | exact LeT.nil | exact LeB.nil | apply LeT.cons | apply LeB.cons | exact Ol.refl | apply Lx.s | apply Lx.b | apply Lx.i | exact Lx.refl)) <;> (first | rfl | assumption | omega | (simp only [List.length_map, BS_len]; done) | skip))) fun m q hq ih => ?_
  have lq : ((rep prP q r2).1.map Pr.av).length = q := by rw [List.length_map, rep_len]
  by_cases hq2 : q < c
  · have hq' := (pf_pr.rep q).ok hc
    have e1 : rep prP (q + 1) r2 = ((rep prP q r2).1 ++ [⟨(txP 16 (rep prP q r2).2).1, (txP 32 (txP 16 (rep prP q r2).2).2).1⟩], (txP 32 (txP 16 (rep prP q r2).2).2).2) := rfl
    clear gE gM hD hN hs
    generalize rep prP q r2 = z at *
    obtain ⟨xs, rq⟩ := z
    dsimp only at *
    have g1 := gRGetText rq 16 hq'.1 hq'.2
    have h1 := (Pf.tx 16).ok hq'
    have g2 := gRGetText (txP 16 rq).2 32 h1.1 h1.2
    repeat' (first
    | apply AO.nil
    | (apply AO.kBuildS; first | refine AO.sBuildT (h := ?_) | refine AO.sBuildS (h := ?_))
    | (apply AO.kApp; first | refine AO.sGrowT (h := ?_) | refine AO.sNewT (h := ?_) | refine AO.sGrowBT (h := ?_) | refine AO.sGrow (h := ?_) | refine AO.sNewr (h := ?_))
    | (apply AO.kAlloc; refine AO.sAlloc (h := ?_))
    | (apply AO.kStore; first | refine AO.sStore (h := ?_) | refine AO.sStB (h := ?_))
    | (apply AO.kAdd; refine AO.sAdd (h := ?_))
    | (apply AO.kP; first | refine AO.sP (h := ?_) | refine AO.sPi (h := ?_) | refine AO.sLoadB (h := ?_) | refine AO.sSameB (h := ?_))
    | apply AW.seq
    | (apply AW.kR; refine AW.sR (h := ?_))
    | apply AW.skip
    | apply AW.block
    | apply AW.out
    | (apply AW.kE; refine AW.sE (h := ?_))
    | apply AW.label
    | ((first | (apply AO.kG; first | refine AO.sgt (h1 := fun h => ?_) (h2 := fun h => ?_) | refine AO.sgf (h1 := fun h => ?_) (h2 := fun h => ?_) | refine AO.sgs (h := ?_)) | (apply AW.kC; refine AW.sC (h1 := fun h => ?_) (h2 := fun h => ?_))) <;> (try (first | exact Bool.noConfusion h | exact absurd h (by decide) | (simp at h; done) | (rw [h]; try simp only [nrm] at h; try rw [h]; try (exfalso; omega)) | skip))))
    all_goals try (exfalso; omega)
    (first | (apply AO.kCall 84; refine AO.sCall (hg := g1) (h := ?_)) | (apply AR.kAny; (apply AR.kCall 84; refine AR.sCall (hg := g1) (h := ?_))))
    repeat' (first
    | apply AO.nil
    | (apply AO.kBuildS; first | refine AO.sBuildT (h := ?_) | refine AO.sBuildS (h := ?_))
    | (apply AO.kApp; first | refine AO.sGrowT (h := ?_) | refine AO.sNewT (h := ?_) | refine AO.sGrowBT (h := ?_) | refine AO.sGrow (h := ?_) | refine AO.sNewr (h := ?_))
    | (apply AO.kAlloc; refine AO.sAlloc (h := ?_))
    | (apply AO.kStore; first | refine AO.sStore (h := ?_) | refine AO.sStB (h := ?_))
    | (apply AO.kAdd; refine AO.sAdd (h := ?_))
    | (apply AO.kP; first | refine AO.sP (h := ?_) | refine AO.sPi (h := ?_) | refine AO.sLoadB (h := ?_) | refine AO.sSameB (h := ?_))
    | apply AW.seq
    | (apply AW.kR; refine AW.sR (h := ?_))
    | apply AW.skip
    | apply AW.block
    | apply AW.out
    | (apply AW.kE; refine AW.sE (h := ?_))
    | apply AW.label
    | ((first | (apply AO.kG; first | refine AO.sgt (h1 := fun h => ?_) (h2 := fun h => ?_) | refine AO.sgf (h1 := fun h => ?_) (h2 := fun h => ?_) | refine AO.sgs (h := ?_)) | (apply AW.kC; refine AW.sC (h1 := fun h => ?_) (h2 := fun h => ?_))) <;> (try (first | exact Bool.noConfusion h | exact absurd h (by decide) | (simp at h; done) | (rw [h]; try simp only [nrm] at h; try rw [h]; try (exfalso; omega)) | skip))))
    (first | (apply AO.kCall 84; refine AO.sCall (hg := g2) (h := ?_)) | (apply AR.kAny; (apply AR.kCall 84; refine AR.sCall (hg := g2) (h := ?_))))
    repeat' (first
    | apply AO.nil
    | (apply AO.kBuildS; first | refine AO.sBuildT (h := ?_) | refine AO.sBuildS (h := ?_))
    | (apply AO.kApp; first | refine AO.sGrowT (h := ?_) | refine AO.sNewT (h := ?_) | refine AO.sGrowBT (h := ?_) | refine AO.sGrow (h := ?_) | refine AO.sNewr (h := ?_))
    | (apply AO.kAlloc; refine AO.sAlloc (h := ?_))
    | (apply AO.kStore; first | refine AO.sStore (h := ?_) | refine AO.sStB (h := ?_))
    | (apply AO.kAdd; refine AO.sAdd (h := ?_))
    | (apply AO.kP; first | refine AO.sP (h := ?_) | refine AO.sPi (h := ?_) | refine AO.sLoadB (h := ?_) | refine AO.sSameB (h := ?_))
    | apply AW.seq
    | (apply AW.kR; refine AW.sR (h := ?_))
    | apply AW.skip
    | apply AW.block
    | apply AW.out
    | (apply AW.kE; refine AW.sE (h := ?_))
    | apply AW.label
    | ((first | (apply AO.kG; first | refine AO.sgt (h1 := fun h => ?_) (h2 := fun h => ?_) | refine AO.sgf (h1 := fun h => ?_) (h2 := fun h => ?_) | refine AO.sgs (h := ?_)) | (apply AW.kC; refine AW.sC (h1 := fun h => ?_) (h2 := fun h => ?_))) <;> (try (first | exact Bool.noConfusion h | exact absurd h (by decide) | (simp at h; done) | (rw [h]; try simp only [nrm] at h; try rw [h]; try (exfalso; omega)) | skip))))
    refine ih (q + 1) _ (by omega) (by omega) ?_
    simp only [e1]
    ((constructor <;> (repeat' (first | exact LeT.nil | exact LeB.nil | apply LeT.cons | apply LeB.cons | exact Ol.refl | apply Lx.s | apply Lx.b | apply Lx.i | exact Lx.refl)) <;> (first | rfl | assumption | omega | (simp only [List.length_map, BS_len]; done) | skip)) <;> (first | (refine Lx.eq (congrArg (AV.gr _ _ _) ?_); simp only [List.map_append, List.map_cons, List.map_nil]; rfl) | (refine Ol.eq (congrArg Ob.gw ?_); simp only [List.map_append, List.map_cons, List.map_nil, List.length_append, List.length_map, List.length_cons, List.length_nil]; done) | (refine Ol.bx ?_; (repeat' (first | exact LxL.nil | apply LxL.cons | exact Lx.refl | (refine Lx.eq (congrArg (AV.gr _ _ _) ?_); simp only [List.map_append, List.map_cons, List.map_nil]; rfl)))) | skip))
  · obtain rfl : c = q := by omega
    generalize rep prP c r2 = z at *
    obtain ⟨ps, rN⟩ := z
    dsimp only at *
    refine AW.less (st' := ⟨[(2, .ptr 2 0), (4, .ptr 4 0), (5, .ptr 5 0), (6, .i .u64 1), (7, .ptr 7 0), (8, .i .i64 c), (10, .i .i64 c)], [(2, .bx [.b false, .nil, .nil, .nil, .nil]), (4, .bx [.b false, .nil, .nil, .nil, .nil]), (5, .bx (Nd.av ⟨true, ps, [], [], []⟩)), (7, .bx rN.av)]⟩) ⟨by ((repeat' (first | exact LeT.nil | apply LeT.cons | apply Lx.s | apply Lx.b | apply Lx.i | exact Lx.refl)) <;> (first | rfl | assumption | omega | (simp only [List.length_map, BS_len]; done) | skip)), .cons .refl (.cons .refl (.cons (.bx (.cons .refl (.cons .gr (.cons Lx.nil (.cons Lx.nil (.cons Lx.nil .nil)))))) (.cons .refl .nil)))⟩ ?_
    repeat' (first
    | apply AO.nil
    | (apply AO.kCall 88; refine AO.sCall (hg := gE) (h := ?_))
    | (apply AO.kCall 21; refine AO.sCall (hg := gM) (h := ?_))
    | (apply AO.kBuildS; first | refine AO.sBuildT (h := ?_) | refine AO.sBuildS (h := ?_))
    | (apply AO.kApp; first | refine AO.sGrowT (h := ?_) | refine AO.sNewT (h := ?_) | refine AO.sGrowBT (h := ?_) | refine AO.sGrow (h := ?_) | refine AO.sNewr (h := ?_))
    | (apply AO.kAlloc; refine AO.sAlloc (h := ?_))
    | (apply AO.kStore; first | refine AO.sStore (h := ?_) | refine AO.sStB (h := ?_))
    | (apply AO.kAdd; refine AO.sAdd (h := ?_))
    | (apply AO.kP; first | refine AO.sP (h := ?_) | refine AO.sPi (h := ?_) | refine AO.sLoadB (h := ?_) | refine AO.sSameB (h := ?_))
    | apply AW.seq
    | (apply AW.kR; refine AW.sR (h := ?_))
    | apply AW.skip
    | apply AW.block
    | apply AW.out
    | (apply AW.kE; refine AW.sE (h := ?_))
    | apply AW.label
    | ((first | (apply AO.kG; first | refine AO.sgt (h1 := fun h => ?_) (h2 := fun h => ?_) | refine AO.sgf (h1 := fun h => ?_) (h2 := fun h => ?_) | refine AO.sgs (h := ?_)) | (apply AW.kC; refine AW.sC (h1 := fun h => ?_) (h2 := fun h => ?_))) <;> (try (first | exact Bool.noConfusion h | exact absurd h (by decide) | (simp at h; done) | (rw [h]; try simp only [nrm] at h; try rw [h]; try (exfalso; omega)) | skip))))
    · have h' : (endR rN != 0) = true := ‹_›
      have a : ¬ endR rN = 0 := by simpa using h'
      simp only [if_neg (fun h : endR rN = 0 ∧ mayN ⟨true, ps, [], [], []⟩ ≠ 0 => a h.1), if_neg a] at hD
      exact AW.ret (hD rfl (.tup (.cons zN (.cons .refl .nil))))
    · have h' : (endR rN != 0) = false := ‹_›
      have a : endR rN = 0 := by simpa using h'
      have h2 : ((mayN ⟨true, ps, [], [], []⟩ : Int) != 0) = true := ‹_›
      have m : mayN ⟨true, ps, [], [], []⟩ ≠ 0 := by simpa using h2
      simp only [if_pos (And.intro a m)] at hD
      exact AW.ret (hD rfl (.tup (.cons (by rw [if_neg (by decide)]; exact zN) (.cons .refl .nil))))
    · have h' : (endR rN != 0) = false := ‹_›
      have a : endR rN = 0 := by simpa using h'
      have h2 : ((mayN ⟨true, ps, [], [], []⟩ : Int) != 0) = false := ‹_›
      have m : ¬ mayN ⟨true, ps, [], [], []⟩ ≠ 0 := by simpa using h2
      simp only [if_neg (fun h : endR rN = 0 ∧ mayN ⟨true, ps, [], [], []⟩ ≠ 0 => m h.2), if_pos a] at hD
      exact AW.ret (hD rfl (.tup (.cons .refl (.cons (Lx.i a.symm) .nil))))
end Go.Proofs.Ytmfonbehcfjjgaa.Mv

/- The codec: the document's Get of an inner node. Under no condition. -/
namespace Go.Proofs.Ytmfonbehcfjjgaa.Mv
open Go Go.Proofs
set_option linter.unusedSimpArgs false
set_option linter.unusedVariables false
set_option maxRecDepth 10000
set_option maxHeartbeats 4000000
attribute [local irreducible] AW AO AR

theorem gRGetNo (b : L) (hb : b.length ≤ 1000000) (hk1 : takeV ⟨b, 0, 0⟩ 1 ≠ 1) (hk2 : takeV ⟨b, 0, 0⟩ 1 ≠ 2) : Good Try.prog 37 [.sh 1 (BS b)] [] (.tup [.agg (getV b).av, .i .i64 (getE b)]) [] := by
  have hr : Rd.ok ⟨b, 0, 0⟩ := ⟨hb, Nat.zero_le _⟩
  have g8 : Good Try.prog 82 [.agg [.sh 1 (BS b), .i .i64 0, .i .i64 0], .i .i64 1] [] (.tup [.i .u64 (takeV ⟨b, 0, 0⟩ 1), .agg (takeR ⟨b, 0, 0⟩ 1).av]) [] := gRGet ⟨b, 0, 0⟩ 1 (by decide) hr.1 hr.2
  have h1 : (takeR ⟨b, 0, 0⟩ 1).ok := (Pf.tk 1).ok hr
  have e : nodeP ⟨b, 0, 0⟩ = (ndE, failR (takeR ⟨b, 0, 0⟩ 1) 7) := by
    show (if takeV ⟨b, 0, 0⟩ 1 = 1 then leafP else if takeV ⟨b, 0, 0⟩ 1 = 2 then innerP else bd (fl 7) fun _ => pu ndE) (takeR ⟨b, 0, 0⟩ 1) = _
    rw [if_neg hk1, if_neg hk2]; rfl
  have eV : getV b = ndE := by
    unfold getV
    rw [e]
    split <;> rfl
  rw [eV]
  unfold getE
  rw [e]
  dsimp only
  have gE := gREnd _ h1.1
  generalize takeR ⟨b, 0, 0⟩ 1 = r1 at *
  generalize takeV ⟨b, 0, 0⟩ 1 = k at *
  obtain ⟨b1, p1, e1⟩ := r1
  by_cases he : e1 = 0
  · subst he
    have ef : endR (failR ⟨b1, p1, 0⟩ 7) = 7 := by
      unfold endR failR; simp
    rw [ef, if_neg (by simp)]
    have g8 : Good Try.prog 82 [.agg [.sh 1 (BS b), .i .i64 0, .i .i64 0], .i .i64 1] [] (.tup [.i .u64 k, .agg [.sh 1 (BS b1), .i .i64 p1, .i .i64 0]]) [] := g8
    refine Good.w tabOk mixed Try.func37 (N := 160) (by kernel_rfl) rfl (by (repeat (first | exact LE.nil | apply LE.cons)); done) (by (repeat (first | exact LE.nil | apply LE.cons)); done) fun D hD F => ?_
    repeat' (first
    | apply AO.nil
    | (apply AO.kCall 82; refine AO.sCall (hg := g8) (h := ?_))
    | (apply AO.kBuildS; first | refine AO.sBuildT (h := ?_) | refine AO.sBuildS (h := ?_))
    | (apply AO.kApp; first | refine AO.sGrowT (h := ?_) | refine AO.sNewT (h := ?_) | refine AO.sGrowBT (h := ?_) | refine AO.sGrow (h := ?_) | refine AO.sNewr (h := ?_))
    | (apply AO.kAlloc; refine AO.sAlloc (h := ?_))
    | (apply AO.kStore; first | refine AO.sStore (h := ?_) | refine AO.sStB (h := ?_))
    | (apply AO.kAdd; refine AO.sAdd (h := ?_))
    | (apply AO.kP; first | refine AO.sP (h := ?_) | refine AO.sPi (h := ?_) | refine AO.sLoadB (h := ?_) | refine AO.sSameB (h := ?_))
    | apply AW.seq
    | (apply AW.kR; refine AW.sR (h := ?_))
    | apply AW.skip
    | apply AW.block
    | apply AW.out
    | (apply AW.kE; refine AW.sE (h := ?_))
    | apply AW.label
    | ((first | (apply AO.kG; first | refine AO.sgt (h1 := fun h => ?_) (h2 := fun h => ?_) | refine AO.sgf (h1 := fun h => ?_) (h2 := fun h => ?_) | refine AO.sgs (h := ?_)) | (apply AW.kC; refine AW.sC (h1 := fun h => ?_) (h2 := fun h => ?_))) <;> (try (first | exact Bool.noConfusion h | exact absurd h (by decide) | (simp at h; done) | (rw [h]; try simp only [nrm] at h; try rw [h]; try (exfalso; omega)) | skip))))
    all_goals first
      | exact AW.ret (hD rfl (.tup (.cons zN (.cons .refl .nil))))
      | (exfalso; simp at *; omega)
      | skip
  · have ef : endR (failR ⟨b1, p1, e1⟩ 7) = e1 := by
      have : failR ⟨b1, p1, e1⟩ 7 = ⟨b1, p1, e1⟩ := by rw [failR, if_neg he]
      rw [this]; unfold endR; rw [if_neg (fun h => he h.1)]
    have ee : endR ⟨b1, p1, e1⟩ = e1 := by unfold endR; rw [if_neg (fun h => he h.1)]
    rw [ee] at gE
    rw [ef, if_neg (fun h => he h.1)]
    refine Good.w tabOk mixed Try.func37 (N := 160) (by kernel_rfl) rfl (by (repeat (first | exact LE.nil | apply LE.cons)); done) (by (repeat (first | exact LE.nil | apply LE.cons)); done) fun D hD F => ?_
    repeat' (first
    | apply AO.nil
    | (apply AO.kCall 82; refine AO.sCall (hg := g8) (h := ?_))
    | (apply AO.kCall 88; refine AO.sCall (hg := gE) (h := ?_))
    | (apply AO.kBuildS; first | refine AO.sBuildT (h := ?_) | refine AO.sBuildS (h := ?_))
    | (apply AO.kApp; first | refine AO.sGrowT (h := ?_) | refine AO.sNewT (h := ?_) | refine AO.sGrowBT (h := ?_) | refine AO.sGrow (h := ?_) | refine AO.sNewr (h := ?_))
    | (apply AO.kAlloc; refine AO.sAlloc (h := ?_))
    | (apply AO.kStore; first | refine AO.sStore (h := ?_) | refine AO.sStB (h := ?_))
    | (apply AO.kAdd; refine AO.sAdd (h := ?_))
    | (apply AO.kP; first | refine AO.sP (h := ?_) | refine AO.sPi (h := ?_) | refine AO.sLoadB (h := ?_) | refine AO.sSameB (h := ?_))
    | apply AW.seq
    | (apply AW.kR; refine AW.sR (h := ?_))
    | apply AW.skip
    | apply AW.block
    | apply AW.out
    | (apply AW.kE; refine AW.sE (h := ?_))
    | apply AW.label
    | ((first | (apply AO.kG; first | refine AO.sgt (h1 := fun h => ?_) (h2 := fun h => ?_) | refine AO.sgf (h1 := fun h => ?_) (h2 := fun h => ?_) | refine AO.sgs (h := ?_)) | (apply AW.kC; refine AW.sC (h1 := fun h => ?_) (h2 := fun h => ?_))) <;> (try (first | exact Bool.noConfusion h | exact absurd h (by decide) | (simp at h; done) | (rw [h]; try simp only [nrm] at h; try rw [h]; try (exfalso; omega)) | skip))))
    all_goals first
      | exact AW.ret (hD rfl (.tup (.cons zN (.cons .refl .nil))))
      | (exfalso; omega)
      | (exfalso; simp at *; omega)
      | skip
end Go.Proofs.Ytmfonbehcfjjgaa.Mv

/- The codec: the document's Get of an inner node; all of it. Under no condition. -/
namespace Go.Proofs.Ytmfonbehcfjjgaa.Mv
open Go Go.Proofs
set_option linter.unusedSimpArgs false
set_option linter.unusedVariables false
set_option maxRecDepth 10000
set_option maxHeartbeats 4000000
attribute [local irreducible] AW AO AR

theorem end0 {r : Rd} (h : endR r = 0) : r.e = 0 := by
  unfold endR at h
  split at h
  · cases h
  · exact h
theorem gRGetInner (b : L) (hb : b.length ≤ 1000000) (hk : takeV ⟨b, 0, 0⟩ 1 = 2) : Good Try.prog 37 [.sh 1 (BS b)] [] (.tup [.agg (getV b).av, .i .i64 (getE b)]) [] := by
  have hr : Rd.ok ⟨b, 0, 0⟩ := ⟨hb, Nat.zero_le _⟩
  have g8 : Good Try.prog 82 [.agg [.sh 1 (BS b), .i .i64 0, .i .i64 0], .i .i64 1] [] (.tup [.i .u64 (takeV ⟨b, 0, 0⟩ 1), .agg (takeR ⟨b, 0, 0⟩ 1).av]) [] := gRGet ⟨b, 0, 0⟩ 1 (by decide) hr.1 hr.2
  have h1 : (takeR ⟨b, 0, 0⟩ 1).ok := (Pf.tk 1).ok hr
  have hN := pf_node.ok hr
  have gC := gRCnt _ 8 h1
  have lc := cnt_le 8 (takeR ⟨b, 0, 0⟩ 1)
  have hc := (pf_cnt 8).ok h1
  have e : nodeP ⟨b, 0, 0⟩ = innerP (takeR ⟨b, 0, 0⟩ 1) := by
    show (if takeV ⟨b, 0, 0⟩ 1 = 1 then leafP else if takeV ⟨b, 0, 0⟩ 1 = 2 then innerP else bd (fl 7) fun _ => pu ndE) (takeR ⟨b, 0, 0⟩ 1) = _
    rw [if_neg (by omega), if_pos hk]
  rw [inner_eq] at e
  have eV : getV b = if getE b = 0 then (nodeP ⟨b, 0, 0⟩).1 else ndE := rfl
  rw [eV]
  unfold getE
  have er := take1 (b := b) (by rw [hk]; decide)
  rw [hk] at g8
  rw [er] at g8 h1 gC lc hc e
  have g8 : Good Try.prog 82 [.agg [.sh 1 (BS b), .i .i64 0, .i .i64 0], .i .i64 1] [] (.tup [.i .u64 2, .agg [.sh 1 (BS b), .i .i64 1, .i .i64 0]]) [] := g8
  have gC : Good Try.prog 83 [.agg [.sh 1 (BS b), .i .i64 1, .i .i64 0], .i .u64 8] [] _ [] := gC
  rw [e] at hN ⊢
  dsimp only at hN ⊢
  generalize (cnt 8 ⟨b, 1, 0⟩).1 = c at *
  generalize (cnt 8 ⟨b, 1, 0⟩).2 = r1 at *
  have gF := gRFail r1 3
  have h2 := (pf_c0 c).ok hc
  have e2 : (c0P c r1).2 = if c = 0 then failR r1 3 else r1 := by unfold c0P; split <;> rfl
  generalize (c0P c r1).2 = r2 at *
  have hE := fun q => (pf_ed.rep q).ok h2
  have hP := fun q => ((Pf.tx 16).rep q).ok (hE c)
  have gM := gRCnt (rep (txP 16) (c - 1) (rep edP c r2).2).2 16 (hP _)
  have lm := cnt_le 16 (rep (txP 16) (c - 1) (rep edP c r2).2).2
  have hm := (pf_cnt 16).ok (hP (c - 1))
  clear e hk er eV
  generalize (cnt 16 (rep (txP 16) (c - 1) (rep edP c r2).2).2).1 = m0 at *
  generalize (cnt 16 (rep (txP 16) (c - 1) (rep edP c r2).2).2).2 = r5 at *
  refine Good.w tabOk mixed Try.func37 (N := 160) (by kernel_rfl) rfl (by (repeat (first | exact LE.nil | apply LE.cons)); done) (by (repeat (first | exact LE.nil | apply LE.cons)); done) fun D hD F => ?_
  repeat' (first
    | apply AO.nil
    | (apply AO.kCall 82; refine AO.sCall (hg := g8) (h := ?_))
    | (apply AO.kBuildS; first | refine AO.sBuildT (h := ?_) | refine AO.sBuildS (h := ?_))
    | (apply AO.kApp; first | refine AO.sGrowT (h := ?_) | refine AO.sNewT (h := ?_) | refine AO.sGrowBT (h := ?_) | refine AO.sGrow (h := ?_) | refine AO.sNewr (h := ?_))
    | (apply AO.kAlloc; refine AO.sAlloc (h := ?_))
    | (apply AO.kStore; first | refine AO.sStore (h := ?_) | refine AO.sStB (h := ?_))
    | (apply AO.kAdd; refine AO.sAdd (h := ?_))
    | (apply AO.kP; first | refine AO.sP (h := ?_) | refine AO.sPi (h := ?_) | refine AO.sLoadB (h := ?_) | refine AO.sSameB (h := ?_))
    | apply AW.seq
    | (apply AW.kR; refine AW.sR (h := ?_))
    | apply AW.skip
    | apply AW.block
    | apply AW.out
    | (apply AW.kE; refine AW.sE (h := ?_))
    | apply AW.label
    | ((first | (apply AO.kG; first | refine AO.sgt (h1 := fun h => ?_) (h2 := fun h => ?_) | refine AO.sgf (h1 := fun h => ?_) (h2 := fun h => ?_) | refine AO.sgs (h := ?_)) | (apply AW.kC; refine AW.sC (h1 := fun h => ?_) (h2 := fun h => ?_))) <;> (try (first | exact Bool.noConfusion h | exact absurd h (by decide) | (simp at h; done) | (rw [h]; try simp only [nrm] at h; try rw [h]; try (exfalso; omega)) | skip))))
  (first | (apply AO.kCall 83; refine AO.sCall (hg := gC) (h := ?_)) | (apply AR.kAny; (apply AR.kCall 83; refine AR.sCall (hg := gC) (h := ?_))))
  repeat' (first
    | apply AO.nil
    | (apply AO.kBuildS; first | refine AO.sBuildT (h := ?_) | refine AO.sBuildS (h := ?_))
    | (apply AO.kApp; first | refine AO.sGrowT (h := ?_) | refine AO.sNewT (h := ?_) | refine AO.sGrowBT (h := ?_) | refine AO.sGrow (h := ?_) | refine AO.sNewr (h := ?_))
    | (apply AO.kAlloc; refine AO.sAlloc (h := ?_))
    | (apply AO.kStore; first | refine AO.sStore (h := ?_) | refine AO.sStB (h := ?_))
    | (apply AO.kAdd; refine AO.sAdd (h := ?_))
    | (apply AO.kP; first | refine AO.sP (h := ?_) | refine AO.sPi (h := ?_) | refine AO.sLoadB (h := ?_) | refine AO.sSameB (h := ?_))
    | apply AW.seq
    | (apply AW.kR; refine AW.sR (h := ?_))
    | apply AW.skip
    | apply AW.block
    | apply AW.out
    | (apply AW.kE; refine AW.sE (h := ?_))
    | apply AW.label)
  refine AW.join ⟨[(2, .ptr 2 0), (4, .ptr 4 0), (5, .ptr 5 0), (6, .i .u64 2), (7, .ptr 7 0), (15, .i .i64 c), (16, .ptr 16 0)], [(2, .bx [.b false, .nil, .nil, .nil, .nil]), (4, .bx [.b false, .nil, .nil, .nil, .nil]), (5, .bx [.b false, .nil, .nil, .nil, .nil]), (16, .bx r1.av), (7, .bx r2.av)]⟩ ?_ ?_
  · intro k' hk'
    repeat' (first
    | apply AO.nil
    | (apply AO.kCall 85; refine AO.sCall (hg := gF) (h := ?_))
    | (apply AO.kBuildS; first | refine AO.sBuildT (h := ?_) | refine AO.sBuildS (h := ?_))
    | (apply AO.kApp; first | refine AO.sGrowT (h := ?_) | refine AO.sNewT (h := ?_) | refine AO.sGrowBT (h := ?_) | refine AO.sGrow (h := ?_) | refine AO.sNewr (h := ?_))
    | (apply AO.kAlloc; refine AO.sAlloc (h := ?_))
    | (apply AO.kStore; first | refine AO.sStore (h := ?_) | refine AO.sStB (h := ?_))
    | (apply AO.kAdd; refine AO.sAdd (h := ?_))
    | (apply AO.kP; first | refine AO.sP (h := ?_) | refine AO.sPi (h := ?_) | refine AO.sLoadB (h := ?_) | refine AO.sSameB (h := ?_))
    | apply AW.seq
    | (apply AW.kR; refine AW.sR (h := ?_))
    | apply AW.skip
    | apply AW.block
    | apply AW.out
    | (apply AW.kE; refine AW.sE (h := ?_))
    | apply AW.label
    | ((first | (apply AO.kG; first | refine AO.sgt (h1 := fun h => ?_) (h2 := fun h => ?_) | refine AO.sgf (h1 := fun h => ?_) (h2 := fun h => ?_) | refine AO.sgs (h := ?_)) | (apply AW.kC; refine AW.sC (h1 := fun h => ?_) (h2 := fun h => ?_))) <;> (try (first | exact Bool.noConfusion h | exact absurd h (by decide) | (simp at h; done) | (rw [h]; try simp only [nrm] at h; try rw [h]; try (exfalso; omega)) | skip))))
    · have e : c = 0 := by omega
      rw [if_pos e] at e2
      subst e2
      exact hk' _ (by (constructor <;> (repeat' (first | exact LeT.nil | exact LeB.nil | apply LeT.cons | apply LeB.cons | exact Ol.refl | apply Lx.s | apply Lx.b | apply Lx.i | exact Lx.refl)) <;> (first | rfl | assumption | omega | (simp only [List.length_map, BS_len]; done) | skip)))
    · have e : ¬ c = 0 := by omega
      rw [if_neg e] at e2
      subst e2
      exact hk' _ (by (constructor <;> (repeat' (first | exact LeT.nil | exact LeB.nil | apply LeT.cons | apply LeB.cons | exact Ol.refl | apply Lx.s | apply Lx.b | apply Lx.i | exact Lx.refl)) <;> (first | rfl | assumption | omega | (simp only [List.length_map, BS_len]; done) | skip)))
  refine AW.nilrow 901 9 1 (St.freeB_ok rfl) (st' := ⟨[(2, .ptr 2 0), (4, .ptr 4 0), (5, .ptr 5 0), (6, .i .u64 2), (7, .ptr 7 0), (15, .i .i64 c), (16, .ptr 16 0)], [(2, .bx [.b false, .nil, .nil, .nil, .nil]), (4, .bx [.b false, .nil, .nil, .nil, .nil]), (5, .bx [.b false, .nil, .gr 901 9 1 [], .nil, .nil]), (901, .gw 0), (16, .bx r1.av), (7, .bx r2.av)]⟩) ⟨by ((repeat' (first | exact LeT.nil | apply LeT.cons | exact Lx.nilG | apply Lx.s | apply Lx.b | apply Lx.i | exact Lx.refl)) <;> (first | rfl | assumption | omega | (simp only [List.length_map, BS_len]; done) | skip)), .cons .refl (.cons .refl (.cons (.bx (.cons .refl (.cons .refl (.cons Lx.nilG (.cons .refl (.cons .refl .nil)))))) (.cons .refl (.cons .refl (.cons .refl .nil)))))⟩ ?_
  refine AW.nilrow 902 65 4 (St.freeB_ok rfl) (st' := ⟨[(2, .ptr 2 0), (4, .ptr 4 0), (5, .ptr 5 0), (6, .i .u64 2), (7, .ptr 7 0), (15, .i .i64 c), (16, .ptr 16 0)], [(2, .bx [.b false, .nil, .nil, .nil, .nil]), (4, .bx [.b false, .nil, .nil, .nil, .nil]), (5, .bx [.b false, .nil, .gr 901 9 1 [], .gr 902 65 4 [], .nil]), (901, .gw 0), (902, .gw 0), (16, .bx r1.av), (7, .bx r2.av)]⟩) ⟨by ((repeat' (first | exact LeT.nil | apply LeT.cons | exact Lx.nilG | apply Lx.s | apply Lx.b | apply Lx.i | exact Lx.refl)) <;> (first | rfl | assumption | omega | (simp only [List.length_map, BS_len]; done) | skip)), .cons .refl (.cons .refl (.cons (.bx (.cons .refl (.cons .refl (.cons .refl (.cons Lx.nilG (.cons .refl .nil)))))) (.cons .refl (.cons .refl (.cons .refl (.cons .refl .nil))))))⟩ ?_
  refine AW.nilrow 903 71 6 (St.freeB_ok rfl) (st' := ⟨[(2, .ptr 2 0), (4, .ptr 4 0), (5, .ptr 5 0), (6, .i .u64 2), (7, .ptr 7 0), (15, .i .i64 c), (16, .ptr 16 0)], [(2, .bx [.b false, .nil, .nil, .nil, .nil]), (4, .bx [.b false, .nil, .nil, .nil, .nil]), (5, .bx [.b false, .nil, .gr 901 9 1 [], .gr 902 65 4 [], .gr 903 71 6 []]), (901, .gw 0), (902, .gw 0), (903, .gw 0), (16, .bx r1.av), (7, .bx r2.av)]⟩) ⟨by ((repeat' (first | exact LeT.nil | apply LeT.cons | exact Lx.nilG | apply Lx.s | apply Lx.b | apply Lx.i | exact Lx.refl)) <;> (first | rfl | assumption | omega | (simp only [List.length_map, BS_len]; done) | skip)), .cons .refl (.cons .refl (.cons (.bx (.cons .refl (.cons .refl (.cons .refl (.cons .refl (.cons Lx.nilG .nil)))))) (.cons .refl (.cons .refl (.cons .refl (.cons .refl (.cons .refl .nil)))))))⟩ ?_
  repeat' (first
    | apply AO.nil
    | (apply AO.kBuildS; first | refine AO.sBuildT (h := ?_) | refine AO.sBuildS (h := ?_))
    | (apply AO.kApp; first | refine AO.sGrowT (h := ?_) | refine AO.sNewT (h := ?_) | refine AO.sGrowBT (h := ?_) | refine AO.sGrow (h := ?_) | refine AO.sNewr (h := ?_))
    | (apply AO.kAlloc; refine AO.sAlloc (h := ?_))
    | (apply AO.kStore; first | refine AO.sStore (h := ?_) | refine AO.sStB (h := ?_))
    | (apply AO.kAdd; refine AO.sAdd (h := ?_))
    | (apply AO.kP; first | refine AO.sP (h := ?_) | refine AO.sPi (h := ?_) | refine AO.sLoadB (h := ?_) | refine AO.sSameB (h := ?_))
    | apply AW.seq
    | (apply AW.kR; refine AW.sR (h := ?_))
    | apply AW.skip
    | apply AW.block
    | apply AW.out
    | (apply AW.kE; refine AW.sE (h := ?_))
    | apply AW.label
    | ((first | (apply AO.kG; first | refine AO.sgt (h1 := fun h => ?_) (h2 := fun h => ?_) | refine AO.sgf (h1 := fun h => ?_) (h2 := fun h => ?_) | refine AO.sgs (h := ?_)) | (apply AW.kC; refine AW.sC (h1 := fun h => ?_) (h2 := fun h => ?_))) <;> (try (first | exact Bool.noConfusion h | exact absurd h (by decide) | (simp at h; done) | (rw [h]; try simp only [nrm] at h; try rw [h]; try (exfalso; omega)) | skip))))
  refine AW.loopI (fun q : Nat => q ≤ c) (fun q => ⟨[(2, .ptr 2 0), (4, .ptr 4 0), (5, .ptr 5 0), (6, .i .u64 2), (7, .ptr 7 0), (15, .i .i64 c), (16, .ptr 16 0), (17, .i .i64 q)], [(2, .bx [.b false, .nil, .nil, .nil, .nil]), (4, .bx [.b false, .nil, .nil, .nil, .nil]), (5, .bx [.b false, .nil, .gr 901 9 1 [], .gr 902 65 4 ((rep edP q r2).1.map Ed.av), .gr 903 71 6 []]), (901, .gw 0), (902, .gw ((rep edP q r2).1.map Ed.av).length), (903, .gw 0), (16, .bx r1.av), (7, .bx (rep edP q r2).2.av)]⟩) (fun q => c - q) 0 (by simp) (by (constructor <;> (repeat' (first | exact LeT.nil | exact LeB.nil | apply LeT.cons | apply LeB.cons | exact Ol.refl | apply Lx.s | apply Lx.b | apply Lx.i | exact Lx.refl)) <;> (first | rfl | assumption | omega | (simp only [List.length_map, BS_len]; done) | skip))) fun m q hq ih => ?_
  have lq : ((rep edP q r2).1.map Ed.av).length = q := by rw [List.length_map, rep_len]
  by_cases hq2 : q < c
  · have hq' := hE q
    have e1 : rep edP (q + 1) r2 = ((rep edP q r2).1 ++ [(edP (rep edP q r2).2).1], (edP (rep edP q r2).2).2) := rfl
    clear hD gM hN hP hE
    generalize rep edP q r2 = z at *
    obtain ⟨xs, rq⟩ := z
    dsimp only at *
    have gT := gREdge rq hq'
    repeat' (first
    | apply AO.nil
    | (apply AO.kCall 86; refine AO.sCall (hg := gT) (h := ?_))
    | (apply AO.kBuildS; first | refine AO.sBuildT (h := ?_) | refine AO.sBuildS (h := ?_))
    | (apply AO.kApp; first | refine AO.sGrowT (h := ?_) | refine AO.sNewT (h := ?_) | refine AO.sGrowBT (h := ?_) | refine AO.sGrow (h := ?_) | refine AO.sNewr (h := ?_))
    | (apply AO.kAlloc; refine AO.sAlloc (h := ?_))
    | (apply AO.kStore; first | refine AO.sStore (h := ?_) | refine AO.sStB (h := ?_))
    | (apply AO.kAdd; refine AO.sAdd (h := ?_))
    | (apply AO.kP; first | refine AO.sP (h := ?_) | refine AO.sPi (h := ?_) | refine AO.sLoadB (h := ?_) | refine AO.sSameB (h := ?_))
    | apply AW.seq
    | (apply AW.kR; refine AW.sR (h := ?_))
    | apply AW.skip
    | apply AW.block
    | apply AW.out
    | (apply AW.kE; refine AW.sE (h := ?_))
    | apply AW.label
    | ((first | (apply AO.kG; first | refine AO.sgt (h1 := fun h => ?_) (h2 := fun h => ?_) | refine AO.sgf (h1 := fun h => ?_) (h2 := fun h => ?_) | refine AO.sgs (h := ?_)) | (apply AW.kC; refine AW.sC (h1 := fun h => ?_) (h2 := fun h => ?_))) <;> (try (first | exact Bool.noConfusion h | exact absurd h (by decide) | (simp at h; done) | (rw [h]; try simp only [nrm] at h; try rw [h]; try (exfalso; omega)) | skip))))
    all_goals try (exfalso; omega)
    refine ih (q + 1) _ (by omega) (by omega) ?_
    simp only [e1]
    ((constructor <;> (repeat' (first | exact LeT.nil | exact LeB.nil | apply LeT.cons | apply LeB.cons | exact Ol.refl | apply Lx.s | apply Lx.b | apply Lx.i | exact Lx.refl)) <;> (first | rfl | assumption | omega | (simp only [List.length_map, BS_len]; done) | skip)) <;> (first | (refine Lx.eq (congrArg (AV.gr _ _ _) ?_); simp only [List.map_append, List.map_cons, List.map_nil]; rfl) | (refine Ol.eq (congrArg Ob.gw ?_); simp only [List.map_append, List.map_cons, List.map_nil, List.length_append, List.length_map, List.length_cons, List.length_nil]; done) | (refine Ol.bx ?_; (repeat' (first | exact LxL.nil | apply LxL.cons | exact Lx.refl | (refine Lx.eq (congrArg (AV.gr _ _ _) ?_); simp only [List.map_append, List.map_cons, List.map_nil]; rfl)))) | skip))
  · obtain rfl : c = q := by omega
    have le := rep_len (p := edP) r2 c
    generalize rep edP c r2 = z at *
    obtain ⟨es, r3⟩ := z
    dsimp only at *
    repeat' (first
    | apply AO.nil
    | (apply AO.kBuildS; first | refine AO.sBuildT (h := ?_) | refine AO.sBuildS (h := ?_))
    | (apply AO.kApp; first | refine AO.sGrowT (h := ?_) | refine AO.sNewT (h := ?_) | refine AO.sGrowBT (h := ?_) | refine AO.sGrow (h := ?_) | refine AO.sNewr (h := ?_))
    | (apply AO.kAlloc; refine AO.sAlloc (h := ?_))
    | (apply AO.kStore; first | refine AO.sStore (h := ?_) | refine AO.sStB (h := ?_))
    | (apply AO.kAdd; refine AO.sAdd (h := ?_))
    | (apply AO.kP; first | refine AO.sP (h := ?_) | refine AO.sPi (h := ?_) | refine AO.sLoadB (h := ?_) | refine AO.sSameB (h := ?_))
    | apply AW.seq
    | (apply AW.kR; refine AW.sR (h := ?_))
    | apply AW.skip
    | apply AW.block
    | apply AW.out
    | (apply AW.kE; refine AW.sE (h := ?_))
    | apply AW.label
    | ((first | (apply AO.kG; first | refine AO.sgt (h1 := fun h => ?_) (h2 := fun h => ?_) | refine AO.sgf (h1 := fun h => ?_) (h2 := fun h => ?_) | refine AO.sgs (h := ?_)) | (apply AW.kC; refine AW.sC (h1 := fun h => ?_) (h2 := fun h => ?_))) <;> (try (first | exact Bool.noConfusion h | exact absurd h (by decide) | (simp at h; done) | (rw [h]; try simp only [nrm] at h; try rw [h]; try (exfalso; omega)) | skip))))
    all_goals try (exfalso; omega)
    refine AW.loopI (fun q : Nat => q ≤ c - 1) (fun q => ⟨[(2, .ptr 2 0), (4, .ptr 4 0), (5, .ptr 5 0), (6, .i .u64 2), (7, .ptr 7 0), (15, .i .i64 c), (16, .ptr 16 0), (20, .i .i64 ((q : Int) + 1))], [(2, .bx [.b false, .nil, .nil, .nil, .nil]), (4, .bx [.b false, .nil, .nil, .nil, .nil]), (5, .bx [.b false, .nil, .gr 901 9 1 ((rep (txP 16) q r3).1.map sav), .gr 902 65 4 (es.map Ed.av), .gr 903 71 6 []]), (901, .gw ((rep (txP 16) q r3).1.map sav).length), (903, .gw 0), (16, .bx r1.av), (7, .bx (rep (txP 16) q r3).2.av)]⟩) (fun q => c - 1 - q) 0 (by simp) (by (constructor <;> (repeat' (first | exact LeT.nil | exact LeB.nil | apply LeT.cons | apply LeB.cons | exact Ol.refl | apply Lx.s | apply Lx.b | apply Lx.i | exact Lx.refl)) <;> (first | rfl | assumption | omega | (simp only [List.length_map, BS_len]; done) | skip))) fun m q hq ih => ?_
    have lq : ((rep (txP 16) q r3).1.map sav).length = q := by rw [List.length_map, rep_len]
    by_cases hq2 : q < c - 1
    · have hq' := hP q
      have e1 : rep (txP 16) (q + 1) r3 = ((rep (txP 16) q r3).1 ++ [(txP 16 (rep (txP 16) q r3).2).1], (txP 16 (rep (txP 16) q r3).2).2) := rfl
      clear hD gM hN hP hE
      generalize rep (txP 16) q r3 = z at *
      obtain ⟨xs, rq⟩ := z
      dsimp only at *
      have gT := gRGetText rq 16 hq'.1 hq'.2
      repeat' (first
    | apply AO.nil
    | (apply AO.kCall 84; refine AO.sCall (hg := gT) (h := ?_))
    | (apply AO.kBuildS; first | refine AO.sBuildT (h := ?_) | refine AO.sBuildS (h := ?_))
    | (apply AO.kApp; first | refine AO.sGrowT (h := ?_) | refine AO.sNewT (h := ?_) | refine AO.sGrowBT (h := ?_) | refine AO.sGrow (h := ?_) | refine AO.sNewr (h := ?_))
    | (apply AO.kAlloc; refine AO.sAlloc (h := ?_))
    | (apply AO.kStore; first | refine AO.sStore (h := ?_) | refine AO.sStB (h := ?_))
    | (apply AO.kAdd; refine AO.sAdd (h := ?_))
    | (apply AO.kP; first | refine AO.sP (h := ?_) | refine AO.sPi (h := ?_) | refine AO.sLoadB (h := ?_) | refine AO.sSameB (h := ?_))
    | apply AW.seq
    | (apply AW.kR; refine AW.sR (h := ?_))
    | apply AW.skip
    | apply AW.block
    | apply AW.out
    | (apply AW.kE; refine AW.sE (h := ?_))
    | apply AW.label
    | ((first | (apply AO.kG; first | refine AO.sgt (h1 := fun h => ?_) (h2 := fun h => ?_) | refine AO.sgf (h1 := fun h => ?_) (h2 := fun h => ?_) | refine AO.sgs (h := ?_)) | (apply AW.kC; refine AW.sC (h1 := fun h => ?_) (h2 := fun h => ?_))) <;> (try (first | exact Bool.noConfusion h | exact absurd h (by decide) | (simp at h; done) | (rw [h]; try simp only [nrm] at h; try rw [h]; try (exfalso; omega)) | skip))))
      all_goals try (exfalso; omega)
      refine ih (q + 1) _ (by omega) (by omega) ?_
      simp only [e1]
      ((constructor <;> (repeat' (first | exact LeT.nil | exact LeB.nil | apply LeT.cons | apply LeB.cons | exact Ol.refl | apply Lx.s | apply Lx.b | apply Lx.i | exact Lx.refl)) <;> (first | rfl | assumption | omega | (simp only [List.length_map, BS_len]; done) | skip)) <;> (first | (refine Lx.eq (congrArg (AV.gr _ _ _) ?_); simp only [List.map_append, List.map_cons, List.map_nil]; rfl) | (refine Ol.eq (congrArg Ob.gw ?_); simp only [List.map_append, List.map_cons, List.map_nil, List.length_append, List.length_map, List.length_cons, List.length_nil]; done) | (refine Ol.bx ?_; (repeat' (first | exact LxL.nil | apply LxL.cons | exact Lx.refl | (refine Lx.eq (congrArg (AV.gr _ _ _) ?_); simp only [List.map_append, List.map_cons, List.map_nil]; rfl)))) | skip))
    · obtain rfl : c - 1 = q := by omega
      have lp := rep_len (p := txP 16) r3 (c - 1)
      generalize rep (txP 16) (c - 1) r3 = z at *
      obtain ⟨pv, r4⟩ := z
      dsimp only at *
      repeat' (first
    | apply AO.nil
    | (apply AO.kCall 83; refine AO.sCall (hg := gM) (h := ?_))
    | (apply AO.kBuildS; first | refine AO.sBuildT (h := ?_) | refine AO.sBuildS (h := ?_))
    | (apply AO.kApp; first | refine AO.sGrowT (h := ?_) | refine AO.sNewT (h := ?_) | refine AO.sGrowBT (h := ?_) | refine AO.sGrow (h := ?_) | refine AO.sNewr (h := ?_))
    | (apply AO.kAlloc; refine AO.sAlloc (h := ?_))
    | (apply AO.kStore; first | refine AO.sStore (h := ?_) | refine AO.sStB (h := ?_))
    | (apply AO.kAdd; refine AO.sAdd (h := ?_))
    | (apply AO.kP; first | refine AO.sP (h := ?_) | refine AO.sPi (h := ?_) | refine AO.sLoadB (h := ?_) | refine AO.sSameB (h := ?_))
    | apply AW.seq
    | (apply AW.kR; refine AW.sR (h := ?_))
    | apply AW.skip
    | apply AW.block
    | apply AW.out
    | (apply AW.kE; refine AW.sE (h := ?_))
    | apply AW.label
    | ((first | (apply AO.kG; first | refine AO.sgt (h1 := fun h => ?_) (h2 := fun h => ?_) | refine AO.sgf (h1 := fun h => ?_) (h2 := fun h => ?_) | refine AO.sgs (h := ?_)) | (apply AW.kC; refine AW.sC (h1 := fun h => ?_) (h2 := fun h => ?_))) <;> (try (first | exact Bool.noConfusion h | exact absurd h (by decide) | (simp at h; done) | (rw [h]; try simp only [nrm] at h; try rw [h]; try (exfalso; omega)) | skip))))
      all_goals try (exfalso; omega)
      refine AW.loopI (fun q : Nat => q ≤ m0) (fun q => ⟨[(2, .ptr 2 0), (4, .ptr 4 0), (5, .ptr 5 0), (6, .i .u64 2), (7, .ptr 7 0), (15, .i .i64 m0), (23, .i .i64 q)], [(2, .bx [.b false, .nil, .nil, .nil, .nil]), (4, .bx [.b false, .nil, .nil, .nil, .nil]), (5, .bx [.b false, .nil, .gr 901 9 1 (pv.map sav), .gr 902 65 4 (es.map Ed.av), .gr 903 71 6 ((rep msR q r5).1.map Ms.av)]), (903, .gw ((rep msR q r5).1.map Ms.av).length), (7, .bx (rep msR q r5).2.av)]⟩) (fun q => m0 - q) 0 (by simp) (by (constructor <;> (repeat' (first | exact LeT.nil | exact LeB.nil | apply LeT.cons | apply LeB.cons | exact Ol.refl | apply Lx.s | apply Lx.b | apply Lx.i | exact Lx.refl)) <;> (first | rfl | assumption | omega | (simp only [List.length_map, BS_len]; done) | skip))) fun m q hq ih => ?_
      have lq : ((rep msR q r5).1.map Ms.av).length = q := by rw [List.length_map, rep_len]
      by_cases hq2 : q < m0
      · have hq' : (rep msR q r5).2.ok := by rw [(repR_eq r5 q).1]; exact (pf_ms.rep q).ok hm
        have e1 : rep msR (q + 1) r5 = ((rep msR q r5).1 ++ [(msR (rep msR q r5).2).1], (msR (rep msR q r5).2).2) := rfl
        clear hD gM hN hP hE
        generalize rep msR q r5 = z at *
        obtain ⟨xs, rq⟩ := z
        dsimp only at *
        have gT := gRMsg rq hq'
        repeat' (first
    | apply AO.nil
    | (apply AO.kCall 87; refine AO.sCall (hg := gT) (h := ?_))
    | (apply AO.kBuildS; first | refine AO.sBuildT (h := ?_) | refine AO.sBuildS (h := ?_))
    | (apply AO.kApp; first | refine AO.sGrowT (h := ?_) | refine AO.sNewT (h := ?_) | refine AO.sGrowBT (h := ?_) | refine AO.sGrow (h := ?_) | refine AO.sNewr (h := ?_))
    | (apply AO.kAlloc; refine AO.sAlloc (h := ?_))
    | (apply AO.kStore; first | refine AO.sStore (h := ?_) | refine AO.sStB (h := ?_))
    | (apply AO.kAdd; refine AO.sAdd (h := ?_))
    | (apply AO.kP; first | refine AO.sP (h := ?_) | refine AO.sPi (h := ?_) | refine AO.sLoadB (h := ?_) | refine AO.sSameB (h := ?_))
    | apply AW.seq
    | (apply AW.kR; refine AW.sR (h := ?_))
    | apply AW.skip
    | apply AW.block
    | apply AW.out
    | (apply AW.kE; refine AW.sE (h := ?_))
    | apply AW.label
    | ((first | (apply AO.kG; first | refine AO.sgt (h1 := fun h => ?_) (h2 := fun h => ?_) | refine AO.sgf (h1 := fun h => ?_) (h2 := fun h => ?_) | refine AO.sgs (h := ?_)) | (apply AW.kC; refine AW.sC (h1 := fun h => ?_) (h2 := fun h => ?_))) <;> (try (first | exact Bool.noConfusion h | exact absurd h (by decide) | (simp at h; done) | (rw [h]; try simp only [nrm] at h; try rw [h]; try (exfalso; omega)) | skip))))
        all_goals try (exfalso; omega)
        refine ih (q + 1) _ (by omega) (by omega) ?_
        simp only [e1]
        ((constructor <;> (repeat' (first | exact LeT.nil | exact LeB.nil | apply LeT.cons | apply LeB.cons | exact Ol.refl | apply Lx.s | apply Lx.b | apply Lx.i | exact Lx.refl)) <;> (first | rfl | assumption | omega | (simp only [List.length_map, BS_len]; done) | skip)) <;> (first | (refine Lx.eq (congrArg (AV.gr _ _ _) ?_); simp only [List.map_append, List.map_cons, List.map_nil]; rfl) | (refine Ol.eq (congrArg Ob.gw ?_); simp only [List.map_append, List.map_cons, List.map_nil, List.length_append, List.length_map, List.length_cons, List.length_nil]; done) | (refine Ol.bx ?_; (repeat' (first | exact LxL.nil | apply LxL.cons | exact Lx.refl | (refine Lx.eq (congrArg (AV.gr _ _ _) ?_); simp only [List.map_append, List.map_cons, List.map_nil]; rfl)))) | skip))
      · obtain rfl : m0 = q := by omega
        obtain ⟨em1, em2⟩ := repR_eq r5 m0
        have ll := rep_len (p := msR) r5 m0
        generalize rep msR m0 r5 = y at *
        generalize rep msP m0 r5 = z at *
        obtain ⟨ms, rN⟩ := z
        obtain ⟨ns, rM⟩ := y
        dsimp only at em1 em2 hN hD ll ⊢
        subst em1
        have hs : (⟨false, [], pv, es, ns⟩ : Nd).small := ⟨by simp, by dsimp only at lp ⊢; omega, by dsimp only at le ⊢; omega, by dsimp only; omega⟩
        have gE := gREnd rM hN.1
        have gY := gMay' _ hs
        refine AW.less (st' := ⟨[(2, .ptr 2 0), (4, .ptr 4 0), (5, .ptr 5 0), (6, .i .u64 2), (7, .ptr 7 0), (15, .i .i64 m0), (23, .i .i64 m0)], [(2, .bx [.b false, .nil, .nil, .nil, .nil]), (4, .bx [.b false, .nil, .nil, .nil, .nil]), (5, .bx (Nd.av ⟨false, [], pv, es, ns⟩)), (7, .bx rM.av)]⟩) ⟨by ((repeat' (first | exact LeT.nil | apply LeT.cons | apply Lx.s | apply Lx.b | apply Lx.i | exact Lx.refl)) <;> (first | rfl | assumption | omega | (simp only [List.length_map, BS_len]; done) | skip)), .cons .refl (.cons .refl (.cons (.bx (.cons .refl (.cons Lx.nil (.cons .gr (.cons .gr (.cons .gr .nil)))))) (.cons .refl .nil)))⟩ ?_
        repeat' (first
    | apply AO.nil
    | (apply AO.kCall 88; refine AO.sCall (hg := gE) (h := ?_))
    | (apply AO.kCall 21; refine AO.sCall (hg := gY) (h := ?_))
    | (apply AO.kBuildS; first | refine AO.sBuildT (h := ?_) | refine AO.sBuildS (h := ?_))
    | (apply AO.kApp; first | refine AO.sGrowT (h := ?_) | refine AO.sNewT (h := ?_) | refine AO.sGrowBT (h := ?_) | refine AO.sGrow (h := ?_) | refine AO.sNewr (h := ?_))
    | (apply AO.kAlloc; refine AO.sAlloc (h := ?_))
    | (apply AO.kStore; first | refine AO.sStore (h := ?_) | refine AO.sStB (h := ?_))
    | (apply AO.kAdd; refine AO.sAdd (h := ?_))
    | (apply AO.kP; first | refine AO.sP (h := ?_) | refine AO.sPi (h := ?_) | refine AO.sLoadB (h := ?_) | refine AO.sSameB (h := ?_))
    | apply AW.seq
    | (apply AW.kR; refine AW.sR (h := ?_))
    | apply AW.skip
    | apply AW.block
    | apply AW.out
    | (apply AW.kE; refine AW.sE (h := ?_))
    | apply AW.label
    | ((first | (apply AO.kG; first | refine AO.sgt (h1 := fun h => ?_) (h2 := fun h => ?_) | refine AO.sgf (h1 := fun h => ?_) (h2 := fun h => ?_) | refine AO.sgs (h := ?_)) | (apply AW.kC; refine AW.sC (h1 := fun h => ?_) (h2 := fun h => ?_))) <;> (try (first | exact Bool.noConfusion h | exact absurd h (by decide) | (simp at h; done) | (rw [h]; try simp only [nrm] at h; try rw [h]; try (exfalso; omega)) | skip))))
        all_goals try (exfalso; omega)
        · have h' : (endR rM != 0) = true := ‹_›
          have a : ¬ endR rM = 0 := by simpa using h'
          simp only [if_neg (fun h : endR rM = 0 ∧ mayN ⟨false, [], pv, es, ms⟩ ≠ 0 => a h.1), if_neg a] at hD
          exact AW.ret (hD rfl (.tup (.cons zN (.cons .refl .nil))))
        · have h' : (endR rM != 0) = false := ‹_›
          have a : endR rM = 0 := by simpa using h'
          have ee := em2 (end0 a)
          subst ee
          have h2 : ((mayN ⟨false, [], pv, es, ns⟩ : Int) != 0) = true := ‹_›
          have m : mayN ⟨false, [], pv, es, ns⟩ ≠ 0 := by simpa using h2
          simp only [if_pos (And.intro a m)] at hD
          exact AW.ret (hD rfl (.tup (.cons (by rw [if_neg (by decide)]; exact zN) (.cons .refl .nil))))
        · have h' : (endR rM != 0) = false := ‹_›
          have a : endR rM = 0 := by simpa using h'
          have ee := em2 (end0 a)
          subst ee
          have h2 : ((mayN ⟨false, [], pv, es, ns⟩ : Int) != 0) = false := ‹_›
          have m : ¬ mayN ⟨false, [], pv, es, ns⟩ ≠ 0 := by simpa using h2
          simp only [if_neg (fun h : endR rM = 0 ∧ mayN ⟨false, [], pv, es, ns⟩ ≠ 0 => m h.2), if_pos a] at hD
          exact AW.ret (hD rfl (.tup (.cons .refl (.cons (Lx.i a.symm) .nil))))
/-- The document's Get. -/
theorem gRGetN (b : L) (hb : b.length ≤ 1000000) : Good Try.prog 37 [.sh 1 (BS b)] [] (.tup [.agg (getV b).av, .i .i64 (getE b)]) [] := by
  by_cases h1 : takeV ⟨b, 0, 0⟩ 1 = 1
  · exact gRGetLeaf b hb h1
  · by_cases h2 : takeV ⟨b, 0, 0⟩ 1 = 2
    · exact gRGetInner b hb h2
    · exact gRGetNo b hb h1 h2
/-- The document's Put. -/
theorem gRPutN (n : Nd) (hs : n.small) (hx : n.strs) : Good Try.prog 35 [.agg n.av] [] (.tup [.sh 1 (BS (wM n)), .i .i64 (mayN n)]) [] := by
  by_cases h0 : mayN n = 0
  · rw [wM, if_pos h0, h0]
    have c1 := may_cnt h0
    cases hl : n.leaf with
    | true =>
      obtain ⟨leaf, pairs, pivots, kids, buf⟩ := n
      dsimp only at hl c1
      subst hl
      exact gRPutLeaf _ _ _ _ hs hx h0 c1.1
    | false =>
      have hv := may_val h0 hl
      obtain ⟨leaf, pairs, pivots, kids, buf⟩ := n
      dsimp only at hl hv
      subst hl
      exact gRPutInner _ _ _ _ hs hx h0 hv
  · rw [wM, if_neg h0]
    exact gRPutNo n hs h0
end Go.Proofs.Ytmfonbehcfjjgaa.Mv

/- The codec: the statements. Under no condition. -/
namespace Go.Proofs.Ytmfonbehcfjjgaa.Mv
open Go Go.Proofs
set_option linter.unusedSimpArgs false
set_option linter.unusedVariables false
set_option maxRecDepth 10000
set_option maxHeartbeats 4000000
attribute [local irreducible] AW AO AR

theorem Good.les {P : Program} {f : FuncId} {args args' : List AV} {ins outs : List (Nat × Ob)} {res : AV} (hg : Good P f args ins res outs) (hl : LeL args' args) : Good P f args' ins res outs :=
  ⟨hg.fn, fun w Γ m vals gok hv => hg.calls w Γ m vals gok (hl.rep hv)⟩
theorem tx_len {x : L} {c : Nat} (h : x.length ≤ c) (hc : c ≤ 255) : (tx x).length ≤ c + 1 := by
  unfold tx cut255
  rw [List.length_append, be_len, List.length_take]; omega
theorem fl_len {α : Type} {f : α → L} {c : Nat} : ∀ {l : List α}, (∀ x ∈ l, (f x).length ≤ c) → (l.map f).flatten.length ≤ l.length * c
  | [], _ => by simp
  | a :: l, h => by
    have := fl_len (l := l) fun x hx => h x (by simp [hx])
    have := h a (by simp)
    rw [List.map_cons, List.flatten_cons, List.length_append, List.length_cons, Nat.add_mul]; omega
theorem wN_len {n : Nd} (h : mayN n = 0) : (wN n).length ≤ 2024 := by
  obtain ⟨c1, c2, c3⟩ := may_cnt h
  cases hl : n.leaf with
  | true =>
    obtain ⟨e, ha⟩ := leaf_is h hl
    have := fl_len (l := n.pairs) (f := wPr) (c := 50) fun x hx => by
      have hp := List.all_eq_true.1 ha x hx
      simp only [prLen, Bool.and_eq_true, decide_eq_true_eq] at hp
      have a := tx_len hp.1 (by decide); have b := tx_len hp.2 (by decide)
      unfold wPr; rw [List.length_append]; omega
    unfold wN
    rw [if_pos hl, List.length_append, List.length_append, be_len, be_len]; omega
  | false =>
    have ho := (may_inner h hl).1
    simp only [innerOk, Bool.and_eq_true, decide_eq_true_eq] at ho
    obtain ⟨⟨⟨⟨⟨_, _⟩, o1⟩, o2⟩, o3⟩, o4⟩ := ho
    have h1 := fl_len (l := n.kids) (f := wEd) (c := 40) fun x hx => by
      have hp := List.all_eq_true.1 o2 x hx
      simp only [edOk, Bool.and_eq_true, decide_eq_true_eq] at hp
      have a := tx_len hp.1.2 (by decide); have b := tx_len hp.2 (by decide)
      unfold wEd; simp only [List.length_append, be_len]; omega
    have h2 := fl_len (l := n.pivots) (f := tx) (c := 17) fun x hx => tx_len (by simpa using List.all_eq_true.1 o3.2 x hx) (by decide)
    have h3 := fl_len (l := n.buf) (f := wMs) (c := 60) fun m hm => by
      have hp := List.all_eq_true.1 o4 m hm
      unfold msMay at hp
      simp only [Bool.and_eq_true, decide_eq_true_eq] at hp
      obtain ⟨a, b⟩ := hp
      have a := tx_len a (by decide)
      unfold wMs; simp only [List.length_append, be_len]
      split at b
      · rename_i e
        simp only [Bool.and_eq_true, decide_eq_true_eq] at b
        have b := tx_len b.1.1.1 (by decide)
        rw [if_pos e]; omega
      · rename_i e1
        rw [if_neg e1]
        split at b
        · rename_i e2
          rw [if_neg (by rw [e2]; decide), List.length_nil]; omega
        · split at b
          · rename_i e3
            simp only [Bool.and_eq_true, decide_eq_true_eq] at b
            have b := tx_len b.1.1 (by decide)
            rw [if_pos e3]; simp only [List.length_append, be_len]; omega
          · cases b
    unfold wN
    rw [if_neg (by rw [hl]; decide)]
    simp only [List.length_append, be_len]; omega
theorem getV_small (b : L) : (getV b).small := by
  unfold getV
  split
  · exact node_small _
  · exact ⟨by simp [ndE], by simp [ndE], by simp [ndE], by simp [ndE]⟩
def nC : Nd := ⟨true, [⟨[97], [49]⟩], [], [], []⟩
theorem gAwakeC : Good Try.prog 33 [] [] (.b true) [] := by
  have g : Good Try.prog 34 [.agg nC.av] [] (.tup [.sh 1 (BS [1, 1, 1, 97, 1, 49]), .i .i64 0]) [] := by
    have := gCPut nC ⟨by decide, by decide, by decide, by decide⟩ ⟨fun i hi => absurd hi (by simp [nC]), by simp [nC]⟩
    rwa [show wM nC = [1, 1, 1, 97, 1, 49] by decide, show mayN nC = 0 by decide] at this
  have g2 : Good Try.prog 34 [.agg [.b true, .gr 5 87 2 [[.s [97], .s [49]]], .nil, .nil, .nil]] [] (.tup [.sh 1 (BS [1, 1, 1, 97, 1, 49]), .i .i64 0]) [] :=
    g.les (.cons (.aggL (.cons (.refl _) (.cons .gr (.cons .nil (.cons .nil (.cons .nil .nil)))))) .nil)
  refine Good.w tabOk mixed Try.func33 (N := 17) (by kernel_rfl) rfl (by (repeat (first | exact LE.nil | apply LE.cons)); done) (by (repeat (first | exact LE.nil | apply LE.cons)); done) fun D hD F => ?_
  repeat' (first
    | apply AO.nil
    | (apply AO.kCall 34; refine AO.sCall (hg := g2) (h := ?_))
    | (apply AO.kBuildS; first | refine AO.sBuildT (h := ?_) | refine AO.sBuildS (h := ?_))
    | (apply AO.kCv; first | refine AO.sBytes (h := ?_) | refine AO.sStr (h := ?_) | refine AO.sStrR (h := ?_))
    | (apply AO.kP; first | refine AO.sP (h := ?_) | refine AO.sPi (h := ?_))
    | apply AW.seq
    | (apply AW.kR; refine AW.sR (h := ?_))
    | apply AW.skip
    | apply AW.block
    | apply AW.out
    | (apply AW.kE; refine AW.sE (h := ?_))
    | apply AW.label
    | ((first | (apply AO.kG; first | refine AO.sgt (h1 := fun h => ?_) (h2 := fun h => ?_) | refine AO.sgf (h1 := fun h => ?_) (h2 := fun h => ?_) | refine AO.sgs (h := ?_))) <;> (try (first | exact Bool.noConfusion h | exact absurd h (by decide) | (simp at h; done) | (rw [h]; try simp only [nrm] at h; try rw [h]; try (exfalso; omega)) | skip))))
  all_goals first
    | exact AW.ret (hD rfl (Lx.b rfl))
    | (exfalso; simp_all; done)
    | trace_state
theorem gLawWrites (n : Nd) (hf : n.fits) : Good Try.prog 10 [.agg n.av] [] (.b true) [] := by
  have gG := gGreat n hf
  cases hg : great n with
  | true =>
    rw [hg] at gG
    refine Good.w tabOk mixed Try.func10 (N := 55) (by kernel_rfl) rfl (by (repeat (first | exact LE.nil | apply LE.cons)); done) (by (repeat (first | exact LE.nil | apply LE.cons)); done) fun D hD F => ?_
    repeat' (first
    | apply AO.nil
    | (apply AO.kCall 14; refine AO.sCall (hg := gG) (h := ?_))
    | (apply AO.kCall 33; refine AO.sCall (hg := gAwakeC) (h := ?_))
    | (apply AO.kBox; refine AO.sBox (h := ?_))
    | (apply AO.kAlloc; refine AO.sAlloc (h := ?_))
    | (apply AO.kStore; first | refine AO.sStore (h := ?_) | refine AO.sStB (h := ?_))
    | (apply AO.kCv; first | refine AO.sBytes (h := ?_) | refine AO.sStr (h := ?_) | refine AO.sStrR (h := ?_))
    | (apply AO.kP; first | refine AO.sP (h := ?_) | refine AO.sPi (h := ?_) | refine AO.sLoadB (h := ?_))
    | apply AW.seq
    | (apply AW.kR; refine AW.sR (h := ?_))
    | apply AW.skip
    | apply AW.block
    | apply AW.out
    | (apply AW.kE; refine AW.sE (h := ?_))
    | apply AW.label
    | ((first | (apply AO.kG; first | refine AO.sgt (h1 := fun h => ?_) (h2 := fun h => ?_) | refine AO.sgf (h1 := fun h => ?_) (h2 := fun h => ?_) | refine AO.sgs (h := ?_)) | (apply AW.kC; refine AW.sC (h1 := fun h => ?_) (h2 := fun h => ?_))) <;> (try (first | exact Bool.noConfusion h | exact absurd h (by decide) | (simp at h; done) | (rw [h]; try simp only [nrm] at h; try rw [h]; try (exfalso; omega)) | skip))))
    exact AW.ret (hD rfl (Lx.b rfl))
  | false =>
    rw [hg] at gG
    have hs := great_small hg
    have hx := great_strs hg
    have gP := gCPut n hs hx
    have gR := gRPutN n hs hx
    by_cases h0 : mayN n = 0
    · rw [wM, if_pos h0, h0] at gP gR
      have lw := wN_len h0
      have gT := gCGet (wN n) (by omega)
      obtain ⟨e1, e2⟩ := get_put h0
      rw [e1, e2] at gT
      have gS := gSame' n n hs hs
      have ll : ((BS (wN n)).length : Int) = (wN n).length := by rw [BS_len]
      refine Good.w tabOk mixed Try.func10 (N := 55) (by kernel_rfl) rfl (by (repeat (first | exact LE.nil | apply LE.cons)); done) (by (repeat (first | exact LE.nil | apply LE.cons)); done) fun D hD F => ?_
      repeat' (first
    | apply AO.nil
    | (apply AO.kCall 14; refine AO.sCall (hg := gG) (h := ?_))
    | (apply AO.kCall 34; refine AO.sCall (hg := gP) (h := ?_))
    | (apply AO.kCall 35; refine AO.sCall (hg := gR) (h := ?_))
    | (apply AO.kCall 36; refine AO.sCall (hg := gT) (h := ?_))
    | (apply AO.kCall 18; refine AO.sCall (hg := gS) (h := ?_))
    | (apply AO.kCall 33; refine AO.sCall (hg := gAwakeC) (h := ?_))
    | (apply AO.kBox; refine AO.sBox (h := ?_))
    | (apply AO.kAlloc; refine AO.sAlloc (h := ?_))
    | (apply AO.kStore; first | refine AO.sStore (h := ?_) | refine AO.sStB (h := ?_))
    | (apply AO.kCv; first | refine AO.sBytes (h := ?_) | refine AO.sStr (h := ?_) | refine AO.sStrR (h := ?_))
    | (apply AO.kP; first | refine AO.sP (h := ?_) | refine AO.sPi (h := ?_) | refine AO.sLoadB (h := ?_))
    | apply AW.seq
    | (apply AW.kR; refine AW.sR (h := ?_))
    | apply AW.skip
    | apply AW.block
    | apply AW.out
    | (apply AW.kE; refine AW.sE (h := ?_))
    | apply AW.label
    | ((first | (apply AO.kG; first | refine AO.sgt (h1 := fun h => ?_) (h2 := fun h => ?_) | refine AO.sgf (h1 := fun h => ?_) (h2 := fun h => ?_) | refine AO.sgs (h := ?_)) | (apply AW.kC; refine AW.sC (h1 := fun h => ?_) (h2 := fun h => ?_))) <;> (try (first | exact Bool.noConfusion h | exact absurd h (by decide) | (simp at h; done) | (rw [h]; try simp only [nrm] at h; try rw [h]; try (exfalso; omega)) | skip))))
      all_goals first
        | exact AW.ret (hD rfl (Lx.b rfl))
        | (exfalso; simp_all; done)
        | (exfalso; simp at *; omega)
        | trace_state
    · rw [wM, if_neg h0] at gP gR
      refine Good.w tabOk mixed Try.func10 (N := 55) (by kernel_rfl) rfl (by (repeat (first | exact LE.nil | apply LE.cons)); done) (by (repeat (first | exact LE.nil | apply LE.cons)); done) fun D hD F => ?_
      repeat' (first
    | apply AO.nil
    | (apply AO.kCall 14; refine AO.sCall (hg := gG) (h := ?_))
    | (apply AO.kCall 34; refine AO.sCall (hg := gP) (h := ?_))
    | (apply AO.kCall 35; refine AO.sCall (hg := gR) (h := ?_))
    | (apply AO.kCall 33; refine AO.sCall (hg := gAwakeC) (h := ?_))
    | (apply AO.kBox; refine AO.sBox (h := ?_))
    | (apply AO.kAlloc; refine AO.sAlloc (h := ?_))
    | (apply AO.kStore; first | refine AO.sStore (h := ?_) | refine AO.sStB (h := ?_))
    | (apply AO.kCv; first | refine AO.sBytes (h := ?_) | refine AO.sStr (h := ?_) | refine AO.sStrR (h := ?_))
    | (apply AO.kP; first | refine AO.sP (h := ?_) | refine AO.sPi (h := ?_) | refine AO.sLoadB (h := ?_))
    | apply AW.seq
    | (apply AW.kR; refine AW.sR (h := ?_))
    | apply AW.skip
    | apply AW.block
    | apply AW.out
    | (apply AW.kE; refine AW.sE (h := ?_))
    | apply AW.label
    | ((first | (apply AO.kG; first | refine AO.sgt (h1 := fun h => ?_) (h2 := fun h => ?_) | refine AO.sgf (h1 := fun h => ?_) (h2 := fun h => ?_) | refine AO.sgs (h := ?_)) | (apply AW.kC; refine AW.sC (h1 := fun h => ?_) (h2 := fun h => ?_))) <;> (try (first | exact Bool.noConfusion h | exact absurd h (by decide) | (simp at h; done) | (rw [h]; try simp only [nrm] at h; try rw [h]; try (exfalso; omega)) | skip))))
      all_goals first
        | exact AW.ret (hD rfl (Lx.b rfl))
        | (exfalso; exact h0 (eq0 (by assumption)))
        | (exfalso; simp_all; done)
        | trace_state
theorem gLawReadsC (b : L) : Good Try.prog 11 [.sh 1 (BS b)] [] (.b true) [] := by
  have ll : ((BS b).length : Int) = b.length := by rw [BS_len]
  by_cases hb : b.length ≤ 3000
  · have gC := gCGet b (by omega)
    have gR := gRGetN b (by omega)
    have hs := getV_small b
    have gS := gSame' (getV b) (getV b) hs hs
    by_cases h0 : getE b = 0
    · obtain ⟨m0, w0⟩ := get_writ h0
      have hx := may_strs m0
      have gP := gCPut _ hs hx
      have gM := gMay' _ hs
      rw [wM, if_pos m0, m0, w0] at gP
      rw [m0] at gM
      rw [h0] at gC gR
      generalize getV b = n at *
      refine Good.w tabOk mixed Try.func11 (N := 57) (by kernel_rfl) rfl (by (repeat (first | exact LE.nil | apply LE.cons)); done) (by (repeat (first | exact LE.nil | apply LE.cons)); done) fun D hD F => ?_
      repeat' (first
    | apply AO.nil
    | (apply AO.kCall 36; refine AO.sCall (hg := gC) (h := ?_))
    | (apply AO.kCall 37; refine AO.sCall (hg := gR) (h := ?_))
    | (apply AO.kCall 18; refine AO.sCall (hg := gS) (h := ?_))
    | (apply AO.kCall 34; refine AO.sCall (hg := gP) (h := ?_))
    | (apply AO.kCall 21; refine AO.sCall (hg := gM) (h := ?_))
    | (apply AO.kCall 33; refine AO.sCall (hg := gAwakeC) (h := ?_))
    | (apply AO.kAlloc; refine AO.sAlloc (h := ?_))
    | (apply AO.kStore; first | refine AO.sStore (h := ?_) | refine AO.sStB (h := ?_))
    | (apply AO.kCv; first | refine AO.sBytes (h := ?_) | refine AO.sStr (h := ?_) | refine AO.sStrR (h := ?_))
    | (apply AO.kP; first | refine AO.sP (h := ?_) | refine AO.sPi (h := ?_) | refine AO.sLoadB (h := ?_))
    | apply AW.seq
    | (apply AW.kR; refine AW.sR (h := ?_))
    | apply AW.skip
    | apply AW.block
    | apply AW.out
    | (apply AW.kE; refine AW.sE (h := ?_))
    | apply AW.label
    | ((first | (apply AO.kG; first | refine AO.sgt (h1 := fun h => ?_) (h2 := fun h => ?_) | refine AO.sgf (h1 := fun h => ?_) (h2 := fun h => ?_) | refine AO.sgs (h := ?_)) | (apply AW.kC; refine AW.sC (h1 := fun h => ?_) (h2 := fun h => ?_))) <;> (try (first | exact Bool.noConfusion h | exact absurd h (by decide) | (simp at h; done) | (rw [h]; try simp only [nrm] at h; try rw [h]; try (exfalso; omega)) | skip))))
      all_goals first
        | exact AW.ret (hD rfl (Lx.b rfl))
        | (exfalso; omega)
        | (exfalso; simp_all; done)
        | (exfalso; simp at *; omega)
        | trace_state
    · generalize getV b = n at *
      generalize getE b = e at *
      refine Good.w tabOk mixed Try.func11 (N := 57) (by kernel_rfl) rfl (by (repeat (first | exact LE.nil | apply LE.cons)); done) (by (repeat (first | exact LE.nil | apply LE.cons)); done) fun D hD F => ?_
      repeat' (first
    | apply AO.nil
    | (apply AO.kCall 36; refine AO.sCall (hg := gC) (h := ?_))
    | (apply AO.kCall 37; refine AO.sCall (hg := gR) (h := ?_))
    | (apply AO.kCall 18; refine AO.sCall (hg := gS) (h := ?_))
    | (apply AO.kCall 33; refine AO.sCall (hg := gAwakeC) (h := ?_))
    | (apply AO.kAlloc; refine AO.sAlloc (h := ?_))
    | (apply AO.kStore; first | refine AO.sStore (h := ?_) | refine AO.sStB (h := ?_))
    | (apply AO.kCv; first | refine AO.sBytes (h := ?_) | refine AO.sStr (h := ?_) | refine AO.sStrR (h := ?_))
    | (apply AO.kP; first | refine AO.sP (h := ?_) | refine AO.sPi (h := ?_) | refine AO.sLoadB (h := ?_))
    | apply AW.seq
    | (apply AW.kR; refine AW.sR (h := ?_))
    | apply AW.skip
    | apply AW.block
    | apply AW.out
    | (apply AW.kE; refine AW.sE (h := ?_))
    | apply AW.label
    | ((first | (apply AO.kG; first | refine AO.sgt (h1 := fun h => ?_) (h2 := fun h => ?_) | refine AO.sgf (h1 := fun h => ?_) (h2 := fun h => ?_) | refine AO.sgs (h := ?_)) | (apply AW.kC; refine AW.sC (h1 := fun h => ?_) (h2 := fun h => ?_))) <;> (try (first | exact Bool.noConfusion h | exact absurd h (by decide) | (simp at h; done) | (rw [h]; try simp only [nrm] at h; try rw [h]; try (exfalso; omega)) | skip))))
      all_goals first
        | exact AW.ret (hD rfl (Lx.b rfl))
        | (exfalso; omega)
        | (exfalso; simp_all; done)
        | trace_state
  · refine Good.w tabOk mixed Try.func11 (N := 57) (by kernel_rfl) rfl (by (repeat (first | exact LE.nil | apply LE.cons)); done) (by (repeat (first | exact LE.nil | apply LE.cons)); done) fun D hD F => ?_
    repeat' (first
    | apply AO.nil
    | (apply AO.kCall 33; refine AO.sCall (hg := gAwakeC) (h := ?_))
    | (apply AO.kAlloc; refine AO.sAlloc (h := ?_))
    | (apply AO.kStore; first | refine AO.sStore (h := ?_) | refine AO.sStB (h := ?_))
    | (apply AO.kCv; first | refine AO.sBytes (h := ?_) | refine AO.sStr (h := ?_) | refine AO.sStrR (h := ?_))
    | (apply AO.kP; first | refine AO.sP (h := ?_) | refine AO.sPi (h := ?_) | refine AO.sLoadB (h := ?_))
    | apply AW.seq
    | (apply AW.kR; refine AW.sR (h := ?_))
    | apply AW.skip
    | apply AW.block
    | apply AW.out
    | (apply AW.kE; refine AW.sE (h := ?_))
    | apply AW.label
    | ((first | (apply AO.kG; first | refine AO.sgt (h1 := fun h => ?_) (h2 := fun h => ?_) | refine AO.sgf (h1 := fun h => ?_) (h2 := fun h => ?_) | refine AO.sgs (h := ?_)) | (apply AW.kC; refine AW.sC (h1 := fun h => ?_) (h2 := fun h => ?_))) <;> (try (first | exact Bool.noConfusion h | exact absurd h (by decide) | (simp at h; done) | (rw [h]; try simp only [nrm] at h; try rw [h]; try (exfalso; omega)) | skip))))
    all_goals first
      | exact AW.ret (hD rfl (Lx.b rfl))
      | (exfalso; omega)
theorem gLawBegins (n : Nd) (hf : n.fits) (k : Int) : Good Try.prog 12 [.agg n.av, .i .i64 k] [] (.b true) [] := by
  have gG := gGreat n hf
  cases hg : great n with
  | true =>
    rw [hg] at gG
    refine Good.w tabOk mixed Try.func12 (N := 42) (by kernel_rfl) rfl (by (repeat (first | exact LE.nil | apply LE.cons)); done) (by (repeat (first | exact LE.nil | apply LE.cons)); done) fun D hD F => ?_
    repeat' (first
    | apply AO.nil
    | (apply AO.kCall 14; refine AO.sCall (hg := gG) (h := ?_))
    | (apply AO.kCall 33; refine AO.sCall (hg := gAwakeC) (h := ?_))
    | (apply AO.kSl; first | refine AO.sSl (h := ?_) | refine AO.sSlArr (h := ?_) | refine AO.sP (h := ?_))
    | (apply AO.kBox; refine AO.sBox (h := ?_))
    | (apply AO.kAlloc; refine AO.sAlloc (h := ?_))
    | (apply AO.kStore; first | refine AO.sStore (h := ?_) | refine AO.sStB (h := ?_))
    | (apply AO.kP; first | refine AO.sP (h := ?_) | refine AO.sPi (h := ?_) | refine AO.sLoadB (h := ?_))
    | apply AW.seq
    | (apply AW.kR; refine AW.sR (h := ?_))
    | apply AW.skip
    | apply AW.block
    | apply AW.out
    | (apply AW.kE; refine AW.sE (h := ?_))
    | apply AW.label
    | ((first | (apply AO.kG; first | refine AO.sgt (h1 := fun h => ?_) (h2 := fun h => ?_) | refine AO.sgf (h1 := fun h => ?_) (h2 := fun h => ?_) | refine AO.sgs (h := ?_)) | (apply AW.kC; refine AW.sC (h1 := fun h => ?_) (h2 := fun h => ?_))) <;> (try (first | exact Bool.noConfusion h | exact absurd h (by decide) | (simp at h; done) | (rw [h]; try simp only [nrm] at h; try rw [h]; try (exfalso; omega)) | skip))))
    exact AW.ret (hD rfl (Lx.b rfl))
  | false =>
    rw [hg] at gG
    have hs := great_small hg
    have hx := great_strs hg
    have gP := gCPut n hs hx
    by_cases h0 : mayN n = 0
    · rw [wM, if_pos h0, h0] at gP
      have lw := wN_len h0
      have ll : ((BS (wN n)).length : Int) = (wN n).length := by rw [BS_len]
      by_cases hk : 0 ≤ k ∧ k < (wN n).length
      · obtain ⟨q, rfl⟩ : ∃ q : Nat, k = q := ⟨k.toNat, by omega⟩
        have gT := gCGet ((wN n).take q) (by rw [List.length_take]; omega)
        rw [get_begin h0 (by omega)] at gT
        refine Good.w tabOk mixed Try.func12 (N := 42) (by kernel_rfl) rfl (by (repeat (first | exact LE.nil | apply LE.cons)); done) (by (repeat (first | exact LE.nil | apply LE.cons)); done) fun D hD F => ?_
        repeat' (first
    | apply AO.nil
    | (apply AO.kCall 14; refine AO.sCall (hg := gG) (h := ?_))
    | (apply AO.kCall 34; refine AO.sCall (hg := gP) (h := ?_))
    | (apply AO.kCall 36; refine AO.sCall (hg := gT) (h := ?_))
    | (apply AO.kCall 33; refine AO.sCall (hg := gAwakeC) (h := ?_))
    | (apply AO.kSl; first | refine AO.sSl (h := ?_) | refine AO.sSlArr (h := ?_) | refine AO.sP (h := ?_))
    | (apply AO.kBox; refine AO.sBox (h := ?_))
    | (apply AO.kAlloc; refine AO.sAlloc (h := ?_))
    | (apply AO.kStore; first | refine AO.sStore (h := ?_) | refine AO.sStB (h := ?_))
    | (apply AO.kP; first | refine AO.sP (h := ?_) | refine AO.sPi (h := ?_) | refine AO.sLoadB (h := ?_))
    | apply AW.seq
    | (apply AW.kR; refine AW.sR (h := ?_))
    | apply AW.skip
    | apply AW.block
    | apply AW.out
    | (apply AW.kE; refine AW.sE (h := ?_))
    | apply AW.label
    | ((first | (apply AO.kG; first | refine AO.sgt (h1 := fun h => ?_) (h2 := fun h => ?_) | refine AO.sgf (h1 := fun h => ?_) (h2 := fun h => ?_) | refine AO.sgs (h := ?_)) | (apply AW.kC; refine AW.sC (h1 := fun h => ?_) (h2 := fun h => ?_))) <;> (try (first | exact Bool.noConfusion h | exact absurd h (by decide) | (simp at h; done) | (rw [h]; try simp only [nrm] at h; try rw [h]; try (exfalso; omega)) | skip))))
        all_goals first
          | exact AW.ret (hD rfl (Lx.b rfl))
          | (exfalso; omega)
          | (exfalso; simp_all; done)
          | trace_state
      · refine Good.w tabOk mixed Try.func12 (N := 42) (by kernel_rfl) rfl (by (repeat (first | exact LE.nil | apply LE.cons)); done) (by (repeat (first | exact LE.nil | apply LE.cons)); done) fun D hD F => ?_
        repeat' (first
    | apply AO.nil
    | (apply AO.kCall 14; refine AO.sCall (hg := gG) (h := ?_))
    | (apply AO.kCall 34; refine AO.sCall (hg := gP) (h := ?_))
    | (apply AO.kCall 33; refine AO.sCall (hg := gAwakeC) (h := ?_))
    | (apply AO.kSl; first | refine AO.sSl (h := ?_) | refine AO.sSlArr (h := ?_) | refine AO.sP (h := ?_))
    | (apply AO.kBox; refine AO.sBox (h := ?_))
    | (apply AO.kAlloc; refine AO.sAlloc (h := ?_))
    | (apply AO.kStore; first | refine AO.sStore (h := ?_) | refine AO.sStB (h := ?_))
    | (apply AO.kP; first | refine AO.sP (h := ?_) | refine AO.sPi (h := ?_) | refine AO.sLoadB (h := ?_))
    | apply AW.seq
    | (apply AW.kR; refine AW.sR (h := ?_))
    | apply AW.skip
    | apply AW.block
    | apply AW.out
    | (apply AW.kE; refine AW.sE (h := ?_))
    | apply AW.label
    | ((first | (apply AO.kG; first | refine AO.sgt (h1 := fun h => ?_) (h2 := fun h => ?_) | refine AO.sgf (h1 := fun h => ?_) (h2 := fun h => ?_) | refine AO.sgs (h := ?_)) | (apply AW.kC; refine AW.sC (h1 := fun h => ?_) (h2 := fun h => ?_))) <;> (try (first | exact Bool.noConfusion h | exact absurd h (by decide) | (simp at h; done) | (rw [h]; try simp only [nrm] at h; try rw [h]; try (exfalso; omega)) | skip))))
        all_goals first
          | exact AW.ret (hD rfl (Lx.b rfl))
          | (exfalso; omega)
          | (exfalso; simp_all; done)
          | (exfalso; simp at *; omega)
          | trace_state
    · refine Good.w tabOk mixed Try.func12 (N := 42) (by kernel_rfl) rfl (by (repeat (first | exact LE.nil | apply LE.cons)); done) (by (repeat (first | exact LE.nil | apply LE.cons)); done) fun D hD F => ?_
      repeat' (first
    | apply AO.nil
    | (apply AO.kCall 14; refine AO.sCall (hg := gG) (h := ?_))
    | (apply AO.kCall 34; refine AO.sCall (hg := gP) (h := ?_))
    | (apply AO.kCall 33; refine AO.sCall (hg := gAwakeC) (h := ?_))
    | (apply AO.kSl; first | refine AO.sSl (h := ?_) | refine AO.sSlArr (h := ?_) | refine AO.sP (h := ?_))
    | (apply AO.kBox; refine AO.sBox (h := ?_))
    | (apply AO.kAlloc; refine AO.sAlloc (h := ?_))
    | (apply AO.kStore; first | refine AO.sStore (h := ?_) | refine AO.sStB (h := ?_))
    | (apply AO.kP; first | refine AO.sP (h := ?_) | refine AO.sPi (h := ?_) | refine AO.sLoadB (h := ?_))
    | apply AW.seq
    | (apply AW.kR; refine AW.sR (h := ?_))
    | apply AW.skip
    | apply AW.block
    | apply AW.out
    | (apply AW.kE; refine AW.sE (h := ?_))
    | apply AW.label
    | ((first | (apply AO.kG; first | refine AO.sgt (h1 := fun h => ?_) (h2 := fun h => ?_) | refine AO.sgf (h1 := fun h => ?_) (h2 := fun h => ?_) | refine AO.sgs (h := ?_)) | (apply AW.kC; refine AW.sC (h1 := fun h => ?_) (h2 := fun h => ?_))) <;> (try (first | exact Bool.noConfusion h | exact absurd h (by decide) | (simp at h; done) | (rw [h]; try simp only [nrm] at h; try rw [h]; try (exfalso; omega)) | skip))))
      all_goals first
        | exact AW.ret (hD rfl (Lx.b rfl))
        | (exfalso; exact h0 (eq0 (by assumption)))
        | (exfalso; simp_all; done)
        | trace_state
end Go.Proofs.Ytmfonbehcfjjgaa.Mv
