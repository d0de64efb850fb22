/- Nodes: the kid in whose range a key is. Under no condition. -/
import Derived.Test.YtocppeifkjdeiaaNodeS
namespace Go.Proofs.Ytocppeifkjdeiaa.Mv
open Go Go.Proofs
set_option linter.unusedSimpArgs false
set_option linter.unusedVariables false
set_option maxRecDepth 10000
set_option maxHeartbeats 4000000
attribute [local irreducible] AW AO AR

theorem rise_dropA {ks : List L} (h : rise ks = true) : ∀ q, rise (ks.drop q) = true
  | 0 => by simpa using h
  | q + 1 => by
    by_cases hq : q + 1 < ks.length
    · have := rise_dropA h q
      rw [rise_next hq, Bool.and_eq_true] at this
      exact this.2
    · by_cases hq' : q + 1 = ks.length
      · rw [List.drop_of_length_le (by omega)]; rfl
      · rw [List.drop_of_length_le (by omega)]; rfl
theorem rise_one {ks : List L} (h : rise ks = true) {q : Nat} (hq : q + 1 < ks.length) : lt (ks.getD q default) (ks.getD (q + 1) default) = true := by
  have := rise_dropA h q
  rw [rise_next hq, Bool.and_eq_true] at this
  exact this.1
theorem rise_lt {ks : List L} (h : rise ks = true) {i : Nat} : ∀ j, i < j → j < ks.length → lt (ks.getD i default) (ks.getD j default) = true
  | 0, hij, _ => by omega
  | j + 1, hij, hj => by
    by_cases e : i = j
    · subst e; exact rise_one h hj
    · exact lt_trans (rise_lt h j (by omega) (by omega)) (rise_one h hj)
/-- What is found where it holds from some place on. -/
theorem bs_spec' {f : Nat → Bool} (n : Nat) (hm : ∀ a b, a ≤ b → b < n → f a = true → f b = true) : bs f 0 n ≤ n ∧ (∀ i, i < bs f 0 n → f i = false) ∧ (bs f 0 n < n → f (bs f 0 n) = true) := by
  have key := bs_ind (f := f) (P := fun i j r => (∀ a, a < i → f a = false) → i ≤ j → j ≤ n → r ≤ j ∧ (∀ a, a < r → f a = false) ∧ (r < j → f r = true))
    (fun i j h hlo hij _ => ⟨by omega, hlo, fun h' => by omega⟩)
    (fun i j r hij hf h hlo _ hn => by
      obtain ⟨q1, q2, q3⟩ := h hlo (by omega) (by omega)
      refine ⟨by omega, q2, fun hr => ?_⟩
      by_cases e : r < (i + j) / 2
      · exact q3 e
      · have : r = (i + j) / 2 := by omega
        rw [this]; exact hf)
    (fun i j r hij hf h hlo _ hn => by
      obtain ⟨q1, q2, q3⟩ := h (fun a ha => by
        cases hfa : f a with
        | false => rfl
        | true => rw [hm a ((i + j) / 2) (by omega) (by omega) hfa] at hf; cases hf) (by omega) hn
      exact ⟨q1, q2, q3⟩) n 0 n (by omega)
  exact key (fun a ha => by omega) (by omega) (by omega)
theorem kid_mono {n : Nd} {k : L} (hr : rise n.pivots = true) : ∀ a b, a ≤ b → b < n.pivots.length → kidF n k a = true → kidF n k b = true := fun a b h1 h2 h3 => by
  unfold kidF at *
  by_cases e : a = b
  · subst e; exact h3
  · exact lt_trans h3 (rise_lt hr b (by omega) h2)
/-- Where a node that may be with kids leads. -/
theorem may_inner {n : Nd} (h : mayN n = 0) (hl : n.leaf = false) : innerOk n = true ∧ n.kids.length ≤ 8 ∧ n.buf.length ≤ 16 := by
  unfold mayN at h
  split at h
  · cases h
  · rw [hl] at h
    simp only [Bool.false_eq_true, if_false] at h
    split at h
    · rename_i h1 h2; exact ⟨h2, by omega, by omega⟩
    · cases h
theorem may_leaf {n : Nd} (h : mayN n = 0) (hl : n.leaf = true) : leafOk n = true := by
  unfold mayN at h
  split at h
  · cases h
  · split at h
    · assumption
    · cases h
theorem inner_len {n : Nd} (h : innerOk n = true) : n.pivots.length + 1 = n.kids.length ∧ rise n.pivots = true ∧ n.pairs = [] := by
  simp only [innerOk, Bool.and_eq_true, decide_eq_true_eq, List.isEmpty_iff] at h
  exact ⟨h.1.1.1.2, rise_tail h.1.2.1, h.1.1.1.1.1⟩
theorem leaf_len {n : Nd} (h : leafOk n = true) : n.pivots = [] ∧ n.kids = [] ∧ n.buf = [] := by
  simp only [leafOk, Bool.and_eq_true, List.isEmpty_iff] at h
  exact ⟨h.1.1.1.1, h.1.1.1.2, h.1.1.2⟩
theorem kid_none {n : Nd} {k : L} (h : n.kids = []) : kidN n k = -1 := by
  have : n.kids.length = 0 := by rw [h]; rfl
  unfold kidN
  split <;> omega
theorem kid_at {n : Nd} {k : L} (hl : n.pivots.length + 1 = n.kids.length) (hr : rise n.pivots = true) : kidN n k = ((bs (kidF n k) 0 n.pivots.length : Nat) : Int) ∧ bs (kidF n k) 0 n.pivots.length ≤ n.pivots.length := by
  have h := (bs_spec' _ (kid_mono (n := n) (k := k) hr)).1
  unfold kidN
  split
  · exact ⟨by omega, h⟩
  · exact ⟨rfl, h⟩
theorem kid_in {n : Nd} {k : L} (hl : n.pivots.length + 1 = n.kids.length) (hr : rise n.pivots = true) {j : Nat} (hj : j < n.kids.length) : inR (rgN n j).1 (rgN n j).2.1 (rgN n j).2.2 k = ((j : Int) == kidN n k) := by
  obtain ⟨e, hb⟩ := kid_at (k := k) hl hr
  obtain ⟨h1, h2, h3⟩ := bs_spec' _ (kid_mono (n := n) (k := k) hr)
  rw [e]
  generalize bs (kidF n k) 0 n.pivots.length = b at *
  have e1 : rgN n j = ((if 0 < (j : Int) ∧ (j : Int) ≤ n.pivots.length then n.pivots.getD ((j : Int) - 1).toNat default else []), (if (j : Int) < n.pivots.length then n.pivots.getD (j : Int).toNat default else []), decide ((j : Int) < n.pivots.length)) := by
    unfold rgN; rw [if_neg (by omega)]
  rw [e1]
  simp only [inR]
  by_cases c : j = b
  · subst c
    have g1 : lt k (if 0 < (j : Int) ∧ (j : Int) ≤ n.pivots.length then n.pivots.getD ((j : Int) - 1).toNat default else []) = false := by
      split
      · have := h2 (j - 1) (by omega)
        unfold kidF at this
        rw [show ((j : Int) - 1).toNat = j - 1 by omega]; exact this
      · exact lt_nil _
    rw [g1]
    by_cases d : (j : Int) < n.pivots.length
    · have g2 := h3 (by omega)
      unfold kidF at g2
      rw [if_pos d, show (j : Int).toNat = j by omega, g2, decide_eq_true d]; simp
    · rw [decide_eq_false d]; simp
  · have e2 : ((j : Int) == (b : Int)) = false := by rw [beq_eq_false_iff_ne]; omega
    rw [e2]
    by_cases d : j < b
    · have g := h2 j d
      unfold kidF at g
      rw [if_pos (show (j : Int) < n.pivots.length by omega), show (j : Int).toNat = j by omega, g, decide_eq_true (show (j : Int) < n.pivots.length by omega)]; simp
    · have g := kid_mono (k := k) hr b (j - 1) (by omega) (by omega) (h3 (by omega))
      unfold kidF at g
      rw [if_pos (by omega), show ((j : Int) - 1).toNat = j - 1 by omega, g]; rfl

/-! ### the statement of ranges -/
end Go.Proofs.Ytocppeifkjdeiaa.Mv
