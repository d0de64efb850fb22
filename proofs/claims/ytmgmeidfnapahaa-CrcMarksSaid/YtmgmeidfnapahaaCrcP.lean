/- Sums: the plain theory of the row that is shifted. Under no condition. -/
import Derived.Test.YtmgmeidfnapahaaXtA
namespace Go.Proofs.Ytmgmeidfnapahaa.Mv
open Go
set_option linter.unusedSimpArgs false
set_option linter.unusedVariables false

abbrev W32 := BitVec 32
def poly : W32 := 0x82f63b78#32
def step1 (r : W32) : W32 := if r.getLsbD 0 = true then (r >>> 1) ^^^ poly else r >>> 1
def iter : Nat → W32 → W32
  | 0, r => r
  | n + 1, r => iter n (step1 r)
theorem xor4 (a b c d : W32) : (a ^^^ b) ^^^ (c ^^^ d) = (a ^^^ c) ^^^ (b ^^^ d) := by
  rw [BitVec.xor_assoc, BitVec.xor_assoc]
  congr 1
  rw [← BitVec.xor_assoc, ← BitVec.xor_assoc, BitVec.xor_comm b c]
theorem step1_xor (a b : W32) : step1 (a ^^^ b) = step1 a ^^^ step1 b := by
  unfold step1
  rw [BitVec.getLsbD_xor, BitVec.ushiftRight_xor_distrib]
  cases a.getLsbD 0 <;> cases b.getLsbD 0
  · rfl
  · simp [BitVec.xor_assoc]
  · simp only [Bool.xor_false, if_true, Bool.false_eq_true, if_false, BitVec.xor_assoc]
    congr 1
    exact BitVec.xor_comm _ _
  · simp only [Bool.xor_self, Bool.false_eq_true, if_false, if_true]
    rw [xor4, BitVec.xor_self, BitVec.xor_zero]
theorem step1_even {b : W32} (h : b.getLsbD 0 = false) : step1 b = b >>> 1 := by rw [step1, h, if_neg (by decide)]
theorem iter_xor (n : Nat) (a b : W32) : iter n (a ^^^ b) = iter n a ^^^ iter n b := by
  induction n generalizing a b with
  | zero => rfl
  | succ n ih => simp only [iter, step1_xor, ih]
theorem iter_add (m n : Nat) (r : W32) : iter (m + n) r = iter n (iter m r) := by
  induction m generalizing r with
  | zero => simp [iter]
  | succ m ih => rw [Nat.succ_add]; simp only [iter, ih]
/-- Bit by bit, each one put on when its turn comes. -/
def slow : Nat → W32 → W32 → W32
  | 0, r, _ => r
  | n + 1, r, c => slow n (step1 (r ^^^ (c &&& 1#32))) (c >>> 1)
theorem low_bit (c : W32) : (c &&& 1#32) ^^^ ((c >>> 1) <<< 1) = c := by
  apply BitVec.eq_of_getLsbD_eq
  intro i hi
  simp only [BitVec.getLsbD_xor, BitVec.getLsbD_and, BitVec.getLsbD_shiftLeft, BitVec.getLsbD_ushiftRight]
  cases i with
  | zero => simp
  | succ i => simp [hi, Nat.add_comm]
theorem shl_even (c : W32) : (c <<< 1).getLsbD 0 = false := by simp
theorem shl_shr (c : W32) : (((c >>> 1) <<< 1) >>> 1) = c >>> 1 := by
  apply BitVec.eq_of_getLsbD_eq
  intro i hi
  simp only [BitVec.getLsbD_shiftLeft, BitVec.getLsbD_ushiftRight]
  by_cases h : 1 + i < 32
  · simp [h, Nat.add_comm]
    exact BitVec.lt_of_getLsbD
  · have h2 : c.getLsbD (1 + i) = false := BitVec.getLsbD_of_ge _ _ (by omega)
    simp [h, h2]
theorem slow_iter (n : Nat) (r c : W32) : iter n (r ^^^ c) = slow n r c ^^^ (c >>> n) := by
  induction n generalizing r c with
  | zero => simp [iter, slow]
  | succ n ih =>
    have h1 : r ^^^ c = (r ^^^ (c &&& 1#32)) ^^^ ((c >>> 1) <<< 1) := by
      rw [BitVec.xor_assoc, low_bit]
    have h2 : step1 (r ^^^ c) = step1 (r ^^^ (c &&& 1#32)) ^^^ (c >>> 1) := by
      rw [h1, step1_xor, step1_even (shl_even _), shl_shr]
    rw [iter, h2, ih, slow, ← BitVec.shiftRight_add, Nat.add_comm 1 n]
theorem slow_low {n : Nat} {r c c' : W32} (h : ∀ i, i < n → c.getLsbD i = c'.getLsbD i) : slow n r c = slow n r c' := by
  induction n generalizing r c c' with
  | zero => rfl
  | succ n ih =>
    have h1 : c &&& 1#32 = c' &&& 1#32 := by
      apply BitVec.eq_of_getLsbD_eq
      intro i hi
      cases i with
      | zero => simp only [BitVec.getLsbD_and, h 0 (by omega)]
      | succ i => simp
    simp only [slow, h1]
    exact ih fun i hi => by
      simp only [BitVec.getLsbD_ushiftRight]
      exact h (1 + i) (by omega)
def byW (c : UInt8) : W32 := BitVec.ofNat 32 c.toNat
/-- A byte put on a row. -/
def carryS (r : W32) (c : UInt8) : W32 := iter 8 (r ^^^ byW c)
def loB (s : W32) : UInt8 := UInt8.ofNat s.toNat
theorem byW_bit (c : UInt8) (i : Nat) : (byW c).getLsbD i = c.toNat.testBit i := by
  have := c.toNat_lt
  simp only [byW, BitVec.getLsbD_ofNat]
  by_cases h : i < 32
  · simp [h]
  · have : c.toNat < 2 ^ i := Nat.lt_of_lt_of_le this (Nat.le_trans (by decide) (Nat.pow_le_pow_right (by decide) (by omega : 8 ≤ i)))
    simp [h, Nat.testBit_lt_two_pow this]
theorem byW_hi (c : UInt8) : byW c >>> 8 = 0#32 := by
  apply BitVec.eq_of_getLsbD_eq
  intro i hi
  rw [BitVec.getLsbD_ushiftRight, byW_bit]
  have : c.toNat < 2 ^ (8 + i) := Nat.lt_of_lt_of_le c.toNat_lt (Nat.pow_le_pow_right (by decide) (by omega : 8 ≤ 8 + i))
  simp [Nat.testBit_lt_two_pow this]
theorem carry_slow (r : W32) (c : UInt8) : carryS r c = slow 8 r (byW c) := by
  rw [carryS, slow_iter, byW_hi, BitVec.xor_zero]
theorem loB_bit (s : W32) (i : Nat) (h : i < 8) : (byW (loB s)).getLsbD i = s.getLsbD i := by
  rw [byW_bit, loB, UInt8.toNat_ofNat', Nat.testBit_mod_two_pow, BitVec.getLsbD]
  simp [h]
/-- A row with the first of four bytes. -/
theorem carry_next (r s : W32) : iter 8 (r ^^^ s) = carryS r (loB s) ^^^ (s >>> 8) := by
  rw [slow_iter, carry_slow, slow_low fun i hi => (loB_bit s i hi).symm]
def bytesS (s : W32) : List UInt8 := [loB s, loB (s >>> 8), loB (s >>> 16), loB (s >>> 24)]
def foldS (r : W32) (l : List UInt8) : W32 := l.foldl carryS r
theorem fold_app (r : W32) (a b : List UInt8) : foldS r (a ++ b) = foldS (foldS r a) b := by simp [foldS]
theorem shr32 (s : W32) : s >>> 32 = 0#32 := by
  apply BitVec.eq_of_getLsbD_eq
  intro i hi
  rw [BitVec.getLsbD_ushiftRight]
  simp [BitVec.getLsbD_of_ge]
theorem fold_bytes (r s : W32) : foldS r (bytesS s) = iter 32 (r ^^^ s) := by
  have e : ∀ x, iter 32 x = iter 8 (iter 8 (iter 8 (iter 8 x))) := fun x => by
    rw [show (32 : Nat) = 8 + (8 + (8 + 8)) from rfl, iter_add, iter_add, iter_add]
  have h2 : s >>> 8 >>> 8 = s >>> 16 := (BitVec.shiftRight_add s 8 8).symm
  have h3 : s >>> 16 >>> 8 = s >>> 24 := (BitVec.shiftRight_add s 16 8).symm
  have h4 : s >>> 24 >>> 8 = 0#32 := by rw [← BitVec.shiftRight_add]; exact shr32 s
  rw [e, carry_next, carry_next, h2, carry_next, h3, carry_next, h4, BitVec.xor_zero]
  rfl
/-- The sum of bytes, and of others behind them. -/
def moreS (sum : W32) (l : List UInt8) : W32 := ~~~ foldS (~~~ sum) l
def sumS (l : List UInt8) : W32 := moreS 0#32 l
theorem more_app (s : W32) (a b : List UInt8) : moreS (moreS s a) b = moreS s (a ++ b) := by
  simp [moreS, fold_app]
def markS (l : List UInt8) : List UInt8 := l ++ bytesS (sumS l)
theorem sum_mark (l : List UInt8) : sumS (markS l) = sumS [0, 0, 0, 0] := by
  have h : ([0, 0, 0, 0] : List UInt8) = bytesS 0#32 := by decide
  rw [h]
  simp only [sumS, markS, moreS, fold_app, fold_bytes]
  congr 2
  have hx : ∀ x : W32, x ^^^ ~~~x = ~~~0#32 ^^^ 0#32 := fun x => by
    apply BitVec.eq_of_getLsbD_eq
    intro i hi
    simp only [BitVec.getLsbD_xor, BitVec.getLsbD_not, BitVec.getLsbD_zero, hi]
    cases x.getLsbD i <;> rfl
  exact hx _
theorem bytes_inj {a b : W32} (h : bytesS a = bytesS b) : a = b := by
  simp only [bytesS, List.cons.injEq, and_true] at h
  obtain ⟨h0, h1, h2, h3⟩ := h
  apply BitVec.eq_of_getLsbD_eq
  intro i hi
  have key : ∀ (k : Nat), loB (a >>> k) = loB (b >>> k) → ∀ j, j < 8 → a.getLsbD (k + j) = b.getLsbD (k + j) := fun k hk j hj => by
    have e1 := loB_bit (a >>> k) j hj
    have e2 := loB_bit (b >>> k) j hj
    rw [hk] at e1
    rw [← BitVec.getLsbD_ushiftRight, ← BitVec.getLsbD_ushiftRight, ← e1, ← e2]
  rcases (by omega : i < 8 ∨ (8 ≤ i ∧ i < 16) ∨ (16 ≤ i ∧ i < 24) ∨ 24 ≤ i) with h | h | h | h
  · have := key 0 (by simpa using h0) i h
    simpa using this
  · have := key 8 h1 (i - 8) (by omega)
    rwa [Nat.add_sub_cancel' h.1] at this
  · have := key 16 h2 (i - 16) (by omega)
    rwa [Nat.add_sub_cancel' h.1] at this
  · have := key 24 h3 (i - 24) (by omega)
    rwa [Nat.add_sub_cancel' h] at this
/-! ### nothing is lost -/
theorem step1_zero {x : W32} (h : step1 x = 0#32) : x = 0#32 := by
  unfold step1 at h
  split at h
  · exfalso
    have := congrArg (BitVec.getLsbD · 31) h
    simp [BitVec.getLsbD_ushiftRight, poly] at this
  · rename_i h0
    apply BitVec.eq_of_getLsbD_eq
    intro i hi
    cases i with
    | zero => simpa using h0
    | succ i =>
      have := congrArg (BitVec.getLsbD · i) h
      simp only [BitVec.getLsbD_ushiftRight] at this
      rw [Nat.add_comm]; simpa using this
theorem xor_eq_zero' {a b : W32} (h : a ^^^ b = 0#32) : a = b := by
  have : a ^^^ b ^^^ b = b := by rw [h, BitVec.zero_xor]
  rwa [BitVec.xor_assoc, BitVec.xor_self, BitVec.xor_zero] at this
theorem iter_zero {n : Nat} {x : W32} (h : iter n x = 0#32) : x = 0#32 := by
  induction n generalizing x with
  | zero => exact h
  | succ n ih => exact step1_zero (ih h)
theorem iter_inj {n : Nat} {a b : W32} (h : iter n a = iter n b) : a = b := by
  apply xor_eq_zero'
  apply iter_zero (n := n)
  rw [iter_xor, h, BitVec.xor_self]
theorem xor_left {r a b : W32} (h : r ^^^ a = r ^^^ b) : a = b := by
  have := congrArg (r ^^^ ·) h
  simpa [← BitVec.xor_assoc] using this
theorem xor_right {r a b : W32} (h : a ^^^ r = b ^^^ r) : a = b := by
  have := congrArg (· ^^^ r) h
  simpa [BitVec.xor_assoc] using this
theorem carry_inj {a b : W32} {c : UInt8} (h : carryS a c = carryS b c) : a = b := xor_right (iter_inj h)
theorem fold_inj {a b : W32} {l : List UInt8} (h : foldS a l = foldS b l) : a = b := by
  induction l generalizing a b with
  | nil => exact h
  | cons c l ih => exact carry_inj (ih h)
theorem not_inj {a b : W32} (h : ~~~a = ~~~b) : a = b := by
  have := congrArg (~~~·) h
  simpa using this
/-- Four bytes in a row that are other ones. -/
theorem sum_spoilt (p t : List UInt8) {s y : W32} (hy : y ≠ 0#32) : sumS (p ++ (bytesS (s ^^^ y) ++ t)) ≠ sumS (p ++ (bytesS s ++ t)) := by
  intro h
  have h1 := not_inj h
  rw [fold_app, fold_app, fold_app, fold_app] at h1
  have h2 := fold_inj h1
  rw [fold_bytes, fold_bytes] at h2
  have h3 := xor_left (iter_inj h2)
  apply hy
  have : s ^^^ y = s ^^^ 0#32 := by rw [BitVec.xor_zero]; exact h3
  exact xor_left this
end Go.Proofs.Ytmgmeidfnapahaa.Mv
