/- Nodes: what they are made of, and whether one may be. Under no condition. -/
import Derived.Test.YtocppeifkjdeiaaKeyP
import Derived.Test.YtocppeifkjdeiaaXtF
namespace Go.Proofs.Ytocppeifkjdeiaa.Mv
open Go Go.Proofs
set_option linter.unusedSimpArgs false
set_option linter.unusedVariables false
set_option maxRecDepth 10000
set_option maxHeartbeats 4000000

abbrev W16 := BitVec 16
abbrev B32 := BitVec 32
/-- A pair, a kid, a message, a node. -/
structure Pr where
  k : L
  v : L
  deriving DecidableEq, Inhabited
structure Ed where
  block : B32
  deep : W16
  strip : L
  add : L
  deriving DecidableEq, Inhabited
structure Ms where
  kind : UInt8
  key : L
  val : L
  block : B32
  deep : W16
  add : L
  deriving DecidableEq, Inhabited
structure Nd where
  leaf : Bool
  pairs : List Pr
  pivots : List L
  kids : List Ed
  buf : List Ms
  deriving DecidableEq, Inhabited
def Pr.av (p : Pr) : List AV := [.s p.k, .s p.v]
def Ed.av (e : Ed) : List AV := [.i .u32 (e.block.toNat : Int), .i .u16 (e.deep.toNat : Int), .s e.strip, .s e.add]
def Ms.av (m : Ms) : List AV := [.i .u8 (m.kind.toNat : Int), .s m.key, .s m.val, .i .u32 (m.block.toNat : Int), .i .u16 (m.deep.toNat : Int), .s m.add]
def sav (p : L) : List AV := [.s p]
def Nd.av (n : Nd) : List AV := [.b n.leaf, .sh 2 (n.pairs.map Pr.av), .sh 1 (n.pivots.map sav), .sh 4 (n.kids.map Ed.av), .sh 6 (n.buf.map Ms.av)]
/-- No lists that a machine could not hold. -/
structure Nd.small (n : Nd) : Prop where
  pairs : n.pairs.length ≤ 1000000
  pivots : n.pivots.length ≤ 1000000
  kids : n.kids.length ≤ 1000000
  buf : n.buf.length ≤ 1000000

/-- Lists that a machine can hold. -/
structure Nd.fits (n : Nd) : Prop where
  pairs : n.pairs.length ≤ 9223372036854775807
  pivots : n.pivots.length ≤ 9223372036854775807
  kids : n.kids.length ≤ 9223372036854775807
  buf : n.buf.length ≤ 9223372036854775807

theorem dropD {α : Type} [Inhabited α] {b : List α} {n : Nat} (h : n < b.length) : b.drop n = b.getD n default :: b.drop (n + 1) := by
  rw [List.getD_eq_getElem?_getD, List.getElem?_eq_getElem h, Option.getD_some, ← List.drop_eq_getElem_cons h]
theorem takeD {α : Type} [Inhabited α] {b : List α} {n : Nat} (h : n < b.length) : b.take (n + 1) = b.take n ++ [b.getD n default] := by
  rw [List.take_add_one, List.getD_eq_getElem?_getD, List.getElem?_eq_getElem h]; rfl
theorem getD_map {α β : Type} [Inhabited α] [Inhabited β] (f : α → β) {l : List α} {n : Nat} (h : n < l.length) : (l.map f).getD n default = f (l.getD n default) := by
  rw [List.getD_eq_getElem?_getD, List.getD_eq_getElem?_getD, List.getElem?_map, List.getElem?_eq_getElem h]; rfl

/-! ### may it be? -/
def msMay (m : Ms) : Bool :=
  decide (m.key.length ≤ 16) && (
    if m.kind = 1 then decide (m.val.length ≤ 32) && (m.block == 0) && (m.deep == 0) && (m.add == [])
    else if m.kind = 2 then (m.val == []) && (m.block == 0) && (m.deep == 0) && (m.add == [])
    else if m.kind = 3 then decide (m.add.length ≤ 16) && decide (1 ≤ m.deep.toNat) && (m.val == [])
    else false)
/-- Keys that rise. -/
def rise : List L → Bool
  | a :: b :: r => lt a b && rise (b :: r)
  | _ => true
def prLen (p : Pr) : Bool := decide (p.k.length ≤ 16) && decide (p.v.length ≤ 32)
def edOk (e : Ed) : Bool := !(e.deep == 0) && decide (e.strip.length ≤ 16) && decide (e.add.length ≤ 16)
def leafOk (n : Nd) : Bool := n.pivots.isEmpty && n.kids.isEmpty && n.buf.isEmpty && rise (n.pairs.map Pr.k) && n.pairs.all prLen
def innerOk (n : Nd) : Bool := n.pairs.isEmpty && !n.kids.isEmpty && decide (n.pivots.length + 1 = n.kids.length) && n.kids.all edOk && (rise ([] :: n.pivots) && n.pivots.all fun p => decide (p.length ≤ 16)) && n.buf.all msMay
/-- The error's number. -/
def mayN (n : Nd) : Nat :=
  if 16 < n.pairs.length ∨ 8 < n.kids.length ∨ 16 < n.buf.length then 13
  else if n.leaf then (if leafOk n then 0 else 3) else (if innerOk n then 0 else 3)
def may (n : Nd) : Bool := mayN n == 0
theorem rise_cons (a b : L) (r : List L) : rise (a :: b :: r) = (lt a b && rise (b :: r)) := rfl
theorem rise_tail {a : L} {r : List L} (h : rise (a :: r) = true) : rise r = true := by
  cases r with
  | nil => rfl
  | cons b r => rw [rise_cons, Bool.and_eq_true] at h; exact h.2
/-- The rest of a list whose keys rise. -/
theorem rise_drop {ks : List L} {n : Nat} (h0 : 0 < n) (h : n < ks.length) : rise (ks.drop (n - 1)) = (lt (ks.getD (n - 1) default) (ks.getD n default) && rise (ks.drop n)) := by
  rw [dropD (by omega : n - 1 < ks.length), show n - 1 + 1 = n by omega, dropD h, rise_cons]

/-! ### numbers -/
theorem k_eq (a b : UInt8) : ((a.toNat : Int) = (b.toNat : Int)) = (a = b) := propext ⟨fun h => UInt8.toNat_inj.1 (by omega), fun h => by rw [h]⟩
theorem k1 (a : UInt8) : ((a.toNat : Int) = 1) = (a = 1) := k_eq a 1
theorem k2 (a : UInt8) : ((a.toNat : Int) = 2) = (a = 2) := k_eq a 2
theorem k3 (a : UInt8) : ((a.toNat : Int) = 3) = (a = 3) := k_eq a 3
theorem kb (a b : UInt8) : (((a.toNat : Int) == (b.toNat : Int)) : Bool) = (a == b) := by rw [Bool.eq_iff_iff]; simp only [beq_iff_eq, k_eq]
theorem bv_eq {w : Nat} (a b : BitVec w) : ((a.toNat : Int) = (b.toNat : Int)) = (a = b) := propext ⟨fun h => BitVec.eq_of_toNat_eq (by omega), fun h => by rw [h]⟩
theorem bvb {w : Nat} (a b : BitVec w) : (((a.toNat : Int) == (b.toNat : Int)) : Bool) = (a == b) := by rw [Bool.eq_iff_iff]; simp only [beq_iff_eq, bv_eq]
theorem bv0 {w : Nat} (a : BitVec w) : ((a.toNat : Int) = 0) = (a = 0) := by
  have := bv_eq a 0
  simpa using this
theorem bvn0 {w : Nat} (a : BitVec w) : (a.toNat = 0) = (a = 0) := by
  have := bv0 a
  rw [← this]; exact propext ⟨fun h => by omega, fun h => by omega⟩
theorem bvb0 {w : Nat} (a : BitVec w) : (((a.toNat : Int) == 0) : Bool) = (a == 0) := by rw [Bool.eq_iff_iff]; simp only [beq_iff_eq, bv0]
theorem le_lit (a n : Nat) : ((a : Int) ≤ no_index (OfNat.ofNat n)) = (a ≤ OfNat.ofNat n) := propext ⟨fun h => Int.ofNat_le.1 h, fun h => Int.ofNat_le.2 h⟩
theorem lt_lit (a n : Nat) : ((a : Int) < no_index (OfNat.ofNat n)) = (a < OfNat.ofNat n) := propext ⟨fun h => Int.ofNat_lt.1 h, fun h => Int.ofNat_lt.2 h⟩
theorem lit_le (a n : Nat) : ((no_index (OfNat.ofNat n) : Int) ≤ (a : Int)) = (OfNat.ofNat n ≤ a) := propext ⟨fun h => Int.ofNat_le.1 h, fun h => Int.ofNat_le.2 h⟩
theorem lit_lt (a n : Nat) : ((no_index (OfNat.ofNat n) : Int) < (a : Int)) = (OfNat.ofNat n < a) := propext ⟨fun h => Int.ofNat_lt.1 h, fun h => Int.ofNat_lt.2 h⟩
theorem eq_lit (a n : Nat) : ((a : Int) = no_index (OfNat.ofNat n)) = (a = OfNat.ofNat n) := propext ⟨fun h => Int.ofNat_inj.1 h, fun h => Int.ofNat_inj.2 h⟩
theorem lenI (l : L) (n : Nat) : decide (((l.length : Nat) : Int) ≤ (n : Int)) = decide (l.length ≤ n) := by simp

/-! ### lists that are gone through -/
theorem all_step {α : Type} [Inhabited α] {l : List α} {p : α → Bool} {n : Nat} (h : n < l.length) (ha : (l.take n).all p = true) (hp : p (l.getD n default) = true) : (l.take (n + 1)).all p = true := by
  rw [takeD h, List.all_append, ha]; simp only [List.all_cons, List.all_nil, hp, Bool.and_true]
theorem all_fail {α : Type} [Inhabited α] {l : List α} {p : α → Bool} {n : Nat} (h : n < l.length) (hp : p (l.getD n default) = false) : l.all p = false := by
  have : l = l.take n ++ l.getD n default :: l.drop (n + 1) := by rw [← dropD h, List.take_append_drop]
  rw [this, List.all_append, List.all_cons, hp]; simp
theorem all_done {α : Type} {l : List α} {p : α → Bool} {n : Nat} (hn : l.length ≤ n) (ha : (l.take n).all p = true) : l.all p = true := by
  rwa [List.take_of_length_le hn] at ha

/-! ### more than is gone through -/
def prG (p : Pr) : Bool := !decide (100 < p.k.length) && !decide (100 < p.v.length)
def msG (m : Ms) : Bool := !decide (100 < m.key.length) && !decide (100 < m.val.length) && !decide (100 < m.add.length)
def edG (e : Ed) : Bool := !decide (100 < e.strip.length) && !decide (100 < e.add.length)
def svG (p : L) : Bool := !decide (100 < p.length)
def greatP (l : List Pr) : Bool := decide (60 < l.length) || !l.all prG
def greatM (l : List Ms) : Bool := decide (60 < l.length) || !l.all msG
def great (n : Nd) : Bool := decide (60 < n.pivots.length) || decide (60 < n.kids.length) || greatP n.pairs || greatM n.buf || !n.pivots.all svG || !n.kids.all edG

/-- The first place at which it holds. -/
def findI {α : Type} (p : α → Bool) : List α → Nat → Int
  | [], _ => -1
  | a :: l, i => if p a = true then (i : Int) else findI p l (i + 1)
theorem findI_none {α : Type} {p : α → Bool} {l : List α} {i : Nat} (h : l.all (fun a => !p a) = true) : findI p l i = -1 := by
  induction l generalizing i with
  | nil => rfl
  | cons a l ih =>
    simp only [List.all_cons, Bool.and_eq_true, Bool.not_eq_true'] at h
    simp only [findI, h.1, Bool.false_eq_true, if_false]
    exact ih h.2
theorem findI_at {α : Type} [Inhabited α] {p : α → Bool} {l : List α} {i n : Nat} (hn : n < l.length) (h : (l.take n).all (fun a => !p a) = true) (hp : p (l.getD n default) = true) : findI p l i = ((i + n : Nat) : Int) := by
  induction l generalizing i n with
  | nil => simp at hn
  | cons a l ih =>
    cases n with
    | zero =>
      have hp' : p a = true := by simpa using hp
      simp [findI, hp']
    | succ n =>
      simp only [List.take_succ_cons, List.all_cons, Bool.and_eq_true, Bool.not_eq_true'] at h
      simp only [findI, h.1, Bool.false_eq_true, if_false]
      rw [ih (by simpa using hn) h.2 (by simpa using hp)]
      omega
theorem findI_ge {α : Type} {p : α → Bool} {l : List α} {i : Nat} : decide (findI p l i ≥ 0) = !l.all (fun a => !p a) := by
  induction l generalizing i with
  | nil => simp [findI]
  | cons a l ih =>
    simp only [findI, List.all_cons]
    split
    · rename_i h
      simp [h]
    · rename_i h
      rw [ih]; simp [h]
theorem rise_next {ks : List L} {q : Nat} (h : q + 1 < ks.length) : rise (ks.drop q) = (lt (ks.getD q default) (ks.getD (q + 1) default) && rise (ks.drop (q + 1))) := by
  have := rise_drop (ks := ks) (n := q + 1) (by omega) h
  simpa only [Nat.add_sub_cancel] using this
theorem rise_end {ks : List L} {q : Nat} (h : ks.length ≤ q + 1) : rise (ks.drop q) = true := by
  have : (ks.drop q).length ≤ 1 := by rw [List.length_drop]; omega
  match hd : ks.drop q, this with
  | [], _ => rfl
  | [a], _ => rfl
theorem edOk_iff (e : Ed) : edOk e = (!(e.deep == 0) && decide (e.strip.length ≤ 16) && decide (e.add.length ≤ 16)) := rfl
theorem lt_nil_iff (p : L) : lt [] p = !(p == []) := by cases p <;> rfl
theorem cons_getD (a : L) (l : List L) {q : Nat} (h : 0 < q) : (a :: l).getD q default = l.getD (q - 1) default := by
  obtain ⟨k, rfl⟩ : ∃ k, q = k + 1 := ⟨q - 1, by omega⟩
  rfl
theorem great_small {n : Nd} (h : great n = false) : n.small := by
  simp only [great, greatP, greatM, Bool.or_eq_false_iff, decide_eq_false_iff_not] at h
  obtain ⟨⟨⟨⟨⟨h1, h2⟩, h3, _⟩, h4, _⟩, _⟩, _⟩ := h
  exact ⟨by omega, by omega, by omega, by omega⟩
end Go.Proofs.Ytocppeifkjdeiaa.Mv
