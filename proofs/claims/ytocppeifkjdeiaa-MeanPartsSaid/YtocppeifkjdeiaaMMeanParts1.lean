/- What the statement MeanParts needs, part 1. Under no condition. -/
import Derived.Laws.AppendOwn
import Derived.Laws.StructEq
import Derived.Laws.MakeOwn
import Derived.Laws.Strings
import Derived.Laws.BytesString
import Derived.Laws.Slices
import Derived.Orders
import Derived.Calls
/- A machine for proofs, part A: abstract values, what they stand for, abstract states. Under no condition. -/
namespace Go.Proofs.Ytocppeifkjdeiaa.Mv
open Go

/-- Abstract values. -/
inductive AV where
  | any
  | u
  | x (v : Value)
  | i (k : IntKind) (n : Int)
  | b (t : Bool)
  | s (l : List UInt8)
  | nil
  | agg (cs : List AV)
  | tup (cs : List AV)
  | sh (sz : Nat) (rows : List (List AV))
  | gr (t : Nat) (e : TypeId) (sz : Nat) (rows : List (List AV))
  | ptr (t : Nat) (off : Nat)
  | pel (cells : List AV)
  | bsl (t off n sz : Nat)
  | bsc (t off n cap sz : Nat)
  | shc (sz : Nat) (rows more : List (List AV))
  | mpv (t : Nat)
  | clo (f : FuncId) (caps : List AV)
  | fv (c : AV)
  deriving Inhabited

/-- What tags stand for: a box's block; a growing slice's value at a length. -/
structure Nm where
  th : Nat → Option Nat
  ka : Nat → Nat → Option (Value × TypeId × Nat)
  fy : Nat → Nat → Prop
def Nm.e : Nm := ⟨fun _ => none, fun _ _ => none, fun _ _ => False⟩

abbrev Gam := Addr → Option Value

inductive Rep (Γ : Gam) : Nm → Value → AV → Prop
  | any {m v} : Rep Γ m v .any
  | u {m} : Rep Γ m undef .u
  | x {m v} : Rep Γ m v (.x v)
  | i {m k n} : Rep Γ m (.int k n) (.i k n)
  | b {m t} : Rep Γ m (.bool t) (.b t)
  | s {m l} : Rep Γ m (.string ⟨l.toArray⟩) (.s l)
  | nil {m} : Rep Γ m (.slice none 0 0) .nil
  | agg {m} (vs : List Value) {cs : List AV} : vs.length = cs.length → (∀ (j : Nat) (v : Value) (c : AV), vs[j]? = some v → cs[j]? = some c → Rep Γ m v c) → Rep Γ m (.agg vs.toArray) (.agg cs)
  | tup {m} (vs : List Value) {cs : List AV} : vs.length = cs.length → (∀ (j : Nat) (v : Value) (c : AV), vs[j]? = some v → cs[j]? = some c → Rep Γ m v c) → Rep Γ m (.tuple vs.toArray) (.tup cs)
  | sh0 {m a sz} : Rep Γ m (.slice a 0 0) (.sh sz [])
  | sh {m} {a : Addr} {n cap sz rows} (vs : List Value) : n ≤ cap → cap ≤ maxLen → rows.length = n → (∀ r ∈ rows, r.length = sz) → vs.length = rows.flatten.length →
      (∀ (j : Nat) (v : Value), vs[j]? = some v → Γ (a.add j) = some v) → (∀ v ∈ vs, v.oneCell' = true) → (∀ (j : Nat) (v : Value) (c : AV), vs[j]? = some v → rows.flatten[j]? = some c → Rep Γ Nm.e v c) →
      Rep Γ m (.slice (some a) n cap) (.sh sz rows)
  | gr {m v t e sz rows} : Rep Γ m v (.sh sz rows) → m.ka t rows.length = some (v, e, sz) → Rep Γ m v (.gr t e sz rows)
  | ptr {m t off g} : m.th t = some g → Rep Γ m (.pointer (some ⟨g, off, none⟩)) (.ptr t off)
  | pel {m} {a : Addr} {cs : List AV} (vs : List Value) : vs.length = cs.length → (∀ (j : Nat) (v : Value), vs[j]? = some v → Γ (a.add j) = some v) → (∀ v ∈ vs, v.oneCell' = true) →
      (∀ (j : Nat) (v : Value) (c : AV), vs[j]? = some v → cs[j]? = some c → Rep Γ Nm.e v c) → Rep Γ m (.pointer (some a)) (.pel cs)
  | bsl {m t off n sz g cap} : m.th t = some g → n ≤ cap ∧ cap ≤ maxLen → Rep Γ m (.slice (some ⟨g, off, none⟩) n cap) (.bsl t off n sz)
  | bsc {m t off n cap sz g} : m.th t = some g → n ≤ cap ∧ cap ≤ maxLen → Rep Γ m (.slice (some ⟨g, off, none⟩) n cap) (.bsc t off n cap sz)
  | shc {m} {a : Option Addr} {n cap sz rows more} : Rep Γ m (.slice a cap cap) (.sh sz (rows ++ more)) → rows.length = n → n ≤ cap → Rep Γ m (.slice a n cap) (.shc sz rows more)
  | mpv {m t g} : m.th t = some g → Rep Γ m (.map (some g)) (.mpv t)
  | clo {m f} (vs : List Value) {cs : List AV} : vs.length = cs.length → (∀ (j : Nat) (v : Value) (c : AV), vs[j]? = some v → cs[j]? = some c → Rep Γ m v c) → Rep Γ m (.func (.func f) #[] vs.toArray) (.clo f cs)
  | fv {m v c} : Rep Γ Nm.e v c → v.oneCell' = true → Rep Γ m v (.fv c)

def Sub (Γ Γ' : Gam) : Prop := ∀ a v, Γ a = some v → Γ' a = some v
theorem Sub.refl (Γ : Gam) : Sub Γ Γ := fun _ _ h => h
theorem Sub.trans {Γ Γ' Γ'' : Gam} (h : Sub Γ Γ') (h' : Sub Γ' Γ'') : Sub Γ Γ'' := fun a v x => h' a v (h a v x)

/-- The tags that a value leads to. -/
def AV.refs : AV → List Nat
  | .agg cs | .tup cs | .clo _ cs => refsL cs
  | .gr t _ _ _ | .ptr t _ | .bsl t _ _ _ | .bsc t _ _ _ _ | .mpv t => [t]
  | _ => []
where refsL : List AV → List Nat
  | [] => []
  | c :: cs => c.refs ++ refsL cs

theorem mem_refsL {t : Nat} {c : AV} {cs : List AV} (hc : c ∈ cs) (h : t ∈ c.refs) : t ∈ AV.refs.refsL cs := by
  induction cs with
  | nil => cases hc
  | cons d ds ih =>
    simp only [AV.refs.refsL, List.mem_append]
    cases hc with
    | head => exact .inl h
    | tail _ hm => exact .inr (ih hm)

/-- Tags stand for the same, at least. -/
def Ext (m m' : Nm) (t : Nat) : Prop := (∀ g, m.th t = some g → m'.th t = some g) ∧ ∀ k x, m.ka t k = some x → m'.ka t k = some x

theorem Rep.mono {Γ Γ' : Gam} (hs : Sub Γ Γ') {m : Nm} {v : Value} {c : AV} (h : Rep Γ m v c) : ∀ {m' : Nm}, (∀ t ∈ c.refs, Ext m m' t) → Rep Γ' m' v c := by
  induction h with
  | any => intros; exact .any
  | u => intros; exact .u
  | x => intros; exact .x
  | i => intros; exact .i
  | b => intros; exact .b
  | s => intros; exact .s
  | nil => intros; exact .nil
  | agg vs hl hr ih => intro m' he; exact .agg vs hl fun j v c hv hc => ih j v c hv hc fun t ht => he t (mem_refsL (List.mem_of_getElem? hc) ht)
  | tup vs hl hr ih => intro m' he; exact .tup vs hl fun j v c hv hc => ih j v c hv hc fun t ht => he t (mem_refsL (List.mem_of_getElem? hc) ht)
  | sh0 => intros; exact .sh0
  | sh vs h1 h2 h3 h4 h5 h6 h7 h8 ih => intro m' he; exact .sh vs h1 h2 h3 h4 h5 (fun j v hv => hs _ _ (h6 j v hv)) h7 fun j v c hv hc => ih j v c hv hc fun t ht => ⟨fun _ h => h, fun _ _ h => h⟩
  | gr hr hk ih => intro m' he; exact .gr (ih (fun t ht => by simp [AV.refs] at ht)) ((he _ (by simp [AV.refs])).2 _ _ hk)
  | ptr ht => intro m' he; exact .ptr ((he _ (by simp [AV.refs])).1 _ ht)
  | bsl ht hn => intro m' he; exact .bsl ((he _ (by simp [AV.refs])).1 _ ht) hn
  | bsc ht hn => intro m' he; exact .bsc ((he _ (by simp [AV.refs])).1 _ ht) hn
  | shc h hn hc ih => intro m' he; exact .shc (ih (fun t ht => by simp [AV.refs] at ht)) hn hc
  | mpv ht => intro m' he; exact .mpv ((he _ (by simp [AV.refs])).1 _ ht)
  | pel vs h1 h2 h3 h4 ih => intro m' he; exact .pel vs h1 (fun j v hv => hs _ _ (h2 j v hv)) h3 fun j v c hv hc => ih j v c hv hc fun t ht => ⟨fun _ h => h, fun _ _ h => h⟩
  | clo vs hl hr ih => intro m' he; exact .clo vs hl fun j v c hv hc => ih j v c hv hc fun t ht => he t (mem_refsL (List.mem_of_getElem? hc) ht)
  | fv h h1 ih => intro m' he; exact .fv (ih fun t ht => ⟨fun _ h => h, fun _ _ h => h⟩) h1

theorem Rep.sub {Γ Γ' : Gam} (hs : Sub Γ Γ') {m : Nm} {v : Value} {c : AV} (h : Rep Γ m v c) : Rep Γ' m v c := h.mono hs fun _ _ => ⟨fun _ h => h, fun _ _ h => h⟩

/-- One cell's values. -/
def AV.leaf : AV → Bool
  | .x v => v.oneCell'
  | .i .. | .b _ | .s _ | .nil | .sh .. | .gr .. | .ptr .. | .pel _ | .bsl .. | .bsc .. | .shc .. | .mpv _ | .clo .. | .fv _ => true
  | _ => false
theorem Rep.one {Γ m v c} (h : Rep Γ m v c) (hl : c.leaf = true) : v.oneCell' = true := by
  cases h with
  | gr hr hk => cases hr <;> rfl
  | fv h h1 => exact h1
  | x => exact hl
  | _ => first | rfl | (simp [AV.leaf] at hl)

/-- Values that lead to no tag: they may stand in rows. -/
def AV.close : AV → AV
  | .gr _ _ sz rows => .sh sz rows
  | c => c
def AV.shut : AV → Bool
  | .x v => v.oneCell'
  | .i .. | .b _ | .s _ | .nil | .sh .. | .gr .. | .pel _ | .fv _ => true
  | .clo _ cs => cs.all fun c => match c with | .pel _ => true | _ => false
  | _ => false
theorem Rep.close {Γ m v c} (h : Rep Γ m v c) (hc : c.shut = true) : Rep Γ Nm.e v c.close := by
  cases h with
  | gr hr hk => exact hr.mono (Sub.refl _) fun t ht => by simp [AV.refs] at ht
  | sh0 => exact .sh0
  | sh vs h1 h2 h3 h4 h5 h6 h7 h8 => exact .sh vs h1 h2 h3 h4 h5 h6 h7 h8
  | pel vs h1 h2 h3 h4 => exact .pel vs h1 h2 h3 h4
  | x => exact .x
  | i => exact .i
  | b => exact .b
  | s => exact .s
  | nil => exact .nil
  | fv h h1 => exact .fv h h1
  | clo vs hl hr =>
    refine .clo vs hl fun j v c hv hd => ?_
    have hz := List.all_eq_true.1 hc c (List.mem_of_getElem? hd)
    have h2 := hr j v c hv hd
    cases h2 with
    | pel vs h1 h2 h3 h4 => exact .pel vs h1 h2 h3 h4
    | _ => cases hz
  | _ => simp [AV.shut] at hc
theorem AV.shut_leaf {c : AV} (h : c.shut = true) : c.leaf = true := by cases c <;> simp_all [AV.shut, AV.leaf]

/-- What stands elsewhere, of which it is known how it goes on: rows that have come, whether more may come; its blocks; the function value by which a row is told. -/
structure Fo where
  J : List (List AV) → Bool → (Nat → Prop) → World → Prop
  own : ∀ rows b Y w w', J rows b Y w → (∀ k, Y k → w'.heap[k]? = w.heap[k]?) → w.heap.size ≤ w'.heap.size → (w'.os = w.os ∧ w'.tape = w.tape ∧ w'.output = w.output) → J rows b Y w'
  lt : ∀ rows b Y w k, J rows b Y w → Y k → k < w.heap.size
  val : Value
  go : List (List AV) → Bool
instance : Inhabited Fo := ⟨⟨fun _ _ _ _ => False, fun _ _ _ _ _ h => h.elim, fun _ _ _ _ _ h => h.elim, .bool false, fun _ => false⟩⟩
/-- Objects that are the function's own: boxes, and slices that grow. -/
inductive Ob where
  | bx (cs : List AV)
  | gw (n : Nat)
  | mp (kk vk : IntKind) (ents : List (Int × Int))
  | fo (d : Fo) (rows : List (List AV)) (b : Bool)
  | dead
  deriving Inhabited
def Ob.refs : Ob → List Nat
  | .bx cs => AV.refs.refsL cs
  | _ => []

def look {α : Type} : List (Nat × α) → Nat → Option α
  | [], _ => none
  | (j, c) :: r, t => if j = t then some c else look r t

/-- Abstract states: slots and objects; what is written last stands first. -/
structure St where
  T : List (Nat × AV)
  B : List (Nat × Ob)
def St.get (s : St) (t : Nat) : AV := (look s.T t).getD .any
def St.ob (s : St) (t : Nat) : Ob := (look s.B t).getD .dead
def St.refsT : List (Nat × AV) → List Nat
  | [] => []
  | (_, c) :: r => c.refs ++ St.refsT r
def St.refsB : List (Nat × Ob) → List Nat
  | [] => []
  | (_, c) :: r => c.refs ++ St.refsB r

theorem St.get_refs {s : St} {t r : Nat} (h : r ∈ (s.get t).refs) : r ∈ St.refsT s.T := by
  obtain ⟨T, B⟩ := s
  simp only [St.get] at h ⊢
  induction T with
  | nil => simp [look, AV.refs] at h
  | cons p T ih =>
    obtain ⟨j, c⟩ := p
    simp only [look] at h
    simp only [St.refsT, List.mem_append]
    split at h
    · exact .inl (by simpa using h)
    · exact .inr (ih h)
theorem St.ob_refs {s : St} {t r : Nat} (h : r ∈ (s.ob t).refs) : r ∈ St.refsB s.B := by
  obtain ⟨T, B⟩ := s
  simp only [St.ob] at h ⊢
  induction B with
  | nil => simp [look, Ob.refs] at h
  | cons p B ih =>
    obtain ⟨j, c⟩ := p
    simp only [look] at h
    simp only [St.refsB, List.mem_append]
    split at h
    · exact .inl (by simpa using h)
    · exact .inr (ih h)

/-- The block that an object owns. -/
def Ob.blk (m : Nm) (t : Nat) : Ob → Nat → Prop
  | .bx _, g => m.th t = some g
  | .gw n, g => ((m.ka t n).bind fun x => x.1.ownBlock) = some g
  | .mp _ _ _, g => m.th t = some g
  | .fo _ _ _, g => m.fy t g
  | .dead, _ => False

/-- No cell of the row is frozen. -/
def FrOk (sz : Nat) (fr : Nat × Nat) : Prop := fr.2 ≤ fr.1 ∨ sz ≤ fr.1
/-- What an object stands for. -/
def ObOk (Γ : Gam) (m : Nm) (w : World) (t : Nat) : Ob → Prop
  | .bx cs => ∃ g c, ∃ E : TypeId × Nat × Nat, m.th t = some g ∧ w.heap[g]? = some (.cells c E.1 E.2) ∧ (FrOk c.size E.2 ∧ cs.length ≤ c.size) ∧ (∀ (j : Nat) (v : Value) (d : AV), c[j]? = some v → cs[j]? = some d → Rep Γ m v d) ∧
      (∀ (j : Nat) (v : Value), j < cs.length → c[j]? = some v → v.oneCell' = true) ∧ ∀ a : Addr, a.block = g → Γ a = none
  | .gw n => ∃ v e sz xs, m.ka t n = some (v, e, sz) ∧ (∀ k y, m.ka t k = some y → k ≤ n) ∧ w.ownsRow 0 e sz v n xs ∧
      ∀ g, v.ownBlock = some g → (∀ j, j < n * sz → Γ ⟨g, j, none⟩ = xs[j]?) ∧ ∀ a : Addr, a.block = g → (a.spot ≠ none ∨ n * sz ≤ a.off) → Γ a = none
  | .mp kk vk ents => ∃ g es clock, m.th t = some g ∧ w.heap[g]? = some (.map es clock) ∧ es.toList.map (fun e => (e.key, e.val)) = ents.map (fun p => (Value.int kk p.1, Value.int vk p.2)) ∧ ∀ a : Addr, a.block = g → Γ a = none
  | .fo d rows b => d.J rows b (m.fy t) w ∧ ∀ a : Addr, m.fy t a.block → Γ a = none
  | .dead => True

end Go.Proofs.Ytocppeifkjdeiaa.Mv
