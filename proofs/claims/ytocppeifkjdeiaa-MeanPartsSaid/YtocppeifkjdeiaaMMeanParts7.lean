/- What the statement MeanParts needs, part 7. Under no condition. -/
import Derived.ChangeArms
import Derived.Below
import Derived.Test.YtocppeifkjdeiaaMMeanParts6
/- A machine for proofs, part Z: what a statement hands in, asL abstract values. Under no condition. -/
namespace Go.Proofs.Ytocppeifkjdeiaa.Mv
open Go
set_option linter.unusedSimpArgs false
set_option linter.unusedVariables false

/-- The cells of a value of a type. -/
inductive Sh (tab : Tab) : Nat → List AV → Prop
  | int {t i k n} (hi : look tab t = some i) (hd : i.d = .int k) (hw : (Lit.int k n).wf = true) : Sh tab t [.i k n]
  | bool {t i b} (hi : look tab t = some i) (hd : i.d = .bool) : Sh tab t [.b b]
  | str {t i l} (hi : look tab t = some i) (hd : i.d = .string) (hl : l.length ≤ maxLen) : Sh tab t [.s l]
  | sl {t i e j rows} (hi : look tab t = some i) (hd : i.d = .slice e) (hj : look tab e = some j) (hn : rows.length ≤ maxLen) (hr : ∀ r ∈ rows, Sh tab e r) : Sh tab t [.sh j.size rows]
  | st {t i fs cs} (hi : look tab t = some i) (hd : i.d = .struct fs) (hl : cs.length = i.size) (hf : ∀ f ∈ fs.toList, ∀ j, look tab f.type = some j → Sh tab f.type ((cs.drop f.offset).take j.size)) : Sh tab t cs

/-- Fields one behind the other. -/
def covers (tab : Tab) : Nat → List Field → Option Nat
  | o, [] => some o
  | o, f :: fs => match look tab f.type with
    | some j => if f.offset = o then covers tab (o + j.size) fs else none
    | none => none
/-- Types whose values are opened here. -/
def shB (tab : Tab) : Nat → Nat → Bool
  | 0, _ => false
  | n + 1, t => match look tab t with
    | some i => match i.d with
      | .int _ | .bool | .string => true
      | .slice e => shB tab n e
      | .struct fs => (covers tab 0 fs.toList == some i.size) && fs.toList.all fun f => shB tab n f.type
      | _ => false
    | none => false

def cellsG (w : World) : Gam := fun ad => w.cell? ad

theorem fields_rep {H : Type} {enc : TypeId × Value → H} {P : Program} {tab : Tab} {w : World} {sp : Nat → Bool} {held : Bool} {fuel : Nat} (ht : TabOk P tab)
    (ih : ∀ (t : Nat) (cs : List Value) (x : DataW H × List MemPlace), DataW.trod enc P w 0 sp held fuel t cs = some x → (∃ n, shB tab n t = true) → ∃ asL, RepL (cellsG w) Nm.e cs asL ∧ Sh tab t asL ∧ ∀ c ∈ asL, c.leaf = true) (cs : List Value) :
    ∀ (fs : List Field) (o sz : Nat), covers tab o fs = some sz → cs.length = sz → o ≤ sz → (∀ f ∈ fs, ∃ x, DataW.trod enc P w 0 sp held fuel f.type ((cs.drop f.offset).take (P.cellsOf f.type)) = some x) → (∀ f ∈ fs, ∃ n, shB tab n f.type = true) →
      ∃ asL, RepL (cellsG w) Nm.e (cs.drop o) asL ∧ (∀ c ∈ asL, c.leaf = true) ∧ ∀ f ∈ fs, ∀ j, look tab f.type = some j → o ≤ f.offset ∧ Sh tab f.type ((asL.drop (f.offset - o)).take j.size)
  | [], o, sz, hc, hl, ho, _, _ => by
    simp only [covers, Option.some.injEq] at hc
    subst hc
    exact ⟨[], by rw [List.drop_eq_nil_of_le (by omega)]; exact .nil, fun c hc => by simp at hc, fun f hf => by cases hf⟩
  | f :: fs, o, sz, hc, hl, ho, hx, hs => by
    simp only [covers] at hc
    split at hc
    · rename_i j hj
      split at hc
      · rename_i hoff
        have hle : o + j.size ≤ sz := by
          have key : ∀ (fs : List Field) (o sz : Nat), covers tab o fs = some sz → o ≤ sz := by
            intro fs
            induction fs with
            | nil => intro o sz h; simp only [covers, Option.some.injEq] at h; omega
            | cons g gs ih =>
              intro o sz h
              simp only [covers] at h
              split at h
              · split at h
                · have := ih _ _ h; omega
                · cases h
              · cases h
          exact key _ _ _ hc
        obtain ⟨asL, h1, h1l, h2⟩ := fields_rep ht ih cs fs (o + j.size) sz hc hl hle (fun g hg => hx g (List.mem_cons_of_mem _ hg)) (fun g hg => hs g (List.mem_cons_of_mem _ hg))
        obtain ⟨x, hx'⟩ := hx f (by simp)
        have hcell : P.cellsOf f.type = j.size := by
          obtain ⟨q, hq, hq', _⟩ := (ht.at hj).info
          simp [Program.cellsOf, hq, hq']
        rw [hcell, hoff] at hx'
        obtain ⟨bs, h3, h4, h4l⟩ := ih _ _ _ hx' (hs f (by simp))
        have hbl : bs.length = j.size := by
          rw [← h3.1, List.length_take, List.length_drop]; omega
        refine ⟨bs ++ asL, ?_, fun c hc => (List.mem_append.1 hc).elim (h4l c) (h1l c), fun g hg k hk => ?_⟩
        · have := h3.append h1
          rw [← List.drop_drop, List.take_append_drop] at this
          exact this
        · cases hg with
          | head =>
            rw [hj] at hk; cases hk
            refine ⟨by omega, ?_⟩
            rw [hoff, Nat.sub_self, List.drop_zero, List.take_append_of_le_length (by omega), List.take_of_length_le (by omega)]
            exact h4
          | tail _ hg =>
            obtain ⟨h5, h6⟩ := h2 g hg k hk
            refine ⟨by omega, ?_⟩
            rw [List.drop_append, List.drop_eq_nil_of_le (by omega), List.nil_append, show g.offset - o - bs.length = g.offset - (o + j.size) by omega]
            exact h6
      · cases hc
    · cases hc

theorem trod_rep {H : Type} {enc : TypeId × Value → H} {P : Program} {tab : Tab} {w : World} {sp : Nat → Bool} {held : Bool} (ht : TabOk P tab) : ∀ (fuel t : Nat) (cs : List Value) (x : DataW H × List MemPlace), DataW.trod enc P w 0 sp held fuel t cs = some x → (∃ n, shB tab n t = true) →
    ∃ asL, RepL (cellsG w) Nm.e cs asL ∧ Sh tab t asL ∧ ∀ c ∈ asL, c.leaf = true := by
  intro fuel
  induction fuel with
  | zero => intro t cs x h; cases h
  | succ fuel ih =>
    intro t cs x h ⟨n, hn⟩
    cases n with
    | zero => cases hn
    | succ n =>
      simp only [shB] at hn
      split at hn
      · rename_i i hi
        have hu := (ht.at hi).und
        split at hn
        · rename_i k hd
          rw [hd] at hu
          obtain ⟨m, rfl, _, hw⟩ := DataW.trod_int hu h
          exact ⟨[.i k m], .cons .i .nil, .int hi hd hw, by simp [AV.leaf]⟩
        · rename_i hd
          rw [hd] at hu
          obtain ⟨b, rfl, _⟩ := DataW.trod_bool hu h
          exact ⟨[.b b], .cons .b .nil, .bool hi hd, by simp [AV.leaf]⟩
        · rename_i hd
          rw [hd] at hu
          obtain ⟨s, rfl, _, hs⟩ := DataW.trod_string hu h
          refine ⟨[.s s.data.toList], .cons ?_ .nil, .str hi hd (by rw [Array.length_toList]; exact hs), by simp [AV.leaf]⟩
          exact (show Rep _ _ (.string ⟨s.data.toList.toArray⟩) _ from .s)
        · rename_i e hd
          have hse : ∃ n, shB tab n e = true := ⟨n, hn⟩
          obtain ⟨j, hj⟩ : ∃ j, look tab e = some j := by
            cases n with
            | zero => cases hn
            | succ n =>
              simp only [shB] at hn
              split at hn
              · rename_i j hj; exact ⟨j, hj⟩
              · cases hn
          have hcell : P.cellsOf e = j.size := by
            obtain ⟨q, hq, hq', _⟩ := (ht.at hj).info
            simp [Program.cellsOf, hq, hq']
          rw [hd] at hu
          rcases DataW.trod_slice hu h with ⟨rfl, _⟩ | ⟨a, len, cap, elems, rest, n', hfn, rfl, _, _, hc1, hc2, hlen, hel, _⟩
          · exact ⟨[.sh j.size []], .cons .sh0 .nil, .sl hi hd hj (by simp) (fun r hr => by simp at hr), by simp [AV.leaf]⟩
          · obtain rfl : n' = fuel := by omega
            · 
                have hrow : ∀ i, i < len → ∃ vs asL, (∀ k v, vs[k]? = some v → w.cell? (a.add (i * j.size + k)) = some v) ∧ vs.length = j.size ∧ RepL (cellsG w) Nm.e vs asL ∧ Sh tab e asL ∧ ∀ c ∈ asL, c.leaf = true := fun i hil => by
                  have hb := hel i hil
                  rw [List.getElem?_eq_getElem (by omega : i < elems.length)] at hb
                  cases hcs : w.cells? 0 (a.add (i * P.cellsOf e)) (P.cellsOf e) with
                  | none => rw [hcs] at hb; cases hb
                  | some vs =>
                    rw [hcs] at hb
                    obtain ⟨asL, q1, q2, q3⟩ := ih e vs _ hb hse
                    have hvs : vs.length = j.size ∧ ∀ k v, vs[k]? = some v → w.cell? (a.add (i * j.size + k)) = some v := by
                      unfold World.cells? at hcs
                      rw [if_pos (Nat.zero_le _), hcell] at hcs
                      have key : ∀ (l : List Nat) (vs : List Value) (g : Nat → Option Value), l.mapM g = some vs → vs.length = l.length ∧ ∀ (k : Nat) (v : Value), vs[k]? = some v → ∃ p : Nat, l[k]? = some p ∧ g p = some v := by
                        intro l
                        induction l with
                        | nil => intro vs g h; simp at h; subst h; exact ⟨rfl, fun k v h => by simp at h⟩
                        | cons p l ih =>
                          intro vs g h
                          rw [List.mapM_cons] at h
                          cases hg : g p with
                          | none => rw [hg] at h; cases h
                          | some y =>
                            rw [hg] at h
                            cases hl : l.mapM g with
                            | none => rw [hl] at h; cases h
                            | some ys =>
                              rw [hl] at h
                              cases h
                              obtain ⟨z1, z2⟩ := ih ys g hl
                              refine ⟨by simp [z1], fun k v hk => ?_⟩
                              cases k with
                              | zero => simp at hk; subst hk; exact ⟨p, rfl, hg⟩
                              | succ k => simpa using z2 k v (by simpa using hk)
                      obtain ⟨z1, z2⟩ := key _ _ _ hcs
                      refine ⟨by simpa using z1, fun k v hk => ?_⟩
                      obtain ⟨p, hp, hg⟩ := z2 k v hk
                      have hpk : p = k := by
                        rw [List.getElem?_eq_some_iff] at hp
                        obtain ⟨_, hp⟩ := hp
                        simpa using hp.symm
                      subst hpk
                      rw [add_add] at hg
                      exact hg
                    exact ⟨vs, asL, hvs.2, hvs.1, q1, q2, q3⟩
                -- the rows, one behind the other
                have hacc : ∀ l, l ≤ len → ∃ (vs : List Value) (rows : List (List AV)), rows.length = l ∧ vs.length = l * j.size ∧ (∀ k v, vs[k]? = some v → w.cell? (a.add k) = some v) ∧ RepL (cellsG w) Nm.e vs rows.flatten ∧ (∀ r ∈ rows, r.length = j.size) ∧ ∀ r ∈ rows, Sh tab e r ∧ ∀ c ∈ r, c.leaf = true := by
                  intro l
                  induction l with
                  | zero => intro _; exact ⟨[], [], rfl, by simp, fun k v h => by simp at h, .nil, fun r hr => by simp at hr, fun r hr => by simp at hr⟩
                  | succ l ihl =>
                    intro hl
                    obtain ⟨vs, rows, r1, r2, r3, r4, r5, r6⟩ := ihl (by omega)
                    obtain ⟨us, asL, u1, u2, u3, u4, u5⟩ := hrow l (by omega)
                    refine ⟨vs ++ us, rows ++ [asL], by simp [r1], by simp [r2, u2, Nat.succ_mul], fun k v hk => ?_, by rw [List.flatten_append]; simpa using r4.append u3, fun r hr => ?_, fun r hr => ?_⟩
                    · rw [List.getElem?_append] at hk
                      split at hk
                      · exact r3 k v hk
                      · rename_i hge
                        have := u1 (k - vs.length) v hk
                        rw [r2] at this hge
                        rw [show l * j.size + (k - l * j.size) = k by omega] at this
                        exact this
                    · rcases List.mem_append.1 hr with hr | hr
                      · exact r5 r hr
                      · simp at hr; subst hr; rw [← u3.1, u2]
                    · rcases List.mem_append.1 hr with hr | hr
                      · exact r6 r hr
                      · simp at hr; subst hr; exact ⟨u4, u5⟩
                obtain ⟨vs, rows, r1, r2, r3, r4, r5, r6⟩ := hacc len (Nat.le_refl _)
                refine ⟨[.sh j.size rows], .cons (.sh vs hc1 hc2 r1 r5 (by rw [r4.1]) r3 (fun v hv => ?_) r4.2) .nil, .sl hi hd hj (by omega) (fun r hr => (r6 r hr).1), by simp [AV.leaf]⟩
                obtain ⟨k, hk⟩ := List.getElem?_of_mem hv
                have hk' : k < rows.flatten.length := by rw [← r4.1]; exact (List.getElem?_eq_some_iff.1 hk).1
                have hrep := r4.2 k v _ hk (List.getElem?_eq_getElem hk')
                refine hrep.one ?_
                have hmem : rows.flatten[k] ∈ rows.flatten := List.getElem_mem hk'
                obtain ⟨r, hr, hmr⟩ := List.mem_flatten.1 hmem
                exact (r6 r hr).2 _ hmr
        · rename_i fs hd
          simp only [Bool.and_eq_true, beq_iff_eq, List.all_eq_true] at hn
          rw [hd] at hu
          obtain ⟨xs, n', hfn, _, hl, hlen, hf⟩ := DataW.trod_struct hu h
          obtain rfl : n' = fuel := by omega
          have hcell : P.cellsOf t = i.size := by
            obtain ⟨q, hq, hq', _⟩ := (ht.at hi).info
            simp [Program.cellsOf, hq, hq']
          have hx : ∀ f ∈ fs.toList, ∃ x, DataW.trod enc P w 0 sp held n' f.type ((cs.drop f.offset).take (P.cellsOf f.type)) = some x := fun f hfm => by
            obtain ⟨k, hk⟩ := List.getElem?_of_mem hfm
            have hk' : fs[k]? = some f := by simpa using hk
            have := hf k f hk'
            have hkl : k < xs.length := by
              have := (Array.getElem?_eq_some_iff.1 hk').1
              omega
            exact ⟨_, this.trans (List.getElem?_eq_getElem hkl)⟩
          obtain ⟨asL, h1, h1l, h2⟩ := fields_rep ht ih cs fs.toList 0 i.size hn.1 (by rw [hl, hcell]) (Nat.zero_le _) hx (fun f hfm => ⟨n, hn.2 f hfm⟩)
          rw [List.drop_zero] at h1
          exact ⟨asL, h1, .st hi hd (by rw [← h1.1, hl, hcell]) (fun f hfm j hj => by simpa using (h2 f hfm j hj).2), h1l⟩
        · cases hn
      · cases hn

/-- A value of a type. -/
inductive ShV (tab : Tab) : Nat → AV → Prop
  | agg {t i fs cs} (hi : look tab t = some i) (hd : i.d = .struct fs) (h : Sh tab t cs) : ShV tab t (.agg cs)
  | one {t c} (h : Sh tab t [c]) : ShV tab t c

theorem open_val {H : Type} {enc : TypeId × Value → H} {P : Program} {tab : Tab} {w : World} {sp : Nat → Bool} {held : Bool} {b0 : Nat} {r : Reach} (ht : TabOk P tab) {t : Nat} {v : Value} {d : DataW H} {p : List MemPlace} (hs : shB tab 9 t = true) (hv : Value.okWide P w r b0 t v)
    (h : DataW.Trod enc P w 0 sp held t v d p) : ∃ c, Rep (cellsG w) Nm.e v c ∧ ShV tab t c := by
  obtain ⟨fuel, hf⟩ := h
  obtain ⟨asL, h1, h2, _⟩ := trod_rep ht fuel t _ _ hf ⟨9, hs⟩
  have one : (v.cells = #[v]) → ∃ c, Rep (cellsG w) Nm.e v c ∧ ShV tab t c := fun hc => by
    rw [hc] at h1
    match asL, h1, h2 with
    | [c], h1, h2 => exact ⟨c, h1.2 0 v c rfl rfl, .one h2⟩
    | [], h1, _ => have := h1.1; simp at this
    | _ :: _ :: _, h1, _ => have := h1.1; simp at this
  simp only [shB] at hs
  split at hs
  · rename_i i hi
    have hu := (ht.at hi).und
    split at hs
    · rename_i k hd
      rw [hd] at hu
      obtain ⟨n, rfl⟩ := WideShapes.okWide_int hu hv
      exact one rfl
    · rename_i hd
      rw [hd] at hu
      obtain ⟨n, rfl⟩ := WideShapes.okWide_bool hu hv
      exact one rfl
    · rename_i hd
      rw [hd] at hu
      obtain ⟨n, rfl⟩ := WideShapes.okWide_string hu hv
      exact one rfl
    · rename_i e hd
      rw [hd] at hu
      obtain ⟨a, len, cap, rfl⟩ := WideShapes.okWide_slice hu hv
      exact one rfl
    · rename_i fs hd
      rw [hd] at hu
      obtain ⟨cs, rfl, _⟩ := WideShapes.okWide_struct hu hv
      refine ⟨.agg asL, ?_, .agg hi hd h2⟩
      have := h1.agg
      simpa [Value.cells] using this
    · cases hs
  · cases hs

/-- A law's contract, asL its statement wants it. -/
theorem Good.law {P : Program} {f : FuncId} {asL : List AV} (hg : Good P f asL [] (.b true) []) {W : World} {vs : List Value} (h : RepL (cellsG W) Nm.e vs asL) :
    Calls P f vs.toArray W fun e w' => e = .returned (.bool true) ∧ RowKit.Below W.heap.size W w' := by
  refine (hg.calls W (cellsG W) Nm.e vs (fun _ _ h => h) h (fun p hp => by simp at hp) (fun p hp => by simp at hp)).mono ?_
  rintro e w' ⟨v, Γ', m', rfl, hp⟩
  refine ⟨?_, hp.frame.os, hp.frame.tape, hp.frame.output, hp.frame.size, fun k hk => hp.frame.block k hk fun ⟨p, hp, _⟩ => by simp at hp⟩
  have := hp.rep
  cases this
  rfl

/-! ### what a value of a type looks like -/
section
variable {tab : Tab} {t : Nat} {i : TyI}
theorem Sh.inv_int {k} (hi : look tab t = some i) (hd : i.d = .int k) {cs} (h : Sh tab t cs) : ∃ n, cs = [.i k n] ∧ (Lit.int k n).wf = true := by
  cases h with
  | int hi' hd' hw => rw [hi] at hi'; cases hi'; rw [hd] at hd'; cases hd'; exact ⟨_, rfl, hw⟩
  | bool hi' hd' => rw [hi] at hi'; cases hi'; rw [hd] at hd'; cases hd'
  | str hi' hd' => rw [hi] at hi'; cases hi'; rw [hd] at hd'; cases hd'
  | sl hi' hd' => rw [hi] at hi'; cases hi'; rw [hd] at hd'; cases hd'
  | st hi' hd' => rw [hi] at hi'; cases hi'; rw [hd] at hd'; cases hd'
theorem Sh.inv_bool (hi : look tab t = some i) (hd : i.d = .bool) {cs} (h : Sh tab t cs) : ∃ b, cs = [.b b] := by
  cases h with
  | int hi' hd' hw => rw [hi] at hi'; cases hi'; rw [hd] at hd'; cases hd'
  | bool hi' hd' => exact ⟨_, rfl⟩
  | str hi' hd' => rw [hi] at hi'; cases hi'; rw [hd] at hd'; cases hd'
  | sl hi' hd' => rw [hi] at hi'; cases hi'; rw [hd] at hd'; cases hd'
  | st hi' hd' => rw [hi] at hi'; cases hi'; rw [hd] at hd'; cases hd'
theorem Sh.inv_str (hi : look tab t = some i) (hd : i.d = .string) {cs} (h : Sh tab t cs) : ∃ l, cs = [.s l] ∧ l.length ≤ maxLen := by
  cases h with
  | int hi' hd' hw => rw [hi] at hi'; cases hi'; rw [hd] at hd'; cases hd'
  | bool hi' hd' => rw [hi] at hi'; cases hi'; rw [hd] at hd'; cases hd'
  | str hi' hd' hl => exact ⟨_, rfl, hl⟩
  | sl hi' hd' => rw [hi] at hi'; cases hi'; rw [hd] at hd'; cases hd'
  | st hi' hd' => rw [hi] at hi'; cases hi'; rw [hd] at hd'; cases hd'
theorem Sh.inv_sl {e j} (hi : look tab t = some i) (hd : i.d = .slice e) (hj : look tab e = some j) {cs} (h : Sh tab t cs) : ∃ rows, cs = [.sh j.size rows] ∧ rows.length ≤ maxLen ∧ ∀ r ∈ rows, Sh tab e r := by
  cases h with
  | int hi' hd' hw => rw [hi] at hi'; cases hi'; rw [hd] at hd'; cases hd'
  | bool hi' hd' => rw [hi] at hi'; cases hi'; rw [hd] at hd'; cases hd'
  | str hi' hd' => rw [hi] at hi'; cases hi'; rw [hd] at hd'; cases hd'
  | sl hi' hd' hj' hn hr => rw [hi] at hi'; cases hi'; rw [hd] at hd'; cases hd'; rw [hj] at hj'; cases hj'; exact ⟨_, rfl, hn, hr⟩
  | st hi' hd' => rw [hi] at hi'; cases hi'; rw [hd] at hd'; cases hd'
theorem Sh.inv_st {fs} (hi : look tab t = some i) (hd : i.d = .struct fs) {cs} (h : Sh tab t cs) : cs.length = i.size ∧ ∀ f ∈ fs.toList, ∀ j, look tab f.type = some j → Sh tab f.type ((cs.drop f.offset).take j.size) := by
  cases h with
  | int hi' hd' hw => rw [hi] at hi'; cases hi'; rw [hd] at hd'; cases hd'
  | bool hi' hd' => rw [hi] at hi'; cases hi'; rw [hd] at hd'; cases hd'
  | str hi' hd' => rw [hi] at hi'; cases hi'; rw [hd] at hd'; cases hd'
  | sl hi' hd' => rw [hi] at hi'; cases hi'; rw [hd] at hd'; cases hd'
  | st hi' hd' hl hf => rw [hi] at hi'; cases hi'; rw [hd] at hd'; cases hd'; exact ⟨hl, hf⟩
theorem Sh.inv_at {fs} (hi : look tab t = some i) (hd : i.d = .struct fs) {cs} (h : Sh tab t cs) (k : Nat) {f : Field} (hf : fs.toList[k]? = some f) {j : TyI} (hj : look tab f.type = some j) : Sh tab f.type ((cs.drop f.offset).take j.size) :=
  (h.inv_st hi hd).2 f (List.mem_of_getElem? hf) j hj
theorem ShV.inv_st {fs} (hi : look tab t = some i) (hd : i.d = .struct fs) (h1 : 1 < i.size) {c} (h : ShV tab t c) : ∃ cs, c = .agg cs ∧ Sh tab t cs := by
  cases h with
  | agg _ _ h => exact ⟨_, rfl, h⟩
  | one h => have := (h.inv_st hi hd).1; simp at this; omega
theorem ShV.inv_one (hi : look tab t = some i) (hd : i.agg = false) {c} (h : ShV tab t c) : Sh tab t [c] := by
  cases h with
  | agg hi' hd' h => rw [hi] at hi'; cases hi'; simp [TyI.agg, hd'] at hd
  | one h => exact h
end

end Go.Proofs.Ytocppeifkjdeiaa.Mv

/- A machine for proofs, more steps: slices that are built and grown, bytes and texts, calls that answer slices. Under no condition. -/
namespace Go.Proofs.Ytocppeifkjdeiaa.Mv
open Go
set_option linter.unusedSimpArgs false
set_option linter.unusedVariables false

/-- Rows, written out. -/
inductive Wr : List (List AV) → List (List AV) → Prop
  | nil : Wr [] []
  | cons {a b asL bs} : Wf a b → Wr asL bs → Wr (a :: asL) (b :: bs)
theorem Wr.eq {asL bs} (h : Wr asL bs) : asL = bs := by
  induction h with
  | nil => rfl
  | cons h1 _ ih => rw [h1.eq, ih]

/-- Rows that are bytes. -/
inductive TB : List (List AV) → List UInt8 → Prop
  | nil : TB [] []
  | bs {l} : TB (BS l) l
  | app {a b x y} : TB a x → TB b y → TB (a ++ b) (x ++ y)
  | one {b : UInt8} {asL l} : TB asL l → TB ([.i .u8 (b.toNat : Int)] :: asL) (b :: l)
  | wrap {n : Int} {asL l} : TB asL l → TB ([.i .u8 (IntKind.wrap .u8 n)] :: asL) (u8 n :: l)
  | lit {n : Int} {asL l} : decide (0 ≤ n ∧ n < 256) = true → TB asL l → TB ([.i .u8 n] :: asL) (u8 n :: l)
theorem BS_app (a b : List UInt8) : BS (a ++ b) = BS a ++ BS b := by simp [BS]
theorem BS_len (a : List UInt8) : (BS a).length = a.length := by simp [BS]
theorem TB.eq {rows l} (h : TB rows l) : rows = BS l := by
  induction h with
  | nil => rfl
  | bs => rfl
  | app _ _ h1 h2 => rw [h1, h2, BS_app]
  | one _ ih => rw [ih]; rfl
  | wrap _ ih => rw [ih, wrapB]; rfl
  | lit h _ ih =>
    rw [ih]
    rename_i n asL l h1
    have h := of_decide_eq_true h
    have : n = ((u8 n).toNat : Int) := by
      simp only [u8, UInt8.toNat_ofNat']
      omega
    conv => lhs; rw [this]
    rfl

/-- What append is handed. -/
inductive Ap (sz : Nat) : AV → List (List AV) → Prop
  | nil : Ap sz .nil []
  | sh {ys} : Ap sz (.sh sz ys) ys
  | gr {t e ys} : Ap sz (.gr t e sz ys) ys
  | s {l} (h : sz = 1) : Ap sz (.s l) (BS l)
theorem Ap.arg {sz : Nat} {x : AV} {ys : List (List AV)} (h : Ap sz x ys) : (if argNil x then some (sz, []) else argOf x) = some (sz, ys) := by
  cases h with
  | nil => rfl
  | sh => rfl
  | gr => rfl
  | s h => subst h; rfl
def isApp (i : TyI) : Bool := match i.d with | .slice _ => true | .string => true | _ => false
/-- A slice of bytes asL a text. -/
inductive Rw : AV → List (List AV) → Prop
  | sh {rows} : Rw (.sh 1 rows) rows
  | gr {t e rows} : Rw (.gr t e 1 rows) rows
  | nil : Rw .nil []
section
variable {P : Program} {tab : Tab} {N : Nat} {D : St → Prop} {F : Fx P tab N D} {ops : Array Oper} {k : List It} {l : List Oper} {T : List (Nat × AV)} {B : List (Nat × Ob)}
  {d ty : Nat} {pos : String} {after : Array Edge} {op : Op} {acc : List Rec} {tg : List Nat}

section
variable {t : TypeId} {i j : TyI} {e : TypeId} {ps : Array (Nat × Operand)} {len : Nat} {rows : List (List AV)}
theorem build_mop (hi : look tab t = some i) (hd : i.d = .slice e) (hj : look tab e = some j) (h1 : ps.toList.map (·.1) = List.range len) (h2 : ps.toList.all (fun p => fitsIn j.size ((⟨T, B⟩ : St).val p.2) && ((⟨T, B⟩ : St).val p.2).cells.all AV.shut) = true)
    (h3 : (decide (len * j.size ≤ 16777216) && decide (0 < j.size)) = true) (hr : Wr (ps.toList.map fun p => ((⟨T, B⟩ : St).val p.2).cells.map AV.close) rows) :
    mop tab ⟨T, B⟩ ⟨some d, .buildSlice t len ps, ty, pos, after, none⟩ = some ⟨[(d, .gr d e j.size rows)], [(d, .gw rows.length)], [d]⟩ := by
  simp only [Bool.and_eq_true, decide_eq_true_eq] at h3
  have hl : rows.length = len := by
    rw [← hr.eq, List.length_map]
    have := congrArg List.length h1
    simpa using this
  simp only [mop, hi, hd, hj]
  rw [if_pos ⟨h1, h2, h3.1, h3.2⟩, hr.eq, hl]
theorem AO.buildS (hi : look tab t = some i) (hd : i.d = .slice e) (hj : look tab e = some j) (h1 : ps.toList.map (·.1) = List.range len) (h2 : ps.toList.all (fun p => fitsIn j.size ((⟨T, B⟩ : St).val p.2) && ((⟨T, B⟩ : St).val p.2).cells.all AV.shut) = true)
    (h3 : (decide (len * j.size ≤ 16777216) && decide (0 < j.size)) = true) (hr : Wr (ps.toList.map fun p => ((⟨T, B⟩ : St).val p.2).cells.map AV.close) rows) (hf : (⟨T, B⟩ : St).freeB d = true)
    (h : AO F ops k l ⟨(d, .gr d e j.size rows) :: T, (d, .gw rows.length) :: B⟩) : AO F ops k (⟨some d, .buildSlice t len ps, ty, pos, after, none⟩ :: l) ⟨T, B⟩ :=
  AO.step (e := ⟨[(d, .gr d e j.size rows)], [(d, .gw rows.length)], [d]⟩) rfl (.mem (build_mop hi hd hj h1 h2 h3 hr)) (fun e he => by simp at he; subst he; exact St.freeB_ok hf) h
variable {u : TypeId} {iu : TyI} {x y : Operand} {ys : List (List AV)} {g n : Nat}
theorem grow_mop (hi : look tab t = some i) (hd : i.d = .slice e) (hj : look tab e = some j) (hu : look tab u = some iu) (hiu : isApp iu = true) (hx : (⟨T, B⟩ : St).val x = .gr g e j.size rows) (hg : (⟨T, B⟩ : St).ob g = .gw n) (hn : n = rows.length)
    (hy : Ap j.size ((⟨T, B⟩ : St).val y) ys) (hz : (decide (0 < j.size) && decide (0 < j.bytes) && decide (j.bytes ≤ 1024)) = true) (hb : rows.length + ys.length ≤ 137438953472) :
    mop tab ⟨T, B⟩ ⟨some d, .call { callee := .builtin .append, args := #[x, y], argTypes := #[t, u] }, ty, pos, after, none⟩ = some ⟨[(d, .gr g e j.size (rows ++ ys))], [(g, .gw (rows ++ ys).length)], []⟩ := by
  simp only [Bool.and_eq_true, decide_eq_true_eq] at hz
  unfold isApp at hiu
  split at hiu
  case h_3 => cases hiu
  all_goals
    rename_i hq
    simp only [mop, hi, hu, hd, hj, hq, hy.arg, hx, hg]
    rw [if_pos ⟨trivial, trivial, trivial, hz.1.1, hn, hz.1.2, Nat.le_trans (Nat.mul_le_mul hb hz.2) (by decide)⟩, List.length_append]
theorem AO.grow (hi : look tab t = some i) (hd : i.d = .slice e) (hj : look tab e = some j) (hu : look tab u = some iu) (hiu : isApp iu = true) (hx : (⟨T, B⟩ : St).val x = .gr g e j.size rows) (hg : (⟨T, B⟩ : St).ob g = .gw n) (hn : n = rows.length)
    (hy : Ap j.size ((⟨T, B⟩ : St).val y) ys) (hz : (decide (0 < j.size) && decide (0 < j.bytes) && decide (j.bytes ≤ 1024)) = true) (hb : rows.length + ys.length ≤ 137438953472)
    (h : AO F ops k l ⟨(d, .gr g e j.size (rows ++ ys)) :: T, (g, .gw (rows ++ ys).length) :: B⟩) : AO F ops k (⟨some d, .call { callee := .builtin .append, args := #[x, y], argTypes := #[t, u] }, ty, pos, after, none⟩ :: l) ⟨T, B⟩ :=
  AO.step (e := ⟨[(d, .gr g e j.size (rows ++ ys))], [(g, .gw (rows ++ ys).length)], []⟩) rfl (.mem (grow_mop hi hd hj hu hiu hx hg hn hy hz hb)) (fun e he => by simp at he) h
theorem AO.kBuildS (h : AO F ops k (⟨some d, .buildSlice t len ps, ty, pos, after, none⟩ :: l) ⟨T, B⟩) : AO F ops k (⟨some d, .buildSlice t len ps, ty, pos, after, none⟩ :: l) ⟨T, B⟩ := h
theorem AO.kApp (h : AO F ops k (⟨some d, .call { callee := .builtin .append, args := #[x, y], argTypes := #[t, u] }, ty, pos, after, none⟩ :: l) ⟨T, B⟩) : AO F ops k (⟨some d, .call { callee := .builtin .append, args := #[x, y], argTypes := #[t, u] }, ty, pos, after, none⟩ :: l) ⟨T, B⟩ := h
end

/-! ### calls that answer a slice that may grow -/
theorem call_one {st : St} {fx : Operand} {xs : Array Operand} {ts : Array TypeId} {f : FuncId} {caps args asL : List AV} {res : AV} {ob : Ob} (hc : st.val fx = .clo f caps) (ha : Wf (xs.toList.map st.val ++ caps) asL) (hg : Good P f args [] res [(d, ob)]) (hl : LeL asL args)
    (hr : ∀ t ∈ res.refs, t = d) (hb : ob.refs = []) {g} : CallOk P st ⟨some d, .call { callee := .value fx, args := xs, argTypes := ts }, ty, pos, after, g⟩ ⟨[(d, res)], [(d, ob)], [d]⟩ :=
  ⟨fx, xs, ts, d, f, caps, args, [], res, [(d, ob)], fun t => t, rfl, rfl, hc, hg, by
      rw [ha.eq, ren_id.go]; exact hl, fun p hp => by simp at hp, fun s hs t ht h => h, fun s hs => by simp at hs, by simp, fun t ht => by simp [hr t ht], fun p hp => by
        simp at hp; subst hp; rw [hb]; simp, by
      have : ob.ren (fun t => t) = ob := by
        cases ob with
        | bx cs => simp only [Ob.ren, renL_eq]; congr 1; exact ren_id.go cs
        | gw n => rfl
        | mp kk vk e => rfl
        | fo d rows b => rfl
        | dead => rfl
      simp [ren_id, this]⟩
theorem AO.call1 {fx : Operand} {xs : Array Operand} {ts : Array TypeId} {f : FuncId} {caps args asL : List AV} {res : AV} {ob : Ob} (hc : (⟨T, B⟩ : St).val fx = .clo f caps) (ha : Wf (xs.toList.map (⟨T, B⟩ : St).val ++ caps) asL) (hg : Good P f args [] res [(d, ob)]) (hl : LeL asL args)
    (hr : (res.refs.all (· == d)) = true) (hb : ob.refs = []) (hf : (⟨T, B⟩ : St).freeB d = true)
    (h : AO F ops k l ⟨(d, res) :: T, (d, ob) :: B⟩) : AO F ops k (⟨some d, .call { callee := .value fx, args := xs, argTypes := ts }, ty, pos, after, none⟩ :: l) ⟨T, B⟩ :=
  AO.step (e := ⟨[(d, res)], [(d, ob)], [d]⟩) rfl (.call (call_one hc ha hg hl (by simpa using hr) hb)) (fun e he => by simp at he; subst he; exact St.freeB_ok hf) h
end

end Go.Proofs.Ytocppeifkjdeiaa.Mv
