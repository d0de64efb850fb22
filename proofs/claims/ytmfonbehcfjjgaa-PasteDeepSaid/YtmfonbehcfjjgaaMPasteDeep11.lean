/- What the statement PasteDeep needs, part 11. Under no condition. -/
import Derived.Test.YtmfonbehcfjjgaaMPasteDeep10
/- Calls to which several objects are lent. Under no condition. -/
namespace Go.Proofs.Ytmfonbehcfjjgaa.Mv
open Go Go.Proofs
set_option linter.unusedSimpArgs false
set_option linter.unusedVariables false

/-- What a callee's tags are in the caller. -/
def rho : List (Nat × Nat) → Nat → Nat
  | [], t => t
  | (a, b) :: r, t => cond (Nat.beq t a) b (rho r t)
inductive Rho : List (Nat × Nat) → Nat → Nat → Prop
  | nil {t} : Rho [] t t
  | here {a b r} : Rho ((a, b) :: r) a b
  | there {a b r t t'} : Nat.beq t a = false → Rho r t t' → Rho ((a, b) :: r) t t'
theorem Rho.eq {τ t t'} (h : Rho τ t t') : rho τ t = t' := by
  induction h with
  | nil => rfl
  | here => simp [rho]
  | there h1 h2 ih => simp only [rho, h1, cond_false]; exact ih
mutual
/-- A value by the caller's tags. -/
inductive Rn (τ : List (Nat × Nat)) : AV → AV → Prop
  | any : Rn τ .any .any
  | u : Rn τ .u .u
  | x {v} : Rn τ (.x v) (.x v)
  | i {k n} : Rn τ (.i k n) (.i k n)
  | b {t} : Rn τ (.b t) (.b t)
  | s {l} : Rn τ (.s l) (.s l)
  | nil : Rn τ .nil .nil
  | sh {sz rows} : Rn τ (.sh sz rows) (.sh sz rows)
  | pel {cs} : Rn τ (.pel cs) (.pel cs)
  | gr {t t' e sz rows} : Rho τ t t' → Rn τ (.gr t e sz rows) (.gr t' e sz rows)
  | ptr {t t' o} : Rho τ t t' → Rn τ (.ptr t o) (.ptr t' o)
  | bsl {t t' a n sz} : Rho τ t t' → Rn τ (.bsl t a n sz) (.bsl t' a n sz)
  | agg {cs ds} : RnL τ cs ds → Rn τ (.agg cs) (.agg ds)
  | tup {cs ds} : RnL τ cs ds → Rn τ (.tup cs) (.tup ds)
  | clo {f cs ds} : RnL τ cs ds → Rn τ (.clo f cs) (.clo f ds)
inductive RnL (τ : List (Nat × Nat)) : List AV → List AV → Prop
  | nil : RnL τ [] []
  | cons {c d cs ds} : Rn τ c d → RnL τ cs ds → RnL τ (c :: cs) (d :: ds)
  | same {cs} : AV.refs.refsL cs = [] → RnL τ cs cs
end
mutual
theorem Rn.eq {τ c d} (h : Rn τ c d) : c.ren (rho τ) = d := by
  cases h with
  | gr h => simp only [AV.ren, h.eq]
  | ptr h => simp only [AV.ren, h.eq]
  | bsl h => simp only [AV.ren, h.eq]
  | agg h => simp only [AV.ren, renL_eq, h.eq]
  | tup h => simp only [AV.ren, renL_eq, h.eq]
  | clo h => simp only [AV.ren, renL_eq, h.eq]
  | _ => rfl
theorem RnL.eq {τ cs ds} (h : RnL τ cs ds) : cs.map (AV.ren (rho τ)) = ds := by
  cases h with
  | nil => rfl
  | cons h1 h2 => rw [List.map_cons, h1.eq, h2.eq]
  | same h => exact ren_no.go _ _ h
end
/-- An object by the caller's tags. -/
inductive Ro (τ : List (Nat × Nat)) : Ob → Ob → Prop
  | bx {cs ds} : RnL τ cs ds → Ro τ (.bx cs) (.bx ds)
  | gw {n} : Ro τ (.gw n) (.gw n)
  | dead : Ro τ .dead .dead
theorem Ro.eq {τ o o'} (h : Ro τ o o') : o.ren (rho τ) = o' := by
  cases h with
  | bx h => simp only [Ob.ren, renL_eq, h.eq]
  | _ => rfl
/-- The objects of a list, by the caller's tags. -/
inductive RoL (τ : List (Nat × Nat)) : List (Nat × Ob) → List (Nat × Ob) → Prop
  | nil : RoL τ [] []
  | cons {t t' o o' l l'} : Rho τ t t' → Ro τ o o' → RoL τ l l' → RoL τ ((t, o) :: l) ((t', o') :: l')
theorem RoL.eq {τ l l'} (h : RoL τ l l') : l.map (fun p => (rho τ p.1, p.2.ren (rho τ))) = l' := by
  induction h with
  | nil => rfl
  | cons h1 h2 h3 ih => rw [List.map_cons, h1.eq, h2.eq, ih]
/-- What is lent stands so in the caller. -/
inductive Lent (st : St) (tg : List Nat) (τ : List (Nat × Nat)) : List (Nat × Ob) → Prop
  | nil : Lent st tg τ []
  | cons {t t' o o' l} : Rho τ t t' → Ro τ o o' → st.ob t' = o' → tg.contains t' = true → Lent st tg τ l → Lent st tg τ ((t, o) :: l)
theorem Lent.ok {st tg τ l} (h : Lent st tg τ l) : ∀ p ∈ l, st.ob (rho τ p.1) = p.2.ren (rho τ) ∧ rho τ p.1 ∈ tg := by
  induction h with
  | nil => intro p hp; cases hp
  | cons h1 h2 h3 h4 h5 ih =>
    intro p hp
    cases hp with
    | head => dsimp only; rw [h1.eq, h2.eq]; exact ⟨h3, by simpa using h4⟩
    | tail _ hm => exact ih p hm
/-- One list ahead of another one. -/
inductive Apd {α : Type} : List α → List α → List α → Prop
  | nil {l} : Apd [] l l
  | cons {x a b c} : Apd a b c → Apd (x :: a) b (x :: c)
theorem Apd.eq {α : Type} {a b c : List α} (h : Apd a b c) : a ++ b = c := by
  induction h with
  | nil => rfl
  | cons _ ih => rw [List.cons_append, ih]
def injB (τ : List (Nat × Nat)) (l : List Nat) : Bool := l.all fun s => l.all fun t => !Nat.beq (rho τ s) (rho τ t) || Nat.beq s t
def nodB : List Nat → Bool
  | [] => true
  | t :: l => !l.contains t && nodB l
theorem nodB_ok : ∀ {l : List Nat}, nodB l = true → l.Nodup
  | [], _ => .nil
  | t :: l, h => by
    simp only [nodB, Bool.and_eq_true, Bool.not_eq_true', List.contains_eq_mem, decide_eq_false_iff_not] at h
    exact List.nodup_cons.2 ⟨h.1, nodB_ok h.2⟩
/-- The tags are in order: told apart, what is lent is given back, what is led to is there. -/
def tagsB (τ : List (Nat × Nat)) (i o : List Nat) (r : List Nat) (rs : List (Nat × Ob)) : Bool :=
  injB τ (i ++ o) && i.all (fun s => o.contains s) && nodB o && r.all (fun t => o.contains t) && rs.all (fun p => p.2.refs.all fun t => o.contains t)
theorem call_multi {P : Program} {st : St} {d : Nat} {ty : TypeId} {pos} {after} {fx : Operand} {xs : Array Operand} {ts : Array TypeId} {f : FuncId} {caps args asL : List AV} {ins outs : List (Nat × Ob)} {res res' : AV} {B' : List (Nat × Ob)} {nw : List Nat} (τ : List (Nat × Nat)) {g}
    (hc : st.val fx = .clo f caps) (ha : Wf (xs.toList.map st.val ++ caps) asL) (hg : Good P f args ins res outs) (hl : LeL asL (args.map (AV.ren (rho τ))))
    (hi : Lent st (tagsAt st ⟨some d, .call { callee := .value fx, args := xs, argTypes := ts }, ty, pos, after, g⟩) τ ins) (ht : tagsB τ (ins.map (·.1)) (outs.map (·.1)) res.refs outs = true)
    (hr : Rn τ res res') (ho : RoL τ outs B') (hn : (outs.map (·.1)).filterMap (fun t => if (ins.map (·.1)).contains t then none else some (rho τ t)) = nw) :
    CallOk P st ⟨some d, .call { callee := .value fx, args := xs, argTypes := ts }, ty, pos, after, g⟩ ⟨[(d, res')], B', nw⟩ := by
  simp only [tagsB, Bool.and_eq_true] at ht
  obtain ⟨⟨⟨⟨t1, t2⟩, t3⟩, t4⟩, t5⟩ := ht
  refine ⟨fx, xs, ts, d, f, caps, args, ins, res, outs, rho τ, rfl, rfl, hc, hg, by rw [ha.eq]; exact hl, hi.ok, fun s hs t htt e => ?_, fun s hs => ?_, nodB_ok t3, fun t htt => ?_, fun p hp t htt => ?_, ?_⟩
  · have := List.all_eq_true.1 (List.all_eq_true.1 t1 s hs) t htt
    rw [e] at this
    simpa using this
  · simpa using List.all_eq_true.1 t2 s hs
  · simpa using List.all_eq_true.1 t4 t htt
  · simpa using List.all_eq_true.1 (List.all_eq_true.1 t5 p hp) t htt
  · rw [hr.eq, ho.eq, ← hn]
    congr 1
    refine congrArg (fun F : Nat → Option Nat => List.filterMap F (outs.map (·.1))) (funext fun t => ?_)
    by_cases e : t ∈ ins.map (·.1)
    · rw [if_pos e, if_pos (by simpa using e)]
    · rw [if_neg e, if_neg (by simpa using e)]
/-- A walk in a function to which objects are lent. -/
theorem Good.wM {P : Program} {tab : Tab} (ht : TabOk P tab) (mo : P.follows .mixedOrders = true) {f : FuncId} {fn : Func} {code : Code} {rs : List ResultVar} {N : Nat} {args : List AV} {res : AV} {ins outs : List (Nat × Ob)} {T : List (Nat × AV)}
    (hf : P.funcs[f]? = some fn) (hfn : fnB fn N args.length = true) (hb : fn.body = some code) (hrs : LE fn.results.toList rs) (hT : LE (entT 0 args) T)
    (hbig : ins.all (fun p => decide (1000000 ≤ p.1)) = true)
    (h : ∀ D : St → Prop, (∀ {st cs0}, resAll tab st rs = some cs0 → Lx Tr (resTup cs0) res → LeB Tr st outs → D st) → ∀ F : Fx P tab N D, AW F [.c code] ⟨T, ins⟩) : Good P f args ins res outs :=
  Good.walk ht mo hf hfn hb hrs.eq (fun p hp => by simpa using List.all_eq_true.1 hbig p hp) (by
    rw [hT.eq]
    refine h _ fun {st cs0} a b c => ⟨fun t => t, cs0, a, by rw [ren_id]; exact b, fun p hp => ?_, fun s _ t _ e => e, fun p hp => rfl⟩
    have : ∀ {l : List (Nat × Ob)}, LeB Tr st l → ∀ p ∈ l, Ol Tr (st.ob p.1) (p.2.ren fun t => t) := fun hh => by
      induction hh with
      | nil => intro p hp; cases hp
      | cons h1 h2 ih =>
        intro p hp
        cases hp with
        | head =>
          have e : ∀ o : Ob, o.ren (fun t => t) = o := fun o => by
            cases o with
            | bx cs => simp only [Ob.ren, renL_eq]; rw [ren_id.go]
            | _ => rfl
          dsimp only; rw [e]; exact h1
        | tail _ hm => exact ih p hm
    exact this c p hp)
section
variable {P : Program} {tab : Tab} {N : Nat} {D : St → Prop} {F : Fx P tab N D} {ops : Array Oper} {k : List It} {l : List Oper} {T : List (Nat × AV)} {B : List (Nat × Ob)} {acc : List Rec} {d : Nat} {ty : TypeId} {tg : List Nat}
theorem AO.callM {pos} {after} {fx : Operand} {xs : Array Operand} {ts : Array TypeId} {f : FuncId} {caps args asL : List AV} {ins outs : List (Nat × Ob)} {res res' : AV} {B' B2 : List (Nat × Ob)} (τ : List (Nat × Nat)) (hg : Good P f args ins res outs)
    (hc : (⟨T, B⟩ : St).val fx = .clo f caps) (ha : Wf (xs.toList.map (⟨T, B⟩ : St).val ++ caps) asL) (hl : LeL asL (args.map (AV.ren (rho τ))))
    (hi : Lent ⟨T, B⟩ (tagsAt ⟨T, B⟩ ⟨some d, .call { callee := .value fx, args := xs, argTypes := ts }, ty, pos, after, none⟩) τ ins) (ht : tagsB τ (ins.map (·.1)) (outs.map (·.1)) res.refs outs = true)
    (hr : Rn τ res res') (ho : RoL τ outs B') (hn : (outs.map (·.1)).filterMap (fun t => if (ins.map (·.1)).contains t then none else some (rho τ t)) = [])
    (hB : Apd B' B B2) (h : AO F ops k l ⟨(d, res') :: T, B2⟩) : AO F ops k (⟨some d, .call { callee := .value fx, args := xs, argTypes := ts }, ty, pos, after, none⟩ :: l) ⟨T, B⟩ :=
  AO.step (e := ⟨[(d, res')], B', []⟩) rfl (.call (call_multi τ hc ha hg hl hi ht hr ho hn)) (fun e he => by simp at he) (by rw [← hB.eq] at h; exact h)
theorem AR.callM {pos} {after} {fx : Operand} {xs : Array Operand} {ts : Array TypeId} {f : FuncId} {caps args asL : List AV} {ins outs : List (Nat × Ob)} {res res' : AV} {B' B2 : List (Nat × Ob)} (τ : List (Nat × Nat)) (hg : Good P f args ins res outs)
    (hc : (⟨T, B⟩ : St).val fx = .clo f caps) (ha : Wf (xs.toList.map (⟨T, B⟩ : St).val ++ caps) asL) (hl : LeL asL (args.map (AV.ren (rho τ))))
    (hi : Lent ⟨T, B⟩ (tagsAt ⟨T, B⟩ ⟨some d, .call { callee := .value fx, args := xs, argTypes := ts }, ty, pos, after, none⟩) τ ins) (ht : tagsB τ (ins.map (·.1)) (outs.map (·.1)) res.refs outs = true)
    (hr : Rn τ res res') (ho : RoL τ outs B') (hn : (outs.map (·.1)).filterMap (fun t => if (ins.map (·.1)).contains t then none else some (rho τ t)) = [])
    (htg : LE (tagsAt ⟨T, B⟩ ⟨some d, .call { callee := .value fx, args := xs, argTypes := ts }, ty, pos, after, none⟩) tg)
    (hB : Apd B' B B2) (h : AR F ops k l ⟨(d, res') :: T, B2⟩ (⟨tg, ⟨[(d, res')], B', []⟩⟩ :: acc)) : AR F ops k (⟨some d, .call { callee := .value fx, args := xs, argTypes := ts }, ty, pos, after, none⟩ :: l) ⟨T, B⟩ acc :=
  AR.st (e := ⟨[(d, res')], B', []⟩) rfl (.call (call_multi τ hc ha hg hl hi ht hr ho hn)) (fun e he => by simp at he) htg (by rw [← hB.eq] at h; exact h)
/-- What comes behind code that ends in several ways is walked once. -/
theorem AW.join {X : Code} {st : St} {k : List It} (E : St) (h : ∀ k' : List It, (∀ st' : St, StLe Tr st' E → AW F k' st') → AW F (.c X :: k') st) (hk : AW F k E) : AW F (.c X :: k) st :=
  h k fun st' hl => AW.less hl hk
theorem AW.joinB {X : Code} {id : Nat} {st : St} {k : List It} (E : St) (h : ∀ k' : List It, (∀ st' : St, StLe Tr st' E → AW F k' st') → AW F (.c X :: .b id :: k') st) (hk : AW F k E) : AW F (.c X :: .b id :: k) st :=
  h k fun st' hl => AW.less hl hk
end
end Go.Proofs.Ytmfonbehcfjjgaa.Mv

/- Pasting: laying kids, messages kept. Under no condition. -/
namespace Go.Proofs.Ytmfonbehcfjjgaa.Mv
open Go Go.Proofs
set_option linter.unusedSimpArgs false
set_option linter.unusedVariables false
set_option maxRecDepth 10000
set_option maxHeartbeats 4000000
attribute [local irreducible] AW AO AR

/-- A kid laid whose range begins so. -/
def putK (s : List L × List Ed) (lo : L) (e : Ed) : List L × List Ed := (if 0 < s.2.length then s.1 ++ [lo] else s.1, s.2 ++ [e])
theorem put1 {s : List L × List Ed} {lo e} (h : 0 < s.2.length) : putK s lo e = (s.1 ++ [lo], s.2 ++ [e]) := by rw [putK, if_pos h]
theorem put0 {s : List L × List Ed} {lo e} (h : ¬ 0 < s.2.length) : putK s lo e = (s.1, s.2 ++ [e]) := by rw [putK, if_neg h]
theorem gPut (s : List L × List Ed) (lo : L) (e : Ed) (h1 : s.1.length ≤ 1000000) (h2 : s.2.length ≤ 1000000) :
    Good Try.prog 47 [.ptr 1000000 0, .s lo, .agg e.av] [(1000000, .bx [.b false, .nil, .gr 1000001 9 1 (s.1.map sav), .gr 1000002 65 4 (s.2.map Ed.av), .nil]), (1000001, .gw (s.1.map sav).length), (1000002, .gw (s.2.map Ed.av).length)] (.tup [])
      [(1000000, .bx [.b false, .nil, .gr 1000001 9 1 ((putK s lo e).1.map sav), .gr 1000002 65 4 ((putK s lo e).2.map Ed.av), .nil]), (1000001, .gw ((putK s lo e).1.map sav).length), (1000002, .gw ((putK s lo e).2.map Ed.av).length)] := by
  have l1 : (s.1.map sav).length = s.1.length := by simp
  have l2 : (s.2.map Ed.av).length = s.2.length := by simp
  refine Good.wM tabOk mixed Try.func47 (N := 37) (by kernel_rfl) rfl (by (repeat (first | exact LE.nil | apply LE.cons)); done) (by (repeat (first | exact LE.nil | apply LE.cons)); done) (by exact rfl) fun D hD F => ?_
  repeat' (first
    | apply AO.nil
    | (apply AO.kBuildS; first | refine AO.sBuildT (h := ?_) | refine AO.sBuildS (h := ?_))
    | (apply AO.kApp; first | refine AO.sGrowT (h := ?_) | refine AO.sNewT (h := ?_) | refine AO.sGrowBT (h := ?_) | refine AO.sGrow (h := ?_) | refine AO.sNewr (h := ?_))
    | (apply AO.kBox; refine AO.sBox (h := ?_))
    | (apply AO.kStore; first | refine AO.sStore (h := ?_) | refine AO.sStB (h := ?_))
    | (apply AO.kP; first | refine AO.sP (h := ?_) | refine AO.sPi (h := ?_) | refine AO.sLoadB (h := ?_) | refine AO.sSameB (h := ?_))
    | apply AW.seq
    | (apply AW.kR; refine AW.sR (h := ?_))
    | apply AW.skip
    | apply AW.block
    | apply AW.out
    | (apply AW.kE; refine AW.sE (h := ?_))
    | apply AW.label
    | (apply AW.kRd; refine AW.sRd (h := ?_))
    | ((first | (apply AW.kC; refine AW.sC (h1 := fun h => ?_) (h2 := fun h => ?_))) <;> (try (first | exact Bool.noConfusion h | exact absurd h (by decide) | (simp at h; done) | (rw [h]; try simp only [nrm] at h; try rw [h]; try (exfalso; omega)) | skip)))
    | (apply AR.kAny; first | (apply AR.kBuildS; first | refine AR.sBuildT (h := ?_) | refine AR.sBuildS (h := ?_)) | (apply AR.kApp; first | refine AR.sGrowT (h := ?_) | refine AR.sNewT (h := ?_) | refine AR.sGrowBT (h := ?_) | refine AR.sGrow (h := ?_) | refine AR.sNewr (h := ?_)) | (apply AR.kBox; refine AR.sBox (h := ?_)) | (apply AR.kStore; refine AR.sStore (h := ?_)) | (apply AR.kP; first | refine AR.sP (h := ?_) | refine AR.sPi (h := ?_)))
    | (apply AR.kNil; refine AR.sNil (h := ?_)))
  · rw [put1 (lo := lo) (e := e) (by omega)] at hD
    exact AW.fin (hD rfl .refl (by ((repeat' (first | exact LeB.nil | apply LeB.cons | exact Ol.refl)) <;> (first | (refine Ol.eq (congrArg Ob.gw ?_); simp only [List.map_append, List.map_cons, List.map_nil, List.length_append, List.length_map, List.length_cons, List.length_nil]; done) | (refine Ol.bx ?_; (repeat' (first | exact LxL.nil | apply LxL.cons | exact Lx.refl | (refine Lx.eq (congrArg (AV.gr _ _ _) ?_); simp only [List.map_append, List.map_cons, List.map_nil]; rfl)))) | skip))))
  · rw [put0 (lo := lo) (e := e) (by omega)] at hD
    exact AW.fin (hD rfl .refl (by ((repeat' (first | exact LeB.nil | apply LeB.cons | exact Ol.refl)) <;> (first | (refine Ol.eq (congrArg Ob.gw ?_); simp only [List.map_append, List.map_cons, List.map_nil, List.length_append, List.length_map, List.length_cons, List.length_nil]; done) | (refine Ol.bx ?_; (repeat' (first | exact LxL.nil | apply LxL.cons | exact Lx.refl | (refine Lx.eq (congrArg (AV.gr _ _ _) ?_); simp only [List.map_append, List.map_cons, List.map_nil]; rfl)))) | skip))))
end Go.Proofs.Ytmfonbehcfjjgaa.Mv

/- Messages: of what they speak; trimmed. Under no condition. -/
namespace Go.Proofs.Ytmfonbehcfjjgaa.Mv
open Go Go.Proofs
set_option linter.unusedSimpArgs false
set_option linter.unusedVariables false
set_option maxRecDepth 10000
set_option maxHeartbeats 4000000
attribute [local irreducible] AW AO AR

/-- Of what a message speaks. -/
def abS (m : Ms) : L × L × Bool :=
  if m.kind = 1 then (m.key, m.key ++ [0], true) else if m.kind = 2 then (m.key, m.key ++ [0], true)
  else if m.kind = 3 then (m.key, succS m.key, succOk m.key) else ([], [], true)
theorem gAbout (m : Ms) (h : m.key.length ≤ 1000000) : Good Try.prog 44 [.agg m.av] [] (.agg [.s (abS m).1, .s (abS m).2.1, .b (abS m).2.2]) [] := by
  refine Good.w tabOk mixed Try.func44 (N := 20) (by kernel_rfl) rfl (by (repeat (first | exact LE.nil | apply LE.cons)); done) (by (repeat (first | exact LE.nil | apply LE.cons)); done) fun D hD F => ?_
  repeat' (first
    | apply AO.nil
    | (apply AO.kCall 95; refine AO.sCall (hg := (gNext _ sd)) (h := ?_))
    | (apply AO.kCall 96; refine AO.sCall (hg := (gOf _ sd)) (h := ?_))
    | (apply AO.kBox; refine AO.sBox (h := ?_))
    | (apply AO.kAlloc; refine AO.sAlloc (h := ?_))
    | (apply AO.kStore; first | refine AO.sStore (h := ?_) | refine AO.sStB (h := ?_))
    | (apply AO.kP; first | refine AO.sP (h := ?_) | refine AO.sPi (h := ?_) | refine AO.sLoadB (h := ?_))
    | apply AW.seq
    | (apply AW.kR; refine AW.sR (h := ?_))
    | apply AW.skip
    | apply AW.block
    | apply AW.out
    | (apply AW.kE; refine AW.sE (h := ?_))
    | apply AW.label
    | (apply AW.kRd; refine AW.sRd (h := ?_))
    | ((first | (apply AW.kC; refine AW.sC (h1 := fun h => ?_) (h2 := fun h => ?_))) <;> (try (first | exact Bool.noConfusion h | exact absurd h (by decide) | (simp at h; done) | (rw [h]; try simp only [nrm] at h; try rw [h]; try (exfalso; omega)) | skip)))
    | (apply AR.kAny; first | (apply AR.kCall 95; refine AR.sCall (hg := (gNext _ sd)) (h := ?_)) | (apply AR.kCall 96; refine AR.sCall (hg := (gOf _ sd)) (h := ?_)) | (apply AR.kBox; refine AR.sBox (h := ?_)) | (apply AR.kAlloc; refine AR.sAlloc (h := ?_)) | (apply AR.kStore; refine AR.sStore (h := ?_)) | (apply AR.kP; first | refine AR.sP (h := ?_) | refine AR.sPi (h := ?_)))
    | (apply AR.kNil; refine AR.sNil (h := ?_)))
  all_goals (refine AW.ret (hD rfl ?_); (repeat' (first | apply Lx.s | apply Lx.b | apply Lx.i | apply LxL.cons | exact LxL.nil | apply Lx.tup | apply Lx.agg | apply Lx.refl)) <;> (try with_reducible rfl))
  all_goals (simp only [k1, k2, k3] at *; simp_all [abS])
theorem gAbout' (m : Ms) (h : m.key.length ≤ 1000000) : Good Try.prog 51 [.agg m.av] [] (.agg [.s (abS m).1, .s (abS m).2.1, .b (abS m).2.2]) [] := by
  refine Good.w tabOk mixed Try.func51 (N := 24) (by kernel_rfl) rfl (by (repeat (first | exact LE.nil | apply LE.cons)); done) (by (repeat (first | exact LE.nil | apply LE.cons)); done) fun D hD F => ?_
  repeat' (first
    | apply AO.nil
    | (apply AO.kCall 99; refine AO.sCall (hg := (gOf' _ sd)) (h := ?_))
    | (apply AO.kBox; refine AO.sBox (h := ?_))
    | (apply AO.kAlloc; refine AO.sAlloc (h := ?_))
    | (apply AO.kStore; first | refine AO.sStore (h := ?_) | refine AO.sStB (h := ?_))
    | (apply AO.kAdd; refine AO.sAdd (h := ?_))
    | (apply AO.kP; first | refine AO.sP (h := ?_) | refine AO.sPi (h := ?_) | refine AO.sLoadB (h := ?_))
    | apply AW.seq
    | (apply AW.kR; refine AW.sR (h := ?_))
    | apply AW.skip
    | apply AW.block
    | apply AW.out
    | (apply AW.kE; refine AW.sE (h := ?_))
    | apply AW.label
    | ((first | (apply AO.kG; first | refine AO.sgt (h1 := fun h => ?_) (h2 := fun h => ?_) | refine AO.sgf (h1 := fun h => ?_) (h2 := fun h => ?_) | refine AO.sgs (h := ?_)) | (apply AW.kC; refine AW.sC (h1 := fun h => ?_) (h2 := fun h => ?_))) <;> (try (first | exact Bool.noConfusion h | exact absurd h (by decide) | (simp at h; done) | (rw [h]; try simp only [nrm] at h; try rw [h]; try (exfalso; omega)) | skip))))
  all_goals (refine AW.ret (hD rfl ?_); (repeat' (first | apply Lx.s | apply Lx.b | apply Lx.i | apply LxL.cons | exact LxL.nil | apply Lx.tup | apply Lx.agg | apply Lx.refl)) <;> (try with_reducible rfl))
  all_goals (simp only [k1, k2, k3] at *; simp_all [abS])
/-- A message with a beginning taken away. -/
def mvR (m : Ms) (a : L) : Ms × Bool :=
  if hp m.key a then (⟨m.kind, cutS m.key a, m.val, m.block, m.deep, m.add⟩, true)
  else if m.kind = 3 ∧ hp a m.key = true ∧ m.add.length + (cutS a m.key).length ≤ 16 then (⟨m.kind, [], m.val, m.block, m.deep, m.add ++ cutS a m.key⟩, true)
  else (m, false)
theorem mv1 {m : Ms} {a : L} (h : hp m.key a = true) : mvR m a = (⟨m.kind, cutS m.key a, m.val, m.block, m.deep, m.add⟩, true) := by rw [mvR, if_pos h]
theorem k3b {u : UInt8} (h : ((u.toNat : Int) != 3) = false) : u = 3 := by
  rw [bne_eq_false_iff_eq, k3] at h; exact h
theorem k3c {u : UInt8} (h : ((u.toNat : Int) != 3) = true) : u ≠ 3 := by
  rw [bne_iff_ne] at h; exact fun e => h (by rw [e]; rfl)
theorem mv2 {m : Ms} {a : L} (h : hp m.key a = false) (h3 : m.kind = 3) (h4 : hp a m.key = true) (h5 : (m.add.length : Int) + ((cutS a m.key).length : Int) ≤ 16) : mvR m a = (⟨m.kind, [], m.val, m.block, m.deep, m.add ++ cutS a m.key⟩, true) := by
  rw [mvR, if_neg (by rw [h]; decide), if_pos ⟨h3, h4, by omega⟩]
theorem mv3 {m : Ms} {a : L} (h : hp m.key a = false) (h3 : ¬ (m.kind = 3 ∧ hp a m.key = true ∧ m.add.length + (cutS a m.key).length ≤ 16)) : mvR m a = (m, false) := by
  rw [mvR, if_neg (by rw [h]; decide), if_neg h3]
/-! ### messages trimmed -/
theorem filt_yes {α : Type} [Inhabited α] {l : List α} {p : α → Bool} {n : Nat} (h : n < l.length) (hp : p (l.getD n default) = true) : (l.take (n + 1)).filter p = (l.take n).filter p ++ [l.getD n default] := by
  rw [takeD h, List.filter_append]; rw [List.filter_cons_of_pos hp, List.filter_nil]
theorem filt_no {α : Type} [Inhabited α] {l : List α} {p : α → Bool} {n : Nat} (h : n < l.length) (hp : p (l.getD n default) = false) : (l.take (n + 1)).filter p = (l.take n).filter p := by
  rw [takeD h, List.filter_append, List.filter_cons_of_neg (by rw [hp]; decide), List.filter_nil, List.append_nil]
/-- Nothing of a range is in another one. -/
def emC (x r : L × L × Bool) : Bool := emR (cS x.1 x.2.1 x.2.2 r.1 r.2.1 r.2.2).1 (cS x.1 x.2.1 x.2.2 r.1 r.2.1 r.2.2).2.1 (cS x.1 x.2.1 x.2.2 r.1 r.2.1 r.2.2).2.2
def msKeep (r : L × L × Bool) (m : Ms) : Bool := !emC (abS m) r
def trMsR (l : List Ms) (r : L × L × Bool) (a : L) : List Ms := (l.filter (msKeep r)).map fun m => (mvR m a).1
def trMsOk (l : List Ms) (r : L × L × Bool) (a : L) : Bool := (l.filter (msKeep r)).all fun m => (mvR m a).2
theorem trMsR_len (l : List Ms) (r : L × L × Bool) (a : L) : (trMsR l r a).length ≤ l.length := by
  rw [trMsR, List.length_map]; exact List.length_filter_le _ _
def msSm (m : Ms) : Bool := decide (m.key.length ≤ 1000000) && decide (m.add.length ≤ 1000000)
theorem sm_at {l : List Ms} (h : l.all msSm = true) {q : Nat} (hq : q < l.length) : (l.getD q default).key.length ≤ 1000000 ∧ (l.getD q default).add.length ≤ 1000000 := by
  have := List.all_eq_true.1 h (l.getD q default) (by rw [List.getD_eq_getElem?_getD, List.getElem?_eq_getElem hq]; exact List.getElem_mem hq)
  simp only [msSm, Bool.and_eq_true, decide_eq_true_eq] at this; exact this
end Go.Proofs.Ytmfonbehcfjjgaa.Mv

/- Messages trimmed, by the document. Under no condition. -/
namespace Go.Proofs.Ytmfonbehcfjjgaa.Mv
open Go Go.Proofs
set_option linter.unusedSimpArgs false
set_option linter.unusedVariables false
set_option maxRecDepth 10000
set_option maxHeartbeats 4000000
attribute [local irreducible] AW AO AR

theorem cutS_hp {k p : L} (h : hp k p = true) : cutS k p = k.drop p.length := by rw [cutS, if_pos h]
theorem trMs_bad {l : List Ms} {r : L × L × Bool} {a : L} {q : Nat} (hq : q < l.length) (g : msKeep r (l.getD q default) = true) (h : (mvR (l.getD q default) a).2 = false) : trMsOk l r a = false := by
  refine List.all_eq_false.2 ⟨l.getD q default, ?_, by rw [h]; decide⟩
  rw [List.mem_filter]; refine ⟨?_, g⟩
  rw [List.getD_eq_getElem?_getD, List.getElem?_eq_getElem hq]; exact List.getElem_mem hq
end Go.Proofs.Ytmfonbehcfjjgaa.Mv

/- A node trimmed: walks of the code. Under no condition. -/
namespace Go.Proofs.Ytmfonbehcfjjgaa.Mv
open Go Go.Proofs
set_option linter.unusedSimpArgs false
set_option linter.unusedVariables false
set_option maxRecDepth 10000
set_option maxHeartbeats 4000000
attribute [local irreducible] AW AO AR

/-! ### a leaf -/
def prKeep (r : L × L × Bool) (p : Pr) : Bool := inR r.1 r.2.1 r.2.2 p.k
def prCut (a : L) (p : Pr) : Pr := ⟨cutS p.k a, p.v⟩
def trPr (l : List Pr) (r : L × L × Bool) (a : L) : List Pr := (l.filter (prKeep r)).map (prCut a)
theorem trPr_len (l : List Pr) (r : L × L × Bool) (a : L) : (trPr l r a).length ≤ l.length := by
  rw [trPr, List.length_map]; exact List.length_filter_le _ _
/-! ### kids -/
def kidOk (n : Nd) (a : L) (i : Nat) : Bool :=
  joinOk [] a (n.kids.getD i default).strip (n.kids.getD i default).add && (decide ((joinS [] a (n.kids.getD i default).strip (n.kids.getD i default).add).length ≤ 16) && decide ((joinA [] a (n.kids.getD i default).strip (n.kids.getD i default).add).length ≤ 16))
def trKid (n : Nd) (a : L) (i : Nat) : Ed := ⟨(n.kids.getD i default).block, (n.kids.getD i default).deep, joinS [] a (n.kids.getD i default).strip (n.kids.getD i default).add, joinA [] a (n.kids.getD i default).strip (n.kids.getD i default).add⟩
def kRun (n : Nd) (r : L × L × Bool) (a : L) : Nat → Nat → List L → List Ed → (List L × List Ed) × Bool
  | 0, _, ps, ks => ((ps, ks), true)
  | u + 1, q, ps, ks =>
    if emC (rgN n q) r = true then kRun n r a u (q + 1) ps ks
    else if kidOk n a q = false then ((ps, ks), false)
    else kRun n r a u (q + 1) (if 0 < ks.length then ps ++ [cutS (rgN n q).1 a] else ps) (ks ++ [trKid n a q])
theorem kRun_skip {n : Nd} {r : L × L × Bool} {a : L} {q : Nat} {ps : List L} {ks : List Ed} (hq : q < n.kids.length) (h : emC (rgN n q) r = true) : kRun n r a (n.kids.length - q) q ps ks = kRun n r a (n.kids.length - (q + 1)) (q + 1) ps ks := by
  rw [show n.kids.length - q = (n.kids.length - (q + 1)) + 1 by omega, kRun, if_pos h]
theorem kRun_bad {n : Nd} {r : L × L × Bool} {a : L} {q : Nat} {ps : List L} {ks : List Ed} (hq : q < n.kids.length) (h : emC (rgN n q) r = false) (h2 : kidOk n a q = false) : kRun n r a (n.kids.length - q) q ps ks = ((ps, ks), false) := by
  rw [show n.kids.length - q = (n.kids.length - (q + 1)) + 1 by omega, kRun, if_neg (by rw [h]; decide), if_pos h2]
theorem kRun_more {n : Nd} {r : L × L × Bool} {a : L} {q : Nat} {ps : List L} {ks : List Ed} (hq : q < n.kids.length) (h : emC (rgN n q) r = false) (h2 : kidOk n a q = true) : kRun n r a (n.kids.length - q) q ps ks = kRun n r a (n.kids.length - (q + 1)) (q + 1) (if 0 < ks.length then ps ++ [cutS (rgN n q).1 a] else ps) (ks ++ [trKid n a q]) := by
  rw [show n.kids.length - q = (n.kids.length - (q + 1)) + 1 by omega, kRun, if_neg (by rw [h]; decide), if_neg (by rw [h2]; decide)]
/-! ### the whole -/
def ndZ : Nd := ⟨false, [], [], [], []⟩
def trE (n : Nd) (r : L × L × Bool) (a : L) : Nat :=
  if mayN n ≠ 0 then 3 else if (emR r.1 r.2.1 r.2.2 || !hp (undS r.1 r.2.1 r.2.2) a) = true then 1 else if n.leaf = true then 0
  else if (kRun n r a n.kids.length 0 [] []).2 = false then 1 else if trMsOk n.buf r a = false then 1 else 0
def trN (n : Nd) (r : L × L × Bool) (a : L) : Nd :=
  if trE n r a ≠ 0 then ndZ else if n.leaf = true then ⟨true, trPr n.pairs r a, [], [], []⟩
  else ⟨false, [], (kRun n r a n.kids.length 0 [] []).1.1, (kRun n r a n.kids.length 0 [] []).1.2, trMsR n.buf r a⟩
/-- Texts that a machine can hold. -/
structure Nd.strs (n : Nd) : Prop where
  kids : ∀ i, i < n.kids.length → (n.kids.getD i default).strip.length ≤ 1000000 ∧ (n.kids.getD i default).add.length ≤ 1000000
  buf : n.buf.all msSm = true
theorem tr3 {n r a} (h : mayN n ≠ 0) : trE n r a = 3 ∧ trN n r a = ndZ := by
  have e : trE n r a = 3 := by rw [trE, if_pos h]
  exact ⟨e, by rw [trN, e, if_pos (by decide)]⟩
theorem tr1 {n : Nd} {r a} (h : mayN n = 0) (h2 : (emR r.1 r.2.1 r.2.2 || !hp (undS r.1 r.2.1 r.2.2) a) = true) : trE n r a = 1 ∧ trN n r a = ndZ := by
  have e : trE n r a = 1 := by rw [trE, if_neg (by omega), if_pos h2]
  exact ⟨e, by rw [trN, e, if_pos (by decide)]⟩
theorem trL {n : Nd} {r a} (h : mayN n = 0) (h2 : (emR r.1 r.2.1 r.2.2 || !hp (undS r.1 r.2.1 r.2.2) a) = false) (h3 : n.leaf = true) : trE n r a = 0 ∧ trN n r a = ⟨true, trPr n.pairs r a, [], [], []⟩ := by
  have e : trE n r a = 0 := by rw [trE, if_neg (by omega), if_neg (by rw [h2]; decide), if_pos h3]
  exact ⟨e, by rw [trN, e, if_neg (by decide), if_pos h3]⟩
theorem trK1 {n : Nd} {r a} (h : mayN n = 0) (h2 : (emR r.1 r.2.1 r.2.2 || !hp (undS r.1 r.2.1 r.2.2) a) = false) (h3 : n.leaf = false) (h4 : (kRun n r a n.kids.length 0 [] []).2 = false) : trE n r a = 1 ∧ trN n r a = ndZ := by
  have e : trE n r a = 1 := by rw [trE, if_neg (by omega), if_neg (by rw [h2]; decide), if_neg (by rw [h3]; decide), if_pos h4]
  exact ⟨e, by rw [trN, e, if_pos (by decide)]⟩
theorem trK2 {n : Nd} {r a} (h : mayN n = 0) (h2 : (emR r.1 r.2.1 r.2.2 || !hp (undS r.1 r.2.1 r.2.2) a) = false) (h3 : n.leaf = false) (h4 : (kRun n r a n.kids.length 0 [] []).2 = true) (h5 : trMsOk n.buf r a = false) : trE n r a = 1 ∧ trN n r a = ndZ := by
  have e : trE n r a = 1 := by rw [trE, if_neg (by omega), if_neg (by rw [h2]; decide), if_neg (by rw [h3]; decide), if_neg (by rw [h4]; decide), if_pos h5]
  exact ⟨e, by rw [trN, e, if_pos (by decide)]⟩
theorem trK3 {n : Nd} {r a} (h : mayN n = 0) (h2 : (emR r.1 r.2.1 r.2.2 || !hp (undS r.1 r.2.1 r.2.2) a) = false) (h3 : n.leaf = false) (h4 : (kRun n r a n.kids.length 0 [] []).2 = true) (h5 : trMsOk n.buf r a = true) : trE n r a = 0 ∧ trN n r a = ⟨false, [], (kRun n r a n.kids.length 0 [] []).1.1, (kRun n r a n.kids.length 0 [] []).1.2, trMsR n.buf r a⟩ := by
  have e : trE n r a = 0 := by rw [trE, if_neg (by omega), if_neg (by rw [h2]; decide), if_neg (by rw [h3]; decide), if_neg (by rw [h4]; decide), if_neg (by rw [h5]; decide)]
  exact ⟨e, by rw [trN, e, if_neg (by decide), if_neg (by rw [h3]; decide)]⟩
end Go.Proofs.Ytmfonbehcfjjgaa.Mv

/- A node trimmed by the document. Under no condition. -/
namespace Go.Proofs.Ytmfonbehcfjjgaa.Mv
open Go Go.Proofs
set_option linter.unusedSimpArgs false
set_option linter.unusedVariables false
set_option maxRecDepth 10000
set_option maxHeartbeats 4000000
attribute [local irreducible] AW AO AR

theorem lt_of_le_lt {a b c : L} (h1 : lt b a = false) (h2 : lt b c = true) : lt a c = true := by
  rcases lt_total a b with h | h | h
  · exact lt_trans h h2
  · subst h; exact h2
  · rw [h] at h1; cases h1
/-- A range stands in that of a beginning just if all its keys begin so. -/
theorem ins_und {lo hi : L} {e : Bool} {a : L} (h : emR lo hi e = false) : insS lo hi e a (succS a) (succOk a) = hp (undS lo hi e) a := by
  rw [Bool.eq_iff_iff]
  constructor
  · intro q
    simp only [insS, h, Bool.false_or, Bool.and_eq_true, Bool.or_eq_true, Bool.not_eq_true'] at q
    obtain ⟨q1, q2⟩ := q
    have q3 : hp lo a = true := by
      cases q4 : hp lo a with
      | true => rfl
      | false =>
        obtain ⟨q5, q6⟩ := (succ_facts a lo).2.1 q1 q4
        rcases q2 with q2 | q2
        · rw [q5] at q2; cases q2
        · have q7 := le_trans' q2.2 q6
          simp only [emR, q2.1, Bool.true_and, Bool.not_eq_false'] at h
          rw [h] at q7; cases q7
    have w : wiS lo hi e a = true := by
      simp only [wiS, q3, Bool.true_and, Bool.or_eq_true, Bool.not_eq_true', Bool.and_eq_true]
      exact q2
    have l := hp_len q3
    have t := hp_iff.1 q3
    have u : undS lo hi e = lo.take (undN lo hi e lo.length) := by simp [undS, h]
    obtain ⟨w1, w2⟩ := undN_spec lo hi e lo.length
    have le : a.length ≤ undN lo hi e lo.length := by
      cases Nat.lt_or_ge (undN lo hi e lo.length) a.length with
      | inl g =>
        have := w2 _ g l
        rw [t, w] at this; cases this
      | inr g => exact g
    rw [u, hp_iff, List.take_take, Nat.min_eq_left le, t]
  · intro q
    have all : ∀ k, inR lo hi e k = true → hp k a = true := fun k hk => hp_trans ((und_facts lo hi e k).2.2.1 hk) q
    have q3 := all lo (in_lo h)
    obtain ⟨s1, s2⟩ := (succ_facts a lo).1 q3
    simp only [insS, h, Bool.false_or, Bool.and_eq_true, Bool.or_eq_true, Bool.not_eq_true']
    refine ⟨s1, ?_⟩
    cases ok : succOk a with
    | false => exact .inl rfl
    | true =>
      right
      have bad : inR lo hi e (succS a) = false := by
        cases g : inR lo hi e (succS a) with
        | false => rfl
        | true =>
          have g2 := ((succ_facts a (succS a)).1 (all _ g)).2 ok
          rw [lt_irrefl] at g2; cases g2
      have s3 := lt_asymm (s2 ok)
      simp only [inR, s3, Bool.not_false, Bool.true_and, Bool.or_eq_false_iff, Bool.not_eq_false'] at bad
      exact ⟨bad.1, bad.2⟩
theorem emC_in {x r : L × L × Bool} (h : emC x r = false) : ∃ k, inR x.1 x.2.1 x.2.2 k = true ∧ inR r.1 r.2.1 r.2.2 k = true := by
  obtain ⟨l1, h1, e1⟩ := x
  obtain ⟨l2, h2, e2⟩ := r
  simp only [emC] at h
  have hc : cutEm l1 h1 e1 l2 h2 e2 = false := by
    cases g : cutEm l1 h1 e1 l2 h2 e2 with
    | false => rfl
    | true => simp [cS, g, emR, lt_irrefl] at h
  refine ⟨mxS l1 l2, ?_⟩
  have := in_lo (lo := mxS l1 l2) (hi := cutHi l1 h1 e1 l2 h2 e2) (e := e1 || e2) hc
  rw [cut_in, Bool.and_eq_true] at this
  exact this
theorem le_rise {ks : List L} (h : rise ks = true) {i j : Nat} (hij : i ≤ j) (hj : j < ks.length) : lt (ks.getD j default) (ks.getD i default) = false := by
  by_cases e : i = j
  · subst e; exact lt_irrefl _
  · exact lt_asymm (rise_lt h j (by omega) hj)
/-- The beginning of a kid's range that is not the first in a range stands in it. -/
theorem piv_in {n : Nd} {r : L × L × Bool} (hl : n.pivots.length + 1 = n.kids.length) (hr : rise n.pivots = true) {j q : Nat} (hjq : j < q) (hq : q < n.kids.length) (h1 : emC (rgN n j) r = false) (h2 : emC (rgN n q) r = false) : inR r.1 r.2.1 r.2.2 (rgN n q).1 = true := by
  obtain ⟨k1, a1, b1⟩ := emC_in h1
  obtain ⟨k2, a2, b2⟩ := emC_in h2
  have e1 : (rgN n j).2.1 = n.pivots.getD j default ∧ (rgN n j).2.2 = true := by
    unfold rgN; rw [if_neg (by omega)]
    simp only
    rw [if_pos (by omega), show ((j : Nat) : Int).toNat = j by omega]
    exact ⟨rfl, decide_eq_true (by omega)⟩
  have e2 : (rgN n q).1 = n.pivots.getD (q - 1) default := by
    unfold rgN; rw [if_neg (by omega)]
    simp only
    rw [if_pos (by omega), show (((q : Nat) : Int) - 1).toNat = q - 1 by omega]
  have f1 : lt k1 (n.pivots.getD j default) = true := by
    simp only [inR, e1.1, e1.2, Bool.and_eq_true, Bool.not_true, Bool.false_or] at a1; exact a1.2
  have f2 := lt_of_lt_le f1 (le_rise hr (show j ≤ q - 1 by omega) (by omega))
  rw [← e2] at f2
  simp only [inR, Bool.and_eq_true, Bool.not_eq_true', Bool.or_eq_true] at a2 b1 b2 ⊢
  refine ⟨lt_asymm (lt_of_le_lt b1.1 f2), ?_⟩
  rcases b2.2 with b | b
  · exact .inl b
  · exact .inr (lt_of_le_lt a2.1 b)
end Go.Proofs.Ytmfonbehcfjjgaa.Mv

/- The document's example of trimming; the statement of Shifts. Under no condition. -/
namespace Go.Proofs.Ytmfonbehcfjjgaa.Mv
open Go Go.Proofs
set_option linter.unusedSimpArgs false
set_option linter.unusedVariables false
set_option maxRecDepth 10000
set_option maxHeartbeats 4000000
attribute [local irreducible] AW AO AR

theorem Good.le {P : Program} {f : FuncId} {args args' : List AV} {res : AV} {outs : List (Nat × Ob)} (h : Good P f args [] res outs) (hl : LeL args' args) : Good P f args' [] res outs :=
  ⟨h.fn, fun w Γ m vals gok hv hobs hinj => h.calls w Γ m vals gok (hl.rep hv) hobs hinj⟩
def nT : Nd := ⟨true, [⟨[97, 98], []⟩, ⟨[97, 99], []⟩, ⟨[98], []⟩], [], [], []⟩
def nT2 : Nd := ⟨true, [⟨[98], []⟩, ⟨[99], []⟩], [], [], []⟩
theorem nTs : nT.small := ⟨by decide, by decide, by decide, by decide⟩
theorem nT2s : nT2.small := ⟨by decide, by decide, by decide, by decide⟩
theorem nTx : nT.strs := ⟨fun i hi => by simp [nT] at hi, rfl⟩
theorem nTn : trN nT ([97], succS [97], succOk [97]) [97] = nT2 := by decide +kernel
theorem nTe : trE nT ([97], succS [97], succOk [97]) [97] = 0 := by decide +kernel
theorem gSameA : Good Try.prog 18 [.agg nT2.av, .agg [.b true, .gr 21 87 2 [[.s [98], .s []], [.s [99], .s []]], .nil, .nil, .nil]] [] (.b true) [] := by
  have h := gSame' nT2 nT2 nT2s nT2s
  rw [decide_eq_true rfl] at h
  exact h.le (.cons (.refl _) (.cons (.aggL (.cons (.refl _) (.cons .gr (.cons .nil (.cons .nil (.cons .nil .nil)))))) .nil))
/-! ### the statement of Shifts */ -/
theorem shift_law (s2 a2 a k : L) (h : joinOk [] a s2 a2 = true) : upS (joinS [] a s2 a2) (joinA [] a s2 a2) k = upS s2 a2 (a ++ k) ∧ hp k (joinS [] a s2 a2) = hp (a ++ k) s2 := by
  have q := (join_law [] a s2 a2 k).2 h
  have u : upS [] a k = a ++ k := by simp [upS, hp_nil]
  rw [u, hp_nil, Bool.true_and, if_pos rfl] at q
  exact ⟨q.2, q.1⟩
end Go.Proofs.Ytmfonbehcfjjgaa.Mv

/- What is trimmed may be. Plain. -/
namespace Go.Proofs.Ytmfonbehcfjjgaa.Mv
open Go Go.Proofs
set_option linter.unusedSimpArgs false
set_option linter.unusedVariables false
set_option maxRecDepth 10000
set_option maxHeartbeats 4000000

theorem rise_pw : ∀ {ks : List L}, rise ks = true ↔ ks.Pairwise (fun x y => lt x y = true)
  | [] => by simp [rise]
  | [a] => by simp [rise]
  | a :: b :: r => by
    rw [rise_cons, Bool.and_eq_true, rise_pw (ks := b :: r)]
    constructor
    · rintro ⟨h1, h2⟩
      refine List.pairwise_cons.2 ⟨fun x hx => ?_, h2⟩
      rcases List.mem_cons.1 hx with rfl | hx
      · exact h1
      · exact lt_trans h1 ((List.pairwise_cons.1 h2).1 x hx)
    · intro h
      obtain ⟨h1, h2⟩ := List.pairwise_cons.1 h
      exact ⟨h1 b (by simp), h2⟩
theorem lt_cut {x y a : L} (hx : hp x a = true) (hy : hp y a = true) : lt (cutS x a) (cutS y a) = lt x y := by
  obtain ⟨s, rfl⟩ := hp_pre.1 hx
  obtain ⟨t, rfl⟩ := hp_pre.1 hy
  rw [cutS_hp hx, cutS_hp hy, List.drop_left', List.drop_left', lt_app] <;> rfl
theorem in_em {lo hi : L} {e : Bool} {k : L} (h : inR lo hi e k = true) : emR lo hi e = false := by
  simp only [inR, Bool.and_eq_true, Bool.not_eq_true', Bool.or_eq_true] at h
  rcases h.2 with g | g
  · rw [emR, g]; rfl
  · rw [emR, lt_of_le_lt h.1 g]; simp
theorem emC_some {x r : L × L × Bool} {k : L} (h1 : inR x.1 x.2.1 x.2.2 k = true) (h2 : inR r.1 r.2.1 r.2.2 k = true) : emC x r = false := by
  refine in_em (k := k) ?_
  rw [cS_in, h1, h2]; rfl
/-! ### a leaf -/
theorem leaf_parts {n : Nd} (h : leafOk n = true) : rise (n.pairs.map Pr.k) = true ∧ n.pairs.all prLen = true := by
  simp only [leafOk, Bool.and_eq_true] at h
  exact ⟨h.1.2, h.2⟩
theorem trPr_rise {l : List Pr} {r : L × L × Bool} {a : L} (hr : rise (l.map Pr.k) = true) (hu : hp (undS r.1 r.2.1 r.2.2) a = true) : rise ((trPr l r a).map Pr.k) = true := by
  rw [rise_pw, List.pairwise_map] at hr
  rw [rise_pw, trPr, List.pairwise_map, List.pairwise_map]
  have h := hr.filter (prKeep r)
  refine List.Pairwise.imp_of_mem ?_ h
  intro x y hx hy hxy
  have kx := (List.mem_filter.1 hx).2
  have ky := (List.mem_filter.1 hy).2
  have px := hp_trans ((und_facts _ _ _ _).2.2.1 kx) hu
  have py := hp_trans ((und_facts _ _ _ _).2.2.1 ky) hu
  show lt (cutS x.k a) (cutS y.k a) = true
  rw [lt_cut px py]; exact hxy
theorem trPr_all {l : List Pr} {r : L × L × Bool} {a : L} (h : l.all prLen = true) : (trPr l r a).all prLen = true := by
  rw [List.all_eq_true] at h ⊢
  intro x hx
  obtain ⟨y, hy, rfl⟩ := List.mem_map.1 hx
  have q := h y (List.mem_filter.1 hy).1
  have := cutS_len y.k a
  simp only [prLen, Bool.and_eq_true, decide_eq_true_eq] at q
  show (decide ((cutS y.k a).length ≤ 16) && decide (y.v.length ≤ 32)) = true
  rw [Bool.and_eq_true, decide_eq_true_eq, decide_eq_true_eq]; exact ⟨by omega, q.2⟩
/-! ### messages -/
theorem mv_may {m : Ms} {a : L} (h : msMay m = true) (h2 : (mvR m a).2 = true) : msMay (mvR m a).1 = true := by
  unfold mvR at h2 ⊢
  by_cases c : hp m.key a = true
  · rw [if_pos c]
    have l := cutS_len m.key a
    simp only [msMay, Bool.and_eq_true, decide_eq_true_eq] at h ⊢
    exact ⟨by omega, h.2⟩
  · rw [if_neg c] at h2 ⊢
    by_cases d : m.kind = 3 ∧ hp a m.key = true ∧ m.add.length + (cutS a m.key).length ≤ 16
    · rw [if_pos d]
      simp only [msMay, Bool.and_eq_true, decide_eq_true_eq] at h ⊢
      refine ⟨by simp, ?_⟩
      have h3 := h.2
      rw [d.1] at h3 ⊢
      simp only [show ¬ ((3 : UInt8) = 1) by decide, show ¬ ((3 : UInt8) = 2) by decide, if_false, if_true, Bool.and_eq_true, decide_eq_true_eq] at h3 ⊢
      exact ⟨⟨by rw [List.length_append]; exact d.2.2, h3.1.2⟩, h3.2⟩
    · rw [if_neg d] at h2; cases h2
theorem trMs_may {l : List Ms} {r : L × L × Bool} {a : L} (h : l.all msMay = true) (h2 : trMsOk l r a = true) : (trMsR l r a).all msMay = true := by
  rw [trMsOk, List.all_eq_true] at h2
  rw [List.all_eq_true] at h ⊢
  intro x hx
  obtain ⟨y, hy, rfl⟩ := List.mem_map.1 hx
  exact mv_may (h y (List.mem_filter.1 hy).1) (h2 y hy)
/-! ### kids -/
theorem rg_lo {n : Nd} {q : Nat} (h0 : 0 < q) (hl : n.pivots.length + 1 = n.kids.length) (hq : q < n.kids.length) : (rgN n q).1 = n.pivots.getD (q - 1) default := by
  unfold rgN; rw [if_neg (by omega)]
  simp only
  rw [if_pos (by omega), show (((q : Nat) : Int) - 1).toNat = q - 1 by omega]
theorem rg_hi {n : Nd} {j : Nat} (hl : n.pivots.length + 1 = n.kids.length) (hj : j < n.pivots.length) : (rgN n j).2.1 = n.pivots.getD j default ∧ (rgN n j).2.2 = true := by
  unfold rgN; rw [if_neg (by omega)]
  simp only
  rw [if_pos (by omega), show ((j : Nat) : Int).toNat = j by omega]
  exact ⟨rfl, decide_eq_true (by omega)⟩
/-- What holds of a node's kids while they are trimmed. -/
structure KI (n : Nd) (r : L × L × Bool) (a : L) (q : Nat) (ps : List L) (ks : List Ed) : Prop where
  len : (ks = [] ∧ ps = []) ∨ ps.length + 1 = ks.length
  most : ks.length ≤ q
  ok : ks.all edOk = true
  piv : ∀ p ∈ ps, p ≠ [] ∧ p.length ≤ 16 ∧ ∃ i, 0 < i ∧ i < q ∧ p = cutS (rgN n i).1 a ∧ hp (rgN n i).1 a = true
  up : ps.Pairwise (fun x y => lt x y = true)
  some : ks ≠ [] → ∃ j, j < q ∧ emC (rgN n j) r = false
  none : ks = [] → ∀ j, j < q → emC (rgN n j) r = true
theorem KI.start (n : Nd) (r : L × L × Bool) (a : L) : KI n r a 0 [] [] :=
  ⟨.inl ⟨rfl, rfl⟩, by simp, rfl, fun p hp => by simp at hp, List.Pairwise.nil, fun h => absurd rfl h, fun _ j hj => by omega⟩
theorem KI.skip {n : Nd} {r : L × L × Bool} {a : L} {q : Nat} {ps : List L} {ks : List Ed} (h : KI n r a q ps ks) (hq : emC (rgN n q) r = true) : KI n r a (q + 1) ps ks :=
  ⟨h.len, by have := h.most; omega, h.ok, fun p hp => by obtain ⟨a1, a2, i, b1, b2, b3⟩ := h.piv p hp; exact ⟨a1, a2, i, b1, by omega, b3⟩, h.up, fun g => by obtain ⟨j, j1, j2⟩ := h.some g; exact ⟨j, by omega, j2⟩, fun g j hj => by
    by_cases e : j = q
    · subst e; exact hq
    · exact h.none g j (by omega)⟩
theorem kid_edOk {n : Nd} {a : L} {q : Nat} (hq : q < n.kids.length) (hk : n.kids.all edOk = true) (h : kidOk n a q = true) : edOk (trKid n a q) = true := by
  have g := List.all_eq_true.1 hk (n.kids.getD q default) (by rw [List.getD_eq_getElem?_getD, List.getElem?_eq_getElem hq]; exact List.getElem_mem hq)
  simp only [kidOk, Bool.and_eq_true] at h
  simp only [edOk, Bool.and_eq_true] at g ⊢
  exact ⟨⟨g.1.1, h.2.1⟩, h.2.2⟩
theorem KI.more {n : Nd} {r : L × L × Bool} {a : L} {q : Nat} {ps : List L} {ks : List Ed} (hi : innerOk n = true) (hu : hp (undS r.1 r.2.1 r.2.2) a = true) (h : KI n r a q ps ks) (hq : q < n.kids.length) (he : emC (rgN n q) r = false) (hk : kidOk n a q = true) :
    KI n r a (q + 1) (if 0 < ks.length then ps ++ [cutS (rgN n q).1 a] else ps) (ks ++ [trKid n a q]) := by
  obtain ⟨pl, pr, _⟩ := inner_len hi
  have hi2 := hi
  simp only [innerOk, Bool.and_eq_true] at hi2
  have kok := hi2.1.1.2
  have p16 := hi2.1.2.2
  have ok2 : (ks ++ [trKid n a q]).all edOk = true := by
    rw [List.all_append, h.ok, List.all_cons, kid_edOk hq kok hk]; rfl
  have most2 : (ks ++ [trKid n a q]).length ≤ q + 1 := by
    have := h.most; simp; omega
  by_cases c : 0 < ks.length
  · rw [if_pos c]
    have hne : ks ≠ [] := fun e => by rw [e] at c; simp at c
    obtain ⟨j, j1, j2⟩ := h.some hne
    have hin := piv_in pl pr j1 hq j2 he
    have hpre : hp (rgN n q).1 a = true := hp_trans ((und_facts _ _ _ _).2.2.1 hin) hu
    have lo := rg_lo (n := n) (q := q) (by omega) pl hq
    refine ⟨.inr ?_, most2, ok2, ?_, ?_, fun _ => ⟨q, by omega, he⟩, fun e => by simp at e⟩
    · rcases h.len with ⟨e, _⟩ | e
      · exact absurd e hne
      · simp; omega
    · intro p hp'
      rcases List.mem_append.1 hp' with g | g
      · obtain ⟨a1, a2, i, b1, b2, b3⟩ := h.piv p g; exact ⟨a1, a2, i, b1, by omega, b3⟩
      · obtain rfl : p = cutS (rgN n q).1 a := by simpa using g
        refine ⟨?_, ?_, q, by omega, by omega, rfl, hpre⟩
        · intro e
          obtain ⟨k, k1, k2⟩ := emC_in j2
          have kp : hp k a = true := hp_trans ((und_facts _ _ _ _).2.2.1 k2) hu
          have hj := rg_hi (n := n) pl (show j < n.pivots.length by omega)
          have f1 : lt k (n.pivots.getD j default) = true := by
            simp only [inR, hj.1, hj.2, Bool.and_eq_true, Bool.not_true, Bool.false_or] at k1; exact k1.2
          have f2 := lt_of_lt_le f1 (le_rise pr (show j ≤ q - 1 by omega) (by omega))
          rw [← lo, ← lt_cut kp hpre, e, lt_nil] at f2
          cases f2
        · have := cutS_len (rgN n q).1 a
          have g16 := List.all_eq_true.1 p16 (n.pivots.getD (q - 1) default) (by rw [List.getD_eq_getElem?_getD, List.getElem?_eq_getElem (show q - 1 < n.pivots.length by omega)]; exact List.getElem_mem _)
          rw [← lo, decide_eq_true_eq] at g16
          omega
    · rw [List.pairwise_append]
      refine ⟨h.up, by simp, fun x hx y hy => ?_⟩
      obtain rfl : y = cutS (rgN n q).1 a := by simpa using hy
      obtain ⟨_, _, i, i0, iq, rfl, ip⟩ := h.piv x hx
      rw [lt_cut ip hpre, lo, rg_lo i0 pl (by omega)]
      exact rise_lt pr _ (by omega) (by omega)
  · rw [if_neg c]
    have e : ks = [] := List.eq_nil_of_length_eq_zero (by omega)
    have e2 : ps = [] := by
      rcases h.len with ⟨_, g⟩ | g
      · exact g
      · rw [e] at g; simp at g
    subst e; subst e2
    exact ⟨.inr rfl, most2, ok2, fun p hp' => by simp at hp', List.Pairwise.nil, fun _ => ⟨q, by omega, he⟩, fun e => by simp at e⟩
theorem KI.run {n : Nd} {r : L × L × Bool} {a : L} (hi : innerOk n = true) (hu : hp (undS r.1 r.2.1 r.2.2) a = true) : ∀ (u q : Nat) (ps : List L) (ks : List Ed), q + u = n.kids.length → KI n r a q ps ks → (kRun n r a u q ps ks).2 = true → KI n r a n.kids.length (kRun n r a u q ps ks).1.1 (kRun n r a u q ps ks).1.2
  | 0, q, ps, ks, hq, h, _ => by
    obtain rfl : q = n.kids.length := by omega
    exact h
  | u + 1, q, ps, ks, hq, h, hok => by
    rw [kRun] at hok ⊢
    by_cases c : emC (rgN n q) r = true
    · rw [if_pos c] at hok ⊢
      exact KI.run hi hu u (q + 1) _ _ (by omega) (h.skip c) hok
    · rw [if_neg c] at hok ⊢
      by_cases d : kidOk n a q = false
      · rw [if_pos d] at hok; cases hok
      · rw [if_neg d] at hok ⊢
        exact KI.run hi hu u (q + 1) _ _ (by omega) (h.more hi hu (by omega) (by simpa using c) (by simpa using d)) hok
/-- What is trimmed may be. -/
theorem tr_may {n : Nd} {r : L × L × Bool} {a : L} (h : trE n r a = 0) : mayN (trN n r a) = 0 := by
  by_cases h0 : mayN n = 0
  · cases g : (emR r.1 r.2.1 r.2.2 || !hp (undS r.1 r.2.1 r.2.2) a) with
    | true => rw [(tr1 h0 g).1] at h; cases h
    | false =>
      have g' := g
      simp only [Bool.or_eq_false_iff, Bool.not_eq_false'] at g'
      obtain ⟨g1, hu⟩ := g'
      cases hl : n.leaf with
      | true =>
        rw [(trL h0 g hl).2]
        obtain ⟨p1, p2⟩ := leaf_parts (may_leaf h0 hl)
        have m16 : n.pairs.length ≤ 16 := by
          unfold mayN at h0; split at h0
          · cases h0
          · omega
        have l16 := trPr_len n.pairs r a
        unfold mayN
        rw [if_neg (by simp only [List.length_nil]; omega)]
        simp only [if_true]
        rw [if_pos]
        simp only [leafOk, List.isEmpty_nil, Bool.true_and, Bool.and_eq_true]
        exact ⟨trPr_rise p1 hu, trPr_all p2⟩
      | false =>
        obtain ⟨hi, k8, b16⟩ := may_inner h0 hl
        cases h4 : (kRun n r a n.kids.length 0 [] []).2 with
        | false => rw [(trK1 h0 g hl h4).1] at h; cases h
        | true =>
          cases h5 : trMsOk n.buf r a with
          | false => rw [(trK2 h0 g hl h4 h5).1] at h; cases h
          | true =>
            rw [(trK3 h0 g hl h4 h5).2]
            have K := KI.run hi hu _ 0 [] [] (by omega) (KI.start n r a) h4
            generalize (kRun n r a n.kids.length 0 [] []).1.1 = ps at *
            generalize (kRun n r a n.kids.length 0 [] []).1.2 = ks at *
            obtain ⟨pl, pr, _⟩ := inner_len hi
            have hne : ks ≠ [] := fun e => by
              obtain ⟨e1, e2⟩ := kid_at (n := n) (k := r.1) pl pr
              have hb : bs (kidF n r.1) 0 n.pivots.length < n.kids.length := by omega
              have i1 := kid_in (n := n) (k := r.1) pl pr hb
              rw [e1, beq_self_eq_true] at i1
              have := K.none e _ hb
              rw [emC_some i1 (in_lo g1)] at this
              cases this
            have hlen : ps.length + 1 = ks.length := by
              rcases K.len with ⟨e, _⟩ | e
              · exact absurd e hne
              · exact e
            have hml := trMsR_len n.buf r a
            have hkm := K.most
            unfold mayN
            rw [if_neg (by simp only [List.length_nil]; omega)]
            simp only [Bool.false_eq_true, if_false]
            rw [if_pos]
            have i2 := hi
            simp only [innerOk, Bool.and_eq_true] at i2
            simp only [innerOk, List.isEmpty_nil, Bool.true_and, Bool.and_eq_true, decide_eq_true_eq, Bool.not_eq_true', List.isEmpty_eq_false_iff]
            refine ⟨⟨⟨⟨hne, hlen⟩, K.ok⟩, ?_, ?_⟩, trMs_may i2.2 h5⟩
            · rw [rise_pw, List.pairwise_cons]
              refine ⟨fun p hp' => ?_, K.up⟩
              have := (K.piv p hp').1
              rw [lt_nil_iff]; simpa using this
            · rw [List.all_eq_true]; intro p hp'
              exact decide_eq_true (K.piv p hp').2.1
  · rw [(tr3 h0).1] at h; cases h
end Go.Proofs.Ytmfonbehcfjjgaa.Mv

/- The statement of trimmed parts. Under no condition. -/
namespace Go.Proofs.Ytmfonbehcfjjgaa.Mv
open Go Go.Proofs
set_option linter.unusedSimpArgs false
set_option linter.unusedVariables false
set_option maxRecDepth 10000
set_option maxHeartbeats 4000000
attribute [local irreducible] AW AO AR

theorem may_small {n : Nd} (h : mayN n = 0) : n.small := by
  have h' := h
  unfold mayN at h'
  split at h'
  · cases h'
  · rename_i c
    rcases (by cases n.leaf <;> simp : n.leaf = true ∨ n.leaf = false) with hl | hl
    · obtain ⟨e1, e2, e3⟩ := leaf_len (may_leaf h hl)
      exact ⟨by omega, by rw [e1]; simp, by omega, by omega⟩
    · obtain ⟨e1, _, _⟩ := inner_len (may_inner h hl).1
      exact ⟨by omega, by omega, by omega, by omega⟩
theorem zero_small : ndZ.small := ⟨by decide, by decide, by decide, by decide⟩
theorem trN_bad {n : Nd} {r : L × L × Bool} {a : L} (h : trE n r a ≠ 0) : trN n r a = ndZ := by rw [trN, if_pos h]
theorem trN_small (n : Nd) (r : L × L × Bool) (a : L) : (trN n r a).small := by
  by_cases h : trE n r a = 0
  · exact may_small (tr_may h)
  · rw [trN_bad h]; exact zero_small
theorem great_strs {n : Nd} (h : great n = false) : n.strs := by
  simp only [great, greatM, Bool.or_eq_false_iff, Bool.not_eq_false'] at h
  obtain ⟨⟨⟨⟨⟨_, _⟩, _⟩, _, h4⟩, _⟩, h6⟩ := h
  refine ⟨fun i hi => ?_, ?_⟩
  · have := List.all_eq_true.1 h6 (n.kids.getD i default) (by rw [List.getD_eq_getElem?_getD, List.getElem?_eq_getElem hi]; exact List.getElem_mem hi)
    simp only [edG, Bool.and_eq_true, Bool.not_eq_true', decide_eq_false_iff_not] at this
    omega
  · rw [List.all_eq_true] at h4 ⊢
    intro x hx
    have := h4 x hx
    simp only [msG, Bool.and_eq_true, Bool.not_eq_true', decide_eq_false_iff_not] at this
    simp only [msSm, Bool.and_eq_true, decide_eq_true_eq]
    omega
end Go.Proofs.Ytmfonbehcfjjgaa.Mv

/- Nodes: where a key leads, by the document. Under no condition. -/
namespace Go.Proofs.Ytmfonbehcfjjgaa.Mv
open Go Go.Proofs
set_option linter.unusedSimpArgs false
set_option linter.unusedVariables false
set_option maxRecDepth 10000
set_option maxHeartbeats 4000000
attribute [local irreducible] AW AO AR

def getP : List Pr → L → Option L
  | [], _ => none
  | p :: l, k => if p.k = k then some p.v else getP l k
theorem gGet (l : List Pr) (k : L) (hl : l.length ≤ 1000000) : Good Try.prog 103 [.sh 2 (l.map Pr.av), .s k] [] (.tup [.s ((getP l k).getD []), .b (getP l k).isSome]) [] := by
  have ll : (l.map Pr.av).length = l.length := by simp
  refine Good.w tabOk mixed Try.func103 (N := 25) (by kernel_rfl) rfl (by (repeat (first | exact LE.nil | apply LE.cons)); done) (by (repeat (first | exact LE.nil | apply LE.cons)); done) fun D hD F => ?_
  repeat' (first
    | apply AO.nil
    | (apply AO.kIx; first | refine AO.sIxN (h := ?_) | refine AO.sIx (h := ?_) | refine AO.sP (h := ?_) | refine AO.sPi (h := ?_))
    | (apply AO.kAdd; refine AO.sAdd (h := ?_))
    | (apply AO.kP; first | refine AO.sP (h := ?_) | refine AO.sPi (h := ?_) | refine AO.sLoadB (h := ?_))
    | apply AW.seq
    | (apply AW.kR; refine AW.sR (h := ?_))
    | apply AW.skip
    | apply AW.block
    | apply AW.out
    | (apply AW.kE; refine AW.sE (h := ?_))
    | apply AW.label
    | ((first | (apply AW.kC; refine AW.sC (h1 := fun h => ?_) (h2 := fun h => ?_))) <;> (try (first | exact Bool.noConfusion h | exact absurd h (by decide) | (simp at h; done) | (rw [h]; try simp only [nrm] at h; try rw [h]; try (exfalso; omega)) | skip))))
  refine AW.loopI (fun q : Nat => q ≤ l.length ∧ getP (l.drop q) k = getP l k) (fun q => ⟨[(0, .sh 2 (l.map Pr.av)), (1, .s k), (8, .i .i64 l.length), (9, .i .i64 q)], []⟩) (fun q => l.length - q) 0 ⟨by simp, by simp⟩ (by (constructor <;> (repeat' (first | exact LeT.nil | exact LeB.nil | apply LeT.cons | apply LeB.cons | exact Ol.refl | apply Lx.s | apply Lx.b | apply Lx.i | exact Lx.refl)) <;> (first | rfl | assumption | omega | (simp only [List.length_map, BS_len]; done) | skip))) fun m q ⟨hn, hc⟩ ih => ?_
  repeat' (first
    | apply AO.nil
    | (apply AO.kIx; first | refine AO.sIxN (h := ?_) | refine AO.sIx (h := ?_) | refine AO.sP (h := ?_) | refine AO.sPi (h := ?_))
    | (apply AO.kAdd; refine AO.sAdd (h := ?_))
    | (apply AO.kP; first | refine AO.sP (h := ?_) | refine AO.sPi (h := ?_) | refine AO.sLoadB (h := ?_))
    | apply AW.seq
    | (apply AW.kR; refine AW.sR (h := ?_))
    | apply AW.skip
    | apply AW.block
    | apply AW.out
    | (apply AW.kE; refine AW.sE (h := ?_))
    | apply AW.label
    | ((first | (apply AW.kC; refine AW.sC (h1 := fun h => ?_) (h2 := fun h => ?_))) <;> (try (first | exact Bool.noConfusion h | exact absurd h (by decide) | (simp at h; done) | (rw [h]; try simp only [nrm] at h; try rw [h]; try (exfalso; omega)) | skip))))
  · have hq : q < l.length := by omega
    rw [dropD hq, getP, if_pos h] at hc
    rw [← hc] at hD
    exact AW.ret (hD rfl .refl)
  · have hq : q < l.length := by omega
    rw [dropD hq, getP, if_neg h] at hc
    exact ih (q + 1) _ ⟨by omega, hc⟩ (by omega) (by (constructor <;> (repeat' (first | exact LeT.nil | exact LeB.nil | apply LeT.cons | apply LeB.cons | exact Ol.refl | apply Lx.s | apply Lx.b | apply Lx.i | exact Lx.refl)) <;> (first | rfl | assumption | omega | (simp only [List.length_map, BS_len]; done) | skip)))
  · rw [List.drop_of_length_le (by omega), getP] at hc
    rw [← hc] at hD
    exact AW.ret (hD rfl .refl)
/-- Does a message speak of a key? -/
def spk (m : Ms) (k : L) : Bool := if m.kind = 3 then hp k m.key else (m.kind == 1 || m.kind == 2) && k == m.key
theorem gSpeaks' (m : Ms) (k : L) : Good Try.prog 126 [.agg m.av, .s k] [] (.b (spk m k)) [] := by
  refine Good.w tabOk mixed Try.func126 (N := 26) (by kernel_rfl) rfl (by (repeat (first | exact LE.nil | apply LE.cons)); done) (by (repeat (first | exact LE.nil | apply LE.cons)); done) fun D hD F => ?_
  repeat' (first
    | apply AO.nil
    | (apply AO.kCall 132; refine AO.sCall (hg := (gHas' _ _)) (h := ?_))
    | (apply AO.kBox; refine AO.sBox (h := ?_))
    | (apply AO.kP; first | refine AO.sP (h := ?_) | refine AO.sPi (h := ?_) | refine AO.sLoadB (h := ?_))
    | apply AW.seq
    | (apply AW.kR; refine AW.sR (h := ?_))
    | apply AW.skip
    | apply AW.block
    | apply AW.out
    | (apply AW.kE; refine AW.sE (h := ?_))
    | apply AW.label
    | ((first | (apply AO.kG; first | refine AO.sgt (h1 := fun h => ?_) (h2 := fun h => ?_) | refine AO.sgf (h1 := fun h => ?_) (h2 := fun h => ?_) | refine AO.sgs (h := ?_)) | (apply AW.kC; refine AW.sC (h1 := fun h => ?_) (h2 := fun h => ?_))) <;> (try (first | exact Bool.noConfusion h | exact absurd h (by decide) | (simp at h; done) | (rw [h]; try simp only [nrm] at h; try rw [h]; try (exfalso; omega)) | skip))))
  all_goals (refine AW.ret (hD rfl ?_); (repeat' (first | apply Lx.s | apply Lx.b | apply Lx.i | apply LxL.cons | exact LxL.nil | apply Lx.tup | apply Lx.agg | apply Lx.refl)) <;> (try with_reducible rfl))
  all_goals (simp only [k1, k2, k3] at *; simp_all [spk])
/-- The last message that speaks of a key. -/
def lastI (l : List Ms) (k : L) : Nat → Int
  | 0 => -1
  | q + 1 => if spk (l.getD q default) k = true then (q : Int) else lastI l k q
theorem lastI_lt (l : List Ms) (k : L) : ∀ q, -1 ≤ lastI l k q ∧ lastI l k q < q
  | 0 => by simp [lastI]
  | q + 1 => by
    have := lastI_lt l k q
    rw [lastI]; split <;> omega
theorem gLast' (l : List Ms) (k : L) (hl : l.length ≤ 1000000) : Good Try.prog 104 [.sh 6 (l.map Ms.av), .s k] [] (.i .i64 (lastI l k l.length)) [] := by
  have ll : (l.map Ms.av).length = l.length := by simp
  refine Good.w tabOk mixed Try.func104 (N := 21) (by kernel_rfl) rfl (by (repeat (first | exact LE.nil | apply LE.cons)); done) (by (repeat (first | exact LE.nil | apply LE.cons)); done) fun D hD F => ?_
  repeat' (first
    | apply AO.nil
    | (apply AO.kIx; first | refine AO.sIxN (h := ?_) | refine AO.sIx (h := ?_) | refine AO.sP (h := ?_) | refine AO.sPi (h := ?_))
    | (apply AO.kAdd; refine AO.sAdd (h := ?_))
    | (apply AO.kP; first | refine AO.sP (h := ?_) | refine AO.sPi (h := ?_) | refine AO.sLoadB (h := ?_))
    | apply AW.seq
    | (apply AW.kR; refine AW.sR (h := ?_))
    | apply AW.skip
    | apply AW.block
    | apply AW.out
    | (apply AW.kE; refine AW.sE (h := ?_))
    | apply AW.label
    | ((first | (apply AW.kC; refine AW.sC (h1 := fun h => ?_) (h2 := fun h => ?_))) <;> (try (first | exact Bool.noConfusion h | exact absurd h (by decide) | (simp at h; done) | (rw [h]; try simp only [nrm] at h; try rw [h]; try (exfalso; omega)) | skip))))
  refine AW.loopI (fun q : Nat => q ≤ l.length) (fun q => ⟨[(0, .sh 6 (l.map Ms.av)), (1, .s k), (5, .i .i64 (lastI l k q)), (8, .i .i64 l.length), (9, .i .i64 q)], []⟩) (fun q => l.length - q) 0 (by simp) (by (constructor <;> (repeat' (first | exact LeT.nil | exact LeB.nil | apply LeT.cons | apply LeB.cons | exact Ol.refl | apply Lx.s | apply Lx.b | apply Lx.i | exact Lx.refl)) <;> (first | rfl | assumption | omega | (simp only [List.length_map, BS_len]; done) | skip))) fun m q hn ih => ?_
  repeat' (first
    | apply AO.nil
    | (apply AO.kCall 126; refine AO.sCall (hg := (gSpeaks' _ _)) (h := ?_))
    | (apply AO.kIx; first | refine AO.sIxN (h := ?_) | refine AO.sIx (h := ?_) | refine AO.sP (h := ?_) | refine AO.sPi (h := ?_))
    | (apply AO.kAdd; refine AO.sAdd (h := ?_))
    | (apply AO.kP; first | refine AO.sP (h := ?_) | refine AO.sPi (h := ?_) | refine AO.sLoadB (h := ?_))
    | apply AW.seq
    | (apply AW.kR; refine AW.sR (h := ?_))
    | apply AW.skip
    | apply AW.block
    | apply AW.out
    | (apply AW.kE; refine AW.sE (h := ?_))
    | apply AW.label
    | ((first | (apply AW.kC; refine AW.sC (h1 := fun h => ?_) (h2 := fun h => ?_))) <;> (try (first | exact Bool.noConfusion h | exact absurd h (by decide) | (simp at h; done) | (rw [h]; try simp only [nrm] at h; try rw [h]; try (exfalso; omega)) | skip))))
  · have e : lastI l k (q + 1) = (q : Int) := by rw [lastI, if_pos h]
    exact ih (q + 1) _ (by omega) (by omega) (by rw [e]; (constructor <;> (repeat' (first | exact LeT.nil | exact LeB.nil | apply LeT.cons | apply LeB.cons | exact Ol.refl | apply Lx.s | apply Lx.b | apply Lx.i | exact Lx.refl)) <;> (first | rfl | assumption | omega | (simp only [List.length_map, BS_len]; done) | skip)))
  · have e : lastI l k (q + 1) = lastI l k q := by rw [lastI, if_neg (by rw [h]; decide)]
    exact ih (q + 1) _ (by omega) (by omega) (by rw [e]; (constructor <;> (repeat' (first | exact LeT.nil | exact LeB.nil | apply LeT.cons | apply LeB.cons | exact Ol.refl | apply Lx.s | apply Lx.b | apply Lx.i | exact Lx.refl)) <;> (first | rfl | assumption | omega | (simp only [List.length_map, BS_len]; done) | skip)))
  all_goals (obtain rfl : q = l.length := by omega)
  all_goals exact AW.ret (hD rfl .refl)
def onW (b : B32) (d : W16) (s a k : L) : Wy := if hp k s = true then ⟨2, [], b, d, upS s a k⟩ else wayZ
theorem gOn' (b : B32) (d : W16) (s a k : L) (h1 : a.length + k.length ≤ 137438953472) : Good Try.prog 106 [.i .u32 b.toNat, .i .u16 d.toNat, .agg [.s s, .s a], .s k] [] (.agg (onW b d s a k).av) [] := by
  refine Good.w tabOk mixed Try.func106 (N := 24) (by kernel_rfl) rfl (by (repeat (first | exact LE.nil | apply LE.cons)); done) (by (repeat (first | exact LE.nil | apply LE.cons)); done) fun D hD F => ?_
  repeat' (first
    | apply AO.nil
    | (apply AO.kCall 127; refine AO.sCall (hg := (gUp' _ _ _ h1)) (h := ?_))
    | (apply AO.kBox; refine AO.sBox (h := ?_))
    | (apply AO.kAlloc; refine AO.sAlloc (h := ?_))
    | (apply AO.kStore; first | refine AO.sStore (h := ?_) | refine AO.sStB (h := ?_))
    | (apply AO.kP; first | refine AO.sP (h := ?_) | refine AO.sPi (h := ?_) | refine AO.sLoadB (h := ?_))
    | apply AW.seq
    | (apply AW.kR; refine AW.sR (h := ?_))
    | apply AW.skip
    | apply AW.block
    | apply AW.out
    | (apply AW.kE; refine AW.sE (h := ?_))
    | apply AW.label
    | ((first | (apply AW.kC; refine AW.sC (h1 := fun h => ?_) (h2 := fun h => ?_))) <;> (try (first | exact Bool.noConfusion h | exact absurd h (by decide) | (simp at h; done) | (rw [h]; try simp only [nrm] at h; try rw [h]; try (exfalso; omega)) | skip))))
  · rw [onW, if_neg (by rw [h]; decide)] at hD
    exact AW.ret (hD rfl .refl)
  · rw [onW, if_pos h] at hD
    exact AW.ret (hD rfl .refl)
/-- Where a key leads. -/
def leadN (n : Nd) (k : L) : Wy :=
  if n.leaf = true then (match getP n.pairs k with | some v => wayV v | none => wayZ)
  else if lastI n.buf k n.buf.length < 0 then
    onW (n.kids.getD (kidL n k n.kids.length).toNat default).block (n.kids.getD (kidL n k n.kids.length).toNat default).deep (n.kids.getD (kidL n k n.kids.length).toNat default).strip (n.kids.getD (kidL n k n.kids.length).toNat default).add k
  else if (n.buf.getD (lastI n.buf k n.buf.length).toNat default).kind = 1 then wayV (n.buf.getD (lastI n.buf k n.buf.length).toNat default).val
  else if (n.buf.getD (lastI n.buf k n.buf.length).toNat default).kind = 3 then
    onW (n.buf.getD (lastI n.buf k n.buf.length).toNat default).block (n.buf.getD (lastI n.buf k n.buf.length).toNat default).deep (n.buf.getD (lastI n.buf k n.buf.length).toNat default).key (n.buf.getD (lastI n.buf k n.buf.length).toNat default).add k
  else wayZ
theorem gLeadT (pairs : List Pr) (pivots : List L) (kids : List Ed) (buf : List Ms) (k : L) (hs : (⟨true, pairs, pivots, kids, buf⟩ : Nd).small) : Good Try.prog 62 [.agg (Nd.av ⟨true, pairs, pivots, kids, buf⟩), .s k] [] (.agg (leadN ⟨true, pairs, pivots, kids, buf⟩ k).av) [] := by
  have hs1 : pairs.length ≤ 1000000 := hs.pairs
  refine Good.w tabOk mixed Try.func62 (N := 70) (by kernel_rfl) rfl (by (repeat (first | exact LE.nil | apply LE.cons)); done) (by (repeat (first | exact LE.nil | apply LE.cons)); done) fun D hD F => ?_
  repeat' (first
    | apply AO.nil
    | (apply AO.kCall 103; refine AO.sCall (hg := (gGet _ _ hs1)) (h := ?_))
    | (apply AO.kIx; first | refine AO.sIxN (h := ?_) | refine AO.sIx (h := ?_) | refine AO.sP (h := ?_) | refine AO.sPi (h := ?_))
    | (apply AO.kBox; refine AO.sBox (h := ?_))
    | (apply AO.kAlloc; refine AO.sAlloc (h := ?_))
    | (apply AO.kStore; first | refine AO.sStore (h := ?_) | refine AO.sStB (h := ?_))
    | (apply AO.kP; first | refine AO.sP (h := ?_) | refine AO.sPi (h := ?_) | refine AO.sLoadB (h := ?_))
    | apply AW.seq
    | (apply AW.kR; refine AW.sR (h := ?_))
    | apply AW.skip
    | apply AW.block
    | apply AW.out
    | (apply AW.kE; refine AW.sE (h := ?_))
    | apply AW.label
    | (apply AW.kRd; refine AW.sRd (h := ?_))
    | ((first | (apply AW.kC; refine AW.sC (h1 := fun h => ?_) (h2 := fun h => ?_))) <;> (try (first | exact Bool.noConfusion h | exact absurd h (by decide) | (simp at h; done) | (rw [h]; try simp only [nrm] at h; try rw [h]; try (exfalso; omega)) | skip)))
    | (apply AR.kAny; first | (apply AR.kCall 103; refine AR.sCall (hg := (gGet _ _ hs1)) (h := ?_)) | (apply AR.kIx; first | refine AR.sIxN (h := ?_) | refine AR.sIx (h := ?_) | refine AR.sP (h := ?_) | refine AR.sPi (h := ?_)) | (apply AR.kBox; refine AR.sBox (h := ?_)) | (apply AR.kAlloc; refine AR.sAlloc (h := ?_)) | (apply AR.kStore; refine AR.sStore (h := ?_)) | (apply AR.kP; first | refine AR.sP (h := ?_) | refine AR.sPi (h := ?_)))
    | (apply AR.kNil; refine AR.sNil (h := ?_)))
  · have e : leadN ⟨true, pairs, pivots, kids, buf⟩ k = wayV ((getP pairs k).getD []) := by
      cases g : getP pairs k with
      | none => rw [g] at h; cases h
      | some v => simp [leadN, g]
    rw [e] at hD
    exact AW.ret (hD rfl .refl)
  · have e : leadN ⟨true, pairs, pivots, kids, buf⟩ k = wayZ := by
      cases g : getP pairs k with
      | some v => rw [g] at h; cases h
      | none => simp [leadN, g]
    rw [e] at hD
    exact AW.ret (hD rfl .refl)
theorem leadF1 {pairs : List Pr} {pivots : List L} {kids : List Ed} {buf : List Ms} {k : L} (h : lastI buf k buf.length < 0) : leadN ⟨false, pairs, pivots, kids, buf⟩ k = onW (kids.getD (kidL ⟨false, pairs, pivots, kids, buf⟩ k kids.length).toNat default).block (kids.getD (kidL ⟨false, pairs, pivots, kids, buf⟩ k kids.length).toNat default).deep (kids.getD (kidL ⟨false, pairs, pivots, kids, buf⟩ k kids.length).toNat default).strip (kids.getD (kidL ⟨false, pairs, pivots, kids, buf⟩ k kids.length).toNat default).add k := by
  unfold leadN; rw [if_neg Bool.false_ne_true, if_pos h]
theorem leadF2 {pairs : List Pr} {pivots : List L} {kids : List Ed} {buf : List Ms} {k : L} (h : 0 ≤ lastI buf k buf.length) (h1 : (buf.getD (lastI buf k buf.length).toNat default).kind = 1) : leadN ⟨false, pairs, pivots, kids, buf⟩ k = wayV (buf.getD (lastI buf k buf.length).toNat default).val := by
  unfold leadN; rw [if_neg Bool.false_ne_true, if_neg (by show ¬ lastI buf k buf.length < 0; omega), if_pos h1]
theorem leadF3 {pairs : List Pr} {pivots : List L} {kids : List Ed} {buf : List Ms} {k : L} (h : 0 ≤ lastI buf k buf.length) (h1 : ¬ (buf.getD (lastI buf k buf.length).toNat default).kind = 1) (h3 : (buf.getD (lastI buf k buf.length).toNat default).kind = 3) : leadN ⟨false, pairs, pivots, kids, buf⟩ k = onW (buf.getD (lastI buf k buf.length).toNat default).block (buf.getD (lastI buf k buf.length).toNat default).deep (buf.getD (lastI buf k buf.length).toNat default).key (buf.getD (lastI buf k buf.length).toNat default).add k := by
  unfold leadN; rw [if_neg Bool.false_ne_true, if_neg (by show ¬ lastI buf k buf.length < 0; omega), if_neg h1, if_pos h3]
theorem leadF4 {pairs : List Pr} {pivots : List L} {kids : List Ed} {buf : List Ms} {k : L} (h : 0 ≤ lastI buf k buf.length) (h1 : ¬ (buf.getD (lastI buf k buf.length).toNat default).kind = 1) (h3 : ¬ (buf.getD (lastI buf k buf.length).toNat default).kind = 3) : leadN ⟨false, pairs, pivots, kids, buf⟩ k = wayZ := by
  unfold leadN; rw [if_neg Bool.false_ne_true, if_neg (by show ¬ lastI buf k buf.length < 0; omega), if_neg h1, if_neg h3]
theorem sm_any {l : List Ms} (h : l.all msSm = true) (i : Nat) : (l.getD i default).key.length ≤ 1000000 ∧ (l.getD i default).add.length ≤ 1000000 := by
  by_cases hi : i < l.length
  · exact sm_at h hi
  · rw [List.getD_eq_getElem?_getD, List.getElem?_eq_none (by omega)]; decide
theorem gLeadF (pairs : List Pr) (pivots : List L) (kids : List Ed) (buf : List Ms) (k : L) (hs : (⟨false, pairs, pivots, kids, buf⟩ : Nd).small) (hx : (⟨false, pairs, pivots, kids, buf⟩ : Nd).strs) (hk : k.length ≤ 1000000)
    (hr : 0 ≤ kidL ⟨false, pairs, pivots, kids, buf⟩ k kids.length ∧ kidL ⟨false, pairs, pivots, kids, buf⟩ k kids.length < kids.length) : Good Try.prog 62 [.agg (Nd.av ⟨false, pairs, pivots, kids, buf⟩), .s k] [] (.agg (leadN ⟨false, pairs, pivots, kids, buf⟩ k).av) [] := by
  have hs3 : kids.length ≤ 1000000 := hs.kids
  have hs4 : buf.length ≤ 1000000 := hs.buf
  have l3 : (kids.map Ed.av).length = kids.length := by simp
  have l4 : (buf.map Ms.av).length = buf.length := by simp
  obtain ⟨i1, i2⟩ := lastI_lt buf k buf.length
  have sk := hx.kids (kidL ⟨false, pairs, pivots, kids, buf⟩ k kids.length).toNat (by show _ < kids.length; omega)
  have u1 : (kids.getD (kidL ⟨false, pairs, pivots, kids, buf⟩ k kids.length).toNat default).add.length + k.length ≤ 137438953472 := by have := sk.2; dsimp only at this; omega
  have u2 : (buf.getD (lastI buf k buf.length).toNat default).add.length + k.length ≤ 137438953472 := by have := (sm_any hx.buf (lastI buf k buf.length).toNat).2; dsimp only at this; omega
  refine Good.w tabOk mixed Try.func62 (N := 70) (by kernel_rfl) rfl (by (repeat (first | exact LE.nil | apply LE.cons)); done) (by (repeat (first | exact LE.nil | apply LE.cons)); done) fun D hD F => ?_
  repeat' (first
    | apply AO.nil
    | (apply AO.kCall 104; refine AO.sCall (hg := (gLast' _ _ hs4)) (h := ?_))
    | (apply AO.kCall 105; refine AO.sCall (hg := (gKid' ⟨false, pairs, pivots, kids, buf⟩ k hs)) (h := ?_))
    | (apply AO.kIx; first | refine AO.sIxN (hm := by first | decide | omega | assumption | (simp only [List.length_map]; omega) | (refine ⟨?_, ?_⟩ <;> (simp only [List.length_map]; omega))) (h := ?_) | refine AO.sIx (hm := by first | decide | omega | assumption | (simp only [List.length_map]; omega) | (refine ⟨?_, ?_⟩ <;> (simp only [List.length_map]; omega))) (h := ?_) | refine AO.sP (h := ?_) | refine AO.sPi (hq := by first | decide | omega | assumption | (simp only [List.length_map]; omega) | (refine ⟨?_, ?_⟩ <;> (simp only [List.length_map]; omega))) (h := ?_))
    | (apply AO.kBox; refine AO.sBox (h := ?_))
    | (apply AO.kAlloc; refine AO.sAlloc (h := ?_))
    | (apply AO.kStore; first | refine AO.sStore (h := ?_) | refine AO.sStB (ho := by first | decide | omega | assumption | (simp only [List.length_map]; omega) | (refine ⟨?_, ?_⟩ <;> (simp only [List.length_map]; omega))) (h := ?_))
    | (apply AO.kP; first | refine AO.sP (h := ?_) | refine AO.sPi (hq := by first | decide | omega | assumption | (simp only [List.length_map]; omega) | (refine ⟨?_, ?_⟩ <;> (simp only [List.length_map]; omega))) (h := ?_) | refine AO.sLoadB (ho := by first | decide | omega | assumption | (simp only [List.length_map]; omega) | (refine ⟨?_, ?_⟩ <;> (simp only [List.length_map]; omega))) (h := ?_))
    | apply AW.seq
    | (apply AW.kR; refine AW.sR (h := ?_))
    | apply AW.skip
    | apply AW.block
    | apply AW.out
    | (apply AW.kE; refine AW.sE (h := ?_))
    | apply AW.label
    | (apply AW.kRd; refine AW.sRd (h := ?_))
    | ((first | (apply AW.kC; refine AW.sC (h1 := fun h => ?_) (h2 := fun h => ?_))) <;> (try (first | exact Bool.noConfusion h | exact absurd h (by decide) | (simp at h; done) | (rw [h]; try simp only [nrm] at h; try rw [h]; try (exfalso; omega)) | skip)))
    | (apply AR.kAny; first | (apply AR.kCall 104; refine AR.sCall (hg := (gLast' _ _ hs4)) (h := ?_)) | (apply AR.kCall 105; refine AR.sCall (hg := (gKid' ⟨false, pairs, pivots, kids, buf⟩ k hs)) (h := ?_)) | (apply AR.kIx; first | refine AR.sIxN (hm := by first | decide | omega | assumption | (simp only [List.length_map]; omega) | (refine ⟨?_, ?_⟩ <;> (simp only [List.length_map]; omega))) (h := ?_) | refine AR.sIx (hm := by first | decide | omega | assumption | (simp only [List.length_map]; omega) | (refine ⟨?_, ?_⟩ <;> (simp only [List.length_map]; omega))) (h := ?_) | refine AR.sP (h := ?_) | refine AR.sPi (hq := by first | decide | omega | assumption | (simp only [List.length_map]; omega) | (refine ⟨?_, ?_⟩ <;> (simp only [List.length_map]; omega))) (h := ?_)) | (apply AR.kBox; refine AR.sBox (h := ?_)) | (apply AR.kAlloc; refine AR.sAlloc (h := ?_)) | (apply AR.kStore; refine AR.sStore (h := ?_)) | (apply AR.kP; first | refine AR.sP (h := ?_) | refine AR.sPi (hq := by first | decide | omega | assumption | (simp only [List.length_map]; omega) | (refine ⟨?_, ?_⟩ <;> (simp only [List.length_map]; omega))) (h := ?_)))
    | (apply AR.kNil; refine AR.sNil (h := ?_)))
  · repeat' (first
    | apply AO.nil
    | (apply AO.kCall 106; refine AO.sCall (hg := (gOn' (kids.getD (kidL ⟨false, pairs, pivots, kids, buf⟩ k kids.length).toNat default).block (kids.getD (kidL ⟨false, pairs, pivots, kids, buf⟩ k kids.length).toNat default).deep (kids.getD (kidL ⟨false, pairs, pivots, kids, buf⟩ k kids.length).toNat default).strip (kids.getD (kidL ⟨false, pairs, pivots, kids, buf⟩ k kids.length).toNat default).add k u1)) (h := ?_))
    | (apply AO.kIx; first | refine AO.sIxN (h := ?_) | refine AO.sIx (h := ?_) | refine AO.sP (h := ?_) | refine AO.sPi (h := ?_))
    | (apply AO.kBox; refine AO.sBox (h := ?_))
    | (apply AO.kAlloc; refine AO.sAlloc (h := ?_))
    | (apply AO.kStore; first | refine AO.sStore (h := ?_) | refine AO.sStB (h := ?_))
    | (apply AO.kP; first | refine AO.sP (h := ?_) | refine AO.sPi (h := ?_) | refine AO.sLoadB (h := ?_))
    | apply AW.seq
    | (apply AW.kR; refine AW.sR (h := ?_))
    | apply AW.skip
    | apply AW.block
    | apply AW.out
    | (apply AW.kE; refine AW.sE (h := ?_))
    | apply AW.label
    | (apply AW.kRd; refine AW.sRd (h := ?_))
    | ((first | (apply AW.kC; refine AW.sC (h1 := fun h => ?_) (h2 := fun h => ?_))) <;> (try (first | exact Bool.noConfusion h | exact absurd h (by decide) | (simp at h; done) | (rw [h]; try simp only [nrm] at h; try rw [h]; try (exfalso; omega)) | skip)))
    | (apply AR.kAny; first | (apply AR.kCall 106; refine AR.sCall (hg := (gOn' (kids.getD (kidL ⟨false, pairs, pivots, kids, buf⟩ k kids.length).toNat default).block (kids.getD (kidL ⟨false, pairs, pivots, kids, buf⟩ k kids.length).toNat default).deep (kids.getD (kidL ⟨false, pairs, pivots, kids, buf⟩ k kids.length).toNat default).strip (kids.getD (kidL ⟨false, pairs, pivots, kids, buf⟩ k kids.length).toNat default).add k u1)) (h := ?_)) | (apply AR.kIx; first | refine AR.sIxN (h := ?_) | refine AR.sIx (h := ?_) | refine AR.sP (h := ?_) | refine AR.sPi (h := ?_)) | (apply AR.kBox; refine AR.sBox (h := ?_)) | (apply AR.kAlloc; refine AR.sAlloc (h := ?_)) | (apply AR.kStore; refine AR.sStore (h := ?_)) | (apply AR.kP; first | refine AR.sP (h := ?_) | refine AR.sPi (h := ?_)))
    | (apply AR.kNil; refine AR.sNil (h := ?_)))
    rw [leadF1 h] at hD
    exact AW.ret (hD rfl .refl)
  · rw [leadF2 (by assumption) (by rw [← k1]; assumption)] at hD
    exact AW.ret (hD rfl .refl)
  · repeat' (first
    | apply AO.nil
    | (apply AO.kCall 106; refine AO.sCall (hg := (gOn' (buf.getD (lastI buf k buf.length).toNat default).block (buf.getD (lastI buf k buf.length).toNat default).deep (buf.getD (lastI buf k buf.length).toNat default).key (buf.getD (lastI buf k buf.length).toNat default).add k u2)) (h := ?_))
    | (apply AO.kIx; first | refine AO.sIxN (h := ?_) | refine AO.sIx (h := ?_) | refine AO.sP (h := ?_) | refine AO.sPi (h := ?_))
    | (apply AO.kBox; refine AO.sBox (h := ?_))
    | (apply AO.kAlloc; refine AO.sAlloc (h := ?_))
    | (apply AO.kStore; first | refine AO.sStore (h := ?_) | refine AO.sStB (h := ?_))
    | (apply AO.kP; first | refine AO.sP (h := ?_) | refine AO.sPi (h := ?_) | refine AO.sLoadB (h := ?_))
    | apply AW.seq
    | (apply AW.kR; refine AW.sR (h := ?_))
    | apply AW.skip
    | apply AW.block
    | apply AW.out
    | (apply AW.kE; refine AW.sE (h := ?_))
    | apply AW.label
    | (apply AW.kRd; refine AW.sRd (h := ?_))
    | ((first | (apply AW.kC; refine AW.sC (h1 := fun h => ?_) (h2 := fun h => ?_))) <;> (try (first | exact Bool.noConfusion h | exact absurd h (by decide) | (simp at h; done) | (rw [h]; try simp only [nrm] at h; try rw [h]; try (exfalso; omega)) | skip)))
    | (apply AR.kAny; first | (apply AR.kCall 106; refine AR.sCall (hg := (gOn' (buf.getD (lastI buf k buf.length).toNat default).block (buf.getD (lastI buf k buf.length).toNat default).deep (buf.getD (lastI buf k buf.length).toNat default).key (buf.getD (lastI buf k buf.length).toNat default).add k u2)) (h := ?_)) | (apply AR.kIx; first | refine AR.sIxN (h := ?_) | refine AR.sIx (h := ?_) | refine AR.sP (h := ?_) | refine AR.sPi (h := ?_)) | (apply AR.kBox; refine AR.sBox (h := ?_)) | (apply AR.kAlloc; refine AR.sAlloc (h := ?_)) | (apply AR.kStore; refine AR.sStore (h := ?_)) | (apply AR.kP; first | refine AR.sP (h := ?_) | refine AR.sPi (h := ?_)))
    | (apply AR.kNil; refine AR.sNil (h := ?_)))
    rw [leadF3 (by assumption) (by rw [← k1]; assumption) (by rw [← k3]; assumption)] at hD
    exact AW.ret (hD rfl .refl)
  · rw [leadF4 (by assumption) (by rw [← k1]; assumption) (by rw [← k3]; assumption)] at hD
    exact AW.ret (hD rfl .refl)
/-- The last kid in whose range a key is, where there is just one. -/
theorem kidL_at {n : Nd} {k : L} {b : Nat} (h : ∀ j, j < n.kids.length → inR (rgN n j).1 (rgN n j).2.1 (rgN n j).2.2 k = ((j : Int) == (b : Int))) : ∀ q, q ≤ n.kids.length → kidL n k q = if b < q then (b : Int) else -1
  | 0, _ => by simp [kidL]
  | q + 1, hq => by
    rw [kidL, h q (by omega), kidL_at h q (by omega)]
    by_cases e : q = b
    · subst e; simp
    · rw [if_neg (by rw [beq_iff_eq]; omega)]
      by_cases g : b < q
      · rw [if_pos g, if_pos (by omega)]
      · rw [if_neg g, if_neg (by omega)]
theorem kidL_may {n : Nd} {k : L} (h : innerOk n = true) : kidL n k n.kids.length = kidN n k ∧ 0 ≤ kidN n k ∧ kidN n k < n.kids.length := by
  obtain ⟨pl, pr, _⟩ := inner_len h
  obtain ⟨e1, e2⟩ := kid_at (n := n) (k := k) pl pr
  have := kidL_at (n := n) (k := k) (b := bs (kidF n k) 0 n.pivots.length) (fun j hj => by rw [kid_in pl pr hj, e1]) n.kids.length (Nat.le_refl _)
  rw [if_pos (by omega)] at this
  rw [this, e1]; omega
/-- A step by the document. -/
def stepN (n : Nd) (k : L) : Wy := if mayN n = 0 then leadN n k else wayZ
theorem gStep' (n : Nd) (k : L) (hs : n.small) (hx : n.strs) (hk : k.length ≤ 1000000) : Good Try.prog 25 [.agg n.av, .s k] [] (.agg (stepN n k).av) [] := by
  by_cases h0 : mayN n = 0
  · rw [stepN, if_pos h0]
    have hl : Good Try.prog 62 [.agg n.av, .s k] [] (.agg (leadN n k).av) [] := by
      have hn : n.leaf = false → 0 ≤ kidL n k n.kids.length ∧ kidL n k n.kids.length < n.kids.length := fun e => by
        obtain ⟨e1, e2, e3⟩ := kidL_may (k := k) (may_inner h0 e).1
        rw [e1]; exact ⟨e2, e3⟩
      obtain ⟨leaf, pairs, pivots, kids, buf⟩ := n
      cases leaf
      · exact gLeadF _ _ _ _ _ hs hx hk (hn rfl)
      · exact gLeadT _ _ _ _ _ hs
    refine Good.w tabOk mixed Try.func25 (N := 12) (by kernel_rfl) rfl (by (repeat (first | exact LE.nil | apply LE.cons)); done) (by (repeat (first | exact LE.nil | apply LE.cons)); done) fun D hD F => ?_
    repeat' (first
    | apply AO.nil
    | (apply AO.kCall 21; refine AO.sCall (hg := (gMay' n hs)) (h := ?_))
    | (apply AO.kCall 62; refine AO.sCall (hg := hl) (h := ?_))
    | (apply AO.kBox; refine AO.sBox (h := ?_))
    | (apply AO.kAlloc; refine AO.sAlloc (h := ?_))
    | (apply AO.kStore; first | refine AO.sStore (h := ?_) | refine AO.sStB (h := ?_))
    | (apply AO.kP; first | refine AO.sP (h := ?_) | refine AO.sPi (h := ?_) | refine AO.sLoadB (h := ?_))
    | apply AW.seq
    | (apply AW.kR; refine AW.sR (h := ?_))
    | apply AW.skip
    | apply AW.block
    | apply AW.out
    | (apply AW.kE; refine AW.sE (h := ?_))
    | apply AW.label
    | ((first | (apply AW.kC; refine AW.sC (h1 := fun h => ?_) (h2 := fun h => ?_))) <;> (try (first | exact Bool.noConfusion h | exact absurd h (by decide) | (simp at h; done) | (rw [h]; try simp only [nrm] at h; try rw [h]; try (exfalso; omega)) | skip))))
    · exact absurd h0 (ne0 h)
    · exact AW.ret (hD rfl .refl)
  · rw [stepN, if_neg h0]
    refine Good.w tabOk mixed Try.func25 (N := 12) (by kernel_rfl) rfl (by (repeat (first | exact LE.nil | apply LE.cons)); done) (by (repeat (first | exact LE.nil | apply LE.cons)); done) fun D hD F => ?_
    repeat' (first
    | apply AO.nil
    | (apply AO.kCall 21; refine AO.sCall (hg := (gMay' n hs)) (h := ?_))
    | (apply AO.kBox; refine AO.sBox (h := ?_))
    | (apply AO.kAlloc; refine AO.sAlloc (h := ?_))
    | (apply AO.kStore; first | refine AO.sStore (h := ?_) | refine AO.sStB (h := ?_))
    | (apply AO.kP; first | refine AO.sP (h := ?_) | refine AO.sPi (h := ?_) | refine AO.sLoadB (h := ?_))
    | apply AW.seq
    | (apply AW.kR; refine AW.sR (h := ?_))
    | apply AW.skip
    | apply AW.block
    | apply AW.out
    | (apply AW.kE; refine AW.sE (h := ?_))
    | apply AW.label
    | ((first | (apply AW.kC; refine AW.sC (h1 := fun h => ?_) (h2 := fun h => ?_))) <;> (try (first | exact Bool.noConfusion h | exact absurd h (by decide) | (simp at h; done) | (rw [h]; try simp only [nrm] at h; try rw [h]; try (exfalso; omega)) | skip))))
    · exact AW.ret (hD rfl .refl)
    · exact absurd (eq0 h) h0
end Go.Proofs.Ytmfonbehcfjjgaa.Mv

/- Where a key leads in a trimmed node. Plain. -/
namespace Go.Proofs.Ytmfonbehcfjjgaa.Mv
open Go Go.Proofs
set_option linter.unusedSimpArgs false
set_option linter.unusedVariables false
set_option maxRecDepth 10000
set_option maxHeartbeats 4000000

theorem cut_iff {x a k : L} (h : hp x a = true) : cutS x a = k ↔ x = a ++ k := by
  obtain ⟨t, rfl⟩ := hp_pre.1 h
  rw [cutS_hp h, List.drop_left' rfl, List.append_cancel_left_eq]
/-! ### pairs -/
theorem getP_tr {r : L × L × Bool} {a k : L} (hu : hp (undS r.1 r.2.1 r.2.2) a = true) (hk : inR r.1 r.2.1 r.2.2 (a ++ k) = true) : ∀ l : List Pr, getP (trPr l r a) k = getP l (a ++ k)
  | [] => rfl
  | p :: l => by
    have ih := getP_tr hu hk l
    cases g : prKeep r p with
    | true =>
      have e : trPr (p :: l) r a = prCut a p :: trPr l r a := by rw [trPr, List.filter_cons_of_pos g]; rfl
      have hp' : hp p.k a = true := hp_trans ((und_facts _ _ _ _).2.2.1 g) hu
      rw [e, getP, getP, ih]
      have := cut_iff (k := k) hp'
      show (if cutS p.k a = k then some p.v else _) = _
      by_cases c : p.k = a ++ k
      · rw [if_pos c, if_pos (this.2 c)]
      · rw [if_neg c, if_neg (fun q => c (this.1 q))]
    | false =>
      have e : trPr (p :: l) r a = trPr l r a := by rw [trPr, List.filter_cons_of_neg (by rw [g]; decide)]; rfl
      rw [e, getP, ih, if_neg]
      intro c
      rw [prKeep, c, hk] at g; cases g
/-! ### messages -/
theorem next_in (p k : L) : inR p (p ++ [0]) true k = (k == p) := by
  rw [Bool.eq_iff_iff]
  simp only [inR, Bool.and_eq_true, Bool.not_eq_true', Bool.not_true, Bool.false_or, beq_iff_eq]
  constructor
  · rintro ⟨h1, h2⟩
    cases g : hp k p with
    | false => rw [lt_off [0] g] at h2; rw [h2] at h1; cases h1
    | true =>
      obtain ⟨t, rfl⟩ := hp_pre.1 g
      rw [lt_app] at h2
      cases t with
      | nil => simp
      | cons c t => rw [lt_one] at h2; simp at h2
  · rintro rfl
    exact ⟨lt_irrefl _, lt_pre _ 0 []⟩
theorem ab_in (m : Ms) (k : L) : inR (abS m).1 (abS m).2.1 (abS m).2.2 k = spk m k := by
  unfold abS spk
  by_cases h1 : m.kind = 1
  · rw [if_pos h1, if_neg (by rw [h1]; decide), h1]
    simp only [next_in]; simp
  · rw [if_neg h1]
    by_cases h2 : m.kind = 2
    · rw [if_pos h2, if_neg (by rw [h2]; decide), h2]
      simp only [next_in]; simp
    · rw [if_neg h2]
      by_cases h3 : m.kind = 3
      · rw [if_pos h3, if_pos h3]; exact of_in _ _
      · rw [if_neg h3, if_neg h3]
        have e1 : (m.kind == 1) = false := by simpa using h1
        have e2 : (m.kind == 2) = false := by simpa using h2
        rw [e1, e2]; simp [inR, lt_nil]
theorem spk_keep {r : L × L × Bool} {k : L} (hk : inR r.1 r.2.1 r.2.2 k = true) {m : Ms} (h : spk m k = true) : msKeep r m = true := by
  rw [← ab_in] at h
  rw [msKeep, emC_some h hk]; rfl
theorem eq_app {a t k : L} : (a ++ k == a ++ t) = (k == t) := by
  rw [Bool.eq_iff_iff]; simp
theorem spk_mv {m : Ms} {a k : L} (h : (mvR m a).2 = true) : spk (mvR m a).1 k = spk m (a ++ k) := by
  unfold mvR at h ⊢
  by_cases c : hp m.key a = true
  · rw [if_pos c]
    obtain ⟨t, e⟩ := hp_pre.1 c
    have e2 : cutS (a ++ t) a = t := by rw [cut_iff (hp_app a t)]
    simp only [spk, e2, e, hp_app2, eq_app]
  · rw [if_neg c] at h ⊢
    by_cases d : m.kind = 3 ∧ hp a m.key = true ∧ m.add.length + (cutS a m.key).length ≤ 16
    · rw [if_pos d]
      obtain ⟨t, e⟩ := hp_pre.1 d.2.1
      simp only [spk, d.1, if_true, hp_nil]
      rw [e, List.append_assoc, hp_app]
    · rw [if_neg d] at h; cases h
def msW (m : Ms) (k : L) : Wy := if m.kind = 1 then wayV m.val else if m.kind = 3 then onW m.block m.deep m.key m.add k else wayZ
theorem msW_mv {m : Ms} {a k : L} (h : (mvR m a).2 = true) : msW (mvR m a).1 k = msW m (a ++ k) := by
  unfold mvR at h ⊢
  by_cases c : hp m.key a = true
  · rw [if_pos c]
    obtain ⟨t, e⟩ := hp_pre.1 c
    have e2 : cutS (a ++ t) a = t := by rw [cut_iff (hp_app a t)]
    simp only [msW, e2, e, onW, hp_app2]
    have e3 : ∀ g : hp k t = true, upS t m.add k = upS (a ++ t) m.add (a ++ k) := fun g => by
      obtain ⟨x, rfl⟩ := hp_pre.1 g
      rw [upS_app, ← List.append_assoc, upS_app]
    by_cases g : hp k t = true
    · simp only [if_pos g, e3 g]
    · simp only [if_neg g]
  · rw [if_neg c] at h ⊢
    by_cases d : m.kind = 3 ∧ hp a m.key = true ∧ m.add.length + (cutS a m.key).length ≤ 16
    · rw [if_pos d]
      obtain ⟨t, e⟩ := hp_pre.1 d.2.1
      have e2 : cutS a m.key = t := by rw [cut_iff d.2.1]; exact e
      have n1 : ¬ ((3 : UInt8) = 1) := by decide
      simp only [msW, d.1, if_neg n1, if_true, onW, hp_nil, e2]
      rw [e, List.append_assoc, hp_app, if_pos rfl, upS_app]
      have : upS [] (m.add ++ t) k = m.add ++ (t ++ k) := by
        rw [show k = [] ++ k from rfl, upS_app]; simp
      rw [this]
    · rw [if_neg d] at h; cases h
/-- The last message that speaks. -/
def lastM (l : List Ms) (k : L) : Option Ms := (l.filter (fun m => spk m k)).getLast?
theorem lastI_spec {l : List Ms} {k : L} : ∀ q, q ≤ l.length → (lastI l k q < 0 ∧ ((l.take q).filter (fun m => spk m k)).getLast? = none) ∨ (0 ≤ lastI l k q ∧ ((l.take q).filter (fun m => spk m k)).getLast? = some (l.getD (lastI l k q).toNat default))
  | 0, _ => .inl ⟨by simp [lastI], by simp⟩
  | q + 1, hq => by
    rw [lastI]
    cases g : spk (l.getD q default) k with
    | true =>
      rw [if_pos rfl, filt_yes (p := fun m => spk m k) (by omega) g]
      exact .inr ⟨by omega, by rw [List.getLast?_append]; simp⟩
    | false =>
      rw [if_neg (by decide), filt_no (p := fun m => spk m k) (by omega) g]
      exact lastI_spec q (by omega)
theorem lastM_tr {l : List Ms} {r : L × L × Bool} {a k : L} (hok : trMsOk l r a = true) (hk : inR r.1 r.2.1 r.2.2 (a ++ k) = true) : lastM (trMsR l r a) k = (lastM l (a ++ k)).map (fun m => (mvR m a).1) := by
  have e : (trMsR l r a).filter (fun m => spk m k) = (l.filter (fun m => spk m (a ++ k))).map (fun m => (mvR m a).1) := by
    rw [trMsR, List.filter_map, List.filter_filter]
    congr 1
    rw [trMsOk, List.all_eq_true] at hok
    refine List.filter_congr fun m hm => ?_
    cases g : msKeep r m with
    | true =>
      rw [Bool.and_true]
      exact spk_mv (hok m (List.mem_filter.2 ⟨hm, g⟩))
    | false =>
      rw [Bool.and_false]
      cases q : spk m (a ++ k) with
      | false => rfl
      | true => rw [spk_keep hk q] at g; cases g
  rw [lastM, e, List.getLast?_map, lastM]
def kidW (n : Nd) (k : L) : Wy := onW (n.kids.getD (kidL n k n.kids.length).toNat default).block (n.kids.getD (kidL n k n.kids.length).toNat default).deep (n.kids.getD (kidL n k n.kids.length).toNat default).strip (n.kids.getD (kidL n k n.kids.length).toNat default).add k
theorem lead_in {n : Nd} {k : L} (hl : n.leaf = false) : leadN n k = match lastM n.buf k with | none => kidW n k | some m => msW m k := by
  unfold leadN
  rw [if_neg (by rw [hl]; decide)]
  rcases lastI_spec (l := n.buf) (k := k) n.buf.length (Nat.le_refl _) with ⟨h1, h2⟩ | ⟨h1, h2⟩
  · rw [List.take_length] at h2
    rw [if_pos h1, lastM, h2]; rfl
  · rw [List.take_length] at h2
    rw [if_neg (by omega), lastM, h2]; rfl
/-! ### kids */ -/
def kept (n : Nd) (r : L × L × Bool) (q : Nat) : List Nat := (List.range q).filter (fun i => !emC (rgN n i) r)
theorem kept_yes {n : Nd} {r : L × L × Bool} {q : Nat} (h : emC (rgN n q) r = false) : kept n r (q + 1) = kept n r q ++ [q] := by
  rw [kept, List.range_succ, List.filter_append, List.filter_cons_of_pos (by rw [h]; rfl)]; rfl
theorem kept_no {n : Nd} {r : L × L × Bool} {q : Nat} (h : emC (rgN n q) r = true) : kept n r (q + 1) = kept n r q := by
  rw [kept, List.range_succ, List.filter_append, List.filter_cons_of_neg (by rw [h]; decide), List.filter_nil, List.append_nil]; rfl
theorem kept_run {n : Nd} {r : L × L × Bool} {a : L} : ∀ (u q : Nat) (ps : List L) (ks : List Ed), q + u = n.kids.length → ks = (kept n r q).map (trKid n a) → ps = ((kept n r q).drop 1).map (fun i : Nat => cutS (rgN n i).1 a) → (kRun n r a u q ps ks).2 = true →
    (kRun n r a u q ps ks).1.2 = (kept n r n.kids.length).map (trKid n a) ∧ (kRun n r a u q ps ks).1.1 = ((kept n r n.kids.length).drop 1).map (fun i : Nat => cutS (rgN n i).1 a)
  | 0, q, ps, ks, hq, h1, h2, _ => by
    obtain rfl : q = n.kids.length := by omega
    exact ⟨h1, h2⟩
  | u + 1, q, ps, ks, hq, h1, h2, hok => by
    rw [kRun] at hok ⊢
    by_cases c : emC (rgN n q) r = true
    · rw [if_pos c] at hok ⊢
      exact kept_run u (q + 1) _ _ (by omega) (by rw [kept_no c]; exact h1) (by rw [kept_no c]; exact h2) hok
    · rw [if_neg c] at hok ⊢
      have c' : emC (rgN n q) r = false := by simpa using c
      by_cases d : kidOk n a q = false
      · rw [if_pos d] at hok; cases hok
      · rw [if_neg d] at hok ⊢
        refine kept_run u (q + 1) _ _ (by omega) (by rw [kept_yes c', List.map_append, ← h1]; rfl) ?_ hok
        rw [kept_yes c']
        have hl : ks.length = (kept n r q).length := by rw [h1, List.length_map]
        by_cases e : 0 < ks.length
        · rw [if_pos e, List.drop_append_of_le_length (by omega), List.map_append, ← h2]; rfl
        · rw [if_neg e]
          have e0 : kept n r q = [] := List.eq_nil_of_length_eq_zero (by omega)
          rw [h2, e0]; rfl
theorem ok_run {n : Nd} {r : L × L × Bool} {a : L} : ∀ (u q : Nat) (ps : List L) (ks : List Ed), (kRun n r a u q ps ks).2 = true → ∀ i, q ≤ i → i < q + u → emC (rgN n i) r = false → kidOk n a i = true
  | 0, q, ps, ks, _, i, h1, h2, _ => by omega
  | u + 1, q, ps, ks, hok, i, h1, h2, he => by
    rw [kRun] at hok
    by_cases c : emC (rgN n q) r = true
    · rw [if_pos c] at hok
      by_cases e : i = q
      · subst e; rw [c] at he; cases he
      · exact ok_run u (q + 1) _ _ hok i (by omega) (by omega) he
    · rw [if_neg c] at hok
      by_cases d : kidOk n a q = false
      · rw [if_pos d] at hok; cases hok
      · rw [if_neg d] at hok
        by_cases e : i = q
        · subst e; simpa using d
        · exact ok_run u (q + 1) _ _ hok i (by omega) (by omega) he
theorem kept_pw (n : Nd) (r : L × L × Bool) (q : Nat) : (kept n r q).Pairwise (· < ·) := List.Pairwise.filter _ List.pairwise_lt_range
theorem kept_mem {n : Nd} {r : L × L × Bool} {q i : Nat} : i ∈ kept n r q ↔ i < q ∧ emC (rgN n i) r = false := by
  rw [kept, List.mem_filter, List.mem_range]; simp
theorem getD_at {α : Type} [Inhabited α] {l : List α} {i : Nat} (h : i < l.length) : l.getD i default = l[i] := by
  rw [List.getD_eq_getElem?_getD, List.getElem?_eq_getElem h]; rfl
/-- The kid of a key in a trimmed node. -/
theorem kid_tr {n : Nd} {r : L × L × Bool} {a k : L} {ps : List L} {ks : List Ed} {ms : List Ms} (hi : innerOk n = true) (hu : hp (undS r.1 r.2.1 r.2.2) a = true) (hk : inR r.1 r.2.1 r.2.2 (a ++ k) = true)
    (h1 : ks = (kept n r n.kids.length).map (trKid n a)) (h2 : ps = ((kept n r n.kids.length).drop 1).map (fun i : Nat => cutS (rgN n i).1 a)) (hi2 : innerOk ⟨false, [], ps, ks, ms⟩ = true) :
    (ks.getD (kidL ⟨false, [], ps, ks, ms⟩ k ks.length).toNat default) = trKid n a (kidL n (a ++ k) n.kids.length).toNat ∧ (kidL n (a ++ k) n.kids.length).toNat < n.kids.length ∧ emC (rgN n (kidL n (a ++ k) n.kids.length).toNat) r = false := by
  obtain ⟨pl, pr, _⟩ := inner_len hi
  obtain ⟨e1, e2, e3⟩ := kidL_may (k := a ++ k) hi
  obtain ⟨b, hb⟩ : ∃ b : Nat, kidN n (a ++ k) = b := ⟨(kidN n (a ++ k)).toNat, by omega⟩
  rw [e1, hb]
  have hbl : b < n.kids.length := by omega
  have ib := kid_in (k := a ++ k) pl pr hbl
  rw [hb, beq_self_eq_true] at ib
  have eb := emC_some ib hk
  have mb : b ∈ kept n r n.kids.length := kept_mem.2 ⟨hbl, eb⟩
  obtain ⟨j, hj, hjb⟩ := List.getElem_of_mem mb
  generalize hK : kept n r n.kids.length = K at *
  have pw : K.Pairwise (· < ·) := hK ▸ kept_pw n r _
  have mem : ∀ i, i ∈ K ↔ i < n.kids.length ∧ emC (rgN n i) r = false := fun i => hK ▸ kept_mem
  obtain ⟨pl2, pr2, _⟩ := inner_len hi2
  dsimp only at pl2 pr2
  have lk : ks.length = K.length := by rw [h1, List.length_map]
  have hp1 : ∀ i (h : i < K.length), 0 < i → hp (rgN n K[i]).1 a = true := fun i h h0 => by
    have m1 := (mem K[i]).1 (List.getElem_mem h)
    have m0 := (mem K[0]).1 (List.getElem_mem (by omega))
    have lt0 : K[0] < K[i] := List.pairwise_iff_getElem.1 pw 0 i (by omega) h h0
    exact hp_trans ((und_facts _ _ _ _).2.2.1 (piv_in pl pr lt0 m1.1 m0.2 m1.2)) hu
  have pat : ∀ i (h : i + 1 < K.length), ps.getD i default = cutS (rgN n K[i + 1]).1 a := fun i h => by
    rw [getD_at (by rw [h2, List.length_map, List.length_drop]; omega)]
    simp only [h2, List.getElem_map, List.getElem_drop]
    simp only [Nat.add_comm 1 i]
  have in2 : inR (rgN ⟨false, [], ps, ks, ms⟩ j).1 (rgN ⟨false, [], ps, ks, ms⟩ j).2.1 (rgN ⟨false, [], ps, ks, ms⟩ j).2.2 k = true := by
    simp only [inR, Bool.and_eq_true, Bool.not_eq_true', Bool.or_eq_true] at ib ⊢
    constructor
    · by_cases h0 : 0 < j
      · rw [rg_lo h0 pl2 (by show j < ks.length; omega)]
        dsimp only
        have := pat (j - 1) (by omega)
        rw [this]
        have ej : K[j - 1 + 1]'(by omega) = b := by
          rw [← hjb]; congr 1; omega
        rw [ej]
        have hb2 : hp (rgN n b).1 a = true := by have := hp1 j hj h0; rw [hjb] at this; exact this
        obtain ⟨t, ht⟩ := hp_pre.1 hb2
        rw [(cut_iff hb2).2 ht]
        have q := ib.1
        rw [ht, lt_app] at q; exact q
      · obtain rfl : j = 0 := by omega
        have : (rgN ⟨false, [], ps, ks, ms⟩ (0 : Nat)).1 = [] := by
          unfold rgN; rw [if_neg (by dsimp only; omega)]; simp
        rw [this]; exact lt_nil _
    · by_cases hl : j < ps.length
      · obtain ⟨g1, g2⟩ := rg_hi (n := ⟨false, [], ps, ks, ms⟩) pl2 hl
        right
        rw [g1]
        dsimp only
        rw [pat j (by omega)]
        have hj1 : j + 1 < K.length := by omega
        have m1 := (mem K[j + 1]).1 (List.getElem_mem hj1)
        have lt1 : b < K[j + 1] := by rw [← hjb]; exact List.pairwise_iff_getElem.1 pw j (j + 1) hj hj1 (by omega)
        have hpre := hp1 (j + 1) hj1 (by omega)
        obtain ⟨t, ht⟩ := hp_pre.1 hpre
        rw [(cut_iff hpre).2 ht]
        have hh := rg_hi (n := n) pl (show b < n.pivots.length by omega)
        have f1 : lt (a ++ k) (n.pivots.getD b default) = true := by
          rcases ib.2 with q | q
          · rw [hh.2] at q; cases q
          · rw [hh.1] at q; exact q
        have f2 := lt_of_lt_le f1 (le_rise pr (show b ≤ K[j + 1] - 1 by omega) (by omega))
        rw [← rg_lo (n := n) (q := K[j + 1]) (by omega) pl m1.1, ht, lt_app] at f2
        exact f2
      · left
        unfold rgN; rw [if_neg (by dsimp only; omega)]
        exact decide_eq_false (by dsimp only; omega)
  have kk := kid_in (n := ⟨false, [], ps, ks, ms⟩) (k := k) pl2 pr2 (j := j) (by show j < ks.length; omega)
  rw [in2] at kk
  have kj : kidN ⟨false, [], ps, ks, ms⟩ k = (j : Int) := by have := beq_iff_eq.1 kk.symm; omega
  have kl := (kidL_may (k := k) hi2).1
  dsimp only at kl
  rw [kl, kj]
  refine ⟨?_, by omega, by rw [Int.toNat_natCast]; exact eb⟩
  rw [Int.toNat_natCast, Int.toNat_natCast, getD_at (by omega)]
  simp only [h1, List.getElem_map, hjb]
/-- Where a key leads in a trimmed node is where it led with the beginning ahead of it. -/
theorem lead_tr {n : Nd} {r : L × L × Bool} {a k : L} (h : trE n r a = 0) (hk : inR r.1 r.2.1 r.2.2 (a ++ k) = true) : stepN (trN n r a) k = stepN n (a ++ k) := by
  have hm := tr_may h
  have h0 : mayN n = 0 := by
    by_cases h0 : mayN n = 0
    · exact h0
    · rw [(tr3 h0).1] at h; cases h
  rw [stepN, stepN, if_pos hm, if_pos h0]
  cases g : (emR r.1 r.2.1 r.2.2 || !hp (undS r.1 r.2.1 r.2.2) a) with
  | true => rw [(tr1 h0 g).1] at h; cases h
  | false =>
    have g' := g
    simp only [Bool.or_eq_false_iff, Bool.not_eq_false'] at g'
    obtain ⟨g1, hu⟩ := g'
    cases hl : n.leaf with
    | true =>
      rw [(trL h0 g hl).2]
      unfold leadN
      rw [if_pos rfl, if_pos hl, getP_tr hu hk]
    | false =>
      cases h4 : (kRun n r a n.kids.length 0 [] []).2 with
      | false => rw [(trK1 h0 g hl h4).1] at h; cases h
      | true =>
        cases h5 : trMsOk n.buf r a with
        | false => rw [(trK2 h0 g hl h4 h5).1] at h; cases h
        | true =>
          have hi := (may_inner h0 hl).1
          rw [(trK3 h0 g hl h4 h5).2] at hm ⊢
          obtain ⟨q1, q2⟩ := kept_run n.kids.length 0 [] [] (by omega) rfl rfl h4
          have hi2 := (may_inner hm rfl).1
          have okr : ∀ b, b < n.kids.length → emC (rgN n b) r = false → kidOk n a b = true := fun b b1 b2 => ok_run _ _ _ _ h4 b (by omega) (by omega) b2
          generalize (kRun n r a n.kids.length 0 [] []).1.1 = ps at *
          generalize (kRun n r a n.kids.length 0 [] []).1.2 = ks at *
          rw [lead_in rfl, lead_in hl]
          dsimp only
          rw [lastM_tr h5 hk]
          cases o : lastM n.buf (a ++ k) with
          | none =>
            show kidW _ _ = kidW _ _
            obtain ⟨t1, t2, t3⟩ := kid_tr (ms := trMsR n.buf r a) hi hu hk q1 q2 hi2
            unfold kidW
            dsimp only
            rw [t1]
            generalize (kidL n (a ++ k) n.kids.length).toNat = b at *
            have ok : kidOk n a b = true := okr b t2 t3
            simp only [kidOk, Bool.and_eq_true] at ok
            obtain ⟨s1, s2⟩ := shift_law (n.kids.getD b default).strip (n.kids.getD b default).add a k ok.1
            simp only [trKid, onW, s1, s2]
          | some m =>
            show msW _ _ = msW _ _
            have mm := List.mem_of_getLast? o
            obtain ⟨m1, m2⟩ := List.mem_filter.1 mm
            rw [trMsOk, List.all_eq_true] at h5
            exact msW_mv (h5 m (List.mem_filter.2 ⟨m1, spk_keep hk m2⟩))
end Go.Proofs.Ytmfonbehcfjjgaa.Mv

/- The statement of where trimmed nodes lead. Under no condition. -/
namespace Go.Proofs.Ytmfonbehcfjjgaa.Mv
open Go Go.Proofs
set_option linter.unusedSimpArgs false
set_option linter.unusedVariables false
set_option maxRecDepth 10000
set_option maxHeartbeats 4000000
attribute [local irreducible] AW AO AR

theorem mv_sm {m : Ms} {a : L} (h : msSm m = true) (h2 : (mvR m a).2 = true) : msSm (mvR m a).1 = true := by
  unfold mvR at h2 ⊢
  have l := cutS_len m.key a
  simp only [msSm, Bool.and_eq_true, decide_eq_true_eq] at h
  by_cases c : hp m.key a = true
  · rw [if_pos c]
    simp only [msSm, Bool.and_eq_true, decide_eq_true_eq]; omega
  · rw [if_neg c] at h2 ⊢
    by_cases d : m.kind = 3 ∧ hp a m.key = true ∧ m.add.length + (cutS a m.key).length ≤ 16
    · rw [if_pos d]
      simp only [msSm, Bool.and_eq_true, decide_eq_true_eq, List.length_append, List.length_nil]; omega
    · rw [if_neg d] at h2; cases h2
theorem may_strs {n : Nd} (h : mayN n = 0) : n.strs := by
  rcases (by cases n.leaf <;> simp : n.leaf = true ∨ n.leaf = false) with hl | hl
  · obtain ⟨e1, e2, e3⟩ := leaf_len (may_leaf h hl)
    exact ⟨fun i hi => by rw [e2] at hi; simp at hi, by rw [e3]; rfl⟩
  · have hi := (may_inner h hl).1
    simp only [innerOk, Bool.and_eq_true] at hi
    refine ⟨fun i hik => ?_, ?_⟩
    · have := List.all_eq_true.1 hi.1.1.2 (n.kids.getD i default) (by rw [List.getD_eq_getElem?_getD, List.getElem?_eq_getElem hik]; exact List.getElem_mem hik)
      simp only [edOk, Bool.and_eq_true, decide_eq_true_eq] at this
      omega
    · rw [List.all_eq_true]
      intro m hm
      have := List.all_eq_true.1 hi.2 m hm
      simp only [msMay, Bool.and_eq_true, decide_eq_true_eq] at this
      simp only [msSm, Bool.and_eq_true, decide_eq_true_eq]
      refine ⟨by omega, ?_⟩
      have t := this.2
      split at t
      · simp only [Bool.and_eq_true, beq_iff_eq] at t; rw [t.2]; simp
      · split at t
        · simp only [Bool.and_eq_true, beq_iff_eq] at t; rw [t.2]; simp
        · split at t
          · simp only [Bool.and_eq_true, decide_eq_true_eq] at t; omega
          · cases t
theorem zero_strs : ndZ.strs := ⟨fun i hi => by simp [ndZ] at hi, rfl⟩
theorem trN_strs (n : Nd) (r : L × L × Bool) (a : L) : (trN n r a).strs := by
  by_cases h : trE n r a = 0
  · exact may_strs (tr_may h)
  · rw [trN_bad h]; exact zero_strs
end Go.Proofs.Ytmfonbehcfjjgaa.Mv

/- Pasting: plain. Under no condition. -/
namespace Go.Proofs.Ytmfonbehcfjjgaa.Mv
open Go Go.Proofs
set_option linter.unusedSimpArgs false
set_option linter.unusedVariables false

def isG (m : Ms) : Bool := m.kind == 3
def fstN (n : Nd) : Int := findI isG n.buf 0
def gEd (g : Ms) : Ed := ⟨g.block, g.deep, g.key, g.add⟩
/-- The kids that begin ahead of a key, laid. -/
def runA (n : Nd) (k : L) : Nat → List L × List Ed
  | 0 => ([], [])
  | q + 1 => if lt (rgN n q).1 k = true then putK (runA n k q) (rgN n q).1 (n.kids.getD q default) else runA n k q
/-- Has a kid keys behind? -/
def behB (n : Nd) (hi : L) (e : Bool) (q : Nat) : Bool := e && !((rgN n q).2.2 && !lt hi (rgN n q).2.1)
/-- The kids that have keys behind, laid. -/
def runB (n : Nd) (hi : L) (e : Bool) (s : List L × List Ed) : Nat → List L × List Ed
  | 0 => s
  | q + 1 => if behB n hi e q = true then putK (runB n hi e s q) (mxS (rgN n q).1 hi) (n.kids.getD q default) else runB n hi e s q
def msLeft (g : Ms) (m : Ms) : Bool := !insS (abS m).1 (abS m).2.1 (abS m).2.2 (abS g).1 (abS g).2.1 (abS g).2.2
def keptM (l : List Ms) (i : Nat) : List Ms := (l.take i).filter (msLeft (l.getD i default)) ++ l.drop (i + 1)
def psOk (n : Nd) (i : Int) : Bool := decide (0 ≤ i) && fstN n == i
def pstE (n : Nd) (i : Int) : Nat := if mayN n ≠ 0 then 3 else if psOk n i = false then 1 else 0
def pstK (n : Nd) (g : Ms) : List L × List Ed := runB n (succS g.key) (succOk g.key) (putK (runA n g.key n.kids.length) g.key (gEd g)) n.kids.length
def pstN (n : Nd) (i : Int) : Nd :=
  if pstE n i ≠ 0 then ndZ else ⟨false, [], (pstK n (n.buf.getD i.toNat default)).1, (pstK n (n.buf.getD i.toNat default)).2, keptM n.buf i.toNat⟩
theorem pst3 {n i} (h : mayN n ≠ 0) : pstE n i = 3 ∧ pstN n i = ndZ := by
  have e : pstE n i = 3 := by rw [pstE, if_pos h]
  exact ⟨e, by rw [pstN, e, if_pos (by decide)]⟩
theorem pst1 {n i} (h : mayN n = 0) (h1 : psOk n i = false) : pstE n i = 1 ∧ pstN n i = ndZ := by
  have e : pstE n i = 1 := by rw [pstE, if_neg (by omega), if_pos h1]
  exact ⟨e, by rw [pstN, e, if_pos (by decide)]⟩
theorem pst0 {n : Nd} {i : Int} (h : mayN n = 0) (h1 : psOk n i = true) : pstE n i = 0 ∧ pstN n i = ⟨false, [], (pstK n (n.buf.getD i.toNat default)).1, (pstK n (n.buf.getD i.toNat default)).2, keptM n.buf i.toNat⟩ := by
  have e : pstE n i = 0 := by rw [pstE, if_neg (by omega), if_neg (by rw [h1]; decide)]
  exact ⟨e, by rw [pstN, e, if_neg (by decide)]⟩
theorem findI_cases {α : Type} [Inhabited α] {p : α → Bool} : ∀ {l : List α} {i : Nat}, findI p l i = -1 ∨ ∃ j, j < l.length ∧ findI p l i = ((i + j : Nat) : Int) ∧ p (l.getD j default) = true ∧ ∀ q, q < j → p (l.getD q default) = false
  | [], i => .inl rfl
  | a :: l, i => by
    rw [findI]
    by_cases h : p a = true
    · rw [if_pos h]; exact .inr ⟨0, by simp, by simp, by simpa using h, fun q hq => by omega⟩
    · rw [if_neg h]
      rcases findI_cases (p := p) (l := l) (i := i + 1) with e | ⟨j, h1, h2, h3, h4⟩
      · exact .inl e
      · refine .inr ⟨j + 1, by simp; omega, by rw [h2]; congr 1; omega, by simpa using h3, fun q hq => ?_⟩
        cases q with
        | zero => simpa using h
        | succ q => simpa using h4 q (by omega)
/-- What is where a Goto is pasted. -/
theorem psOk_at {n : Nd} {i : Int} (h : psOk n i = true) : ∃ j : Nat, i = j ∧ j < n.buf.length ∧ (n.buf.getD j default).kind = 3 ∧ fstN n = i := by
  simp only [psOk, Bool.and_eq_true, decide_eq_true_eq, beq_iff_eq] at h
  rcases findI_cases (p := isG) (l := n.buf) (i := 0) with e | ⟨j, h1, h2, h3, _⟩
  · have : fstN n = -1 := e
    omega
  · have : fstN n = ((0 + j : Nat) : Int) := h2
    exact ⟨j, by omega, h1, by simpa [isG] using h3, h.2⟩
theorem runA_len (n : Nd) (k : L) : ∀ q, (runA n k q).1.length ≤ q ∧ (runA n k q).2.length ≤ q
  | 0 => by simp [runA]
  | q + 1 => by
    have := runA_len n k q
    rw [runA]
    split
    · unfold putK; dsimp only; split <;> simp <;> omega
    · omega
theorem putK_len (s : List L × List Ed) (lo : L) (e : Ed) : (putK s lo e).1.length ≤ s.1.length + 1 ∧ (putK s lo e).2.length = s.2.length + 1 := by
  unfold putK; dsimp only; split <;> simp
theorem runB_len (n : Nd) (hi : L) (e : Bool) (s : List L × List Ed) : ∀ q, (runB n hi e s q).1.length ≤ s.1.length + q ∧ (runB n hi e s q).2.length ≤ s.2.length + q ∧ s.2.length ≤ (runB n hi e s q).2.length
  | 0 => by simp [runB]
  | q + 1 => by
    have := runB_len n hi e s q
    have p := putK_len (runB n hi e s q) (mxS (rgN n q).1 hi) (n.kids.getD q default)
    rw [runB]
    split
    · omega
    · omega
/-- Kids behind one that begins at a key or behind it do so, too. -/
theorem runA_stop {n : Nd} {k : L} (hl : n.pivots.length + 1 = n.kids.length) (hr : rise n.pivots = true) {q : Nat} (hq : q < n.kids.length) (h : lt (rgN n q).1 k = false) : ∀ u, q ≤ u → u ≤ n.kids.length → runA n k u = runA n k q
  | 0, h1, _ => by obtain rfl : q = 0 := by omega
                   rfl
  | u + 1, h1, h2 => by
    by_cases e : q = u + 1
    · rw [e]
    · have hs : lt (rgN n u).1 k = false := by
        by_cases e2 : u = q
        · rw [e2]; exact h
        · have l1 : (rgN n u).1 = n.pivots.getD (u - 1) default := rg_lo (by omega) hl (by omega)
          by_cases q0 : 0 < q
          · have l0 : (rgN n q).1 = n.pivots.getD (q - 1) default := rg_lo q0 hl hq
            rw [l0] at h
            rw [l1]
            have m := le_rise hr (show q - 1 ≤ u - 1 by omega) (by omega)
            cases g : lt (n.pivots.getD (u - 1) default) k with
            | false => rfl
            | true => rw [lt_of_le_lt m g] at h; cases h
          · have l0 : (rgN n q).1 = [] := by
              obtain rfl : q = 0 := by omega
              unfold rgN; split <;> simp
            rw [l0] at h
            cases g : lt (rgN n u).1 k with
            | false => rfl
            | true => rw [lt_of_le_lt (lt_nil _) g] at h; cases h
      rw [runA, if_neg (by rw [hs]; decide)]
      exact runA_stop hl hr hq h u (by omega) (by omega)
/-! ### messages that are kept -/
theorem ins_in' {l1 h1 : L} {e1 : Bool} {l2 h2 : L} {e2 : Bool} (h : insS l1 h1 e1 l2 h2 e2 = true) {k : L} (hk : inR l1 h1 e1 k = true) : inR l2 h2 e2 k = true := by
  have he := in_em hk
  simp only [insS, he, Bool.false_or, Bool.and_eq_true, Bool.or_eq_true, Bool.not_eq_true'] at h
  simp only [inR, Bool.and_eq_true, Bool.or_eq_true, Bool.not_eq_true'] at hk ⊢
  refine ⟨le_trans' h.1 hk.1, ?_⟩
  rcases h.2 with q | ⟨q1, q2⟩
  · exact .inl q
  · right
    rcases hk.2 with g | g
    · rw [g] at q1; cases q1
    · exact lt_of_lt_le g q2
theorem mx_left {a b : L} : mxS a b = a ↔ lt a b = false := by
  unfold mxS
  split
  · exact ⟨fun _ => by assumption, fun _ => rfl⟩
  · rename_i h
    refine ⟨fun e => ?_, fun e => absurd e h⟩
    subst e; exact lt_irrefl _
theorem mn_left {a b : L} : mnS a b = a ↔ lt b a = false := by
  unfold mnS
  split
  · exact ⟨fun _ => by assumption, fun _ => rfl⟩
  · rename_i h
    refine ⟨fun e => ?_, fun e => absurd e h⟩
    subst e; exact lt_irrefl _
theorem mx_self (a : L) : mxS a a = a := mx_left.2 (lt_irrefl a)
theorem mn_self (a : L) : mnS a a = a := mn_left.2 (lt_irrefl a)
theorem cut_self {l1 h1 : L} {e1 : Bool} (h : emR l1 h1 e1 = false) : cS l1 h1 e1 l1 h1 e1 = (l1, if e1 = true then h1 else [], e1) := by
  have e2 : cutHi l1 h1 e1 l1 h1 e1 = if e1 = true then h1 else [] := by
    unfold cutHi; cases e1 <;> simp [mn_self]
  have e3 : cutEm l1 h1 e1 l1 h1 e1 = false := by
    rw [cutEm, mx_self, e2, Bool.or_self]
    cases e1 with
    | false => rfl
    | true => exact h
  rw [cS, e3, mx_self, e2]; simp
/-- Two parts are the same just if the one is inside the other. -/
theorem cut_ins {l1 h1 : L} {e1 : Bool} (l2 h2 : L) (e2 : Bool) (h : emR l1 h1 e1 = false) : cS l1 h1 e1 l2 h2 e2 = cS l1 h1 e1 l1 h1 e1 ↔ insS l1 h1 e1 l2 h2 e2 = true := by
  rw [cut_self h]
  cases c : cutEm l1 h1 e1 l2 h2 e2 with
  | true =>
    have e : cS l1 h1 e1 l2 h2 e2 = ([], [], true) := by rw [cS, c]; simp
    rw [e]
    constructor
    · intro q
      simp only [Prod.mk.injEq] at q
      obtain ⟨q1, q2, q3⟩ := q
      subst q1; subst q3
      rw [if_pos rfl] at q2
      subst q2
      exact absurd h (by decide)
    · intro q
      have k1 := in_lo h
      have k2 := ins_in' q k1
      have := cut_in l1 h1 e1 l2 h2 e2 l1
      rw [k1, k2] at this
      have := in_em this
      rw [cutEm] at c
      rw [c] at this; cases this
  | false =>
    have e : cS l1 h1 e1 l2 h2 e2 = (mxS l1 l2, cutHi l1 h1 e1 l2 h2 e2, e1 || e2) := by rw [cS, c]; simp
    rw [e]
    simp only [Prod.mk.injEq, mx_left, insS, h, Bool.false_or, Bool.and_eq_true, Bool.not_eq_true', Bool.or_eq_true, cutHi]
    cases e1 <;> cases e2 <;> simp [mn_left]
theorem ab_some {m : Ms} (h : msMay m = true) : emR (abS m).1 (abS m).2.1 (abS m).2.2 = false := by
  have hk : m.kind = 1 ∨ m.kind = 2 ∨ m.kind = 3 := by
    unfold msMay at h
    by_cases a : m.kind = 1
    · exact .inl a
    · by_cases b : m.kind = 2
      · exact .inr (.inl b)
      · by_cases c : m.kind = 3
        · exact .inr (.inr c)
        · simp [a, b, c] at h
  have := ab_in m m.key
  have s : spk m m.key = true := by
    unfold spk
    rcases hk with a | a | a <;> simp [a, hp_self]
  rw [s] at this
  exact in_em this
theorem left_eq {g m : Ms} (h : msMay m = true) : (decide (cS (abS m).1 (abS m).2.1 (abS m).2.2 (abS g).1 (abS g).2.1 (abS g).2.2 = cS (abS m).1 (abS m).2.1 (abS m).2.2 (abS m).1 (abS m).2.1 (abS m).2.2)) = !msLeft g m := by
  rw [msLeft, Bool.not_not, Bool.eq_iff_iff, decide_eq_true_eq]
  exact cut_ins _ _ _ (ab_some h)
end Go.Proofs.Ytmfonbehcfjjgaa.Mv

/- Pasting: the oldest Goto, the messages that are kept. Under no condition. -/
namespace Go.Proofs.Ytmfonbehcfjjgaa.Mv
open Go Go.Proofs
set_option linter.unusedSimpArgs false
set_option linter.unusedVariables false
set_option maxRecDepth 10000
set_option maxHeartbeats 4000000
attribute [local irreducible] AW AO AR

theorem gIsGoto (m : Ms) : Good Try.prog 55 [.agg m.av] [] (.b (isG m)) [] := by
  refine Good.w tabOk mixed Try.func55 (N := 6) (by kernel_rfl) rfl (by (repeat (first | exact LE.nil | apply LE.cons)); done) (by (repeat (first | exact LE.nil | apply LE.cons)); done) fun D hD F => ?_
  repeat' (first
    | apply AO.nil
    | (apply AO.kBox; refine AO.sBox (h := ?_))
    | (apply AO.kP; first | refine AO.sP (h := ?_) | refine AO.sPi (h := ?_) | refine AO.sLoadB (h := ?_))
    | apply AW.seq
    | (apply AW.kR; refine AW.sR (h := ?_))
    | apply AW.skip
    | apply AW.block
    | apply AW.out
    | (apply AW.kE; refine AW.sE (h := ?_))
    | apply AW.label)
  exact AW.ret (hD rfl (Lx.b (by rw [isG, ← kb]; rfl)))
theorem gIdxGoto (l : List Ms) (hl : l.length ≤ 1000000) : Good Try.prog 54 [.sh 6 (l.map Ms.av), .clo 55 []] [] (.i .i64 (findI isG l 0)) [] := by
  refine Good.w tabOk mixed Try.func54 (N := 19) (by kernel_rfl) rfl (by (repeat (first | exact LE.nil | apply LE.cons)); done) (by (repeat (first | exact LE.nil | apply LE.cons)); done) fun D hD F => ?_
  repeat' (first
    | apply AO.nil
    | (apply AO.kIx; first | refine AO.sIxN (h := ?_) | refine AO.sIx (h := ?_) | refine AO.sP (h := ?_) | refine AO.sPi (h := ?_))
    | (apply AO.kAdd; refine AO.sAdd (h := ?_))
    | (apply AO.kP; first | refine AO.sP (h := ?_) | refine AO.sPi (h := ?_) | refine AO.sLoadB (h := ?_))
    | apply AW.seq
    | (apply AW.kR; refine AW.sR (h := ?_))
    | apply AW.skip
    | apply AW.block
    | apply AW.out
    | (apply AW.kE; refine AW.sE (h := ?_))
    | apply AW.label
    | ((first | (apply AW.kC; refine AW.sC (h1 := fun h => ?_) (h2 := fun h => ?_))) <;> (try (first | exact Bool.noConfusion h | exact absurd h (by decide) | (simp at h; done) | (rw [h]; try simp only [nrm] at h; try rw [h]; try (exfalso; omega)) | skip))))
  refine AW.loopI (fun n : Nat => n ≤ l.length ∧ (l.take n).all (fun m => !isG m) = true) (fun n => ⟨[(0, .sh 6 (l.map Ms.av)), (1, .clo 55 []), (7, .i .i64 l.length), (8, .i .i64 n)], []⟩) (fun n => l.length - n) 0 (by simp) (by (constructor <;> (repeat' (first | exact LeT.nil | exact LeB.nil | apply LeT.cons | apply LeB.cons | exact Ol.refl | apply Lx.s | apply Lx.b | apply Lx.i | exact Lx.refl)) <;> (first | rfl | assumption | omega | (simp only [List.length_map, BS_len]; done) | skip))) fun m n ⟨hn, hc⟩ ih => ?_
  repeat' (first
    | apply AO.nil
    | (apply AO.kCallV; refine AO.sCall (hg := (gIsGoto _)) (h := ?_))
    | (apply AO.kIx; first | refine AO.sIxN (h := ?_) | refine AO.sIx (h := ?_) | refine AO.sP (h := ?_) | refine AO.sPi (h := ?_))
    | (apply AO.kAdd; refine AO.sAdd (h := ?_))
    | (apply AO.kP; first | refine AO.sP (h := ?_) | refine AO.sPi (h := ?_) | refine AO.sLoadB (h := ?_))
    | apply AW.seq
    | (apply AW.kR; refine AW.sR (h := ?_))
    | apply AW.skip
    | apply AW.block
    | apply AW.out
    | (apply AW.kE; refine AW.sE (h := ?_))
    | apply AW.label
    | ((first | (apply AW.kC; refine AW.sC (h1 := fun h => ?_) (h2 := fun h => ?_))) <;> (try (first | exact Bool.noConfusion h | exact absurd h (by decide) | (simp at h; done) | (rw [h]; try simp only [nrm] at h; try rw [h]; try (exfalso; omega)) | skip))))
  · refine AW.ret (hD rfl (Lx.i ?_))
    rw [findI_at (by omega) hc (by rename_i h; simpa using h)]
    simp
  · exact ih (n + 1) _ ⟨by omega, all_step (by omega) hc (by rename_i h; simpa using h)⟩ (by omega) (by (constructor <;> (repeat' (first | exact LeT.nil | exact LeB.nil | apply LeT.cons | apply LeB.cons | exact Ol.refl | apply Lx.s | apply Lx.b | apply Lx.i | exact Lx.refl)) <;> (first | rfl | assumption | omega | (simp only [List.length_map, BS_len]; done) | skip)))
  · refine AW.ret (hD rfl (Lx.i ?_))
    exact (findI_none (all_done (by omega) hc)).symm
theorem gFirst (n : Nd) (hs : n.small) : Good Try.prog 19 [.agg n.av] [] (.i .i64 (fstN n)) [] := by
  have h4 := hs.buf
  refine Good.w tabOk mixed Try.func19 (N := 6) (by kernel_rfl) rfl (by (repeat (first | exact LE.nil | apply LE.cons)); done) (by (repeat (first | exact LE.nil | apply LE.cons)); done) fun D hD F => ?_
  repeat' (first
    | apply AO.nil
    | (apply AO.kCall 54; refine AO.sCall (hg := (gIdxGoto _ h4)) (h := ?_))
    | (apply AO.kBox; refine AO.sBox (h := ?_))
    | (apply AO.kP; first | refine AO.sP (h := ?_) | refine AO.sPi (h := ?_) | refine AO.sLoadB (h := ?_))
    | apply AW.seq
    | (apply AW.kR; refine AW.sR (h := ?_))
    | apply AW.skip
    | apply AW.block
    | apply AW.out
    | (apply AW.kE; refine AW.sE (h := ?_))
    | apply AW.label)
  exact AW.ret (hD rfl .refl)
theorem gFirst' (n : Nd) (hs : n.small) : Good Try.prog 20 [.agg n.av] [] (.i .i64 (fstN n)) [] := by
  obtain ⟨leaf, pairs, pivots, kids, l⟩ := n
  have hl : l.length ≤ 1000000 := hs.buf
  refine Good.w tabOk mixed Try.func20 (N := 19) (by kernel_rfl) rfl (by (repeat (first | exact LE.nil | apply LE.cons)); done) (by (repeat (first | exact LE.nil | apply LE.cons)); done) fun D hD F => ?_
  repeat' (first
    | apply AO.nil
    | (apply AO.kIx; first | refine AO.sIxN (h := ?_) | refine AO.sIx (h := ?_) | refine AO.sP (h := ?_) | refine AO.sPi (h := ?_))
    | (apply AO.kBox; refine AO.sBox (h := ?_))
    | (apply AO.kAdd; refine AO.sAdd (h := ?_))
    | (apply AO.kP; first | refine AO.sP (h := ?_) | refine AO.sPi (h := ?_) | refine AO.sLoadB (h := ?_))
    | apply AW.seq
    | (apply AW.kR; refine AW.sR (h := ?_))
    | apply AW.skip
    | apply AW.block
    | apply AW.out
    | (apply AW.kE; refine AW.sE (h := ?_))
    | apply AW.label
    | ((first | (apply AW.kC; refine AW.sC (h1 := fun h => ?_) (h2 := fun h => ?_))) <;> (try (first | exact Bool.noConfusion h | exact absurd h (by decide) | (simp at h; done) | (rw [h]; try simp only [nrm] at h; try rw [h]; try (exfalso; omega)) | skip))))
  refine AW.loopI (fun n : Nat => n ≤ l.length ∧ (l.take n).all (fun m => !isG m) = true) (fun n => ⟨[(1, .ptr 1 0), (6, .i .i64 l.length), (7, .i .i64 n)], [(1, .bx [.b leaf, .sh 2 (pairs.map Pr.av), .sh 1 (pivots.map sav), .sh 4 (kids.map Ed.av), .sh 6 (l.map Ms.av)])]⟩) (fun n => l.length - n) 0 (by simp) (by (constructor <;> (repeat' (first | exact LeT.nil | exact LeB.nil | apply LeT.cons | apply LeB.cons | exact Ol.refl | apply Lx.s | apply Lx.b | apply Lx.i | exact Lx.refl)) <;> (first | rfl | assumption | omega | (simp only [List.length_map, BS_len]; done) | skip))) fun m n ⟨hn, hc⟩ ih => ?_
  repeat' (first
    | apply AO.nil
    | (apply AO.kIx; first | refine AO.sIxN (h := ?_) | refine AO.sIx (h := ?_) | refine AO.sP (h := ?_) | refine AO.sPi (h := ?_))
    | (apply AO.kBox; refine AO.sBox (h := ?_))
    | (apply AO.kAdd; refine AO.sAdd (h := ?_))
    | (apply AO.kP; first | refine AO.sP (h := ?_) | refine AO.sPi (h := ?_) | refine AO.sLoadB (h := ?_))
    | apply AW.seq
    | (apply AW.kR; refine AW.sR (h := ?_))
    | apply AW.skip
    | apply AW.block
    | apply AW.out
    | (apply AW.kE; refine AW.sE (h := ?_))
    | apply AW.label
    | ((first | (apply AW.kC; refine AW.sC (h1 := fun h => ?_) (h2 := fun h => ?_))) <;> (try (first | exact Bool.noConfusion h | exact absurd h (by decide) | (simp at h; done) | (rw [h]; try simp only [nrm] at h; try rw [h]; try (exfalso; omega)) | skip))))
  · refine AW.ret (hD rfl (Lx.i ?_))
    have hk : isG (l.getD n default) = true := by rw [isG, ← kb]; simpa using h
    have : fstN ⟨leaf, pairs, pivots, kids, l⟩ = findI isG l 0 := rfl
    rw [this, findI_at (by omega) hc hk]
    simp
  · have hk : isG (l.getD n default) = false := by rw [isG, ← kb]; simpa using h
    exact ih (n + 1) _ ⟨by omega, all_step (by omega) hc (by rw [hk]; rfl)⟩ (by omega) (by (constructor <;> (repeat' (first | exact LeT.nil | exact LeB.nil | apply LeT.cons | apply LeB.cons | exact Ol.refl | apply Lx.s | apply Lx.b | apply Lx.i | exact Lx.refl)) <;> (first | rfl | assumption | omega | (simp only [List.length_map, BS_len]; done) | skip)))
  · refine AW.ret (hD rfl (Lx.i ?_))
    exact (findI_none (all_done (by omega) hc)).symm
theorem kept_more {l : List Ms} {i q : Nat} (hq : q < i) (hi : i < l.length) : (l.take (q + 1)).filter (msLeft (l.getD i default)) = (l.take q).filter (msLeft (l.getD i default)) ++ if msLeft (l.getD i default) (l.getD q default) = true then [l.getD q default] else [] := by
  cases g : msLeft (l.getD i default) (l.getD q default) with
  | true => rw [filt_yes (by omega) g]; rfl
  | false => rw [filt_no (by omega) g]; simp
theorem trip_eq (a b : L × L × Bool) : (a.1 == b.1 && (a.2.1 == b.2.1 && (a.2.2 == b.2.2 && true))) = decide (a = b) := by
  obtain ⟨a1, a2, a3⟩ := a
  obtain ⟨b1, b2, b3⟩ := b
  rw [Bool.eq_iff_iff]
  simp
theorem gKept (l : List Ms) (i : Nat) (hi : i < l.length) (hl : l.length ≤ 1000000) (hm : l.all msMay = true) (hs : l.all msSm = true) : Good Try.prog 48 [.sh 6 (l.map Ms.av), .i .i64 i] [] (.sh 6 ((keptM l i).map Ms.av)) [] := by
  have ll : (l.map Ms.av).length = l.length := by simp
  obtain ⟨s1, s2⟩ := sm_at hs hi
  refine Good.w tabOk mixed Try.func48 (N := 43) (by kernel_rfl) rfl (by (repeat (first | exact LE.nil | apply LE.cons)); done) (by (repeat (first | exact LE.nil | apply LE.cons)); done) fun D hD F => ?_
  repeat' (first
    | apply AO.nil
    | (apply AO.kCall 44; refine AO.sCall (hg := (gAbout _ s1)) (h := ?_))
    | (apply AO.kBuildS; first | refine AO.sBuildT (h := ?_) | refine AO.sBuildS (h := ?_))
    | (apply AO.kApp; first | refine AO.sGrowT (h := ?_) | refine AO.sNewT (h := ?_) | refine AO.sGrowBT (h := ?_) | refine AO.sGrow (h := ?_) | refine AO.sNewr (h := ?_))
    | (apply AO.kIx; first | refine AO.sIxN (h := ?_) | refine AO.sIx (h := ?_) | refine AO.sP (h := ?_) | refine AO.sPi (h := ?_))
    | (apply AO.kSl; first | refine AO.sSl (h := ?_) | refine AO.sSlArr (h := ?_) | refine AO.sP (h := ?_))
    | (apply AO.kAlloc; refine AO.sAlloc (h := ?_))
    | (apply AO.kStore; first | refine AO.sStore (h := ?_) | refine AO.sStB (h := ?_))
    | (apply AO.kAdd; refine AO.sAdd (h := ?_))
    | (apply AO.kP; first | refine AO.sP (h := ?_) | refine AO.sPi (h := ?_) | refine AO.sLoadB (h := ?_) | refine AO.sSameB (h := ?_))
    | (apply AO.kP; refine AO.eqNil (h1 := fun h => ?_) (h2 := ?_))
    | apply AW.seq
    | (apply AW.kR; refine AW.sR (h := ?_))
    | apply AW.skip
    | apply AW.block
    | apply AW.out
    | (apply AW.kE; refine AW.sE (h := ?_))
    | apply AW.label
    | (apply AW.kRd; refine AW.sRd (h := ?_))
    | ((first | (apply AW.kC; refine AW.sC (h1 := fun h => ?_) (h2 := fun h => ?_))) <;> (try (first | exact Bool.noConfusion h | exact absurd h (by decide) | (simp at h; done) | (rw [h]; try simp only [nrm] at h; try rw [h]; try (exfalso; omega)) | skip)))
    | (apply AR.kAny; first | (apply AR.kCall 44; refine AR.sCall (hg := (gAbout _ s1)) (h := ?_)) | (apply AR.kBuildS; first | refine AR.sBuildT (h := ?_) | refine AR.sBuildS (h := ?_)) | (apply AR.kApp; first | refine AR.sGrowT (h := ?_) | refine AR.sNewT (h := ?_) | refine AR.sGrowBT (h := ?_) | refine AR.sGrow (h := ?_) | refine AR.sNewr (h := ?_)) | (apply AR.kIx; first | refine AR.sIxN (h := ?_) | refine AR.sIx (h := ?_) | refine AR.sP (h := ?_) | refine AR.sPi (h := ?_)) | (apply AR.kSl; first | refine AR.sSl (h := ?_) | refine AR.sSlArr (h := ?_) | refine AR.sP (h := ?_)) | (apply AR.kAlloc; refine AR.sAlloc (h := ?_)) | (apply AR.kStore; refine AR.sStore (h := ?_)) | (apply AR.kAdd; refine AR.sAdd (h := ?_)) | (apply AR.kP; first | refine AR.sP (h := ?_) | refine AR.sPi (h := ?_)))
    | (apply AR.kNil; refine AR.sNil (h := ?_)))
  have hl2 : (l.take i).length = i := by rw [List.length_take]; omega
  have hm2 : (l.take i).all msMay = true := List.all_eq_true.2 fun m hm' => List.all_eq_true.1 hm m (List.mem_of_mem_take hm')
  have hs2 : (l.take i).all msSm = true := List.all_eq_true.2 fun m hm' => List.all_eq_true.1 hs m (List.mem_of_mem_take hm')
  have hlen : (List.map Ms.av (List.take (i : Int).toNat l)).length = i := by rw [List.length_map]; exact hl2
  refine AW.nilrow 900 71 6 (St.freeB_ok rfl) (st' := ⟨[(0, .sh 6 (l.map Ms.av)), (1, .i .i64 i), (5, .ptr 5 0), (6, .gr 900 71 6 []), (17, .sh 6 ((l.take i).map Ms.av)), (18, .i .i64 i), (19, .i .i64 (0 : Nat))], [(5, .bx [.s (abS (l.getD i default)).1, .s (abS (l.getD i default)).2.1, .b (abS (l.getD i default)).2.2]), (900, .gw 0)]⟩) ⟨by ((repeat' (first | exact LeT.nil | apply LeT.cons | exact Lx.nilG | apply Lx.s | apply Lx.b | apply Lx.i | exact Lx.refl)) <;> (first | rfl | assumption | omega | (simp only [List.length_map, BS_len]; done) | skip)), by ((repeat' (first | exact LeB.nil | apply LeB.cons | exact Ol.refl)) <;> (first | rfl | skip))⟩ ?_
  generalize hl' : l.take i = l' at *
  refine AW.loopI (fun x : Nat × List Ms => x.1 ≤ i ∧ x.2 = (l'.take x.1).filter (msLeft (l.getD i default))) (fun x => ⟨[(0, .sh 6 (l.map Ms.av)), (1, .i .i64 i), (5, .ptr 5 0), (6, .gr 900 71 6 (x.2.map Ms.av)), (17, .sh 6 (l'.map Ms.av)), (18, .i .i64 i), (19, .i .i64 x.1)], [(5, .bx [.s (abS (l.getD i default)).1, .s (abS (l.getD i default)).2.1, .b (abS (l.getD i default)).2.2]), (900, .gw (x.2.map Ms.av).length)]⟩) (fun x => i - x.1) (0, []) ⟨by simp, rfl⟩ (by (constructor <;> (repeat' (first | exact LeT.nil | exact LeB.nil | apply LeT.cons | apply LeB.cons | exact Ol.refl | apply Lx.s | apply Lx.b | apply Lx.i | exact Lx.refl)) <;> (first | rfl | assumption | omega | (simp only [List.length_map, BS_len]; done) | skip))) fun m ⟨q, o⟩ ⟨hn, ho⟩ ih => ?_
  dsimp only at hn ho ih ⊢
  have lo : (o.map Ms.av).length = o.length := by simp
  have lo2 : o.length ≤ q := by rw [ho]; exact Nat.le_trans (List.length_filter_le _ _) (by rw [List.length_take]; omega)
  have ll' : (l'.map Ms.av).length = l'.length := by simp
  by_cases hq : q < i
  · obtain ⟨s1', _⟩ := sm_at hs2 (q := q) (by omega)
    have mq : msMay (l'.getD q default) = true := List.all_eq_true.1 hm2 _ (by rw [getD_at (by omega)]; exact List.getElem_mem _)
    have le := left_eq (g := l.getD i default) mq
    repeat' (first
    | apply AO.nil
    | (apply AO.kCall 44; refine AO.sCall (hg := (gAbout _ s1')) (h := ?_))
    | (apply AO.kCall 46; refine AO.sCall (hg := (gCutS _ _ _ _ _ _)) (h := ?_))
    | (apply AO.kBuildS; first | refine AO.sBuildT (h := ?_) | refine AO.sBuildS (h := ?_))
    | (apply AO.kApp; first | refine AO.sGrowT (h := ?_) | refine AO.sNewT (h := ?_) | refine AO.sGrowBT (h := ?_) | refine AO.sGrow (h := ?_) | refine AO.sNewr (h := ?_))
    | (apply AO.kIx; first | refine AO.sIxN (h := ?_) | refine AO.sIx (h := ?_) | refine AO.sP (h := ?_) | refine AO.sPi (h := ?_))
    | (apply AO.kSl; first | refine AO.sSl (h := ?_) | refine AO.sSlArr (h := ?_) | refine AO.sP (h := ?_))
    | (apply AO.kAlloc; refine AO.sAlloc (h := ?_))
    | (apply AO.kStore; first | refine AO.sStore (h := ?_) | refine AO.sStB (h := ?_))
    | (apply AO.kAdd; refine AO.sAdd (h := ?_))
    | (apply AO.kP; first | refine AO.sP (h := ?_) | refine AO.sPi (h := ?_) | refine AO.sLoadB (h := ?_) | refine AO.sSameB (h := ?_))
    | (apply AO.kP; refine AO.eqNil (h1 := fun h => ?_) (h2 := ?_))
    | apply AW.seq
    | (apply AW.kR; refine AW.sR (h := ?_))
    | apply AW.skip
    | apply AW.block
    | apply AW.out
    | (apply AW.kE; refine AW.sE (h := ?_))
    | apply AW.label
    | (apply AW.kRd; refine AW.sRd (h := ?_))
    | ((first | (apply AW.kC; refine AW.sC (h1 := fun h => ?_) (h2 := fun h => ?_))) <;> (try (first | exact Bool.noConfusion h | exact absurd h (by decide) | (simp at h; done) | (rw [h]; try simp only [nrm] at h; try rw [h]; try (exfalso; omega)) | skip)))
    | (apply AR.kAny; first | (apply AR.kCall 44; refine AR.sCall (hg := (gAbout _ s1')) (h := ?_)) | (apply AR.kCall 46; refine AR.sCall (hg := (gCutS _ _ _ _ _ _)) (h := ?_)) | (apply AR.kBuildS; first | refine AR.sBuildT (h := ?_) | refine AR.sBuildS (h := ?_)) | (apply AR.kApp; first | refine AR.sGrowT (h := ?_) | refine AR.sNewT (h := ?_) | refine AR.sGrowBT (h := ?_) | refine AR.sGrow (h := ?_) | refine AR.sNewr (h := ?_)) | (apply AR.kIx; first | refine AR.sIxN (h := ?_) | refine AR.sIx (h := ?_) | refine AR.sP (h := ?_) | refine AR.sPi (h := ?_)) | (apply AR.kSl; first | refine AR.sSl (h := ?_) | refine AR.sSlArr (h := ?_) | refine AR.sP (h := ?_)) | (apply AR.kAlloc; refine AR.sAlloc (h := ?_)) | (apply AR.kStore; refine AR.sStore (h := ?_)) | (apply AR.kAdd; refine AR.sAdd (h := ?_)) | (apply AR.kP; first | refine AR.sP (h := ?_) | refine AR.sPi (h := ?_)))
    | (apply AR.kNil; refine AR.sNil (h := ?_)))
    · rw [trip_eq, le] at h
      have g : msLeft (l.getD i default) (l'.getD q default) = true := by simpa using h
      exact ih (q + 1, o ++ [l'.getD q default]) _ ⟨by dsimp only; omega, by dsimp only; rw [ho, filt_yes (by omega) g]⟩ (by dsimp only; omega) (by ((constructor <;> (repeat' (first | exact LeT.nil | exact LeB.nil | apply LeT.cons | apply LeB.cons | exact Ol.refl | apply Lx.s | apply Lx.b | apply Lx.i | exact Lx.refl)) <;> (first | rfl | assumption | omega | (simp only [List.length_map, BS_len]; done) | skip)) <;> (first | (refine Lx.eq (congrArg (AV.gr _ _ _) ?_); simp only [List.map_append, List.map_cons, List.map_nil]; rfl) | (refine Ol.eq (congrArg Ob.gw ?_); simp only [List.map_append, List.map_cons, List.map_nil, List.length_append, List.length_map, List.length_cons, List.length_nil]; done) | (refine Ol.bx ?_; (repeat' (first | exact LxL.nil | apply LxL.cons | exact Lx.refl | (refine Lx.eq (congrArg (AV.gr _ _ _) ?_); simp only [List.map_append, List.map_cons, List.map_nil]; rfl)))) | skip)))
    · rw [trip_eq, le] at h
      have g : msLeft (l.getD i default) (l'.getD q default) = false := by simpa using h
      exact ih (q + 1, o) _ ⟨by dsimp only; omega, by dsimp only; rw [ho, filt_no (by omega) g]⟩ (by dsimp only; omega) (by (constructor <;> (repeat' (first | exact LeT.nil | exact LeB.nil | apply LeT.cons | apply LeB.cons | exact Ol.refl | apply Lx.s | apply Lx.b | apply Lx.i | exact Lx.refl)) <;> (first | rfl | assumption | omega | (simp only [List.length_map, BS_len]; done) | skip)))
    all_goals omega
  · obtain rfl : q = i := by omega
    repeat' (first
    | apply AO.nil
    | (apply AO.kBuildS; first | refine AO.sBuildT (h := ?_) | refine AO.sBuildS (h := ?_))
    | (apply AO.kApp; first | refine AO.sGrowT (h := ?_) | refine AO.sNewT (h := ?_) | refine AO.sGrowBT (h := ?_) | refine AO.sGrow (h := ?_) | refine AO.sNewr (h := ?_))
    | (apply AO.kIx; first | refine AO.sIxN (h := ?_) | refine AO.sIx (h := ?_) | refine AO.sP (h := ?_) | refine AO.sPi (h := ?_))
    | (apply AO.kSl; first | refine AO.sSl (h := ?_) | refine AO.sSlArr (h := ?_) | refine AO.sP (h := ?_))
    | (apply AO.kAlloc; refine AO.sAlloc (h := ?_))
    | (apply AO.kStore; first | refine AO.sStore (h := ?_) | refine AO.sStB (h := ?_))
    | (apply AO.kAdd; refine AO.sAdd (h := ?_))
    | (apply AO.kP; first | refine AO.sP (h := ?_) | refine AO.sPi (h := ?_) | refine AO.sLoadB (h := ?_) | refine AO.sSameB (h := ?_))
    | (apply AO.kP; refine AO.eqNil (h1 := fun h => ?_) (h2 := ?_))
    | apply AW.seq
    | (apply AW.kR; refine AW.sR (h := ?_))
    | apply AW.skip
    | apply AW.block
    | apply AW.out
    | (apply AW.kE; refine AW.sE (h := ?_))
    | apply AW.label
    | (apply AW.kRd; refine AW.sRd (h := ?_))
    | ((first | (apply AW.kC; refine AW.sC (h1 := fun h => ?_) (h2 := fun h => ?_))) <;> (try (first | exact Bool.noConfusion h | exact absurd h (by decide) | (simp at h; done) | (rw [h]; try simp only [nrm] at h; try rw [h]; try (exfalso; omega)) | skip)))
    | (apply AR.kAny; first | (apply AR.kBuildS; first | refine AR.sBuildT (h := ?_) | refine AR.sBuildS (h := ?_)) | (apply AR.kApp; first | refine AR.sGrowT (h := ?_) | refine AR.sNewT (h := ?_) | refine AR.sGrowBT (h := ?_) | refine AR.sGrow (h := ?_) | refine AR.sNewr (h := ?_)) | (apply AR.kIx; first | refine AR.sIxN (h := ?_) | refine AR.sIx (h := ?_) | refine AR.sP (h := ?_) | refine AR.sPi (h := ?_)) | (apply AR.kSl; first | refine AR.sSl (h := ?_) | refine AR.sSlArr (h := ?_) | refine AR.sP (h := ?_)) | (apply AR.kAlloc; refine AR.sAlloc (h := ?_)) | (apply AR.kStore; refine AR.sStore (h := ?_)) | (apply AR.kAdd; refine AR.sAdd (h := ?_)) | (apply AR.kP; first | refine AR.sP (h := ?_) | refine AR.sPi (h := ?_)))
    | (apply AR.kNil; refine AR.sNil (h := ?_)))
    have e : keptM l q = o ++ l.drop (q + 1) := by rw [keptM, hl', ho, List.take_of_length_le (by omega)]
    have e2 : ((q : Int) + 1).toNat = q + 1 := by omega
    rw [e, List.map_append] at hD
    refine AW.ret (hD rfl ?_)
    show Lx _ (.gr _ _ _ _) _
    rw [e2]
    exact Lx.gr
end Go.Proofs.Ytmfonbehcfjjgaa.Mv

/- Pasting: the program. Under no condition. -/
namespace Go.Proofs.Ytmfonbehcfjjgaa.Mv
open Go Go.Proofs
set_option linter.unusedSimpArgs false
set_option linter.unusedVariables false
set_option maxRecDepth 10000
set_option maxHeartbeats 4000000
attribute [local irreducible] AW AO AR

theorem inner_rise {n : Nd} (h : innerOk n = true) : rise ([] :: n.pivots) = true := by
  simp only [innerOk, Bool.and_eq_true] at h
  exact h.1.2.1
theorem rg_at {n : Nd} (hl : n.pivots.length + 1 = n.kids.length) {i : Nat} (hi : i < n.kids.length) : (rgN n i).1 = ([] :: n.pivots).getD i default := by
  cases i with
  | zero =>
    unfold rgN; split <;> simp
  | succ i => rw [rg_lo (by omega) hl hi]; simp
theorem rg_some {n : Nd} (hI : innerOk n = true) {i : Nat} (hi : i < n.kids.length) : emR (rgN n i).1 (rgN n i).2.1 (rgN n i).2.2 = false := by
  obtain ⟨pl, _, _⟩ := inner_len hI
  by_cases c : i < n.pivots.length
  · obtain ⟨e1, e2⟩ := rg_hi (n := n) pl c
    have := rise_lt (inner_rise hI) (i := i) (i + 1) (by omega) (by simp; omega)
    rw [emR, e1, e2, rg_at pl hi]
    have e3 : ([] :: n.pivots).getD (i + 1) default = n.pivots.getD i default := by simp
    rw [e3] at this
    rw [this]; rfl
  · have : (rgN n i).2.2 = false := by
      unfold rgN; rw [if_neg (by omega)]; exact decide_eq_false (by omega)
    rw [emR, this]; rfl
theorem cut_a {n : Nd} (hI : innerOk n = true) {q : Nat} (hq : q < n.kids.length) (k : L) : emR (cS (rgN n q).1 (rgN n q).2.1 (rgN n q).2.2 [] k true).1 (cS (rgN n q).1 (rgN n q).2.1 (rgN n q).2.2 [] k true).2.1 (cS (rgN n q).1 (rgN n q).2.1 (rgN n q).2.2 [] k true).2.2 = !lt (rgN n q).1 k := by
  have hs := rg_some hI hq
  generalize rgN n q = r at *
  obtain ⟨lo, hi, e⟩ := r
  dsimp only at hs ⊢
  have e1 : mxS lo [] = lo := by rw [mxS, if_pos (lt_nil lo)]
  cases g : lt lo k with
  | true =>
    have : inR lo hi e lo = true := in_lo hs
    have h2 := cS_in lo hi e [] k true lo
    rw [this] at h2
    have h3 : inR [] k true lo = true := by simp [inR, lt_nil, g]
    rw [h3] at h2
    exact in_em h2
  | false =>
    cases c : emR (cS lo hi e [] k true).1 (cS lo hi e [] k true).2.1 (cS lo hi e [] k true).2.2 with
    | true => rfl
    | false =>
      have h2 := cS_in lo hi e [] k true (cS lo hi e [] k true).1
      rw [in_lo c, eq_comm, Bool.and_eq_true] at h2
      simp only [inR, Bool.and_eq_true, Bool.not_eq_true', Bool.or_eq_true] at h2
      rcases h2.2.2 with a | a
      · cases a
      · have := lt_of_le_lt h2.1.1 a
        rw [g] at this; cases this
theorem cut_b {n : Nd} (hI : innerOk n = true) {q : Nat} (hq : q < n.kids.length) (k : L) (e : Bool) : (e && !emR (cS (rgN n q).1 (rgN n q).2.1 (rgN n q).2.2 k [] false).1 (cS (rgN n q).1 (rgN n q).2.1 (rgN n q).2.2 k [] false).2.1 (cS (rgN n q).1 (rgN n q).2.1 (rgN n q).2.2 k [] false).2.2) = behB n k e q ∧
    (behB n k e q = true → (cS (rgN n q).1 (rgN n q).2.1 (rgN n q).2.2 k [] false).1 = mxS (rgN n q).1 k) := by
  have hs := rg_some hI hq
  unfold behB
  generalize rgN n q = r at *
  obtain ⟨lo, hi, e'⟩ := r
  dsimp only at hs ⊢
  have key : (emR (cS lo hi e' k [] false).1 (cS lo hi e' k [] false).2.1 (cS lo hi e' k [] false).2.2 = (e' && !lt k hi)) ∧ ((e' && !lt k hi) = false → (cS lo hi e' k [] false).1 = mxS lo k) := by
    have e2 : cutHi lo hi e' k [] false = if e' = true then hi else [] := by unfold cutHi; cases e' <;> rfl
    have e3 : cutEm lo hi e' k [] false = (e' && !lt k hi) := by
      rw [cutEm, e2, emR, Bool.or_false]
      cases e' with
      | false => rfl
      | true =>
        simp only [if_true, Bool.true_and]
        congr 1
        simp only [emR, Bool.true_and, Bool.not_eq_false'] at hs
        unfold mxS
        split
        · rename_i c
          rw [hs]
          have := lt_of_le_lt c hs
          rw [this]
        · rfl
    cases c : (e' && !lt k hi) with
    | true =>
      have : cS lo hi e' k [] false = ([], [], true) := by rw [cS, e3, c]; simp
      rw [this]; exact ⟨rfl, fun h => by cases h⟩
    | false =>
      have : cS lo hi e' k [] false = (mxS lo k, cutHi lo hi e' k [] false, e' || false) := by rw [cS, e3, c]; simp
      rw [this]
      dsimp only
      have e4 : emR (mxS lo k) (cutHi lo hi e' k [] false) (e' || false) = cutEm lo hi e' k [] false := rfl
      exact ⟨by rw [e4, e3, c], fun _ => rfl⟩
  refine ⟨by rw [key.1], fun h => key.2 ?_⟩
  cases e with
  | false => cases h
  | true =>
    simp only [Bool.true_and, Bool.not_eq_true'] at h
    exact h
theorem ab_goto {g : Ms} (h : g.kind = 3) : abS g = (g.key, succS g.key, succOk g.key) := by
  unfold abS; rw [h]; rfl
theorem gPaste (n : Nd) (i : Int) (hs : n.small) : Good Try.prog 16 [.agg n.av, .i .i64 i] [] (.tup [.agg (pstN n i).av, .i .i64 (pstE n i)]) [] := by
  have hs4 := hs.buf
  have hs3 := hs.kids
  have gM := gMay n hs
  have gF := gFirst n hs
  by_cases h0 : mayN n = 0
  · cases hok : psOk n i with
    | false =>
      obtain ⟨t1, t2⟩ := pst1 h0 hok
      rw [t1, t2]
      refine Good.w tabOk mixed Try.func16 (N := 106) (by kernel_rfl) rfl (by (repeat (first | exact LE.nil | apply LE.cons)); done) (by (repeat (first | exact LE.nil | apply LE.cons)); done) fun D hD F => ?_
      repeat' (first
    | apply AO.nil
    | (apply AO.kCall 39; refine AO.sCall (hg := gM) (h := ?_))
    | (apply AO.kCall 19; refine AO.sCall (hg := gF) (h := ?_))
    | (apply AO.kIx; first | refine AO.sIxN (h := ?_) | refine AO.sIx (h := ?_) | refine AO.sP (h := ?_) | refine AO.sPi (h := ?_))
    | (apply AO.kBox; refine AO.sBox (h := ?_))
    | (apply AO.kAlloc; refine AO.sAlloc (h := ?_))
    | (apply AO.kStore; first | refine AO.sStore (h := ?_) | refine AO.sStB (h := ?_))
    | (apply AO.kAdd; refine AO.sAdd (h := ?_))
    | (apply AO.kP; first | refine AO.sP (h := ?_) | refine AO.sPi (h := ?_) | refine AO.sLoadB (h := ?_))
    | apply AW.seq
    | (apply AW.kR; refine AW.sR (h := ?_))
    | apply AW.skip
    | apply AW.block
    | apply AW.out
    | (apply AW.kE; refine AW.sE (h := ?_))
    | apply AW.label
    | (apply AW.kRd; refine AW.sRd (h := ?_))
    | ((first | (apply AO.kG; first | refine AO.sgt (h1 := fun h => ?_) (h2 := fun h => ?_) | refine AO.sgf (h1 := fun h => ?_) (h2 := fun h => ?_) | refine AO.sgs (h := ?_)) | (apply AW.kC; refine AW.sC (h1 := fun h => ?_) (h2 := fun h => ?_)) | (apply AR.kAny; apply AR.kG; first | refine AR.sgt (h1 := fun h => ?_) (h2 := fun h => ?_) | refine AR.sgf (h1 := fun h => ?_) (h2 := fun h => ?_) | refine AR.sgs (h := ?_))) <;> (try (first | exact Bool.noConfusion h | exact absurd h (by decide) | (simp at h; done) | (rw [h]; try simp only [nrm] at h; try rw [h]; try (exfalso; omega)) | skip)))
    | (apply AR.kAny; first | (apply AR.kCall 39; refine AR.sCall (hg := gM) (h := ?_)) | (apply AR.kCall 19; refine AR.sCall (hg := gF) (h := ?_)) | (apply AR.kIx; first | refine AR.sIxN (h := ?_) | refine AR.sIx (h := ?_) | refine AR.sP (h := ?_) | refine AR.sPi (h := ?_)) | (apply AR.kBox; refine AR.sBox (h := ?_)) | (apply AR.kAlloc; refine AR.sAlloc (h := ?_)) | (apply AR.kStore; refine AR.sStore (h := ?_)) | (apply AR.kAdd; refine AR.sAdd (h := ?_)) | (apply AR.kP; first | refine AR.sP (h := ?_) | refine AR.sPi (h := ?_)))
    | (apply AR.kNil; refine AR.sNil (h := ?_)))
      all_goals first
        | exact AW.ret (hD rfl (Lx.tup (.cons (Lx.agg (.cons .refl (.cons .nil (.cons .nil (.cons .nil (.cons .nil .nil)))))) (.cons .refl .nil))))
        | (exfalso; exact absurd h0 (ne0 (by assumption)))
        | (exfalso; simp only [psOk, Bool.and_eq_false_iff, decide_eq_false_iff_not, beq_eq_false_iff_ne] at hok; simp only [bne_eq_false_iff_eq, bne_iff_ne] at *; omega)
    | true =>
      obtain ⟨t1, t2⟩ := pst0 h0 hok
      obtain ⟨j, rfl, hj, hk3, hfst⟩ := psOk_at hok
      rw [t1, t2, Int.toNat_natCast]
      have hl : n.leaf = false := by
        cases hl : n.leaf with
        | false => rfl
        | true =>
          have := (leaf_len (may_leaf h0 hl)).2.2
          rw [this] at hj; simp at hj
      have hI := (may_inner h0 hl).1
      have k8 := (may_inner h0 hl).2.1
      have hmm : n.buf.all msMay = true := by simp only [innerOk, Bool.and_eq_true] at hI; exact hI.2
      have hst := (may_strs h0).buf
      obtain ⟨s1, s2⟩ := sm_at hst hj
      have ga := gAbout (n.buf.getD j default) s1
      rw [ab_goto hk3] at ga
      have gK := gKept n.buf j hj hs4 hmm hst
      rw [hfst] at gF
      rw [h0] at gM
      have lk : ((n.kids.map Ed.av).length : Int) = (n.kids.length : Nat) := by simp
      refine Good.w tabOk mixed Try.func16 (N := 106) (by kernel_rfl) rfl (by (repeat (first | exact LE.nil | apply LE.cons)); done) (by (repeat (first | exact LE.nil | apply LE.cons)); done) fun D hD F => ?_
      repeat' (first
    | apply AO.nil
    | (apply AO.kCall 39; refine AO.sCall (hg := gM) (h := ?_))
    | (apply AO.kCall 19; refine AO.sCall (hg := gF) (h := ?_))
    | (apply AO.kCall 44; refine AO.sCall (hg := ga) (h := ?_))
    | (apply AO.kIx; first | refine AO.sIxN (h := ?_) | refine AO.sIx (h := ?_) | refine AO.sP (h := ?_) | refine AO.sPi (h := ?_))
    | (apply AO.kBox; refine AO.sBox (h := ?_))
    | (apply AO.kAlloc; refine AO.sAlloc (h := ?_))
    | (apply AO.kStore; first | refine AO.sStore (h := ?_) | refine AO.sStB (h := ?_))
    | (apply AO.kAdd; refine AO.sAdd (h := ?_))
    | (apply AO.kP; first | refine AO.sP (h := ?_) | refine AO.sPi (h := ?_) | refine AO.sLoadB (h := ?_))
    | apply AW.seq
    | (apply AW.kR; refine AW.sR (h := ?_))
    | apply AW.skip
    | apply AW.block
    | apply AW.out
    | (apply AW.kE; refine AW.sE (h := ?_))
    | apply AW.label
    | (apply AW.kRd; refine AW.sRd (h := ?_))
    | ((first | (apply AO.kG; first | refine AO.sgt (h1 := fun h => ?_) (h2 := fun h => ?_) | refine AO.sgf (h1 := fun h => ?_) (h2 := fun h => ?_) | refine AO.sgs (h := ?_)) | (apply AW.kC; refine AW.sC (h1 := fun h => ?_) (h2 := fun h => ?_)) | (apply AR.kAny; apply AR.kG; first | refine AR.sgt (h1 := fun h => ?_) (h2 := fun h => ?_) | refine AR.sgf (h1 := fun h => ?_) (h2 := fun h => ?_) | refine AR.sgs (h := ?_))) <;> (try (first | exact Bool.noConfusion h | exact absurd h (by decide) | (simp at h; done) | (rw [h]; try simp only [nrm] at h; try rw [h]; try (exfalso; omega)) | skip)))
    | (apply AR.kAny; first | (apply AR.kCall 39; refine AR.sCall (hg := gM) (h := ?_)) | (apply AR.kCall 19; refine AR.sCall (hg := gF) (h := ?_)) | (apply AR.kCall 44; refine AR.sCall (hg := ga) (h := ?_)) | (apply AR.kIx; first | refine AR.sIxN (h := ?_) | refine AR.sIx (h := ?_) | refine AR.sP (h := ?_) | refine AR.sPi (h := ?_)) | (apply AR.kBox; refine AR.sBox (h := ?_)) | (apply AR.kAlloc; refine AR.sAlloc (h := ?_)) | (apply AR.kStore; refine AR.sStore (h := ?_)) | (apply AR.kAdd; refine AR.sAdd (h := ?_)) | (apply AR.kP; first | refine AR.sP (h := ?_) | refine AR.sPi (h := ?_)))
    | (apply AR.kNil; refine AR.sNil (h := ?_)))
      refine AW.nilrow 901 9 1 (St.freeB_ok rfl) (st' := ⟨[(1, .i .i64 j), (2, .ptr 2 0), (4, .ptr 4 0), (6, .ptr 6 0), (7, .ptr 7 0), (8, .ptr 8 0), (36, .sh 4 (n.kids.map Ed.av)), (37, .i .i64 n.kids.length), (38, .i .i64 (0 : Nat))], [(2, .bx n.av), (4, .bx [.b false, .nil, .nil, .nil, .nil]), (6, .bx (n.buf.getD j default).av), (7, .bx [.s (n.buf.getD j default).key, .s (succS (n.buf.getD j default).key), .b (succOk (n.buf.getD j default).key)]), (8, .bx [.b false, .nil, .gr 901 9 1 [], .nil, .nil]), (901, .gw 0)]⟩) ⟨by ((repeat' (first | exact LeT.nil | apply LeT.cons | exact Lx.nilG | apply Lx.s | apply Lx.b | apply Lx.i | exact Lx.refl)) <;> (first | rfl | assumption | omega | (simp only [List.length_map, BS_len]; done) | skip)), .cons .refl (.cons .refl (.cons .refl (.cons .refl (.cons (.bx (.cons .refl (.cons .refl (.cons .nilG (.cons .refl (.cons .refl .nil)))))) (.cons .refl .nil)))))⟩ ?_
      refine AW.nilrow 902 65 4 (St.freeB_ok rfl) (st' := ⟨[(1, .i .i64 j), (2, .ptr 2 0), (4, .ptr 4 0), (6, .ptr 6 0), (7, .ptr 7 0), (8, .ptr 8 0), (36, .sh 4 (n.kids.map Ed.av)), (37, .i .i64 n.kids.length), (38, .i .i64 (0 : Nat))], [(2, .bx n.av), (4, .bx [.b false, .nil, .nil, .nil, .nil]), (6, .bx (n.buf.getD j default).av), (7, .bx [.s (n.buf.getD j default).key, .s (succS (n.buf.getD j default).key), .b (succOk (n.buf.getD j default).key)]), (8, .bx [.b false, .nil, .gr 901 9 1 [], .gr 902 65 4 [], .nil]), (901, .gw 0), (902, .gw 0)]⟩) ⟨by ((repeat' (first | exact LeT.nil | apply LeT.cons | exact Lx.nilG | apply Lx.s | apply Lx.b | apply Lx.i | exact Lx.refl)) <;> (first | rfl | assumption | omega | (simp only [List.length_map, BS_len]; done) | skip)), .cons .refl (.cons .refl (.cons .refl (.cons .refl (.cons (.bx (.cons .refl (.cons .refl (.cons .refl (.cons .nilG (.cons .refl .nil)))))) (.cons .refl (.cons .refl .nil))))))⟩ ?_
      refine AW.loopI (fun x : Nat => x ≤ n.kids.length) (fun x => ⟨[(1, .i .i64 j), (2, .ptr 2 0), (4, .ptr 4 0), (6, .ptr 6 0), (7, .ptr 7 0), (8, .ptr 8 0), (36, .sh 4 (n.kids.map Ed.av)), (37, .i .i64 n.kids.length), (38, .i .i64 x)], [(2, .bx n.av), (4, .bx [.b false, .nil, .nil, .nil, .nil]), (6, .bx (n.buf.getD j default).av), (7, .bx [.s (n.buf.getD j default).key, .s (succS (n.buf.getD j default).key), .b (succOk (n.buf.getD j default).key)]), (8, .bx [.b false, .nil, .gr 901 9 1 ((runA n (n.buf.getD j default).key x).1.map sav), .gr 902 65 4 ((runA n (n.buf.getD j default).key x).2.map Ed.av), .nil]), (901, .gw ((runA n (n.buf.getD j default).key x).1.map sav).length), (902, .gw ((runA n (n.buf.getD j default).key x).2.map Ed.av).length)]⟩) (fun x => n.kids.length - x) 0 (by simp) (by (constructor <;> (repeat' (first | exact LeT.nil | exact LeB.nil | apply LeT.cons | apply LeB.cons | exact Ol.refl | apply Lx.s | apply Lx.b | apply Lx.i | exact Lx.refl)) <;> (first | rfl | assumption | omega | (simp only [List.length_map, BS_len]; done) | skip))) fun m q hn ih => ?_
      have la := runA_len n (n.buf.getD j default).key q
      by_cases hq : q < n.kids.length
      · have hcut := cut_a hI hq (n.buf.getD j default).key
        repeat (first | apply AW.seq | apply AW.block | apply AW.skip)
        apply AW.kR; refine AW.sR (h := ?_)
        apply AO.kP; refine AO.sP (h := ?_)
        apply AO.nil
        apply AW.seq; apply AW.kC; refine AW.sC (h1 := fun h => ?_) (h2 := fun h => False.elim (by simp only [nrm] at h; omega))
        repeat' (first
    | apply AO.nil
    | (apply AO.kCall 26; refine AO.sCall (hg := (gRange n _ hs sd)) (h := ?_))
    | (apply AO.kCall 46; refine AO.sCall (hg := (gCutS _ _ _ _ _ _)) (h := ?_))
    | (apply AO.kCall 45; refine AO.sCall (hg := (gEmpty _ _ _)) (h := ?_))
    | (apply AO.kCall 47; refine AO.callM [(1000000, 8), (1000001, 901), (1000002, 902)] (hg := (gPut (runA n (n.buf.getD j default).key q) _ (n.kids.getD q default) sd sd)) (hc := by exact rfl) (ha := by (repeat constructor); done) (hl := by (repeat (first | exact LeL.nil | (refine LeL.cons (Le.refl _) ?_) | (refine LeL.cons Le.gr ?_) | (refine LeL.cons Le.nil ?_))); done) (hi := by (repeat (first | exact Rho.here | exact Rho.nil | (refine Rho.there ?_ ?_; exact rfl) | exact RnL.nil | apply RnL.cons | exact RoL.nil | exact Lent.nil | exact Apd.nil | apply Apd.cons | (refine Lent.cons ?_ ?_ ?_ ?_ ?_) | (refine RoL.cons ?_ ?_ ?_) | (refine RnL.same ?_; exact rfl) | constructor | exact rfl)); done) (ht := by exact rfl) (hr := by (repeat (first | exact Rho.here | exact Rho.nil | (refine Rho.there ?_ ?_; exact rfl) | exact RnL.nil | apply RnL.cons | exact RoL.nil | exact Lent.nil | exact Apd.nil | apply Apd.cons | (refine Lent.cons ?_ ?_ ?_ ?_ ?_) | (refine RoL.cons ?_ ?_ ?_) | (refine RnL.same ?_; exact rfl) | constructor | exact rfl)); done) (ho := by (repeat (first | exact Rho.here | exact Rho.nil | (refine Rho.there ?_ ?_; exact rfl) | exact RnL.nil | apply RnL.cons | exact RoL.nil | exact Lent.nil | exact Apd.nil | apply Apd.cons | (refine Lent.cons ?_ ?_ ?_ ?_ ?_) | (refine RoL.cons ?_ ?_ ?_) | (refine RnL.same ?_; exact rfl) | constructor | exact rfl)); done) (hn := by exact rfl) (hB := by (repeat (first | exact Rho.here | exact Rho.nil | (refine Rho.there ?_ ?_; exact rfl) | exact RnL.nil | apply RnL.cons | exact RoL.nil | exact Lent.nil | exact Apd.nil | apply Apd.cons | (refine Lent.cons ?_ ?_ ?_ ?_ ?_) | (refine RoL.cons ?_ ?_ ?_) | (refine RnL.same ?_; exact rfl) | constructor | exact rfl)); done) (h := ?_))
    | (apply AO.kIx; first | refine AO.sIxN (h := ?_) | refine AO.sIx (h := ?_) | refine AO.sP (h := ?_) | refine AO.sPi (h := ?_))
    | (apply AO.kBox; refine AO.sBox (h := ?_))
    | (apply AO.kAlloc; refine AO.sAlloc (h := ?_))
    | (apply AO.kStore; first | refine AO.sStore (h := ?_) | refine AO.sStB (h := ?_))
    | (apply AO.kAdd; refine AO.sAdd (h := ?_))
    | (apply AO.kP; first | refine AO.sP (h := ?_) | refine AO.sPi (h := ?_) | refine AO.sLoadB (h := ?_))
    | apply AW.seq
    | (apply AW.kR; refine AW.sR (h := ?_))
    | apply AW.skip
    | apply AW.block
    | apply AW.out
    | (apply AW.kE; refine AW.sE (h := ?_))
    | apply AW.label
    | (apply AW.kRd; refine AW.sRd (h := ?_))
    | ((first | (apply AO.kG; first | refine AO.sgt (h1 := fun h => ?_) (h2 := fun h => ?_) | refine AO.sgf (h1 := fun h => ?_) (h2 := fun h => ?_) | refine AO.sgs (h := ?_)) | (apply AW.kC; refine AW.sC (h1 := fun h => ?_) (h2 := fun h => ?_)) | (apply AR.kAny; apply AR.kG; first | refine AR.sgt (h1 := fun h => ?_) (h2 := fun h => ?_) | refine AR.sgf (h1 := fun h => ?_) (h2 := fun h => ?_) | refine AR.sgs (h := ?_))) <;> (try (first | exact Bool.noConfusion h | exact absurd h (by decide) | (simp at h; done) | (rw [h]; try simp only [nrm] at h; try rw [h]; try (exfalso; omega)) | skip)))
    | (apply AR.kAny; first | (apply AR.kCall 26; refine AR.sCall (hg := (gRange n _ hs sd)) (h := ?_)) | (apply AR.kCall 46; refine AR.sCall (hg := (gCutS _ _ _ _ _ _)) (h := ?_)) | (apply AR.kCall 45; refine AR.sCall (hg := (gEmpty _ _ _)) (h := ?_)) | (apply AR.kCall 47; refine AR.callM [(1000000, 8), (1000001, 901), (1000002, 902)] (hg := (gPut (runA n (n.buf.getD j default).key q) _ (n.kids.getD q default) sd sd)) (hc := by exact rfl) (ha := by (repeat constructor); done) (hl := by (repeat (first | exact LeL.nil | (refine LeL.cons (Le.refl _) ?_) | (refine LeL.cons Le.gr ?_) | (refine LeL.cons Le.nil ?_))); done) (hi := by (repeat (first | exact Rho.here | exact Rho.nil | (refine Rho.there ?_ ?_; exact rfl) | exact RnL.nil | apply RnL.cons | exact RoL.nil | exact Lent.nil | exact Apd.nil | apply Apd.cons | (refine Lent.cons ?_ ?_ ?_ ?_ ?_) | (refine RoL.cons ?_ ?_ ?_) | (refine RnL.same ?_; exact rfl) | constructor | exact rfl)); done) (ht := by exact rfl) (hr := by (repeat (first | exact Rho.here | exact Rho.nil | (refine Rho.there ?_ ?_; exact rfl) | exact RnL.nil | apply RnL.cons | exact RoL.nil | exact Lent.nil | exact Apd.nil | apply Apd.cons | (refine Lent.cons ?_ ?_ ?_ ?_ ?_) | (refine RoL.cons ?_ ?_ ?_) | (refine RnL.same ?_; exact rfl) | constructor | exact rfl)); done) (ho := by (repeat (first | exact Rho.here | exact Rho.nil | (refine Rho.there ?_ ?_; exact rfl) | exact RnL.nil | apply RnL.cons | exact RoL.nil | exact Lent.nil | exact Apd.nil | apply Apd.cons | (refine Lent.cons ?_ ?_ ?_ ?_ ?_) | (refine RoL.cons ?_ ?_ ?_) | (refine RnL.same ?_; exact rfl) | constructor | exact rfl)); done) (hn := by exact rfl) (hB := by (repeat (first | exact Rho.here | exact Rho.nil | (refine Rho.there ?_ ?_; exact rfl) | exact RnL.nil | apply RnL.cons | exact RoL.nil | exact Lent.nil | exact Apd.nil | apply Apd.cons | (refine Lent.cons ?_ ?_ ?_ ?_ ?_) | (refine RoL.cons ?_ ?_ ?_) | (refine RnL.same ?_; exact rfl) | constructor | exact rfl)); done) (htg := by (repeat (first | exact LE.nil | apply LE.cons)); done) (h := ?_)) | (apply AR.kIx; first | refine AR.sIxN (h := ?_) | refine AR.sIx (h := ?_) | refine AR.sP (h := ?_) | refine AR.sPi (h := ?_)) | (apply AR.kBox; refine AR.sBox (h := ?_)) | (apply AR.kAlloc; refine AR.sAlloc (h := ?_)) | (apply AR.kStore; refine AR.sStore (h := ?_)) | (apply AR.kAdd; refine AR.sAdd (h := ?_)) | (apply AR.kP; first | refine AR.sP (h := ?_) | refine AR.sPi (h := ?_)))
    | (apply AR.kNil; refine AR.sNil (h := ?_)))
        · have er : runA n (n.buf.getD j default).key (q + 1) = putK (runA n (n.buf.getD j default).key q) (rgN n q).1 (n.kids.getD q default) := by
            rw [runA, if_pos]
            have h' : emR (cS (rgN n q).1 (rgN n q).2.1 (rgN n q).2.2 [] (n.buf.getD j default).key true).1 (cS (rgN n q).1 (rgN n q).2.1 (rgN n q).2.2 [] (n.buf.getD j default).key true).2.1 (cS (rgN n q).1 (rgN n q).2.1 (rgN n q).2.2 [] (n.buf.getD j default).key true).2.2 = false := h
            rw [hcut] at h'; simpa using h'
          refine ih (q + 1) _ (by omega) (by omega) ?_
          dsimp only
          rw [er]
          (constructor <;> (repeat' (first | exact LeT.nil | exact LeB.nil | apply LeT.cons | apply LeB.cons | exact Ol.refl | apply Lx.s | apply Lx.b | apply Lx.i | exact Lx.refl)) <;> (first | rfl | assumption | omega | (simp only [List.length_map, BS_len]; done) | skip))
        · have er : runA n (n.buf.getD j default).key (q + 1) = runA n (n.buf.getD j default).key q := by
            rw [runA, if_neg]
            have h' : emR (cS (rgN n q).1 (rgN n q).2.1 (rgN n q).2.2 [] (n.buf.getD j default).key true).1 (cS (rgN n q).1 (rgN n q).2.1 (rgN n q).2.2 [] (n.buf.getD j default).key true).2.1 (cS (rgN n q).1 (rgN n q).2.1 (rgN n q).2.2 [] (n.buf.getD j default).key true).2.2 = true := h
            rw [hcut] at h'; simpa using h'
          refine ih (q + 1) _ (by omega) (by omega) ?_
          dsimp only
          rw [er]
          (constructor <;> (repeat' (first | exact LeT.nil | exact LeB.nil | apply LeT.cons | apply LeB.cons | exact Ol.refl | apply Lx.s | apply Lx.b | apply Lx.i | exact Lx.refl)) <;> (first | rfl | assumption | omega | (simp only [List.length_map, BS_len]; done) | skip))
      · obtain rfl : q = n.kids.length := by omega
        repeat' (first
    | apply AO.nil
    | (apply AO.kCall 47; refine AO.callM [(1000000, 8), (1000001, 901), (1000002, 902)] (hg := (gPut (runA n (n.buf.getD j default).key n.kids.length) _ (gEd (n.buf.getD j default)) sd sd)) (hc := by exact rfl) (ha := by (repeat constructor); done) (hl := by (repeat (first | exact LeL.nil | (refine LeL.cons (Le.refl _) ?_) | (refine LeL.cons Le.gr ?_) | (refine LeL.cons Le.nil ?_))); done) (hi := by (repeat (first | exact Rho.here | exact Rho.nil | (refine Rho.there ?_ ?_; exact rfl) | exact RnL.nil | apply RnL.cons | exact RoL.nil | exact Lent.nil | exact Apd.nil | apply Apd.cons | (refine Lent.cons ?_ ?_ ?_ ?_ ?_) | (refine RoL.cons ?_ ?_ ?_) | (refine RnL.same ?_; exact rfl) | constructor | exact rfl)); done) (ht := by exact rfl) (hr := by (repeat (first | exact Rho.here | exact Rho.nil | (refine Rho.there ?_ ?_; exact rfl) | exact RnL.nil | apply RnL.cons | exact RoL.nil | exact Lent.nil | exact Apd.nil | apply Apd.cons | (refine Lent.cons ?_ ?_ ?_ ?_ ?_) | (refine RoL.cons ?_ ?_ ?_) | (refine RnL.same ?_; exact rfl) | constructor | exact rfl)); done) (ho := by (repeat (first | exact Rho.here | exact Rho.nil | (refine Rho.there ?_ ?_; exact rfl) | exact RnL.nil | apply RnL.cons | exact RoL.nil | exact Lent.nil | exact Apd.nil | apply Apd.cons | (refine Lent.cons ?_ ?_ ?_ ?_ ?_) | (refine RoL.cons ?_ ?_ ?_) | (refine RnL.same ?_; exact rfl) | constructor | exact rfl)); done) (hn := by exact rfl) (hB := by (repeat (first | exact Rho.here | exact Rho.nil | (refine Rho.there ?_ ?_; exact rfl) | exact RnL.nil | apply RnL.cons | exact RoL.nil | exact Lent.nil | exact Apd.nil | apply Apd.cons | (refine Lent.cons ?_ ?_ ?_ ?_ ?_) | (refine RoL.cons ?_ ?_ ?_) | (refine RnL.same ?_; exact rfl) | constructor | exact rfl)); done) (h := ?_))
    | (apply AO.kIx; first | refine AO.sIxN (h := ?_) | refine AO.sIx (h := ?_) | refine AO.sP (h := ?_) | refine AO.sPi (h := ?_))
    | (apply AO.kBox; refine AO.sBox (h := ?_))
    | (apply AO.kAlloc; refine AO.sAlloc (h := ?_))
    | (apply AO.kStore; first | refine AO.sStore (h := ?_) | refine AO.sStB (h := ?_))
    | (apply AO.kAdd; refine AO.sAdd (h := ?_))
    | (apply AO.kP; first | refine AO.sP (h := ?_) | refine AO.sPi (h := ?_) | refine AO.sLoadB (h := ?_))
    | apply AW.seq
    | (apply AW.kR; refine AW.sR (h := ?_))
    | apply AW.skip
    | apply AW.block
    | apply AW.out
    | (apply AW.kE; refine AW.sE (h := ?_))
    | apply AW.label
    | (apply AW.kRd; refine AW.sRd (h := ?_))
    | ((first | (apply AO.kG; first | refine AO.sgt (h1 := fun h => ?_) (h2 := fun h => ?_) | refine AO.sgf (h1 := fun h => ?_) (h2 := fun h => ?_) | refine AO.sgs (h := ?_)) | (apply AW.kC; refine AW.sC (h1 := fun h => ?_) (h2 := fun h => ?_)) | (apply AR.kAny; apply AR.kG; first | refine AR.sgt (h1 := fun h => ?_) (h2 := fun h => ?_) | refine AR.sgf (h1 := fun h => ?_) (h2 := fun h => ?_) | refine AR.sgs (h := ?_))) <;> (try (first | exact Bool.noConfusion h | exact absurd h (by decide) | (simp at h; done) | (rw [h]; try simp only [nrm] at h; try rw [h]; try (exfalso; omega)) | skip)))
    | (apply AR.kAny; first | (apply AR.kCall 47; refine AR.callM [(1000000, 8), (1000001, 901), (1000002, 902)] (hg := (gPut (runA n (n.buf.getD j default).key n.kids.length) _ (gEd (n.buf.getD j default)) sd sd)) (hc := by exact rfl) (ha := by (repeat constructor); done) (hl := by (repeat (first | exact LeL.nil | (refine LeL.cons (Le.refl _) ?_) | (refine LeL.cons Le.gr ?_) | (refine LeL.cons Le.nil ?_))); done) (hi := by (repeat (first | exact Rho.here | exact Rho.nil | (refine Rho.there ?_ ?_; exact rfl) | exact RnL.nil | apply RnL.cons | exact RoL.nil | exact Lent.nil | exact Apd.nil | apply Apd.cons | (refine Lent.cons ?_ ?_ ?_ ?_ ?_) | (refine RoL.cons ?_ ?_ ?_) | (refine RnL.same ?_; exact rfl) | constructor | exact rfl)); done) (ht := by exact rfl) (hr := by (repeat (first | exact Rho.here | exact Rho.nil | (refine Rho.there ?_ ?_; exact rfl) | exact RnL.nil | apply RnL.cons | exact RoL.nil | exact Lent.nil | exact Apd.nil | apply Apd.cons | (refine Lent.cons ?_ ?_ ?_ ?_ ?_) | (refine RoL.cons ?_ ?_ ?_) | (refine RnL.same ?_; exact rfl) | constructor | exact rfl)); done) (ho := by (repeat (first | exact Rho.here | exact Rho.nil | (refine Rho.there ?_ ?_; exact rfl) | exact RnL.nil | apply RnL.cons | exact RoL.nil | exact Lent.nil | exact Apd.nil | apply Apd.cons | (refine Lent.cons ?_ ?_ ?_ ?_ ?_) | (refine RoL.cons ?_ ?_ ?_) | (refine RnL.same ?_; exact rfl) | constructor | exact rfl)); done) (hn := by exact rfl) (hB := by (repeat (first | exact Rho.here | exact Rho.nil | (refine Rho.there ?_ ?_; exact rfl) | exact RnL.nil | apply RnL.cons | exact RoL.nil | exact Lent.nil | exact Apd.nil | apply Apd.cons | (refine Lent.cons ?_ ?_ ?_ ?_ ?_) | (refine RoL.cons ?_ ?_ ?_) | (refine RnL.same ?_; exact rfl) | constructor | exact rfl)); done) (htg := by (repeat (first | exact LE.nil | apply LE.cons)); done) (h := ?_)) | (apply AR.kIx; first | refine AR.sIxN (h := ?_) | refine AR.sIx (h := ?_) | refine AR.sP (h := ?_) | refine AR.sPi (h := ?_)) | (apply AR.kBox; refine AR.sBox (h := ?_)) | (apply AR.kAlloc; refine AR.sAlloc (h := ?_)) | (apply AR.kStore; refine AR.sStore (h := ?_)) | (apply AR.kAdd; refine AR.sAdd (h := ?_)) | (apply AR.kP; first | refine AR.sP (h := ?_) | refine AR.sPi (h := ?_)))
    | (apply AR.kNil; refine AR.sNil (h := ?_)))
        have lp := putK_len (runA n (n.buf.getD j default).key n.kids.length) (n.buf.getD j default).key (gEd (n.buf.getD j default))
        refine AW.loopI (fun x : Nat => x ≤ n.kids.length) (fun x => ⟨[(1, .i .i64 j), (2, .ptr 2 0), (4, .ptr 4 0), (6, .ptr 6 0), (7, .ptr 7 0), (8, .ptr 8 0), (72, .sh 4 (n.kids.map Ed.av)), (73, .i .i64 n.kids.length), (74, .i .i64 x)], [(2, .bx n.av), (4, .bx [.b false, .nil, .nil, .nil, .nil]), (6, .bx (n.buf.getD j default).av), (7, .bx [.s (n.buf.getD j default).key, .s (succS (n.buf.getD j default).key), .b (succOk (n.buf.getD j default).key)]), (8, .bx [.b false, .nil, .gr 901 9 1 ((runB n (succS (n.buf.getD j default).key) (succOk (n.buf.getD j default).key) (putK (runA n (n.buf.getD j default).key n.kids.length) (n.buf.getD j default).key (gEd (n.buf.getD j default))) x).1.map sav), .gr 902 65 4 ((runB n (succS (n.buf.getD j default).key) (succOk (n.buf.getD j default).key) (putK (runA n (n.buf.getD j default).key n.kids.length) (n.buf.getD j default).key (gEd (n.buf.getD j default))) x).2.map Ed.av), .nil]), (901, .gw ((runB n (succS (n.buf.getD j default).key) (succOk (n.buf.getD j default).key) (putK (runA n (n.buf.getD j default).key n.kids.length) (n.buf.getD j default).key (gEd (n.buf.getD j default))) x).1.map sav).length), (902, .gw ((runB n (succS (n.buf.getD j default).key) (succOk (n.buf.getD j default).key) (putK (runA n (n.buf.getD j default).key n.kids.length) (n.buf.getD j default).key (gEd (n.buf.getD j default))) x).2.map Ed.av).length)]⟩) (fun x => n.kids.length - x) 0 (by simp) (by (constructor <;> (repeat' (first | exact LeT.nil | exact LeB.nil | apply LeT.cons | apply LeB.cons | exact Ol.refl | apply Lx.s | apply Lx.b | apply Lx.i | exact Lx.refl)) <;> (first | rfl | assumption | omega | (simp only [List.length_map, BS_len]; done) | skip))) fun m2 q2 hn2 ih2 => ?_
        have lb := runB_len n (succS (n.buf.getD j default).key) (succOk (n.buf.getD j default).key) (putK (runA n (n.buf.getD j default).key n.kids.length) (n.buf.getD j default).key (gEd (n.buf.getD j default))) q2
        by_cases hq2 : q2 < n.kids.length
        · have hcut := cut_b hI hq2 (succS (n.buf.getD j default).key) (succOk (n.buf.getD j default).key)
          repeat (first | apply AW.seq | apply AW.block | apply AW.skip)
          apply AW.kR; refine AW.sR (h := ?_)
          apply AO.kP; refine AO.sP (h := ?_)
          apply AO.nil
          apply AW.seq; apply AW.kC; refine AW.sC (h1 := fun h => ?_) (h2 := fun h => False.elim (by simp only [nrm] at h; omega))
          repeat' (first
    | apply AO.nil
    | (apply AO.kCall 26; refine AO.sCall (hg := (gRange n _ hs sd)) (h := ?_))
    | (apply AO.kCall 46; refine AO.sCall (hg := (gCutS _ _ _ _ _ _)) (h := ?_))
    | (apply AO.kCall 45; refine AO.sCall (hg := (gEmpty _ _ _)) (h := ?_))
    | (apply AO.kIx; first | refine AO.sIxN (h := ?_) | refine AO.sIx (h := ?_) | refine AO.sP (h := ?_) | refine AO.sPi (h := ?_))
    | (apply AO.kBox; refine AO.sBox (h := ?_))
    | (apply AO.kAlloc; refine AO.sAlloc (h := ?_))
    | (apply AO.kStore; first | refine AO.sStore (h := ?_) | refine AO.sStB (h := ?_))
    | (apply AO.kAdd; refine AO.sAdd (h := ?_))
    | (apply AO.kP; first | refine AO.sP (h := ?_) | refine AO.sPi (h := ?_) | refine AO.sLoadB (h := ?_))
    | apply AW.seq
    | (apply AW.kR; refine AW.sR (h := ?_))
    | apply AW.skip
    | apply AW.block
    | apply AW.out
    | (apply AW.kE; refine AW.sE (h := ?_))
    | apply AW.label
    | (apply AW.kRd; refine AW.sRd (h := ?_))
    | ((first | (apply AO.kG; first | refine AO.sgt (h1 := fun h => ?_) (h2 := fun h => ?_) | refine AO.sgf (h1 := fun h => ?_) (h2 := fun h => ?_) | refine AO.sgs (h := ?_)) | (apply AW.kC; refine AW.sC (h1 := fun h => ?_) (h2 := fun h => ?_)) | (apply AR.kAny; apply AR.kG; first | refine AR.sgt (h1 := fun h => ?_) (h2 := fun h => ?_) | refine AR.sgf (h1 := fun h => ?_) (h2 := fun h => ?_) | refine AR.sgs (h := ?_))) <;> (try (first | exact Bool.noConfusion h | exact absurd h (by decide) | (simp at h; done) | (rw [h]; try simp only [nrm] at h; try rw [h]; try (exfalso; omega)) | skip)))
    | (apply AR.kAny; first | (apply AR.kCall 26; refine AR.sCall (hg := (gRange n _ hs sd)) (h := ?_)) | (apply AR.kCall 46; refine AR.sCall (hg := (gCutS _ _ _ _ _ _)) (h := ?_)) | (apply AR.kCall 45; refine AR.sCall (hg := (gEmpty _ _ _)) (h := ?_)) | (apply AR.kIx; first | refine AR.sIxN (h := ?_) | refine AR.sIx (h := ?_) | refine AR.sP (h := ?_) | refine AR.sPi (h := ?_)) | (apply AR.kBox; refine AR.sBox (h := ?_)) | (apply AR.kAlloc; refine AR.sAlloc (h := ?_)) | (apply AR.kStore; refine AR.sStore (h := ?_)) | (apply AR.kAdd; refine AR.sAdd (h := ?_)) | (apply AR.kP; first | refine AR.sP (h := ?_) | refine AR.sPi (h := ?_)))
    | (apply AR.kNil; refine AR.sNil (h := ?_)))
          · have hb : behB n (succS (n.buf.getD j default).key) (succOk (n.buf.getD j default).key) q2 = true := by
              have h' : emR (cS (rgN n q2).1 (rgN n q2).2.1 (rgN n q2).2.2 (succS (n.buf.getD j default).key) [] false).1 (cS (rgN n q2).1 (rgN n q2).2.1 (rgN n q2).2.2 (succS (n.buf.getD j default).key) [] false).2.1 (cS (rgN n q2).1 (rgN n q2).2.1 (rgN n q2).2.2 (succS (n.buf.getD j default).key) [] false).2.2 = false := h
              rw [← hcut.1, h', ‹succOk _ = true›]; rfl
            have hk := ‹succOk (n.buf.getD j default).key = true›
            have e2 := hcut.2 hb
            have er : runB n (succS (n.buf.getD j default).key) (succOk (n.buf.getD j default).key) (putK (runA n (n.buf.getD j default).key n.kids.length) (n.buf.getD j default).key (gEd (n.buf.getD j default))) (q2 + 1) = putK (runB n (succS (n.buf.getD j default).key) (succOk (n.buf.getD j default).key) (putK (runA n (n.buf.getD j default).key n.kids.length) (n.buf.getD j default).key (gEd (n.buf.getD j default))) q2) (mxS (rgN n q2).1 (succS (n.buf.getD j default).key)) (n.kids.getD q2 default) := by rw [runB, if_pos hb]
            have p1 : (runB n (succS (n.buf.getD j default).key) (succOk (n.buf.getD j default).key) (putK (runA n (n.buf.getD j default).key n.kids.length) (n.buf.getD j default).key (gEd (n.buf.getD j default))) q2).1.length ≤ 1000000 := by omega
            have p2 : (runB n (succS (n.buf.getD j default).key) (succOk (n.buf.getD j default).key) (putK (runA n (n.buf.getD j default).key n.kids.length) (n.buf.getD j default).key (gEd (n.buf.getD j default))) q2).2.length ≤ 1000000 := by omega
            have gP := gPut (runB n (succS (n.buf.getD j default).key) (succOk (n.buf.getD j default).key) (putK (runA n (n.buf.getD j default).key n.kids.length) (n.buf.getD j default).key (gEd (n.buf.getD j default))) q2) (cS (rgN n q2).1 (rgN n q2).2.1 (rgN n q2).2.2 (succS (n.buf.getD j default).key) [] false).1 (n.kids.getD q2 default) p1 p2
            rw [hk] at gP
            repeat' (first
    | apply AO.nil
    | (apply AO.kCall 47; refine AO.callM [(1000000, 8), (1000001, 901), (1000002, 902)] (hg := (gP)) (hc := by exact rfl) (ha := by (repeat constructor); done) (hl := by (repeat (first | exact LeL.nil | (refine LeL.cons (Le.refl _) ?_) | (refine LeL.cons Le.gr ?_) | (refine LeL.cons Le.nil ?_))); done) (hi := by (repeat (first | exact Rho.here | exact Rho.nil | (refine Rho.there ?_ ?_; exact rfl) | exact RnL.nil | apply RnL.cons | exact RoL.nil | exact Lent.nil | exact Apd.nil | apply Apd.cons | (refine Lent.cons ?_ ?_ ?_ ?_ ?_) | (refine RoL.cons ?_ ?_ ?_) | (refine RnL.same ?_; exact rfl) | constructor | exact rfl)); done) (ht := by exact rfl) (hr := by (repeat (first | exact Rho.here | exact Rho.nil | (refine Rho.there ?_ ?_; exact rfl) | exact RnL.nil | apply RnL.cons | exact RoL.nil | exact Lent.nil | exact Apd.nil | apply Apd.cons | (refine Lent.cons ?_ ?_ ?_ ?_ ?_) | (refine RoL.cons ?_ ?_ ?_) | (refine RnL.same ?_; exact rfl) | constructor | exact rfl)); done) (ho := by (repeat (first | exact Rho.here | exact Rho.nil | (refine Rho.there ?_ ?_; exact rfl) | exact RnL.nil | apply RnL.cons | exact RoL.nil | exact Lent.nil | exact Apd.nil | apply Apd.cons | (refine Lent.cons ?_ ?_ ?_ ?_ ?_) | (refine RoL.cons ?_ ?_ ?_) | (refine RnL.same ?_; exact rfl) | constructor | exact rfl)); done) (hn := by exact rfl) (hB := by (repeat (first | exact Rho.here | exact Rho.nil | (refine Rho.there ?_ ?_; exact rfl) | exact RnL.nil | apply RnL.cons | exact RoL.nil | exact Lent.nil | exact Apd.nil | apply Apd.cons | (refine Lent.cons ?_ ?_ ?_ ?_ ?_) | (refine RoL.cons ?_ ?_ ?_) | (refine RnL.same ?_; exact rfl) | constructor | exact rfl)); done) (h := ?_))
    | (apply AO.kIx; first | refine AO.sIxN (h := ?_) | refine AO.sIx (h := ?_) | refine AO.sP (h := ?_) | refine AO.sPi (h := ?_))
    | (apply AO.kBox; refine AO.sBox (h := ?_))
    | (apply AO.kAlloc; refine AO.sAlloc (h := ?_))
    | (apply AO.kStore; first | refine AO.sStore (h := ?_) | refine AO.sStB (h := ?_))
    | (apply AO.kAdd; refine AO.sAdd (h := ?_))
    | (apply AO.kP; first | refine AO.sP (h := ?_) | refine AO.sPi (h := ?_) | refine AO.sLoadB (h := ?_))
    | apply AW.seq
    | (apply AW.kR; refine AW.sR (h := ?_))
    | apply AW.skip
    | apply AW.block
    | apply AW.out
    | (apply AW.kE; refine AW.sE (h := ?_))
    | apply AW.label
    | (apply AW.kRd; refine AW.sRd (h := ?_))
    | ((first | (apply AO.kG; first | refine AO.sgt (h1 := fun h => ?_) (h2 := fun h => ?_) | refine AO.sgf (h1 := fun h => ?_) (h2 := fun h => ?_) | refine AO.sgs (h := ?_)) | (apply AW.kC; refine AW.sC (h1 := fun h => ?_) (h2 := fun h => ?_)) | (apply AR.kAny; apply AR.kG; first | refine AR.sgt (h1 := fun h => ?_) (h2 := fun h => ?_) | refine AR.sgf (h1 := fun h => ?_) (h2 := fun h => ?_) | refine AR.sgs (h := ?_))) <;> (try (first | exact Bool.noConfusion h | exact absurd h (by decide) | (simp at h; done) | (rw [h]; try simp only [nrm] at h; try rw [h]; try (exfalso; omega)) | skip)))
    | (apply AR.kAny; first | (apply AR.kCall 47; refine AR.callM [(1000000, 8), (1000001, 901), (1000002, 902)] (hg := (gP)) (hc := by exact rfl) (ha := by (repeat constructor); done) (hl := by (repeat (first | exact LeL.nil | (refine LeL.cons (Le.refl _) ?_) | (refine LeL.cons Le.gr ?_) | (refine LeL.cons Le.nil ?_))); done) (hi := by (repeat (first | exact Rho.here | exact Rho.nil | (refine Rho.there ?_ ?_; exact rfl) | exact RnL.nil | apply RnL.cons | exact RoL.nil | exact Lent.nil | exact Apd.nil | apply Apd.cons | (refine Lent.cons ?_ ?_ ?_ ?_ ?_) | (refine RoL.cons ?_ ?_ ?_) | (refine RnL.same ?_; exact rfl) | constructor | exact rfl)); done) (ht := by exact rfl) (hr := by (repeat (first | exact Rho.here | exact Rho.nil | (refine Rho.there ?_ ?_; exact rfl) | exact RnL.nil | apply RnL.cons | exact RoL.nil | exact Lent.nil | exact Apd.nil | apply Apd.cons | (refine Lent.cons ?_ ?_ ?_ ?_ ?_) | (refine RoL.cons ?_ ?_ ?_) | (refine RnL.same ?_; exact rfl) | constructor | exact rfl)); done) (ho := by (repeat (first | exact Rho.here | exact Rho.nil | (refine Rho.there ?_ ?_; exact rfl) | exact RnL.nil | apply RnL.cons | exact RoL.nil | exact Lent.nil | exact Apd.nil | apply Apd.cons | (refine Lent.cons ?_ ?_ ?_ ?_ ?_) | (refine RoL.cons ?_ ?_ ?_) | (refine RnL.same ?_; exact rfl) | constructor | exact rfl)); done) (hn := by exact rfl) (hB := by (repeat (first | exact Rho.here | exact Rho.nil | (refine Rho.there ?_ ?_; exact rfl) | exact RnL.nil | apply RnL.cons | exact RoL.nil | exact Lent.nil | exact Apd.nil | apply Apd.cons | (refine Lent.cons ?_ ?_ ?_ ?_ ?_) | (refine RoL.cons ?_ ?_ ?_) | (refine RnL.same ?_; exact rfl) | constructor | exact rfl)); done) (htg := by (repeat (first | exact LE.nil | apply LE.cons)); done) (h := ?_)) | (apply AR.kIx; first | refine AR.sIxN (h := ?_) | refine AR.sIx (h := ?_) | refine AR.sP (h := ?_) | refine AR.sPi (h := ?_)) | (apply AR.kBox; refine AR.sBox (h := ?_)) | (apply AR.kAlloc; refine AR.sAlloc (h := ?_)) | (apply AR.kStore; refine AR.sStore (h := ?_)) | (apply AR.kAdd; refine AR.sAdd (h := ?_)) | (apply AR.kP; first | refine AR.sP (h := ?_) | refine AR.sPi (h := ?_)))
    | (apply AR.kNil; refine AR.sNil (h := ?_)))
            refine ih2 (q2 + 1) _ (by omega) (by omega) ?_
            dsimp only
            rw [er, ← e2]
            simp only [hk]
            (constructor <;> (repeat' (first | exact LeT.nil | exact LeB.nil | apply LeT.cons | apply LeB.cons | exact Ol.refl | apply Lx.s | apply Lx.b | apply Lx.i | exact Lx.refl)) <;> (first | rfl | assumption | omega | (simp only [List.length_map, BS_len]; done) | skip))
          · have hb : behB n (succS (n.buf.getD j default).key) (succOk (n.buf.getD j default).key) q2 = false := by
              have h' : emR (cS (rgN n q2).1 (rgN n q2).2.1 (rgN n q2).2.2 (succS (n.buf.getD j default).key) [] false).1 (cS (rgN n q2).1 (rgN n q2).2.1 (rgN n q2).2.2 (succS (n.buf.getD j default).key) [] false).2.1 (cS (rgN n q2).1 (rgN n q2).2.1 (rgN n q2).2.2 (succS (n.buf.getD j default).key) [] false).2.2 = true := h
              rw [← hcut.1, h']; simp
            have hk := ‹succOk (n.buf.getD j default).key = true›
            have er : runB n (succS (n.buf.getD j default).key) (succOk (n.buf.getD j default).key) (putK (runA n (n.buf.getD j default).key n.kids.length) (n.buf.getD j default).key (gEd (n.buf.getD j default))) (q2 + 1) = (runB n (succS (n.buf.getD j default).key) (succOk (n.buf.getD j default).key) (putK (runA n (n.buf.getD j default).key n.kids.length) (n.buf.getD j default).key (gEd (n.buf.getD j default))) q2) := by rw [runB, if_neg (by rw [hb]; decide)]
            refine ih2 (q2 + 1) _ (by omega) (by omega) ?_
            dsimp only
            rw [er]
            simp only [hk]
            (constructor <;> (repeat' (first | exact LeT.nil | exact LeB.nil | apply LeT.cons | apply LeB.cons | exact Ol.refl | apply Lx.s | apply Lx.b | apply Lx.i | exact Lx.refl)) <;> (first | rfl | assumption | omega | (simp only [List.length_map, BS_len]; done) | skip))
          · have hb : behB n (succS (n.buf.getD j default).key) (succOk (n.buf.getD j default).key) q2 = false := by
              rw [← hcut.1, ‹succOk _ = false›]; rfl
            have hk := ‹succOk (n.buf.getD j default).key = false›
            have er : runB n (succS (n.buf.getD j default).key) (succOk (n.buf.getD j default).key) (putK (runA n (n.buf.getD j default).key n.kids.length) (n.buf.getD j default).key (gEd (n.buf.getD j default))) (q2 + 1) = (runB n (succS (n.buf.getD j default).key) (succOk (n.buf.getD j default).key) (putK (runA n (n.buf.getD j default).key n.kids.length) (n.buf.getD j default).key (gEd (n.buf.getD j default))) q2) := by rw [runB, if_neg (by rw [hb]; decide)]
            refine ih2 (q2 + 1) _ (by omega) (by omega) ?_
            dsimp only
            rw [er]
            simp only [hk]
            (constructor <;> (repeat' (first | exact LeT.nil | exact LeB.nil | apply LeT.cons | apply LeB.cons | exact Ol.refl | apply Lx.s | apply Lx.b | apply Lx.i | exact Lx.refl)) <;> (first | rfl | assumption | omega | (simp only [List.length_map, BS_len]; done) | skip))
        · obtain rfl : q2 = n.kids.length := by omega
          repeat' (first
    | apply AO.nil
    | (apply AO.kCall 48; refine AO.sCall (hg := gK) (h := ?_))
    | (apply AO.kIx; first | refine AO.sIxN (h := ?_) | refine AO.sIx (h := ?_) | refine AO.sP (h := ?_) | refine AO.sPi (h := ?_))
    | (apply AO.kBox; refine AO.sBox (h := ?_))
    | (apply AO.kAlloc; refine AO.sAlloc (h := ?_))
    | (apply AO.kStore; first | refine AO.sStore (h := ?_) | refine AO.sStB (h := ?_))
    | (apply AO.kAdd; refine AO.sAdd (h := ?_))
    | (apply AO.kP; first | refine AO.sP (h := ?_) | refine AO.sPi (h := ?_) | refine AO.sLoadB (h := ?_))
    | apply AW.seq
    | (apply AW.kR; refine AW.sR (h := ?_))
    | apply AW.skip
    | apply AW.block
    | apply AW.out
    | (apply AW.kE; refine AW.sE (h := ?_))
    | apply AW.label
    | (apply AW.kRd; refine AW.sRd (h := ?_))
    | ((first | (apply AO.kG; first | refine AO.sgt (h1 := fun h => ?_) (h2 := fun h => ?_) | refine AO.sgf (h1 := fun h => ?_) (h2 := fun h => ?_) | refine AO.sgs (h := ?_)) | (apply AW.kC; refine AW.sC (h1 := fun h => ?_) (h2 := fun h => ?_)) | (apply AR.kAny; apply AR.kG; first | refine AR.sgt (h1 := fun h => ?_) (h2 := fun h => ?_) | refine AR.sgf (h1 := fun h => ?_) (h2 := fun h => ?_) | refine AR.sgs (h := ?_))) <;> (try (first | exact Bool.noConfusion h | exact absurd h (by decide) | (simp at h; done) | (rw [h]; try simp only [nrm] at h; try rw [h]; try (exfalso; omega)) | skip)))
    | (apply AR.kAny; first | (apply AR.kCall 48; refine AR.sCall (hg := gK) (h := ?_)) | (apply AR.kIx; first | refine AR.sIxN (h := ?_) | refine AR.sIx (h := ?_) | refine AR.sP (h := ?_) | refine AR.sPi (h := ?_)) | (apply AR.kBox; refine AR.sBox (h := ?_)) | (apply AR.kAlloc; refine AR.sAlloc (h := ?_)) | (apply AR.kStore; refine AR.sStore (h := ?_)) | (apply AR.kAdd; refine AR.sAdd (h := ?_)) | (apply AR.kP; first | refine AR.sP (h := ?_) | refine AR.sPi (h := ?_)))
    | (apply AR.kNil; refine AR.sNil (h := ?_)))
          exact AW.ret (hD rfl (Lx.tup (.cons (Lx.agg (.cons .refl (.cons .nil (.cons .gr (.cons .gr (.cons .refl .nil)))))) (.cons .refl .nil))))
  · obtain ⟨t1, t2⟩ := pst3 (i := i) h0
    rw [t1, t2]
    refine Good.w tabOk mixed Try.func16 (N := 106) (by kernel_rfl) rfl (by (repeat (first | exact LE.nil | apply LE.cons)); done) (by (repeat (first | exact LE.nil | apply LE.cons)); done) fun D hD F => ?_
    repeat' (first
    | apply AO.nil
    | (apply AO.kCall 39; refine AO.sCall (hg := gM) (h := ?_))
    | (apply AO.kCall 19; refine AO.sCall (hg := gF) (h := ?_))
    | (apply AO.kIx; first | refine AO.sIxN (h := ?_) | refine AO.sIx (h := ?_) | refine AO.sP (h := ?_) | refine AO.sPi (h := ?_))
    | (apply AO.kBox; refine AO.sBox (h := ?_))
    | (apply AO.kAlloc; refine AO.sAlloc (h := ?_))
    | (apply AO.kStore; first | refine AO.sStore (h := ?_) | refine AO.sStB (h := ?_))
    | (apply AO.kAdd; refine AO.sAdd (h := ?_))
    | (apply AO.kP; first | refine AO.sP (h := ?_) | refine AO.sPi (h := ?_) | refine AO.sLoadB (h := ?_))
    | apply AW.seq
    | (apply AW.kR; refine AW.sR (h := ?_))
    | apply AW.skip
    | apply AW.block
    | apply AW.out
    | (apply AW.kE; refine AW.sE (h := ?_))
    | apply AW.label
    | (apply AW.kRd; refine AW.sRd (h := ?_))
    | ((first | (apply AO.kG; first | refine AO.sgt (h1 := fun h => ?_) (h2 := fun h => ?_) | refine AO.sgf (h1 := fun h => ?_) (h2 := fun h => ?_) | refine AO.sgs (h := ?_)) | (apply AW.kC; refine AW.sC (h1 := fun h => ?_) (h2 := fun h => ?_)) | (apply AR.kAny; apply AR.kG; first | refine AR.sgt (h1 := fun h => ?_) (h2 := fun h => ?_) | refine AR.sgf (h1 := fun h => ?_) (h2 := fun h => ?_) | refine AR.sgs (h := ?_))) <;> (try (first | exact Bool.noConfusion h | exact absurd h (by decide) | (simp at h; done) | (rw [h]; try simp only [nrm] at h; try rw [h]; try (exfalso; omega)) | skip)))
    | (apply AR.kAny; first | (apply AR.kCall 39; refine AR.sCall (hg := gM) (h := ?_)) | (apply AR.kCall 19; refine AR.sCall (hg := gF) (h := ?_)) | (apply AR.kIx; first | refine AR.sIxN (h := ?_) | refine AR.sIx (h := ?_) | refine AR.sP (h := ?_) | refine AR.sPi (h := ?_)) | (apply AR.kBox; refine AR.sBox (h := ?_)) | (apply AR.kAlloc; refine AR.sAlloc (h := ?_)) | (apply AR.kStore; refine AR.sStore (h := ?_)) | (apply AR.kAdd; refine AR.sAdd (h := ?_)) | (apply AR.kP; first | refine AR.sP (h := ?_) | refine AR.sPi (h := ?_)))
    | (apply AR.kNil; refine AR.sNil (h := ?_)))
    all_goals first
      | exact AW.ret (hD rfl (Lx.tup (.cons (Lx.agg (.cons .refl (.cons .nil (.cons .nil (.cons .nil (.cons .nil .nil)))))) (.cons .refl .nil))))
      | (exfalso; exact h0 (eq0 (by assumption)))
end Go.Proofs.Ytmfonbehcfjjgaa.Mv

/- Pasting by the document. Under no condition. -/
namespace Go.Proofs.Ytmfonbehcfjjgaa.Mv
open Go Go.Proofs
set_option linter.unusedSimpArgs false
set_option linter.unusedVariables false
set_option maxRecDepth 10000
set_option maxHeartbeats 4000000
attribute [local irreducible] AW AO AR

/-- Messages kept, one behind the other. -/
def keptR (l : List Ms) (i : Nat) : Nat → List Ms
  | 0 => []
  | q + 1 => if q = i ∨ (q < i ∧ msLeft (l.getD i default) (l.getD q default) = false) then keptR l i q else keptR l i q ++ [l.getD q default]
theorem keptR_lo {l : List Ms} {i : Nat} (hi : i < l.length) : ∀ q, q ≤ i → keptR l i q = (l.take q).filter (msLeft (l.getD i default))
  | 0, _ => rfl
  | q + 1, hq => by
    rw [keptR, kept_more (by omega) hi, keptR_lo hi q (by omega)]
    cases g : msLeft (l.getD i default) (l.getD q default) with
    | true => rw [if_neg (by rintro (h | ⟨_, h⟩); omega; cases h), if_pos rfl]
    | false => rw [if_pos (.inr ⟨by omega, rfl⟩), if_neg (by decide), List.append_nil]
theorem keptR_hi {l : List Ms} {i : Nat} (hi : i < l.length) : ∀ q, i < q → q ≤ l.length → keptR l i q = (l.take i).filter (msLeft (l.getD i default)) ++ (l.drop (i + 1)).take (q - (i + 1))
  | 0, h, _ => by omega
  | q + 1, h, hq => by
    rw [keptR]
    by_cases e : q = i
    · subst e
      rw [if_pos (.inl rfl), keptR_lo hi q (by omega), Nat.sub_self, List.take_zero, List.append_nil]
    · rw [if_neg (by rintro (h | ⟨h, _⟩) <;> omega), keptR_hi hi q (by omega) (by omega), List.append_assoc]
      congr 1
      rw [show q + 1 - (i + 1) = (q - (i + 1)) + 1 by omega, takeD (by rw [List.length_drop]; omega)]
      congr 2
      rw [getD_at (by omega), getD_at (by rw [List.length_drop]; omega), List.getElem_drop]
      congr 1; omega
theorem keptR_all {l : List Ms} {i : Nat} (hi : i < l.length) : keptR l i l.length = keptM l i := by
  rw [keptR_hi hi l.length hi (Nat.le_refl _), keptM]
  congr 1
  exact List.take_of_length_le (by rw [List.length_drop]; omega)
theorem keptR_len (l : List Ms) (i : Nat) : ∀ q, (keptR l i q).length ≤ q
  | 0 => by simp [keptR]
  | q + 1 => by
    have := keptR_len l i q
    rw [keptR]; split
    · omega
    · simp; omega
theorem mx_eq (x y : L) : (if (!blt x y) = true then x else y) = mxS x y := by
  rw [mxS]
  show (if (!lt x y) = true then x else y) = _
  cases lt x y <;> rfl
theorem gPasteR (n : Nd) (i : Int) (hs : n.small) : Good Try.prog 17 [.agg n.av, .i .i64 i] [] (.tup [.agg (pstN n i).av, .i .i64 (pstE n i)]) [] := by
  have hs4 := hs.buf
  have hs3 := hs.kids
  have gM := gMay' n hs
  have gF := gFirst' n hs
  have lb4 : ((n.buf.map Ms.av).length : Int) = (n.buf.length : Nat) := by simp
  by_cases h0 : mayN n = 0
  · cases hok : psOk n i with
    | false =>
      obtain ⟨t1, t2⟩ := pst1 h0 hok
      rw [t1, t2]
      have hno : ¬ (0 ≤ i ∧ fstN n = i) := by
        simp only [psOk, Bool.and_eq_false_iff, decide_eq_false_iff_not, beq_eq_false_iff_ne] at hok; omega
      refine Good.w tabOk mixed Try.func17 (N := 186) (by kernel_rfl) rfl (by (repeat (first | exact LE.nil | apply LE.cons)); done) (by (repeat (first | exact LE.nil | apply LE.cons)); done) fun D hD F => ?_
      repeat' (first
    | apply AO.nil
    | (apply AO.kCall 21; refine AO.sCall (hg := gM) (h := ?_))
    | (apply AO.kCall 20; refine AO.sCall (hg := gF) (h := ?_))
    | (apply AO.kBuildS; first | refine AO.sBuildT (h := ?_) | refine AO.sBuildS (h := ?_))
    | (apply AO.kApp; first | refine AO.sGrowT (h := ?_) | refine AO.sNewT (h := ?_) | refine AO.sGrowBT (h := ?_) | refine AO.sGrow (h := ?_) | refine AO.sNewr (h := ?_))
    | (apply AO.kIx; first | refine AO.sIxN (h := ?_) | refine AO.sIx (h := ?_) | refine AO.sP (h := ?_) | refine AO.sPi (h := ?_))
    | (apply AO.kBox; refine AO.sBox (h := ?_))
    | (apply AO.kAlloc; refine AO.sAlloc (h := ?_))
    | (apply AO.kStore; first | refine AO.sStore (h := ?_) | refine AO.sStB (h := ?_))
    | (apply AO.kAdd; refine AO.sAdd (h := ?_))
    | (apply AO.kP; first | refine AO.sP (h := ?_) | refine AO.sPi (h := ?_) | refine AO.sLoadB (h := ?_) | refine AO.sSameB (h := ?_))
    | apply AW.seq
    | (apply AW.kR; refine AW.sR (h := ?_))
    | apply AW.skip
    | apply AW.block
    | apply AW.out
    | (apply AW.kE; refine AW.sE (h := ?_))
    | apply AW.label
    | (apply AW.kRd; refine AW.sRd (h := ?_))
    | ((first | (apply AO.kG; first | refine AO.sgt (h1 := fun h => ?_) (h2 := fun h => ?_) | refine AO.sgf (h1 := fun h => ?_) (h2 := fun h => ?_) | refine AO.sgs (h := ?_)) | (apply AW.kC; refine AW.sC (h1 := fun h => ?_) (h2 := fun h => ?_)) | (apply AR.kAny; apply AR.kG; first | refine AR.sgt (h1 := fun h => ?_) (h2 := fun h => ?_) | refine AR.sgf (h1 := fun h => ?_) (h2 := fun h => ?_) | refine AR.sgs (h := ?_))) <;> (try (first | exact Bool.noConfusion h | exact absurd h (by decide) | (simp at h; done) | (rw [h]; try simp only [nrm] at h; try rw [h]; try (exfalso; omega)) | skip)))
    | (apply AR.kAny; first | (apply AR.kCall 21; refine AR.sCall (hg := gM) (h := ?_)) | (apply AR.kCall 20; refine AR.sCall (hg := gF) (h := ?_)) | (apply AR.kBuildS; first | refine AR.sBuildT (h := ?_) | refine AR.sBuildS (h := ?_)) | (apply AR.kApp; first | refine AR.sGrowT (h := ?_) | refine AR.sNewT (h := ?_) | refine AR.sGrowBT (h := ?_) | refine AR.sGrow (h := ?_) | refine AR.sNewr (h := ?_)) | (apply AR.kIx; first | refine AR.sIxN (h := ?_) | refine AR.sIx (h := ?_) | refine AR.sP (h := ?_) | refine AR.sPi (h := ?_)) | (apply AR.kBox; refine AR.sBox (h := ?_)) | (apply AR.kAlloc; refine AR.sAlloc (h := ?_)) | (apply AR.kStore; refine AR.sStore (h := ?_)) | (apply AR.kAdd; refine AR.sAdd (h := ?_)) | (apply AR.kP; first | refine AR.sP (h := ?_) | refine AR.sPi (h := ?_)))
    | (apply AR.kNil; refine AR.sNil (h := ?_)))
      all_goals first
        | exact AW.ret (hD rfl (Lx.tup (.cons (Lx.agg (.cons .refl (.cons .nil (.cons .nil (.cons .nil (.cons .nil .nil)))))) (.cons .refl .nil))))
        | (exfalso; exact absurd h0 (ne0 (by assumption)))
        | (exfalso; simp only [bne_eq_false_iff_eq, bne_iff_ne] at *; omega)
    | true =>
      obtain ⟨t1, t2⟩ := pst0 h0 hok
      obtain ⟨j, rfl, hj, hk3, hfst⟩ := psOk_at hok
      rw [t1, t2, Int.toNat_natCast]
      have hl : n.leaf = false := by
        cases hl : n.leaf with
        | false => rfl
        | true =>
          have := (leaf_len (may_leaf h0 hl)).2.2
          rw [this] at hj; simp at hj
      have hI := (may_inner h0 hl).1
      have k8 := (may_inner h0 hl).2.1
      have k16 := (may_inner h0 hl).2.2
      obtain ⟨pl, pr, _⟩ := inner_len hI
      have hst := (may_strs h0).buf
      obtain ⟨s1, s2⟩ := sm_at hst hj
      rw [hfst] at gF
      rw [h0] at gM
      have lk : ((n.kids.map Ed.av).length : Int) = (n.kids.length : Nat) := by simp
      refine Good.w tabOk mixed Try.func17 (N := 186) (by kernel_rfl) rfl (by (repeat (first | exact LE.nil | apply LE.cons)); done) (by (repeat (first | exact LE.nil | apply LE.cons)); done) fun D hD F => ?_
      repeat' (first
    | apply AO.nil
    | (apply AO.kCall 21; refine AO.sCall (hg := gM) (h := ?_))
    | (apply AO.kCall 20; refine AO.sCall (hg := gF) (h := ?_))
    | (apply AO.kBuildS; first | refine AO.sBuildT (h := ?_) | refine AO.sBuildS (h := ?_))
    | (apply AO.kApp; first | refine AO.sGrowT (h := ?_) | refine AO.sNewT (h := ?_) | refine AO.sGrowBT (h := ?_) | refine AO.sGrow (h := ?_) | refine AO.sNewr (h := ?_))
    | (apply AO.kIx; first | refine AO.sIxN (h := ?_) | refine AO.sIx (h := ?_) | refine AO.sP (h := ?_) | refine AO.sPi (h := ?_))
    | (apply AO.kBox; refine AO.sBox (h := ?_))
    | (apply AO.kAlloc; refine AO.sAlloc (h := ?_))
    | (apply AO.kStore; first | refine AO.sStore (h := ?_) | refine AO.sStB (h := ?_))
    | (apply AO.kAdd; refine AO.sAdd (h := ?_))
    | (apply AO.kP; first | refine AO.sP (h := ?_) | refine AO.sPi (h := ?_) | refine AO.sLoadB (h := ?_) | refine AO.sSameB (h := ?_))
    | apply AW.seq
    | (apply AW.kR; refine AW.sR (h := ?_))
    | apply AW.skip
    | apply AW.block
    | apply AW.out
    | (apply AW.kE; refine AW.sE (h := ?_))
    | apply AW.label
    | (apply AW.kRd; refine AW.sRd (h := ?_))
    | ((first | (apply AO.kG; first | refine AO.sgt (h1 := fun h => ?_) (h2 := fun h => ?_) | refine AO.sgf (h1 := fun h => ?_) (h2 := fun h => ?_) | refine AO.sgs (h := ?_)) | (apply AW.kC; refine AW.sC (h1 := fun h => ?_) (h2 := fun h => ?_)) | (apply AR.kAny; apply AR.kG; first | refine AR.sgt (h1 := fun h => ?_) (h2 := fun h => ?_) | refine AR.sgf (h1 := fun h => ?_) (h2 := fun h => ?_) | refine AR.sgs (h := ?_))) <;> (try (first | exact Bool.noConfusion h | exact absurd h (by decide) | (simp at h; done) | (rw [h]; try simp only [nrm] at h; try rw [h]; try (exfalso; omega)) | skip)))
    | (apply AR.kAny; first | (apply AR.kCall 21; refine AR.sCall (hg := gM) (h := ?_)) | (apply AR.kCall 20; refine AR.sCall (hg := gF) (h := ?_)) | (apply AR.kBuildS; first | refine AR.sBuildT (h := ?_) | refine AR.sBuildS (h := ?_)) | (apply AR.kApp; first | refine AR.sGrowT (h := ?_) | refine AR.sNewT (h := ?_) | refine AR.sGrowBT (h := ?_) | refine AR.sGrow (h := ?_) | refine AR.sNewr (h := ?_)) | (apply AR.kIx; first | refine AR.sIxN (h := ?_) | refine AR.sIx (h := ?_) | refine AR.sP (h := ?_) | refine AR.sPi (h := ?_)) | (apply AR.kBox; refine AR.sBox (h := ?_)) | (apply AR.kAlloc; refine AR.sAlloc (h := ?_)) | (apply AR.kStore; refine AR.sStore (h := ?_)) | (apply AR.kAdd; refine AR.sAdd (h := ?_)) | (apply AR.kP; first | refine AR.sP (h := ?_) | refine AR.sPi (h := ?_)))
    | (apply AR.kNil; refine AR.sNil (h := ?_)))
      all_goals try (exfalso; omega)
      refine AW.nilrow 901 9 1 (St.freeB_ok rfl) (st' := ⟨[(1, .i .i64 j), (2, .ptr 2 0), (4, .ptr 4 0), (7, .ptr 7 0), (8, .ptr 8 0), (46, .i .i64 n.kids.length), (47, .i .i64 (0 : Nat))], [(2, .bx n.av), (4, .bx [.b false, .nil, .nil, .nil, .nil]), (7, .bx (n.buf.getD j default).av), (8, .bx [.b false, .nil, .gr 901 9 1 [], .nil, .nil]), (901, .gw 0)]⟩) ⟨by ((repeat' (first | exact LeT.nil | apply LeT.cons | exact Lx.nilG | apply Lx.s | apply Lx.b | apply Lx.i | exact Lx.refl)) <;> (first | rfl | assumption | omega | (simp only [List.length_map, BS_len]; done) | skip)), .cons .refl (.cons .refl (.cons .refl (.cons (.bx (.cons .refl (.cons .refl (.cons .nilG (.cons .refl (.cons .refl .nil)))))) (.cons .refl .nil))))⟩ ?_
      refine AW.nilrow 902 65 4 (St.freeB_ok rfl) (st' := ⟨[(1, .i .i64 j), (2, .ptr 2 0), (4, .ptr 4 0), (7, .ptr 7 0), (8, .ptr 8 0), (46, .i .i64 n.kids.length), (47, .i .i64 (0 : Nat))], [(2, .bx n.av), (4, .bx [.b false, .nil, .nil, .nil, .nil]), (7, .bx (n.buf.getD j default).av), (8, .bx [.b false, .nil, .gr 901 9 1 [], .gr 902 65 4 [], .nil]), (901, .gw 0), (902, .gw 0)]⟩) ⟨by ((repeat' (first | exact LeT.nil | apply LeT.cons | exact Lx.nilG | apply Lx.s | apply Lx.b | apply Lx.i | exact Lx.refl)) <;> (first | rfl | assumption | omega | (simp only [List.length_map, BS_len]; done) | skip)), .cons .refl (.cons .refl (.cons .refl (.cons (.bx (.cons .refl (.cons .refl (.cons .refl (.cons .nilG (.cons .refl .nil)))))) (.cons .refl (.cons .refl .nil)))))⟩ ?_
      refine AW.nilrow 903 71 6 (St.freeB_ok rfl) (st' := ⟨[(1, .i .i64 j), (2, .ptr 2 0), (4, .ptr 4 0), (7, .ptr 7 0), (8, .ptr 8 0), (46, .i .i64 n.kids.length), (47, .i .i64 (0 : Nat))], [(2, .bx n.av), (4, .bx [.b false, .nil, .nil, .nil, .nil]), (7, .bx (n.buf.getD j default).av), (8, .bx [.b false, .nil, .gr 901 9 1 [], .gr 902 65 4 [], .gr 903 71 6 []]), (901, .gw 0), (902, .gw 0), (903, .gw 0)]⟩) ⟨by ((repeat' (first | exact LeT.nil | apply LeT.cons | exact Lx.nilG | apply Lx.s | apply Lx.b | apply Lx.i | exact Lx.refl)) <;> (first | rfl | assumption | omega | (simp only [List.length_map, BS_len]; done) | skip)), .cons .refl (.cons .refl (.cons .refl (.cons (.bx (.cons .refl (.cons .refl (.cons .refl (.cons .refl (.cons .nilG .nil)))))) (.cons .refl (.cons .refl (.cons .refl .nil))))))⟩ ?_
      refine AW.joinB ⟨[(1, .i .i64 j), (2, .ptr 2 0), (4, .ptr 4 0), (7, .ptr 7 0), (8, .ptr 8 0)], [(2, .bx n.av), (4, .bx [.b false, .nil, .nil, .nil, .nil]), (7, .bx (n.buf.getD j default).av), (8, .bx [.b false, .nil, .gr 901 9 1 ((runA n (n.buf.getD j default).key n.kids.length).1.map sav), .gr 902 65 4 ((runA n (n.buf.getD j default).key n.kids.length).2.map Ed.av), .gr 903 71 6 []]), (901, .gw ((runA n (n.buf.getD j default).key n.kids.length).1.map sav).length), (902, .gw ((runA n (n.buf.getD j default).key n.kids.length).2.map Ed.av).length), (903, .gw ([] : List (List AV)).length)]⟩ ?_ ?_
      · intro k' done
        refine AW.loopI (fun x : Nat => x ≤ n.kids.length) (fun x => ⟨[(1, .i .i64 j), (2, .ptr 2 0), (4, .ptr 4 0), (7, .ptr 7 0), (8, .ptr 8 0), (46, .i .i64 n.kids.length), (47, .i .i64 x)], [(2, .bx n.av), (4, .bx [.b false, .nil, .nil, .nil, .nil]), (7, .bx (n.buf.getD j default).av), (8, .bx [.b false, .nil, .gr 901 9 1 ((runA n (n.buf.getD j default).key x).1.map sav), .gr 902 65 4 ((runA n (n.buf.getD j default).key x).2.map Ed.av), .gr 903 71 6 []]), (901, .gw ((runA n (n.buf.getD j default).key x).1.map sav).length), (902, .gw ((runA n (n.buf.getD j default).key x).2.map Ed.av).length), (903, .gw ([] : List (List AV)).length)]⟩) (fun x => n.kids.length - x) 0 (by simp) (by (constructor <;> (repeat' (first | exact LeT.nil | exact LeB.nil | apply LeT.cons | apply LeB.cons | exact Ol.refl | apply Lx.s | apply Lx.b | apply Lx.i | exact Lx.refl)) <;> (first | rfl | assumption | omega | (simp only [List.length_map, BS_len]; done) | skip))) fun m q hn ih => ?_
        have la := runA_len n (n.buf.getD j default).key q
        have la1 : ((runA n (n.buf.getD j default).key q).1.map sav).length = (runA n (n.buf.getD j default).key q).1.length := by simp
        have la2 : ((runA n (n.buf.getD j default).key q).2.map Ed.av).length = (runA n (n.buf.getD j default).key q).2.length := by simp
        by_cases hq : q < n.kids.length
        · repeat (first | apply AW.seq | apply AW.block | apply AW.skip)
          apply AW.kR; refine AW.sR (h := ?_)
          apply AO.kP; refine AO.sP (h := ?_)
          apply AO.nil
          apply AW.seq; apply AW.kC; refine AW.sC (h1 := fun h => ?_) (h2 := fun h => False.elim (by simp only [nrm] at h; omega))
          repeat' (first
    | apply AO.nil
    | (apply AO.kCall 27; refine AO.sCall (hg := (gRange' n _ hs sd)) (h := ?_))
    | (apply AO.kBuildS; first | refine AO.sBuildT (h := ?_) | refine AO.sBuildS (h := ?_))
    | (apply AO.kApp; first | refine AO.sGrowT (h := ?_) | refine AO.sNewT (h := ?_) | refine AO.sGrowBT (h := ?_) | refine AO.sGrow (h := ?_) | refine AO.sNewr (h := ?_))
    | (apply AO.kIx; first | refine AO.sIxN (h := ?_) | refine AO.sIx (h := ?_) | refine AO.sP (h := ?_) | refine AO.sPi (h := ?_))
    | (apply AO.kBox; refine AO.sBox (h := ?_))
    | (apply AO.kAlloc; refine AO.sAlloc (h := ?_))
    | (apply AO.kStore; first | refine AO.sStore (h := ?_) | refine AO.sStB (h := ?_))
    | (apply AO.kAdd; refine AO.sAdd (h := ?_))
    | (apply AO.kP; first | refine AO.sP (h := ?_) | refine AO.sPi (h := ?_) | refine AO.sLoadB (h := ?_) | refine AO.sSameB (h := ?_))
    | apply AW.seq
    | (apply AW.kR; refine AW.sR (h := ?_))
    | apply AW.skip
    | apply AW.block
    | apply AW.out
    | (apply AW.kE; refine AW.sE (h := ?_))
    | apply AW.label
    | (apply AW.kRd; refine AW.sRd (h := ?_))
    | ((first | (apply AO.kG; first | refine AO.sgt (h1 := fun h => ?_) (h2 := fun h => ?_) | refine AO.sgf (h1 := fun h => ?_) (h2 := fun h => ?_) | refine AO.sgs (h := ?_)) | (apply AW.kC; refine AW.sC (h1 := fun h => ?_) (h2 := fun h => ?_)) | (apply AR.kAny; apply AR.kG; first | refine AR.sgt (h1 := fun h => ?_) (h2 := fun h => ?_) | refine AR.sgf (h1 := fun h => ?_) (h2 := fun h => ?_) | refine AR.sgs (h := ?_))) <;> (try (first | exact Bool.noConfusion h | exact absurd h (by decide) | (simp at h; done) | (rw [h]; try simp only [nrm] at h; try rw [h]; try (exfalso; omega)) | skip)))
    | (apply AR.kAny; first | (apply AR.kCall 27; refine AR.sCall (hg := (gRange' n _ hs sd)) (h := ?_)) | (apply AR.kBuildS; first | refine AR.sBuildT (h := ?_) | refine AR.sBuildS (h := ?_)) | (apply AR.kApp; first | refine AR.sGrowT (h := ?_) | refine AR.sNewT (h := ?_) | refine AR.sGrowBT (h := ?_) | refine AR.sGrow (h := ?_) | refine AR.sNewr (h := ?_)) | (apply AR.kIx; first | refine AR.sIxN (h := ?_) | refine AR.sIx (h := ?_) | refine AR.sP (h := ?_) | refine AR.sPi (h := ?_)) | (apply AR.kBox; refine AR.sBox (h := ?_)) | (apply AR.kAlloc; refine AR.sAlloc (h := ?_)) | (apply AR.kStore; refine AR.sStore (h := ?_)) | (apply AR.kAdd; refine AR.sAdd (h := ?_)) | (apply AR.kP; first | refine AR.sP (h := ?_) | refine AR.sPi (h := ?_)))
    | (apply AR.kNil; refine AR.sNil (h := ?_)))
          · have e := runA_stop pl pr hq ‹blt (rgN n q).1 (n.buf.getD j default).key = false› n.kids.length (by omega) (Nat.le_refl _)
            refine done _ ?_
            rw [e]
            (constructor <;> (repeat' (first | exact LeT.nil | exact LeB.nil | apply LeT.cons | apply LeB.cons | exact Ol.refl | apply Lx.s | apply Lx.b | apply Lx.i | exact Lx.refl)) <;> (first | rfl | assumption | omega | (simp only [List.length_map, BS_len]; done) | skip))
          · have er : runA n (n.buf.getD j default).key (q + 1) = ((runA n (n.buf.getD j default).key q).1 ++ [(rgN n q).1], (runA n (n.buf.getD j default).key q).2 ++ [n.kids.getD q default]) := by
              rw [runA, if_pos (show lt (rgN n q).1 (n.buf.getD j default).key = true from ‹blt (rgN n q).1 (n.buf.getD j default).key = true›), put1 (by omega)]
            refine ih (q + 1) _ (by omega) (by omega) ?_
            rw [er]
            ((constructor <;> (repeat' (first | exact LeT.nil | exact LeB.nil | apply LeT.cons | apply LeB.cons | exact Ol.refl | apply Lx.s | apply Lx.b | apply Lx.i | exact Lx.refl)) <;> (first | rfl | assumption | omega | (simp only [List.length_map, BS_len]; done) | skip)) <;> (first | (refine Lx.eq (congrArg (AV.gr _ _ _) ?_); simp only [List.map_append, List.map_cons, List.map_nil]; rfl) | (refine Ol.eq (congrArg Ob.gw ?_); simp only [List.map_append, List.map_cons, List.map_nil, List.length_append, List.length_map, List.length_cons, List.length_nil]; done) | (refine Ol.bx ?_; (repeat' (first | exact LxL.nil | apply LxL.cons | exact Lx.refl | (refine Lx.eq (congrArg (AV.gr _ _ _) ?_); simp only [List.map_append, List.map_cons, List.map_nil]; rfl)))) | skip))
          · have er : runA n (n.buf.getD j default).key (q + 1) = ((runA n (n.buf.getD j default).key q).1, (runA n (n.buf.getD j default).key q).2 ++ [n.kids.getD q default]) := by
              rw [runA, if_pos (show lt (rgN n q).1 (n.buf.getD j default).key = true from ‹blt (rgN n q).1 (n.buf.getD j default).key = true›), put0 (by omega)]
            refine ih (q + 1) _ (by omega) (by omega) ?_
            rw [er]
            ((constructor <;> (repeat' (first | exact LeT.nil | exact LeB.nil | apply LeT.cons | apply LeB.cons | exact Ol.refl | apply Lx.s | apply Lx.b | apply Lx.i | exact Lx.refl)) <;> (first | rfl | assumption | omega | (simp only [List.length_map, BS_len]; done) | skip)) <;> (first | (refine Lx.eq (congrArg (AV.gr _ _ _) ?_); simp only [List.map_append, List.map_cons, List.map_nil]; rfl) | (refine Ol.eq (congrArg Ob.gw ?_); simp only [List.map_append, List.map_cons, List.map_nil, List.length_append, List.length_map, List.length_cons, List.length_nil]; done) | (refine Ol.bx ?_; (repeat' (first | exact LxL.nil | apply LxL.cons | exact Lx.refl | (refine Lx.eq (congrArg (AV.gr _ _ _) ?_); simp only [List.map_append, List.map_cons, List.map_nil]; rfl)))) | skip))
        · obtain rfl : q = n.kids.length := by omega
          repeat' (first
    | apply AO.nil
    | (apply AO.kBuildS; first | refine AO.sBuildT (h := ?_) | refine AO.sBuildS (h := ?_))
    | (apply AO.kApp; first | refine AO.sGrowT (h := ?_) | refine AO.sNewT (h := ?_) | refine AO.sGrowBT (h := ?_) | refine AO.sGrow (h := ?_) | refine AO.sNewr (h := ?_))
    | (apply AO.kIx; first | refine AO.sIxN (h := ?_) | refine AO.sIx (h := ?_) | refine AO.sP (h := ?_) | refine AO.sPi (h := ?_))
    | (apply AO.kBox; refine AO.sBox (h := ?_))
    | (apply AO.kAlloc; refine AO.sAlloc (h := ?_))
    | (apply AO.kStore; first | refine AO.sStore (h := ?_) | refine AO.sStB (h := ?_))
    | (apply AO.kAdd; refine AO.sAdd (h := ?_))
    | (apply AO.kP; first | refine AO.sP (h := ?_) | refine AO.sPi (h := ?_) | refine AO.sLoadB (h := ?_) | refine AO.sSameB (h := ?_))
    | apply AW.seq
    | (apply AW.kR; refine AW.sR (h := ?_))
    | apply AW.skip
    | apply AW.block
    | apply AW.out
    | (apply AW.kE; refine AW.sE (h := ?_))
    | apply AW.label
    | (apply AW.kRd; refine AW.sRd (h := ?_))
    | ((first | (apply AO.kG; first | refine AO.sgt (h1 := fun h => ?_) (h2 := fun h => ?_) | refine AO.sgf (h1 := fun h => ?_) (h2 := fun h => ?_) | refine AO.sgs (h := ?_)) | (apply AW.kC; refine AW.sC (h1 := fun h => ?_) (h2 := fun h => ?_)) | (apply AR.kAny; apply AR.kG; first | refine AR.sgt (h1 := fun h => ?_) (h2 := fun h => ?_) | refine AR.sgf (h1 := fun h => ?_) (h2 := fun h => ?_) | refine AR.sgs (h := ?_))) <;> (try (first | exact Bool.noConfusion h | exact absurd h (by decide) | (simp at h; done) | (rw [h]; try simp only [nrm] at h; try rw [h]; try (exfalso; omega)) | skip)))
    | (apply AR.kAny; first | (apply AR.kBuildS; first | refine AR.sBuildT (h := ?_) | refine AR.sBuildS (h := ?_)) | (apply AR.kApp; first | refine AR.sGrowT (h := ?_) | refine AR.sNewT (h := ?_) | refine AR.sGrowBT (h := ?_) | refine AR.sGrow (h := ?_) | refine AR.sNewr (h := ?_)) | (apply AR.kIx; first | refine AR.sIxN (h := ?_) | refine AR.sIx (h := ?_) | refine AR.sP (h := ?_) | refine AR.sPi (h := ?_)) | (apply AR.kBox; refine AR.sBox (h := ?_)) | (apply AR.kAlloc; refine AR.sAlloc (h := ?_)) | (apply AR.kStore; refine AR.sStore (h := ?_)) | (apply AR.kAdd; refine AR.sAdd (h := ?_)) | (apply AR.kP; first | refine AR.sP (h := ?_) | refine AR.sPi (h := ?_)))
    | (apply AR.kNil; refine AR.sNil (h := ?_)))
          exact done _ (by (constructor <;> (repeat' (first | exact LeT.nil | exact LeB.nil | apply LeT.cons | apply LeB.cons | exact Ol.refl | apply Lx.s | apply Lx.b | apply Lx.i | exact Lx.refl)) <;> (first | rfl | assumption | omega | (simp only [List.length_map, BS_len]; done) | skip)))
      have la := runA_len n (n.buf.getD j default).key n.kids.length
      have la1 : ((runA n (n.buf.getD j default).key n.kids.length).1.map sav).length = (runA n (n.buf.getD j default).key n.kids.length).1.length := by simp
      have la2 : ((runA n (n.buf.getD j default).key n.kids.length).2.map Ed.av).length = (runA n (n.buf.getD j default).key n.kids.length).2.length := by simp
      apply AW.seq
      (repeat (first | apply AW.seq | apply AW.block)); apply AW.kR; refine AW.sR (h := ?_); repeat' (first
    | apply AO.nil
    | (apply AO.kBuildS; first | refine AO.sBuildT (h := ?_) | refine AO.sBuildS (h := ?_))
    | (apply AO.kApp; first | refine AO.sGrowT (h := ?_) | refine AO.sNewT (h := ?_) | refine AO.sGrowBT (h := ?_) | refine AO.sGrow (h := ?_) | refine AO.sNewr (h := ?_))
    | (apply AO.kIx; first | refine AO.sIxN (h := ?_) | refine AO.sIx (h := ?_) | refine AO.sP (h := ?_) | refine AO.sPi (h := ?_))
    | (apply AO.kBox; refine AO.sBox (h := ?_))
    | (apply AO.kAlloc; refine AO.sAlloc (h := ?_))
    | (apply AO.kStore; first | refine AO.sStore (h := ?_) | refine AO.sStB (h := ?_))
    | (apply AO.kAdd; refine AO.sAdd (h := ?_))
    | (apply AO.kP; first | refine AO.sP (h := ?_) | refine AO.sPi (h := ?_) | refine AO.sLoadB (h := ?_) | refine AO.sSameB (h := ?_)))
      refine AW.join ⟨[(1, .i .i64 j), (2, .ptr 2 0), (4, .ptr 4 0), (7, .ptr 7 0), (8, .ptr 8 0)], [(2, .bx n.av), (4, .bx [.b false, .nil, .nil, .nil, .nil]), (7, .bx (n.buf.getD j default).av), (8, .bx [.b false, .nil, .gr 901 9 1 ((if 0 < (runA n (n.buf.getD j default).key n.kids.length).2.length then (runA n (n.buf.getD j default).key n.kids.length).1 ++ [(n.buf.getD j default).key] else (runA n (n.buf.getD j default).key n.kids.length).1, (runA n (n.buf.getD j default).key n.kids.length).2).1.map sav), .gr 902 65 4 ((if 0 < (runA n (n.buf.getD j default).key n.kids.length).2.length then (runA n (n.buf.getD j default).key n.kids.length).1 ++ [(n.buf.getD j default).key] else (runA n (n.buf.getD j default).key n.kids.length).1, (runA n (n.buf.getD j default).key n.kids.length).2).2.map Ed.av), .gr 903 71 6 []]), (901, .gw ((if 0 < (runA n (n.buf.getD j default).key n.kids.length).2.length then (runA n (n.buf.getD j default).key n.kids.length).1 ++ [(n.buf.getD j default).key] else (runA n (n.buf.getD j default).key n.kids.length).1, (runA n (n.buf.getD j default).key n.kids.length).2).1.map sav).length), (902, .gw ((if 0 < (runA n (n.buf.getD j default).key n.kids.length).2.length then (runA n (n.buf.getD j default).key n.kids.length).1 ++ [(n.buf.getD j default).key] else (runA n (n.buf.getD j default).key n.kids.length).1, (runA n (n.buf.getD j default).key n.kids.length).2).2.map Ed.av).length), (903, .gw ([] : List (List AV)).length)]⟩ ?_ ?_
      · intro k' done
        repeat' (first
    | apply AO.nil
    | (apply AO.kBuildS; first | refine AO.sBuildT (h := ?_) | refine AO.sBuildS (h := ?_))
    | (apply AO.kApp; first | refine AO.sGrowT (h := ?_) | refine AO.sNewT (h := ?_) | refine AO.sGrowBT (h := ?_) | refine AO.sGrow (h := ?_) | refine AO.sNewr (h := ?_))
    | (apply AO.kIx; first | refine AO.sIxN (h := ?_) | refine AO.sIx (h := ?_) | refine AO.sP (h := ?_) | refine AO.sPi (h := ?_))
    | (apply AO.kBox; refine AO.sBox (h := ?_))
    | (apply AO.kAlloc; refine AO.sAlloc (h := ?_))
    | (apply AO.kStore; first | refine AO.sStore (h := ?_) | refine AO.sStB (h := ?_))
    | (apply AO.kAdd; refine AO.sAdd (h := ?_))
    | (apply AO.kP; first | refine AO.sP (h := ?_) | refine AO.sPi (h := ?_) | refine AO.sLoadB (h := ?_) | refine AO.sSameB (h := ?_))
    | apply AW.seq
    | (apply AW.kR; refine AW.sR (h := ?_))
    | apply AW.skip
    | apply AW.block
    | apply AW.out
    | (apply AW.kE; refine AW.sE (h := ?_))
    | apply AW.label
    | (apply AW.kRd; refine AW.sRd (h := ?_))
    | ((first | (apply AO.kG; first | refine AO.sgt (h1 := fun h => ?_) (h2 := fun h => ?_) | refine AO.sgf (h1 := fun h => ?_) (h2 := fun h => ?_) | refine AO.sgs (h := ?_)) | (apply AW.kC; refine AW.sC (h1 := fun h => ?_) (h2 := fun h => ?_)) | (apply AR.kAny; apply AR.kG; first | refine AR.sgt (h1 := fun h => ?_) (h2 := fun h => ?_) | refine AR.sgf (h1 := fun h => ?_) (h2 := fun h => ?_) | refine AR.sgs (h := ?_))) <;> (try (first | exact Bool.noConfusion h | exact absurd h (by decide) | (simp at h; done) | (rw [h]; try simp only [nrm] at h; try rw [h]; try (exfalso; omega)) | skip)))
    | (apply AR.kAny; first | (apply AR.kBuildS; first | refine AR.sBuildT (h := ?_) | refine AR.sBuildS (h := ?_)) | (apply AR.kApp; first | refine AR.sGrowT (h := ?_) | refine AR.sNewT (h := ?_) | refine AR.sGrowBT (h := ?_) | refine AR.sGrow (h := ?_) | refine AR.sNewr (h := ?_)) | (apply AR.kIx; first | refine AR.sIxN (h := ?_) | refine AR.sIx (h := ?_) | refine AR.sP (h := ?_) | refine AR.sPi (h := ?_)) | (apply AR.kBox; refine AR.sBox (h := ?_)) | (apply AR.kAlloc; refine AR.sAlloc (h := ?_)) | (apply AR.kStore; refine AR.sStore (h := ?_)) | (apply AR.kAdd; refine AR.sAdd (h := ?_)) | (apply AR.kP; first | refine AR.sP (h := ?_) | refine AR.sPi (h := ?_)))
    | (apply AR.kNil; refine AR.sNil (h := ?_)))
        · refine done _ ?_
          rw [if_pos (by omega)]
          ((constructor <;> (repeat' (first | exact LeT.nil | exact LeB.nil | apply LeT.cons | apply LeB.cons | exact Ol.refl | apply Lx.s | apply Lx.b | apply Lx.i | exact Lx.refl)) <;> (first | rfl | assumption | omega | (simp only [List.length_map, BS_len]; done) | skip)) <;> (first | (refine Lx.eq (congrArg (AV.gr _ _ _) ?_); simp only [List.map_append, List.map_cons, List.map_nil]; rfl) | (refine Ol.eq (congrArg Ob.gw ?_); simp only [List.map_append, List.map_cons, List.map_nil, List.length_append, List.length_map, List.length_cons, List.length_nil]; done) | (refine Ol.bx ?_; (repeat' (first | exact LxL.nil | apply LxL.cons | exact Lx.refl | (refine Lx.eq (congrArg (AV.gr _ _ _) ?_); simp only [List.map_append, List.map_cons, List.map_nil]; rfl)))) | skip))
        · refine done _ ?_
          rw [if_neg (by omega)]
          ((constructor <;> (repeat' (first | exact LeT.nil | exact LeB.nil | apply LeT.cons | apply LeB.cons | exact Ol.refl | apply Lx.s | apply Lx.b | apply Lx.i | exact Lx.refl)) <;> (first | rfl | assumption | omega | (simp only [List.length_map, BS_len]; done) | skip)) <;> (first | (refine Lx.eq (congrArg (AV.gr _ _ _) ?_); simp only [List.map_append, List.map_cons, List.map_nil]; rfl) | (refine Ol.eq (congrArg Ob.gw ?_); simp only [List.map_append, List.map_cons, List.map_nil, List.length_append, List.length_map, List.length_cons, List.length_nil]; done) | (refine Ol.bx ?_; (repeat' (first | exact LxL.nil | apply LxL.cons | exact Lx.refl | (refine Lx.eq (congrArg (AV.gr _ _ _) ?_); simp only [List.map_append, List.map_cons, List.map_nil]; rfl)))) | skip))
      have lp1 : (((if 0 < (runA n (n.buf.getD j default).key n.kids.length).2.length then (runA n (n.buf.getD j default).key n.kids.length).1 ++ [(n.buf.getD j default).key] else (runA n (n.buf.getD j default).key n.kids.length).1).map sav).length : Int) ≤ ((runA n (n.buf.getD j default).key n.kids.length).1.length + 1 : Nat) := by split <;> simp <;> omega
      repeat' (first
    | apply AO.nil
    | (apply AO.kCall 49; refine AO.sCall (hg := (gSucc' _ sd)) (h := ?_))
    | (apply AO.kBuildS; first | refine AO.sBuildT (h := ?_) | refine AO.sBuildS (h := ?_))
    | (apply AO.kApp; first | refine AO.sGrowT (h := ?_) | refine AO.sNewT (h := ?_) | refine AO.sGrowBT (h := ?_) | refine AO.sGrow (h := ?_) | refine AO.sNewr (h := ?_))
    | (apply AO.kIx; first | refine AO.sIxN (h := ?_) | refine AO.sIx (h := ?_) | refine AO.sP (h := ?_) | refine AO.sPi (h := ?_))
    | (apply AO.kBox; refine AO.sBox (h := ?_))
    | (apply AO.kAlloc; refine AO.sAlloc (h := ?_))
    | (apply AO.kStore; first | refine AO.sStore (h := ?_) | refine AO.sStB (h := ?_))
    | (apply AO.kAdd; refine AO.sAdd (h := ?_))
    | (apply AO.kP; first | refine AO.sP (h := ?_) | refine AO.sPi (h := ?_) | refine AO.sLoadB (h := ?_) | refine AO.sSameB (h := ?_))
    | apply AW.seq
    | (apply AW.kR; refine AW.sR (h := ?_))
    | apply AW.skip
    | apply AW.block
    | apply AW.out
    | (apply AW.kE; refine AW.sE (h := ?_))
    | apply AW.label
    | (apply AW.kRd; refine AW.sRd (h := ?_))
    | ((first | (apply AO.kG; first | refine AO.sgt (h1 := fun h => ?_) (h2 := fun h => ?_) | refine AO.sgf (h1 := fun h => ?_) (h2 := fun h => ?_) | refine AO.sgs (h := ?_)) | (apply AW.kC; refine AW.sC (h1 := fun h => ?_) (h2 := fun h => ?_)) | (apply AR.kAny; apply AR.kG; first | refine AR.sgt (h1 := fun h => ?_) (h2 := fun h => ?_) | refine AR.sgf (h1 := fun h => ?_) (h2 := fun h => ?_) | refine AR.sgs (h := ?_))) <;> (try (first | exact Bool.noConfusion h | exact absurd h (by decide) | (simp at h; done) | (rw [h]; try simp only [nrm] at h; try rw [h]; try (exfalso; omega)) | skip)))
    | (apply AR.kAny; first | (apply AR.kCall 49; refine AR.sCall (hg := (gSucc' _ sd)) (h := ?_)) | (apply AR.kBuildS; first | refine AR.sBuildT (h := ?_) | refine AR.sBuildS (h := ?_)) | (apply AR.kApp; first | refine AR.sGrowT (h := ?_) | refine AR.sNewT (h := ?_) | refine AR.sGrowBT (h := ?_) | refine AR.sGrow (h := ?_) | refine AR.sNewr (h := ?_)) | (apply AR.kIx; first | refine AR.sIxN (h := ?_) | refine AR.sIx (h := ?_) | refine AR.sP (h := ?_) | refine AR.sPi (h := ?_)) | (apply AR.kBox; refine AR.sBox (h := ?_)) | (apply AR.kAlloc; refine AR.sAlloc (h := ?_)) | (apply AR.kStore; refine AR.sStore (h := ?_)) | (apply AR.kAdd; refine AR.sAdd (h := ?_)) | (apply AR.kP; first | refine AR.sP (h := ?_) | refine AR.sPi (h := ?_)))
    | (apply AR.kNil; refine AR.sNil (h := ?_)))
      refine AW.loopI (fun x : Nat => x ≤ n.kids.length) (fun x => ⟨[(1, .i .i64 j), (2, .ptr 2 0), (4, .ptr 4 0), (7, .ptr 7 0), (8, .ptr 8 0), (11, .s (succS (n.buf.getD j default).key)), (12, .b (succOk (n.buf.getD j default).key)), (113, .i .i64 n.kids.length), (114, .i .i64 x)], [(2, .bx n.av), (4, .bx [.b false, .nil, .nil, .nil, .nil]), (7, .bx (n.buf.getD j default).av), (8, .bx [.b false, .nil, .gr 901 9 1 ((runB n (succS (n.buf.getD j default).key) (succOk (n.buf.getD j default).key) (putK (runA n (n.buf.getD j default).key n.kids.length) (n.buf.getD j default).key (gEd (n.buf.getD j default))) x).1.map sav), .gr 902 65 4 ((runB n (succS (n.buf.getD j default).key) (succOk (n.buf.getD j default).key) (putK (runA n (n.buf.getD j default).key n.kids.length) (n.buf.getD j default).key (gEd (n.buf.getD j default))) x).2.map Ed.av), .gr 903 71 6 []]), (901, .gw ((runB n (succS (n.buf.getD j default).key) (succOk (n.buf.getD j default).key) (putK (runA n (n.buf.getD j default).key n.kids.length) (n.buf.getD j default).key (gEd (n.buf.getD j default))) x).1.map sav).length), (902, .gw ((runB n (succS (n.buf.getD j default).key) (succOk (n.buf.getD j default).key) (putK (runA n (n.buf.getD j default).key n.kids.length) (n.buf.getD j default).key (gEd (n.buf.getD j default))) x).2.map Ed.av).length), (903, .gw ([] : List (List AV)).length)]⟩) (fun x => n.kids.length - x) 0 (by simp) (by simp only [runB]; rw [show (putK (runA n (n.buf.getD j default).key n.kids.length) (n.buf.getD j default).key (gEd (n.buf.getD j default))) = (if 0 < (runA n (n.buf.getD j default).key n.kids.length).2.length then (runA n (n.buf.getD j default).key n.kids.length).1 ++ [(n.buf.getD j default).key] else (runA n (n.buf.getD j default).key n.kids.length).1, (runA n (n.buf.getD j default).key n.kids.length).2 ++ [gEd (n.buf.getD j default)]) from rfl]; ((constructor <;> (repeat' (first | exact LeT.nil | exact LeB.nil | apply LeT.cons | apply LeB.cons | exact Ol.refl | apply Lx.s | apply Lx.b | apply Lx.i | exact Lx.refl)) <;> (first | rfl | assumption | omega | (simp only [List.length_map, BS_len]; done) | skip)) <;> (first | (refine Lx.eq (congrArg (AV.gr _ _ _) ?_); simp only [List.map_append, List.map_cons, List.map_nil]; rfl) | (refine Ol.eq (congrArg Ob.gw ?_); simp only [List.map_append, List.map_cons, List.map_nil, List.length_append, List.length_map, List.length_cons, List.length_nil]; done) | (refine Ol.bx ?_; (repeat' (first | exact LxL.nil | apply LxL.cons | exact Lx.refl | (refine Lx.eq (congrArg (AV.gr _ _ _) ?_); simp only [List.map_append, List.map_cons, List.map_nil]; rfl)))) | skip))) fun m2 q2 hn2 ih2 => ?_
      have lb := runB_len n (succS (n.buf.getD j default).key) (succOk (n.buf.getD j default).key) (putK (runA n (n.buf.getD j default).key n.kids.length) (n.buf.getD j default).key (gEd (n.buf.getD j default))) q2
      have lp := putK_len (runA n (n.buf.getD j default).key n.kids.length) (n.buf.getD j default).key (gEd (n.buf.getD j default))
      have laK := runA_len n (n.buf.getD j default).key n.kids.length
      have lb1 : ((runB n (succS (n.buf.getD j default).key) (succOk (n.buf.getD j default).key) (putK (runA n (n.buf.getD j default).key n.kids.length) (n.buf.getD j default).key (gEd (n.buf.getD j default))) q2).1.map sav).length = (runB n (succS (n.buf.getD j default).key) (succOk (n.buf.getD j default).key) (putK (runA n (n.buf.getD j default).key n.kids.length) (n.buf.getD j default).key (gEd (n.buf.getD j default))) q2).1.length := by simp
      have lb2 : ((runB n (succS (n.buf.getD j default).key) (succOk (n.buf.getD j default).key) (putK (runA n (n.buf.getD j default).key n.kids.length) (n.buf.getD j default).key (gEd (n.buf.getD j default))) q2).2.map Ed.av).length = (runB n (succS (n.buf.getD j default).key) (succOk (n.buf.getD j default).key) (putK (runA n (n.buf.getD j default).key n.kids.length) (n.buf.getD j default).key (gEd (n.buf.getD j default))) q2).2.length := by simp
      by_cases hq2 : q2 < n.kids.length
      · skip
        repeat (first | apply AW.seq | apply AW.block | apply AW.skip)
        apply AW.kR; refine AW.sR (h := ?_)
        apply AO.kP; refine AO.sP (h := ?_)
        apply AO.nil
        apply AW.seq; apply AW.kC; refine AW.sC (h1 := fun h => ?_) (h2 := fun h => False.elim (by simp only [nrm] at h; omega))
        repeat' (first
    | apply AO.nil
    | (apply AO.kCall 27; refine AO.sCall (hg := (gRange' n _ hs sd)) (h := ?_))
    | (apply AO.kBuildS; first | refine AO.sBuildT (h := ?_) | refine AO.sBuildS (h := ?_))
    | (apply AO.kApp; first | refine AO.sGrowT (h := ?_) | refine AO.sNewT (h := ?_) | refine AO.sGrowBT (h := ?_) | refine AO.sGrow (h := ?_) | refine AO.sNewr (h := ?_))
    | (apply AO.kIx; first | refine AO.sIxN (h := ?_) | refine AO.sIx (h := ?_) | refine AO.sP (h := ?_) | refine AO.sPi (h := ?_))
    | (apply AO.kBox; refine AO.sBox (h := ?_))
    | (apply AO.kAlloc; refine AO.sAlloc (h := ?_))
    | (apply AO.kStore; first | refine AO.sStore (h := ?_) | refine AO.sStB (h := ?_))
    | (apply AO.kAdd; refine AO.sAdd (h := ?_))
    | (apply AO.kP; first | refine AO.sP (h := ?_) | refine AO.sPi (h := ?_) | refine AO.sLoadB (h := ?_) | refine AO.sSameB (h := ?_))
    | apply AW.seq
    | (apply AW.kR; refine AW.sR (h := ?_))
    | apply AW.skip
    | apply AW.block
    | apply AW.out
    | (apply AW.kE; refine AW.sE (h := ?_))
    | apply AW.label
    | (apply AW.kRd; refine AW.sRd (h := ?_))
    | ((first | (apply AO.kG; first | refine AO.sgt (h1 := fun h => ?_) (h2 := fun h => ?_) | refine AO.sgf (h1 := fun h => ?_) (h2 := fun h => ?_) | refine AO.sgs (h := ?_)) | (apply AW.kC; refine AW.sC (h1 := fun h => ?_) (h2 := fun h => ?_)) | (apply AR.kAny; apply AR.kG; first | refine AR.sgt (h1 := fun h => ?_) (h2 := fun h => ?_) | refine AR.sgf (h1 := fun h => ?_) (h2 := fun h => ?_) | refine AR.sgs (h := ?_))) <;> (try (first | exact Bool.noConfusion h | exact absurd h (by decide) | (simp at h; done) | (rw [h]; try simp only [nrm] at h; try rw [h]; try (exfalso; omega)) | skip)))
    | (apply AR.kAny; first | (apply AR.kCall 27; refine AR.sCall (hg := (gRange' n _ hs sd)) (h := ?_)) | (apply AR.kBuildS; first | refine AR.sBuildT (h := ?_) | refine AR.sBuildS (h := ?_)) | (apply AR.kApp; first | refine AR.sGrowT (h := ?_) | refine AR.sNewT (h := ?_) | refine AR.sGrowBT (h := ?_) | refine AR.sGrow (h := ?_) | refine AR.sNewr (h := ?_)) | (apply AR.kIx; first | refine AR.sIxN (h := ?_) | refine AR.sIx (h := ?_) | refine AR.sP (h := ?_) | refine AR.sPi (h := ?_)) | (apply AR.kBox; refine AR.sBox (h := ?_)) | (apply AR.kAlloc; refine AR.sAlloc (h := ?_)) | (apply AR.kStore; refine AR.sStore (h := ?_)) | (apply AR.kAdd; refine AR.sAdd (h := ?_)) | (apply AR.kP; first | refine AR.sP (h := ?_) | refine AR.sPi (h := ?_)))
    | (apply AR.kNil; refine AR.sNil (h := ?_)))
        · have hk : succOk (n.buf.getD j default).key = true := by assumption
          have hb : behB n (succS (n.buf.getD j default).key) (succOk (n.buf.getD j default).key) q2 = false := by
            have h' : (Op.bytesLess (rgN n q2).2.1 (succS (n.buf.getD j default).key) || (rgN n q2).2.1 == succS (n.buf.getD j default).key) = true := h
            rw [le_iff, Bool.not_eq_true'] at h'
            rw [behB, ‹(rgN n q2).2.2 = true›, h']; simp
          have er : (runB n (succS (n.buf.getD j default).key) (succOk (n.buf.getD j default).key) (putK (runA n (n.buf.getD j default).key n.kids.length) (n.buf.getD j default).key (gEd (n.buf.getD j default))) (q2 + 1)) = (runB n (succS (n.buf.getD j default).key) (succOk (n.buf.getD j default).key) (putK (runA n (n.buf.getD j default).key n.kids.length) (n.buf.getD j default).key (gEd (n.buf.getD j default))) q2) := by rw [runB, if_neg (by rw [hb]; decide)]
          refine ih2 (q2 + 1) _ (by omega) (by omega) ?_
          rw [er]
          simp only [hk]
          (constructor <;> (repeat' (first | exact LeT.nil | exact LeB.nil | apply LeT.cons | apply LeB.cons | exact Ol.refl | apply Lx.s | apply Lx.b | apply Lx.i | exact Lx.refl)) <;> (first | rfl | assumption | omega | (simp only [List.length_map, BS_len]; done) | skip))
        · have hk : succOk (n.buf.getD j default).key = true := by assumption
          have hb : behB n (succS (n.buf.getD j default).key) (succOk (n.buf.getD j default).key) q2 = true := by
            have h' : (Op.bytesLess (rgN n q2).2.1 (succS (n.buf.getD j default).key) || (rgN n q2).2.1 == succS (n.buf.getD j default).key) = false := h
            rw [le_iff, Bool.not_eq_false'] at h'
            rw [behB, h', hk]; simp
          have p0 : 0 < (runB n (succS (n.buf.getD j default).key) (succOk (n.buf.getD j default).key) (putK (runA n (n.buf.getD j default).key n.kids.length) (n.buf.getD j default).key (gEd (n.buf.getD j default))) q2).2.length := by omega
          have er : (runB n (succS (n.buf.getD j default).key) (succOk (n.buf.getD j default).key) (putK (runA n (n.buf.getD j default).key n.kids.length) (n.buf.getD j default).key (gEd (n.buf.getD j default))) (q2 + 1)) = ((runB n (succS (n.buf.getD j default).key) (succOk (n.buf.getD j default).key) (putK (runA n (n.buf.getD j default).key n.kids.length) (n.buf.getD j default).key (gEd (n.buf.getD j default))) q2).1 ++ [mxS (rgN n q2).1 (succS (n.buf.getD j default).key)], (runB n (succS (n.buf.getD j default).key) (succOk (n.buf.getD j default).key) (putK (runA n (n.buf.getD j default).key n.kids.length) (n.buf.getD j default).key (gEd (n.buf.getD j default))) q2).2 ++ [n.kids.getD q2 default]) := by rw [runB, if_pos hb, put1 p0]
          rw [hk] at lb lb1 lb2
          simp only [mx_eq]
          repeat' (first
    | apply AO.nil
    | (apply AO.kBuildS; first | refine AO.sBuildT (h := ?_) | refine AO.sBuildS (h := ?_))
    | (apply AO.kApp; first | refine AO.sGrowT (h := ?_) | refine AO.sNewT (h := ?_) | refine AO.sGrowBT (h := ?_) | refine AO.sGrow (h := ?_) | refine AO.sNewr (h := ?_))
    | (apply AO.kIx; first | refine AO.sIxN (h := ?_) | refine AO.sIx (h := ?_) | refine AO.sP (h := ?_) | refine AO.sPi (h := ?_))
    | (apply AO.kBox; refine AO.sBox (h := ?_))
    | (apply AO.kAlloc; refine AO.sAlloc (h := ?_))
    | (apply AO.kStore; first | refine AO.sStore (h := ?_) | refine AO.sStB (h := ?_))
    | (apply AO.kAdd; refine AO.sAdd (h := ?_))
    | (apply AO.kP; first | refine AO.sP (h := ?_) | refine AO.sPi (h := ?_) | refine AO.sLoadB (h := ?_) | refine AO.sSameB (h := ?_))
    | apply AW.seq
    | (apply AW.kR; refine AW.sR (h := ?_))
    | apply AW.skip
    | apply AW.block
    | apply AW.out
    | (apply AW.kE; refine AW.sE (h := ?_))
    | apply AW.label
    | (apply AW.kRd; refine AW.sRd (h := ?_))
    | ((first | (apply AO.kG; first | refine AO.sgt (h1 := fun h => ?_) (h2 := fun h => ?_) | refine AO.sgf (h1 := fun h => ?_) (h2 := fun h => ?_) | refine AO.sgs (h := ?_)) | (apply AW.kC; refine AW.sC (h1 := fun h => ?_) (h2 := fun h => ?_)) | (apply AR.kAny; apply AR.kG; first | refine AR.sgt (h1 := fun h => ?_) (h2 := fun h => ?_) | refine AR.sgf (h1 := fun h => ?_) (h2 := fun h => ?_) | refine AR.sgs (h := ?_))) <;> (try (first | exact Bool.noConfusion h | exact absurd h (by decide) | (simp at h; done) | (rw [h]; try simp only [nrm] at h; try rw [h]; try (exfalso; omega)) | skip)))
    | (apply AR.kAny; first | (apply AR.kBuildS; first | refine AR.sBuildT (h := ?_) | refine AR.sBuildS (h := ?_)) | (apply AR.kApp; first | refine AR.sGrowT (h := ?_) | refine AR.sNewT (h := ?_) | refine AR.sGrowBT (h := ?_) | refine AR.sGrow (h := ?_) | refine AR.sNewr (h := ?_)) | (apply AR.kIx; first | refine AR.sIxN (h := ?_) | refine AR.sIx (h := ?_) | refine AR.sP (h := ?_) | refine AR.sPi (h := ?_)) | (apply AR.kBox; refine AR.sBox (h := ?_)) | (apply AR.kAlloc; refine AR.sAlloc (h := ?_)) | (apply AR.kStore; refine AR.sStore (h := ?_)) | (apply AR.kAdd; refine AR.sAdd (h := ?_)) | (apply AR.kP; first | refine AR.sP (h := ?_) | refine AR.sPi (h := ?_)))
    | (apply AR.kNil; refine AR.sNil (h := ?_)))
          refine ih2 (q2 + 1) _ (by omega) (by omega) ?_
          rw [er]
          simp only [hk]
          ((constructor <;> (repeat' (first | exact LeT.nil | exact LeB.nil | apply LeT.cons | apply LeB.cons | exact Ol.refl | apply Lx.s | apply Lx.b | apply Lx.i | exact Lx.refl)) <;> (first | rfl | assumption | omega | (simp only [List.length_map, BS_len]; done) | skip)) <;> (first | (refine Lx.eq (congrArg (AV.gr _ _ _) ?_); simp only [List.map_append, List.map_cons, List.map_nil]; rfl) | (refine Ol.eq (congrArg Ob.gw ?_); simp only [List.map_append, List.map_cons, List.map_nil, List.length_append, List.length_map, List.length_cons, List.length_nil]; done) | (refine Ol.bx ?_; (repeat' (first | exact LxL.nil | apply LxL.cons | exact Lx.refl | (refine Lx.eq (congrArg (AV.gr _ _ _) ?_); simp only [List.map_append, List.map_cons, List.map_nil]; rfl)))) | skip))
        · have hk : succOk (n.buf.getD j default).key = true := by assumption
          have hb : behB n (succS (n.buf.getD j default).key) (succOk (n.buf.getD j default).key) q2 = true := by rw [behB, ‹(rgN n q2).2.2 = false›, hk]; rfl
          have p0 : 0 < (runB n (succS (n.buf.getD j default).key) (succOk (n.buf.getD j default).key) (putK (runA n (n.buf.getD j default).key n.kids.length) (n.buf.getD j default).key (gEd (n.buf.getD j default))) q2).2.length := by omega
          have er : (runB n (succS (n.buf.getD j default).key) (succOk (n.buf.getD j default).key) (putK (runA n (n.buf.getD j default).key n.kids.length) (n.buf.getD j default).key (gEd (n.buf.getD j default))) (q2 + 1)) = ((runB n (succS (n.buf.getD j default).key) (succOk (n.buf.getD j default).key) (putK (runA n (n.buf.getD j default).key n.kids.length) (n.buf.getD j default).key (gEd (n.buf.getD j default))) q2).1 ++ [mxS (rgN n q2).1 (succS (n.buf.getD j default).key)], (runB n (succS (n.buf.getD j default).key) (succOk (n.buf.getD j default).key) (putK (runA n (n.buf.getD j default).key n.kids.length) (n.buf.getD j default).key (gEd (n.buf.getD j default))) q2).2 ++ [n.kids.getD q2 default]) := by rw [runB, if_pos hb, put1 p0]
          rw [hk] at lb lb1 lb2
          simp only [mx_eq]
          repeat' (first
    | apply AO.nil
    | (apply AO.kBuildS; first | refine AO.sBuildT (h := ?_) | refine AO.sBuildS (h := ?_))
    | (apply AO.kApp; first | refine AO.sGrowT (h := ?_) | refine AO.sNewT (h := ?_) | refine AO.sGrowBT (h := ?_) | refine AO.sGrow (h := ?_) | refine AO.sNewr (h := ?_))
    | (apply AO.kIx; first | refine AO.sIxN (h := ?_) | refine AO.sIx (h := ?_) | refine AO.sP (h := ?_) | refine AO.sPi (h := ?_))
    | (apply AO.kBox; refine AO.sBox (h := ?_))
    | (apply AO.kAlloc; refine AO.sAlloc (h := ?_))
    | (apply AO.kStore; first | refine AO.sStore (h := ?_) | refine AO.sStB (h := ?_))
    | (apply AO.kAdd; refine AO.sAdd (h := ?_))
    | (apply AO.kP; first | refine AO.sP (h := ?_) | refine AO.sPi (h := ?_) | refine AO.sLoadB (h := ?_) | refine AO.sSameB (h := ?_))
    | apply AW.seq
    | (apply AW.kR; refine AW.sR (h := ?_))
    | apply AW.skip
    | apply AW.block
    | apply AW.out
    | (apply AW.kE; refine AW.sE (h := ?_))
    | apply AW.label
    | (apply AW.kRd; refine AW.sRd (h := ?_))
    | ((first | (apply AO.kG; first | refine AO.sgt (h1 := fun h => ?_) (h2 := fun h => ?_) | refine AO.sgf (h1 := fun h => ?_) (h2 := fun h => ?_) | refine AO.sgs (h := ?_)) | (apply AW.kC; refine AW.sC (h1 := fun h => ?_) (h2 := fun h => ?_)) | (apply AR.kAny; apply AR.kG; first | refine AR.sgt (h1 := fun h => ?_) (h2 := fun h => ?_) | refine AR.sgf (h1 := fun h => ?_) (h2 := fun h => ?_) | refine AR.sgs (h := ?_))) <;> (try (first | exact Bool.noConfusion h | exact absurd h (by decide) | (simp at h; done) | (rw [h]; try simp only [nrm] at h; try rw [h]; try (exfalso; omega)) | skip)))
    | (apply AR.kAny; first | (apply AR.kBuildS; first | refine AR.sBuildT (h := ?_) | refine AR.sBuildS (h := ?_)) | (apply AR.kApp; first | refine AR.sGrowT (h := ?_) | refine AR.sNewT (h := ?_) | refine AR.sGrowBT (h := ?_) | refine AR.sGrow (h := ?_) | refine AR.sNewr (h := ?_)) | (apply AR.kIx; first | refine AR.sIxN (h := ?_) | refine AR.sIx (h := ?_) | refine AR.sP (h := ?_) | refine AR.sPi (h := ?_)) | (apply AR.kBox; refine AR.sBox (h := ?_)) | (apply AR.kAlloc; refine AR.sAlloc (h := ?_)) | (apply AR.kStore; refine AR.sStore (h := ?_)) | (apply AR.kAdd; refine AR.sAdd (h := ?_)) | (apply AR.kP; first | refine AR.sP (h := ?_) | refine AR.sPi (h := ?_)))
    | (apply AR.kNil; refine AR.sNil (h := ?_)))
          refine ih2 (q2 + 1) _ (by omega) (by omega) ?_
          rw [er]
          simp only [hk]
          ((constructor <;> (repeat' (first | exact LeT.nil | exact LeB.nil | apply LeT.cons | apply LeB.cons | exact Ol.refl | apply Lx.s | apply Lx.b | apply Lx.i | exact Lx.refl)) <;> (first | rfl | assumption | omega | (simp only [List.length_map, BS_len]; done) | skip)) <;> (first | (refine Lx.eq (congrArg (AV.gr _ _ _) ?_); simp only [List.map_append, List.map_cons, List.map_nil]; rfl) | (refine Ol.eq (congrArg Ob.gw ?_); simp only [List.map_append, List.map_cons, List.map_nil, List.length_append, List.length_map, List.length_cons, List.length_nil]; done) | (refine Ol.bx ?_; (repeat' (first | exact LxL.nil | apply LxL.cons | exact Lx.refl | (refine Lx.eq (congrArg (AV.gr _ _ _) ?_); simp only [List.map_append, List.map_cons, List.map_nil]; rfl)))) | skip))
        · have hk : succOk (n.buf.getD j default).key = false := by assumption
          have hb : behB n (succS (n.buf.getD j default).key) (succOk (n.buf.getD j default).key) q2 = false := by rw [behB, hk]; rfl
          have er : (runB n (succS (n.buf.getD j default).key) (succOk (n.buf.getD j default).key) (putK (runA n (n.buf.getD j default).key n.kids.length) (n.buf.getD j default).key (gEd (n.buf.getD j default))) (q2 + 1)) = (runB n (succS (n.buf.getD j default).key) (succOk (n.buf.getD j default).key) (putK (runA n (n.buf.getD j default).key n.kids.length) (n.buf.getD j default).key (gEd (n.buf.getD j default))) q2) := by rw [runB, if_neg (by rw [hb]; decide)]
          refine ih2 (q2 + 1) _ (by omega) (by omega) ?_
          rw [er]
          simp only [hk]
          (constructor <;> (repeat' (first | exact LeT.nil | exact LeB.nil | apply LeT.cons | apply LeB.cons | exact Ol.refl | apply Lx.s | apply Lx.b | apply Lx.i | exact Lx.refl)) <;> (first | rfl | assumption | omega | (simp only [List.length_map, BS_len]; done) | skip))
      · obtain rfl : q2 = n.kids.length := by omega
        repeat' (first
    | apply AO.nil
    | (apply AO.kBuildS; first | refine AO.sBuildT (h := ?_) | refine AO.sBuildS (h := ?_))
    | (apply AO.kApp; first | refine AO.sGrowT (h := ?_) | refine AO.sNewT (h := ?_) | refine AO.sGrowBT (h := ?_) | refine AO.sGrow (h := ?_) | refine AO.sNewr (h := ?_))
    | (apply AO.kIx; first | refine AO.sIxN (h := ?_) | refine AO.sIx (h := ?_) | refine AO.sP (h := ?_) | refine AO.sPi (h := ?_))
    | (apply AO.kBox; refine AO.sBox (h := ?_))
    | (apply AO.kAlloc; refine AO.sAlloc (h := ?_))
    | (apply AO.kStore; first | refine AO.sStore (h := ?_) | refine AO.sStB (h := ?_))
    | (apply AO.kAdd; refine AO.sAdd (h := ?_))
    | (apply AO.kP; first | refine AO.sP (h := ?_) | refine AO.sPi (h := ?_) | refine AO.sLoadB (h := ?_) | refine AO.sSameB (h := ?_))
    | apply AW.seq
    | (apply AW.kR; refine AW.sR (h := ?_))
    | apply AW.skip
    | apply AW.block
    | apply AW.out
    | (apply AW.kE; refine AW.sE (h := ?_))
    | apply AW.label
    | (apply AW.kRd; refine AW.sRd (h := ?_))
    | ((first | (apply AO.kG; first | refine AO.sgt (h1 := fun h => ?_) (h2 := fun h => ?_) | refine AO.sgf (h1 := fun h => ?_) (h2 := fun h => ?_) | refine AO.sgs (h := ?_)) | (apply AW.kC; refine AW.sC (h1 := fun h => ?_) (h2 := fun h => ?_)) | (apply AR.kAny; apply AR.kG; first | refine AR.sgt (h1 := fun h => ?_) (h2 := fun h => ?_) | refine AR.sgf (h1 := fun h => ?_) (h2 := fun h => ?_) | refine AR.sgs (h := ?_))) <;> (try (first | exact Bool.noConfusion h | exact absurd h (by decide) | (simp at h; done) | (rw [h]; try simp only [nrm] at h; try rw [h]; try (exfalso; omega)) | skip)))
    | (apply AR.kAny; first | (apply AR.kBuildS; first | refine AR.sBuildT (h := ?_) | refine AR.sBuildS (h := ?_)) | (apply AR.kApp; first | refine AR.sGrowT (h := ?_) | refine AR.sNewT (h := ?_) | refine AR.sGrowBT (h := ?_) | refine AR.sGrow (h := ?_) | refine AR.sNewr (h := ?_)) | (apply AR.kIx; first | refine AR.sIxN (h := ?_) | refine AR.sIx (h := ?_) | refine AR.sP (h := ?_) | refine AR.sPi (h := ?_)) | (apply AR.kBox; refine AR.sBox (h := ?_)) | (apply AR.kAlloc; refine AR.sAlloc (h := ?_)) | (apply AR.kStore; refine AR.sStore (h := ?_)) | (apply AR.kAdd; refine AR.sAdd (h := ?_)) | (apply AR.kP; first | refine AR.sP (h := ?_) | refine AR.sPi (h := ?_)))
    | (apply AR.kNil; refine AR.sNil (h := ?_)))
        refine AW.loopI (fun x : Nat => x ≤ n.buf.length) (fun x => ⟨[(1, .i .i64 j), (2, .ptr 2 0), (4, .ptr 4 0), (7, .ptr 7 0), (8, .ptr 8 0), (154, .i .i64 n.buf.length), (155, .i .i64 x)], [(2, .bx n.av), (4, .bx [.b false, .nil, .nil, .nil, .nil]), (7, .bx (n.buf.getD j default).av), (8, .bx [.b false, .nil, .gr 901 9 1 ((runB n (succS (n.buf.getD j default).key) (succOk (n.buf.getD j default).key) (putK (runA n (n.buf.getD j default).key n.kids.length) (n.buf.getD j default).key (gEd (n.buf.getD j default))) n.kids.length).1.map sav), .gr 902 65 4 ((runB n (succS (n.buf.getD j default).key) (succOk (n.buf.getD j default).key) (putK (runA n (n.buf.getD j default).key n.kids.length) (n.buf.getD j default).key (gEd (n.buf.getD j default))) n.kids.length).2.map Ed.av), .gr 903 71 6 ((keptR n.buf j x).map Ms.av)]), (901, .gw ((runB n (succS (n.buf.getD j default).key) (succOk (n.buf.getD j default).key) (putK (runA n (n.buf.getD j default).key n.kids.length) (n.buf.getD j default).key (gEd (n.buf.getD j default))) n.kids.length).1.map sav).length), (902, .gw ((runB n (succS (n.buf.getD j default).key) (succOk (n.buf.getD j default).key) (putK (runA n (n.buf.getD j default).key n.kids.length) (n.buf.getD j default).key (gEd (n.buf.getD j default))) n.kids.length).2.map Ed.av).length), (903, .gw ((keptR n.buf j x).map Ms.av).length)]⟩) (fun x => n.buf.length - x) 0 (by simp) (by (constructor <;> (repeat' (first | exact LeT.nil | exact LeB.nil | apply LeT.cons | apply LeB.cons | exact Ol.refl | apply Lx.s | apply Lx.b | apply Lx.i | exact Lx.refl)) <;> (first | rfl | assumption | omega | (simp only [List.length_map, BS_len]; done) | skip))) fun m3 q3 hn3 ih3 => ?_
        have lc := keptR_len n.buf j q3
        have lc1 : ((keptR n.buf j q3).map Ms.av).length = (keptR n.buf j q3).length := by simp
        by_cases hq3 : q3 < n.buf.length
        · obtain ⟨s1', _⟩ := sm_at hst hq3
          repeat (first | apply AW.seq | apply AW.block | apply AW.skip)
          apply AW.kR; refine AW.sR (h := ?_)
          apply AO.kP; refine AO.sP (h := ?_)
          apply AO.nil
          apply AW.seq; apply AW.kC; refine AW.sC (h1 := fun h => ?_) (h2 := fun h => False.elim (by simp only [nrm] at h; omega))
          repeat' (first
    | apply AO.nil
    | (apply AO.kCall 51; refine AO.sCall (hg := (gAbout' _ sd)) (h := ?_))
    | (apply AO.kCall 50; refine AO.sCall (hg := (gInside _ _ _ _ _ _)) (h := ?_))
    | (apply AO.kBuildS; first | refine AO.sBuildT (h := ?_) | refine AO.sBuildS (h := ?_))
    | (apply AO.kApp; first | refine AO.sGrowT (h := ?_) | refine AO.sNewT (h := ?_) | refine AO.sGrowBT (h := ?_) | refine AO.sGrow (h := ?_) | refine AO.sNewr (h := ?_))
    | (apply AO.kIx; first | refine AO.sIxN (h := ?_) | refine AO.sIx (h := ?_) | refine AO.sP (h := ?_) | refine AO.sPi (h := ?_))
    | (apply AO.kBox; refine AO.sBox (h := ?_))
    | (apply AO.kAlloc; refine AO.sAlloc (h := ?_))
    | (apply AO.kStore; first | refine AO.sStore (h := ?_) | refine AO.sStB (h := ?_))
    | (apply AO.kAdd; refine AO.sAdd (h := ?_))
    | (apply AO.kP; first | refine AO.sP (h := ?_) | refine AO.sPi (h := ?_) | refine AO.sLoadB (h := ?_) | refine AO.sSameB (h := ?_))
    | apply AW.seq
    | (apply AW.kR; refine AW.sR (h := ?_))
    | apply AW.skip
    | apply AW.block
    | apply AW.out
    | (apply AW.kE; refine AW.sE (h := ?_))
    | apply AW.label
    | (apply AW.kRd; refine AW.sRd (h := ?_))
    | ((first | (apply AO.kG; first | refine AO.sgt (h1 := fun h => ?_) (h2 := fun h => ?_) | refine AO.sgf (h1 := fun h => ?_) (h2 := fun h => ?_) | refine AO.sgs (h := ?_)) | (apply AW.kC; refine AW.sC (h1 := fun h => ?_) (h2 := fun h => ?_)) | (apply AR.kAny; apply AR.kG; first | refine AR.sgt (h1 := fun h => ?_) (h2 := fun h => ?_) | refine AR.sgf (h1 := fun h => ?_) (h2 := fun h => ?_) | refine AR.sgs (h := ?_))) <;> (try (first | exact Bool.noConfusion h | exact absurd h (by decide) | (simp at h; done) | (rw [h]; try simp only [nrm] at h; try rw [h]; try (exfalso; omega)) | skip)))
    | (apply AR.kAny; first | (apply AR.kCall 51; refine AR.sCall (hg := (gAbout' _ sd)) (h := ?_)) | (apply AR.kCall 50; refine AR.sCall (hg := (gInside _ _ _ _ _ _)) (h := ?_)) | (apply AR.kBuildS; first | refine AR.sBuildT (h := ?_) | refine AR.sBuildS (h := ?_)) | (apply AR.kApp; first | refine AR.sGrowT (h := ?_) | refine AR.sNewT (h := ?_) | refine AR.sGrowBT (h := ?_) | refine AR.sGrow (h := ?_) | refine AR.sNewr (h := ?_)) | (apply AR.kIx; first | refine AR.sIxN (h := ?_) | refine AR.sIx (h := ?_) | refine AR.sP (h := ?_) | refine AR.sPi (h := ?_)) | (apply AR.kBox; refine AR.sBox (h := ?_)) | (apply AR.kAlloc; refine AR.sAlloc (h := ?_)) | (apply AR.kStore; refine AR.sStore (h := ?_)) | (apply AR.kAdd; refine AR.sAdd (h := ?_)) | (apply AR.kP; first | refine AR.sP (h := ?_) | refine AR.sPi (h := ?_)))
    | (apply AR.kNil; refine AR.sNil (h := ?_)))
          · have er : keptR n.buf j (q3 + 1) = keptR n.buf j q3 := by
              have h' : insS (abS (n.buf.getD q3 default)).1 (abS (n.buf.getD q3 default)).2.1 (abS (n.buf.getD q3 default)).2.2 (abS (n.buf.getD j default)).1 (abS (n.buf.getD j default)).2.1 (abS (n.buf.getD j default)).2.2 = true := h
              rw [keptR, if_pos (.inr ⟨by omega, by rw [msLeft, h']; rfl⟩)]
            refine ih3 (q3 + 1) _ (by omega) (by omega) ?_
            rw [er]
            (constructor <;> (repeat' (first | exact LeT.nil | exact LeB.nil | apply LeT.cons | apply LeB.cons | exact Ol.refl | apply Lx.s | apply Lx.b | apply Lx.i | exact Lx.refl)) <;> (first | rfl | assumption | omega | (simp only [List.length_map, BS_len]; done) | skip))
          · have er : keptR n.buf j (q3 + 1) = keptR n.buf j q3 ++ [n.buf.getD q3 default] := by
              have h' : insS (abS (n.buf.getD q3 default)).1 (abS (n.buf.getD q3 default)).2.1 (abS (n.buf.getD q3 default)).2.2 (abS (n.buf.getD j default)).1 (abS (n.buf.getD j default)).2.1 (abS (n.buf.getD j default)).2.2 = false := h
              rw [keptR, if_neg (by rintro (a | ⟨_, a⟩); omega; rw [msLeft, h'] at a; cases a)]
            refine ih3 (q3 + 1) _ (by omega) (by omega) ?_
            rw [er]
            ((constructor <;> (repeat' (first | exact LeT.nil | exact LeB.nil | apply LeT.cons | apply LeB.cons | exact Ol.refl | apply Lx.s | apply Lx.b | apply Lx.i | exact Lx.refl)) <;> (first | rfl | assumption | omega | (simp only [List.length_map, BS_len]; done) | skip)) <;> (first | (refine Lx.eq (congrArg (AV.gr _ _ _) ?_); simp only [List.map_append, List.map_cons, List.map_nil]; rfl) | (refine Ol.eq (congrArg Ob.gw ?_); simp only [List.map_append, List.map_cons, List.map_nil, List.length_append, List.length_map, List.length_cons, List.length_nil]; done) | (refine Ol.bx ?_; (repeat' (first | exact LxL.nil | apply LxL.cons | exact Lx.refl | (refine Lx.eq (congrArg (AV.gr _ _ _) ?_); simp only [List.map_append, List.map_cons, List.map_nil]; rfl)))) | skip))
          · have er : keptR n.buf j (q3 + 1) = keptR n.buf j q3 ++ [n.buf.getD q3 default] := by
              rw [keptR, if_neg (by rintro (a | ⟨a, _⟩) <;> omega)]
            refine ih3 (q3 + 1) _ (by omega) (by omega) ?_
            rw [er]
            ((constructor <;> (repeat' (first | exact LeT.nil | exact LeB.nil | apply LeT.cons | apply LeB.cons | exact Ol.refl | apply Lx.s | apply Lx.b | apply Lx.i | exact Lx.refl)) <;> (first | rfl | assumption | omega | (simp only [List.length_map, BS_len]; done) | skip)) <;> (first | (refine Lx.eq (congrArg (AV.gr _ _ _) ?_); simp only [List.map_append, List.map_cons, List.map_nil]; rfl) | (refine Ol.eq (congrArg Ob.gw ?_); simp only [List.map_append, List.map_cons, List.map_nil, List.length_append, List.length_map, List.length_cons, List.length_nil]; done) | (refine Ol.bx ?_; (repeat' (first | exact LxL.nil | apply LxL.cons | exact Lx.refl | (refine Lx.eq (congrArg (AV.gr _ _ _) ?_); simp only [List.map_append, List.map_cons, List.map_nil]; rfl)))) | skip))
          · have er : keptR n.buf j (q3 + 1) = keptR n.buf j q3 := by rw [keptR, if_pos (.inl (by omega))]
            refine ih3 (q3 + 1) _ (by omega) (by omega) ?_
            rw [er]
            (constructor <;> (repeat' (first | exact LeT.nil | exact LeB.nil | apply LeT.cons | apply LeB.cons | exact Ol.refl | apply Lx.s | apply Lx.b | apply Lx.i | exact Lx.refl)) <;> (first | rfl | assumption | omega | (simp only [List.length_map, BS_len]; done) | skip))
        · obtain rfl : q3 = n.buf.length := by omega
          repeat' (first
    | apply AO.nil
    | (apply AO.kBuildS; first | refine AO.sBuildT (h := ?_) | refine AO.sBuildS (h := ?_))
    | (apply AO.kApp; first | refine AO.sGrowT (h := ?_) | refine AO.sNewT (h := ?_) | refine AO.sGrowBT (h := ?_) | refine AO.sGrow (h := ?_) | refine AO.sNewr (h := ?_))
    | (apply AO.kIx; first | refine AO.sIxN (h := ?_) | refine AO.sIx (h := ?_) | refine AO.sP (h := ?_) | refine AO.sPi (h := ?_))
    | (apply AO.kBox; refine AO.sBox (h := ?_))
    | (apply AO.kAlloc; refine AO.sAlloc (h := ?_))
    | (apply AO.kStore; first | refine AO.sStore (h := ?_) | refine AO.sStB (h := ?_))
    | (apply AO.kAdd; refine AO.sAdd (h := ?_))
    | (apply AO.kP; first | refine AO.sP (h := ?_) | refine AO.sPi (h := ?_) | refine AO.sLoadB (h := ?_) | refine AO.sSameB (h := ?_))
    | apply AW.seq
    | (apply AW.kR; refine AW.sR (h := ?_))
    | apply AW.skip
    | apply AW.block
    | apply AW.out
    | (apply AW.kE; refine AW.sE (h := ?_))
    | apply AW.label
    | (apply AW.kRd; refine AW.sRd (h := ?_))
    | ((first | (apply AO.kG; first | refine AO.sgt (h1 := fun h => ?_) (h2 := fun h => ?_) | refine AO.sgf (h1 := fun h => ?_) (h2 := fun h => ?_) | refine AO.sgs (h := ?_)) | (apply AW.kC; refine AW.sC (h1 := fun h => ?_) (h2 := fun h => ?_)) | (apply AR.kAny; apply AR.kG; first | refine AR.sgt (h1 := fun h => ?_) (h2 := fun h => ?_) | refine AR.sgf (h1 := fun h => ?_) (h2 := fun h => ?_) | refine AR.sgs (h := ?_))) <;> (try (first | exact Bool.noConfusion h | exact absurd h (by decide) | (simp at h; done) | (rw [h]; try simp only [nrm] at h; try rw [h]; try (exfalso; omega)) | skip)))
    | (apply AR.kAny; first | (apply AR.kBuildS; first | refine AR.sBuildT (h := ?_) | refine AR.sBuildS (h := ?_)) | (apply AR.kApp; first | refine AR.sGrowT (h := ?_) | refine AR.sNewT (h := ?_) | refine AR.sGrowBT (h := ?_) | refine AR.sGrow (h := ?_) | refine AR.sNewr (h := ?_)) | (apply AR.kIx; first | refine AR.sIxN (h := ?_) | refine AR.sIx (h := ?_) | refine AR.sP (h := ?_) | refine AR.sPi (h := ?_)) | (apply AR.kBox; refine AR.sBox (h := ?_)) | (apply AR.kAlloc; refine AR.sAlloc (h := ?_)) | (apply AR.kStore; refine AR.sStore (h := ?_)) | (apply AR.kAdd; refine AR.sAdd (h := ?_)) | (apply AR.kP; first | refine AR.sP (h := ?_) | refine AR.sPi (h := ?_)))
    | (apply AR.kNil; refine AR.sNil (h := ?_)))
          rw [← keptR_all hj] at hD
          exact AW.ret (hD rfl (Lx.tup (.cons (Lx.agg (.cons .refl (.cons .nil (.cons .gr (.cons .gr (.cons .gr .nil)))))) (.cons .refl .nil))))
  · obtain ⟨t1, t2⟩ := pst3 (i := i) h0
    rw [t1, t2]
    refine Good.w tabOk mixed Try.func17 (N := 186) (by kernel_rfl) rfl (by (repeat (first | exact LE.nil | apply LE.cons)); done) (by (repeat (first | exact LE.nil | apply LE.cons)); done) fun D hD F => ?_
    repeat' (first
    | apply AO.nil
    | (apply AO.kCall 21; refine AO.sCall (hg := gM) (h := ?_))
    | (apply AO.kCall 20; refine AO.sCall (hg := gF) (h := ?_))
    | (apply AO.kBuildS; first | refine AO.sBuildT (h := ?_) | refine AO.sBuildS (h := ?_))
    | (apply AO.kApp; first | refine AO.sGrowT (h := ?_) | refine AO.sNewT (h := ?_) | refine AO.sGrowBT (h := ?_) | refine AO.sGrow (h := ?_) | refine AO.sNewr (h := ?_))
    | (apply AO.kIx; first | refine AO.sIxN (h := ?_) | refine AO.sIx (h := ?_) | refine AO.sP (h := ?_) | refine AO.sPi (h := ?_))
    | (apply AO.kBox; refine AO.sBox (h := ?_))
    | (apply AO.kAlloc; refine AO.sAlloc (h := ?_))
    | (apply AO.kStore; first | refine AO.sStore (h := ?_) | refine AO.sStB (h := ?_))
    | (apply AO.kAdd; refine AO.sAdd (h := ?_))
    | (apply AO.kP; first | refine AO.sP (h := ?_) | refine AO.sPi (h := ?_) | refine AO.sLoadB (h := ?_) | refine AO.sSameB (h := ?_))
    | apply AW.seq
    | (apply AW.kR; refine AW.sR (h := ?_))
    | apply AW.skip
    | apply AW.block
    | apply AW.out
    | (apply AW.kE; refine AW.sE (h := ?_))
    | apply AW.label
    | (apply AW.kRd; refine AW.sRd (h := ?_))
    | ((first | (apply AO.kG; first | refine AO.sgt (h1 := fun h => ?_) (h2 := fun h => ?_) | refine AO.sgf (h1 := fun h => ?_) (h2 := fun h => ?_) | refine AO.sgs (h := ?_)) | (apply AW.kC; refine AW.sC (h1 := fun h => ?_) (h2 := fun h => ?_)) | (apply AR.kAny; apply AR.kG; first | refine AR.sgt (h1 := fun h => ?_) (h2 := fun h => ?_) | refine AR.sgf (h1 := fun h => ?_) (h2 := fun h => ?_) | refine AR.sgs (h := ?_))) <;> (try (first | exact Bool.noConfusion h | exact absurd h (by decide) | (simp at h; done) | (rw [h]; try simp only [nrm] at h; try rw [h]; try (exfalso; omega)) | skip)))
    | (apply AR.kAny; first | (apply AR.kCall 21; refine AR.sCall (hg := gM) (h := ?_)) | (apply AR.kCall 20; refine AR.sCall (hg := gF) (h := ?_)) | (apply AR.kBuildS; first | refine AR.sBuildT (h := ?_) | refine AR.sBuildS (h := ?_)) | (apply AR.kApp; first | refine AR.sGrowT (h := ?_) | refine AR.sNewT (h := ?_) | refine AR.sGrowBT (h := ?_) | refine AR.sGrow (h := ?_) | refine AR.sNewr (h := ?_)) | (apply AR.kIx; first | refine AR.sIxN (h := ?_) | refine AR.sIx (h := ?_) | refine AR.sP (h := ?_) | refine AR.sPi (h := ?_)) | (apply AR.kBox; refine AR.sBox (h := ?_)) | (apply AR.kAlloc; refine AR.sAlloc (h := ?_)) | (apply AR.kStore; refine AR.sStore (h := ?_)) | (apply AR.kAdd; refine AR.sAdd (h := ?_)) | (apply AR.kP; first | refine AR.sP (h := ?_) | refine AR.sPi (h := ?_)))
    | (apply AR.kNil; refine AR.sNil (h := ?_)))
    all_goals first
      | exact AW.ret (hD rfl (Lx.tup (.cons (Lx.agg (.cons .refl (.cons .nil (.cons .nil (.cons .nil (.cons .nil .nil)))))) (.cons .refl .nil))))
      | (exfalso; exact h0 (eq0 (by assumption)))
end Go.Proofs.Ytmfonbehcfjjgaa.Mv

/- Pasting: sizes, depths, plain. Under no condition. -/
namespace Go.Proofs.Ytmfonbehcfjjgaa.Mv
open Go Go.Proofs
set_option linter.unusedSimpArgs false
set_option linter.unusedVariables false

def listA (n : Nd) (k : L) (q : Nat) : List Nat := (List.range q).filter fun i => lt (rgN n i).1 k
def listB (n : Nd) (hi : L) (e : Bool) (q : Nat) : List Nat := (List.range q).filter fun i => behB n hi e i
theorem runA_eq (n : Nd) (k : L) : ∀ q, runA n k q = (((listA n k q).drop 1).map (fun i : Nat => (rgN n i).1), (listA n k q).map (fun i => n.kids.getD i default))
  | 0 => rfl
  | q + 1 => by
    rw [runA, runA_eq n k q]
    cases g : lt (rgN n q).1 k with
    | true =>
      have e : listA n k (q + 1) = listA n k q ++ [q] := by
        rw [listA, List.range_succ, List.filter_append, List.filter_cons_of_pos (by exact g)]; rfl
      rw [if_pos rfl, e, List.map_append]
      by_cases h : 0 < (listA n k q).length
      · rw [put1 (by rw [List.length_map]; exact h), List.drop_append_of_le_length h, List.map_append]; rfl
      · have e0 : listA n k q = [] := List.eq_nil_of_length_eq_zero (by omega)
        rw [put0 (by rw [List.length_map]; exact h), e0]; rfl
    | false =>
      have e : listA n k (q + 1) = listA n k q := by
        rw [listA, List.range_succ, List.filter_append, List.filter_cons_of_neg (by rw [g]; decide), List.filter_nil, List.append_nil]; rfl
      rw [if_neg (by decide), e]
theorem runB_eq (n : Nd) (hi : L) (e : Bool) (s : List L × List Ed) (h0 : 0 < s.2.length) : ∀ q, runB n hi e s q = (s.1 ++ (listB n hi e q).map (fun i : Nat => mxS (rgN n i).1 hi), s.2 ++ (listB n hi e q).map (fun i => n.kids.getD i default))
  | 0 => by simp [runB, listB]
  | q + 1 => by
    have hl := runB_len n hi e s q
    rw [runB]
    cases g : behB n hi e q with
    | true =>
      have e1 : listB n hi e (q + 1) = listB n hi e q ++ [q] := by
        rw [listB, List.range_succ, List.filter_append, List.filter_cons_of_pos (by exact g)]; rfl
      rw [if_pos rfl, put1 (by omega), runB_eq n hi e s h0 q, e1, List.map_append, List.map_append, List.append_assoc, List.append_assoc]; rfl
    | false =>
      have e1 : listB n hi e (q + 1) = listB n hi e q := by
        rw [listB, List.range_succ, List.filter_append, List.filter_cons_of_neg (by rw [g]; decide), List.filter_nil, List.append_nil]; rfl
      rw [if_neg (by decide), runB_eq n hi e s h0 q, e1]
/-- Of two kinds that don't turn back there are not many more than places. -/
theorem two_kinds {p r : Nat → Bool} : ∀ K, (∀ a b, a < b → b < K → r a = true → p b = false) → ((List.range K).filter p).length + ((List.range K).filter r).length ≤ K + 1
  | 0, _ => by simp
  | K + 1, h => by
    have ih := two_kinds K fun a b h1 h2 h3 => h a b h1 (by omega) h3
    rw [List.range_succ, List.filter_append, List.filter_append, List.length_append, List.length_append]
    cases gp : p K with
    | false =>
      rw [List.filter_cons_of_neg (by rw [gp]; decide)]
      have : (List.filter r [K]).length ≤ 1 := List.length_filter_le _ _
      simp only [List.filter_nil, List.length_nil]
      omega
    | true =>
      have e0 : (List.range K).filter r = [] := List.filter_eq_nil_iff.2 fun a ha => by
        intro ra
        have := h a K (List.mem_range.1 ha) (by omega) ra
        rw [gp] at this; cases this
      have c1 : ((List.range K).filter p).length ≤ K := by have := List.length_filter_le p (List.range K); rw [List.length_range] at this; exact this
      have c2 : (List.filter r [K]).length ≤ 1 := List.length_filter_le _ _
      have c3 : (List.filter p [K]).length ≤ 1 := List.length_filter_le _ _
      rw [e0, List.length_nil]
      omega
theorem succ_gt {k : L} (h : succOk k = true) : lt k (succS k) = true := ((succ_facts k k).1 (hp_self k)).2 h
/-- A kid that has keys behind a beginning has none ahead of which a later kid begins. -/
theorem beh_order {n : Nd} (hI : innerOk n = true) {k : L} {a b : Nat} (hab : a < b) (hb : b < n.kids.length) (h : behB n (succS k) (succOk k) a = true) : lt (succS k) (rgN n b).1 = true ∧ succOk k = true := by
  obtain ⟨pl, pr, _⟩ := inner_len hI
  simp only [behB, Bool.and_eq_true, Bool.not_eq_true', Bool.and_eq_false_iff, Bool.not_eq_false'] at h
  obtain ⟨he, h⟩ := h
  have ha : a < n.pivots.length := by omega
  obtain ⟨e1, e2⟩ := rg_hi (n := n) pl ha
  rcases h with h | h
  · rw [e2] at h; cases h
  · rw [e1] at h
    refine ⟨?_, he⟩
    rw [rg_lo (by omega) pl hb]
    exact lt_of_lt_le h (le_rise pr (by omega) (by omega))
theorem pst_len {n : Nd} (hI : innerOk n = true) (k : L) : (listA n k n.kids.length).length + (listB n (succS k) (succOk k) n.kids.length).length ≤ n.kids.length + 1 :=
  two_kinds _ fun a b h1 h2 h3 => by
    obtain ⟨g1, g2⟩ := beh_order hI h1 h2 h3
    cases g : lt (rgN n b).1 k with
    | false => rfl
    | true =>
      have := lt_trans (lt_trans (succ_gt g2) g1) g
      rw [lt_irrefl] at this; cases this
theorem keptM_len {l : List Ms} {i : Nat} (h : i < l.length) : (keptM l i).length < l.length := by
  have := List.length_filter_le (msLeft (l.getD i default)) (l.take i)
  rw [keptM, List.length_append, List.length_drop]
  rw [List.length_take] at this
  omega
theorem keptM_mem {l : List Ms} {i : Nat} {m : Ms} (h : m ∈ keptM l i) : m ∈ l := by
  rw [keptM, List.mem_append] at h
  rcases h with h | h
  · exact List.mem_of_mem_take (List.mem_filter.1 h).1
  · exact List.mem_of_mem_drop h
theorem pstK_eq (n : Nd) (g : Ms) : pstK n g = ((((listA n g.key n.kids.length).drop 1).map (fun i : Nat => (rgN n i).1) ++ if 0 < (listA n g.key n.kids.length).length then [g.key] else []) ++ (listB n (succS g.key) (succOk g.key) n.kids.length).map (fun i : Nat => mxS (rgN n i).1 (succS g.key)),
    ((listA n g.key n.kids.length).map (fun i => n.kids.getD i default) ++ [gEd g]) ++ (listB n (succS g.key) (succOk g.key) n.kids.length).map (fun i => n.kids.getD i default)) := by
  rw [pstK, runB_eq _ _ _ _ (by rw [(putK_len _ _ _).2]; omega), putK, runA_eq]
  dsimp only
  rw [List.length_map]
  by_cases h : 0 < (listA n g.key n.kids.length).length
  · rw [if_pos h, if_pos h]
  · rw [if_neg h, if_neg h, List.append_nil]
theorem listA_mem {n : Nd} {k : L} {q i : Nat} : i ∈ listA n k q ↔ i < q ∧ lt (rgN n i).1 k = true := by rw [listA, List.mem_filter, List.mem_range]
theorem listB_mem {n : Nd} {hi : L} {e : Bool} {q i : Nat} : i ∈ listB n hi e q ↔ i < q ∧ behB n hi e i = true := by rw [listB, List.mem_filter, List.mem_range]
/-- What a pasted node's lists are. -/
theorem pst_parts {n : Nd} {i : Int} (h : pstE n i = 0) : ∃ j : Nat, i = j ∧ j < n.buf.length ∧ (n.buf.getD j default).kind = 3 ∧ mayN n = 0 ∧ innerOk n = true ∧ n.leaf = false ∧
    pstN n i = ⟨false, [], (pstK n (n.buf.getD j default)).1, (pstK n (n.buf.getD j default)).2, keptM n.buf j⟩ := by
  by_cases h0 : mayN n = 0
  · cases hok : psOk n i with
    | false => rw [(pst1 h0 hok).1] at h; cases h
    | true =>
      obtain ⟨j, rfl, hj, hk, _⟩ := psOk_at hok
      have hl : n.leaf = false := by
        cases hl : n.leaf with
        | false => rfl
        | true =>
          have := (leaf_len (may_leaf h0 hl)).2.2
          rw [this] at hj; simp at hj
      exact ⟨j, rfl, hj, hk, h0, (may_inner h0 hl).1, hl, (pst0 h0 hok).2⟩
  · rw [(pst3 (i := i) h0).1] at h; cases h
theorem getD_mem {α : Type} [Inhabited α] {l : List α} {i : Nat} (h : i < l.length) : l.getD i default ∈ l := by rw [getD_at h]; exact List.getElem_mem h
theorem kids_from {n : Nd} {g : Ms} {e : Ed} (h : e ∈ (pstK n g).2) : e ∈ n.kids ∨ e = gEd g := by
  rw [pstK_eq] at h
  simp only [List.mem_append, List.mem_map, List.mem_singleton] at h
  rcases h with (⟨i, hi, rfl⟩ | h) | ⟨i, hi, rfl⟩
  · exact .inl (getD_mem (listA_mem.1 hi).1)
  · exact .inr h
  · exact .inl (getD_mem (listB_mem.1 hi).1)
theorem pst_sizes {n : Nd} {i : Int} (h : pstE n i = 0) : (pstN n i).buf.length < n.buf.length ∧ (pstN n i).kids.length ≤ n.kids.length + 2 ∧ 1 ≤ (pstN n i).kids.length ∧ (pstN n i).pivots.length + 1 = (pstN n i).kids.length := by
  obtain ⟨j, rfl, hj, hk, h0, hI, hl, e⟩ := pst_parts h
  rw [e]
  dsimp only
  have hp := pst_len hI (n.buf.getD j default).key
  refine ⟨keptM_len hj, ?_, ?_, ?_⟩
  · rw [pstK_eq]
    simp only [List.length_append, List.length_map, List.length_cons, List.length_nil]
    omega
  · rw [pstK_eq]
    simp only [List.length_append, List.length_map, List.length_cons, List.length_nil]
    omega
  · rw [pstK_eq]
    simp only [List.length_append, List.length_map, List.length_cons, List.length_nil, List.length_drop]
    by_cases c : 0 < (listA n (n.buf.getD j default).key n.kids.length).length
    · rw [if_pos c]; simp only [List.length_cons, List.length_nil]; omega
    · rw [if_neg c]; simp only [List.length_nil]; omega
/-! ### depth -/
theorem dpK_bound {M : Nat} : ∀ {l : List Ed} {d : Nat}, l.foldl dpK d ≤ M ↔ d ≤ M ∧ ∀ e ∈ l, e.deep.toNat ≤ M
  | [], d => by simp
  | e :: l, d => by
    rw [List.foldl_cons, dpK_bound (l := l), dpK]
    simp only [List.mem_cons, forall_eq_or_imp]
    rw [Nat.max_le]; exact and_assoc
theorem dpM_bound {M : Nat} : ∀ {l : List Ms} {d : Nat}, l.foldl dpM d ≤ M ↔ d ≤ M ∧ ∀ m ∈ l, m.kind = 3 → m.deep.toNat ≤ M
  | [], d => by simp
  | m :: l, d => by
    rw [List.foldl_cons, dpM_bound (l := l), dpM]
    simp only [List.mem_cons, forall_eq_or_imp]
    by_cases c : m.kind = 3
    · rw [if_pos c]
      constructor
      · rintro ⟨h1, h2⟩; exact ⟨by omega, fun _ => by omega, h2⟩
      · rintro ⟨h1, h2, h3⟩; exact ⟨by have := h2 c; omega, h3⟩
    · rw [if_neg c]
      exact ⟨fun ⟨h1, h2⟩ => ⟨h1, fun h => absurd h c, h2⟩, fun ⟨h1, _, h3⟩ => ⟨h1, h3⟩⟩
theorem pst_deep {n : Nd} {i : Int} (h : pstE n i = 0) : deepN (pstN n i) ≤ deepN n ∧ (pstN n i).leaf = false := by
  obtain ⟨j, rfl, hj, hk, h0, hI, hl, e⟩ := pst_parts h
  rw [e]
  refine ⟨?_, rfl⟩
  have hb : ∀ M, n.buf.foldl dpM (n.kids.foldl dpK 0) ≤ M → (keptM n.buf j).foldl dpM ((pstK n (n.buf.getD j default)).2.foldl dpK 0) ≤ M := fun M hM => by
    rw [dpM_bound, dpK_bound] at hM ⊢
    obtain ⟨⟨_, h1⟩, h2⟩ := hM
    refine ⟨⟨by omega, fun x hx => ?_⟩, fun m hm => h2 m (keptM_mem hm)⟩
    rcases kids_from hx with hx | rfl
    · exact h1 x hx
    · exact h2 _ (getD_mem hj) hk
  have := hb _ (Nat.le_refl _)
  unfold deepN
  rw [if_neg Bool.false_ne_true, if_neg (by rw [hl]; decide)]
  dsimp only
  omega
/-! ### it may be -/
theorem mx_lt {a b c : L} (h1 : lt a c = true) (h2 : lt b c = true) : lt (mxS a b) c = true := by
  unfold mxS; split <;> assumption
theorem mx_ge (a b : L) : lt (mxS a b) b = false := by
  unfold mxS
  split
  · assumption
  · exact lt_irrefl b
theorem mx_right {a b : L} (h : lt b a = true) : mxS a b = a := by rw [mxS, if_pos (lt_asymm h)]
theorem pst_rise {n : Nd} (hI : innerOk n = true) (k : L) : ([] :: (((listA n k n.kids.length).drop 1).map (fun i : Nat => (rgN n i).1) ++ (if 0 < (listA n k n.kids.length).length then [k] else []) ++ (listB n (succS k) (succOk k) n.kids.length).map (fun i : Nat => mxS (rgN n i).1 (succS k)))).Pairwise (fun x y => lt x y = true) := by
  obtain ⟨pl, pr, _⟩ := inner_len hI
  have hr := inner_rise hI
  have l1 : ([] :: n.pivots).length = n.kids.length := by simp; omega
  have pwA : (listA n k n.kids.length).Pairwise (· < ·) := List.Pairwise.filter _ List.pairwise_lt_range
  have pwB : (listB n (succS k) (succOk k) n.kids.length).Pairwise (· < ·) := List.Pairwise.filter _ List.pairwise_lt_range
  have memA : ∀ i, i ∈ listA n k n.kids.length → i < n.kids.length ∧ lt (rgN n i).1 k = true := fun i h => listA_mem.1 h
  have memB : ∀ i, i ∈ listB n (succS k) (succOk k) n.kids.length → i < n.kids.length ∧ behB n (succS k) (succOk k) i = true := fun i h => listB_mem.1 h
  generalize listA n k n.kids.length = A at *
  generalize listB n (succS k) (succOk k) n.kids.length = B at *
  have los : ∀ a b, a < b → b < n.kids.length → lt (rgN n a).1 (rgN n b).1 = true := fun a b h1 h2 => by
    rw [rg_at pl (by omega), rg_at pl h2]; exact rise_lt hr b h1 (by omega)
  have mD : ∀ i, i ∈ A.drop 1 → i < n.kids.length ∧ lt (rgN n i).1 k = true ∧ 0 < i := fun i h => by
    obtain ⟨a, b⟩ := memA i (List.mem_of_mem_drop h)
    refine ⟨a, b, ?_⟩
    obtain ⟨q, hq, rfl⟩ := List.getElem_of_mem h
    rw [List.length_drop] at hq
    rw [List.getElem_drop]
    have := List.pairwise_iff_getElem.1 pwA 0 (1 + q) (by omega) (by omega) (by omega)
    omega
  have eB : ∀ i, i ∈ B → succOk k = true := fun i h => by
    have := (memB i h).2
    simp only [behB, Bool.and_eq_true] at this; exact this.1
  have empty_lt : ∀ x y : L, lt x y = true → lt [] y = true := fun x y h => lt_of_le_lt (lt_nil x) h
  have kB : ∀ i, i ∈ B → lt k (mxS (rgN n i).1 (succS k)) = true := fun i h => lt_of_lt_le (succ_gt (eB i h)) (mx_ge _ _)
  have kK : ∀ i, i ∈ A → lt [] k = true := fun i h => empty_lt _ _ (memA i h).2
  rw [List.pairwise_cons]
  constructor
  · intro x hx
    simp only [List.mem_append, List.mem_map] at hx
    rcases hx with (⟨i, hi, rfl⟩ | hx) | ⟨i, hi, rfl⟩
    · obtain ⟨a, _, c⟩ := mD i hi
      exact empty_lt _ _ (los 0 i c a)
    · by_cases c : 0 < A.length
      · rw [if_pos c] at hx
        simp only [List.mem_singleton] at hx
        subst hx
        exact kK A[0] (List.getElem_mem c)
      · rw [if_neg c] at hx; cases hx
    · exact empty_lt _ _ (kB i hi)
  · rw [List.pairwise_append, List.pairwise_append]
    refine ⟨⟨?_, ?_, ?_⟩, ?_, ?_⟩
    · rw [List.pairwise_map]
      refine (List.Pairwise.imp_of_mem (R := (· < ·)) (fun {a b} ha hb hab => ?_) (List.Pairwise.sublist (List.drop_sublist 1 A) pwA))
      exact los a b hab (mD b hb).1
    · split <;> simp
    · intro x hx y hy
      obtain ⟨i, hi, rfl⟩ := List.mem_map.1 hx
      split at hy
      · simp only [List.mem_singleton] at hy; subst hy; exact (mD i hi).2.1
      · cases hy
    · rw [List.pairwise_map]
      refine List.Pairwise.imp_of_mem (R := (· < ·)) (fun {a b} ha hb hab => ?_) pwB
      obtain ⟨b1, b2⟩ := memB b hb
      obtain ⟨g1, g2⟩ := beh_order hI hab b1 (memB a ha).2
      rw [mx_right (a := (rgN n b).1) g1]
      exact mx_lt (los a b hab b1) g1
    · intro x hx y hy
      obtain ⟨i, hi, rfl⟩ := List.mem_map.1 hy
      rw [List.mem_append] at hx
      rcases hx with hx | hx
      · obtain ⟨a, ha, rfl⟩ := List.mem_map.1 hx
        exact lt_trans (mD a ha).2.1 (kB i hi)
      · split at hx
        · simp only [List.mem_singleton] at hx; subst hx; exact kB i hi
        · cases hx
theorem mx_len2 {a b : L} {m : Nat} (h1 : a.length ≤ m) (h2 : b.length ≤ m) : (mxS a b).length ≤ m := by
  unfold mxS; split <;> assumption
theorem pst_may {n : Nd} {i : Int} (h : pstE n i = 0) : mayN (pstN n i) = 0 ∨ (mayN (pstN n i) = 13 ∧ 8 < (pstN n i).kids.length) := by
  obtain ⟨z1, z2, z3, z4⟩ := pst_sizes h
  obtain ⟨j, rfl, hj, hk, h0, hI, hl, e⟩ := pst_parts h
  have b16 := (may_inner h0 hl).2.2
  by_cases c : 8 < (pstN n j).kids.length
  · right
    refine ⟨?_, c⟩
    rw [mayN, if_pos (.inr (.inl c))]
  · left
    have hI' := hI
    simp only [innerOk, Bool.and_eq_true] at hI'
    obtain ⟨⟨⟨⟨⟨i1, i2⟩, i3⟩, i4⟩, i5, i6⟩, i7⟩ := hI'
    have mg := List.all_eq_true.1 i7 _ (getD_mem hj)
    have key16 : (n.buf.getD j default).key.length ≤ 16 ∧ (n.buf.getD j default).add.length ≤ 16 ∧ (n.buf.getD j default).deep ≠ 0 := by
      unfold msMay at mg
      rw [hk] at mg
      simp at mg
      refine ⟨mg.1, mg.2.1.1, fun z => ?_⟩
      have := mg.2.1.2
      rw [show (n.buf[j]?.getD default) = n.buf.getD j default from rfl, z] at this
      simp at this
    have lo16 : ∀ q, q < n.kids.length → (rgN n q).1.length ≤ 16 := fun q hq => by
      obtain ⟨pl, _, _⟩ := inner_len hI
      by_cases q0 : 0 < q
      · rw [rg_lo q0 pl hq]
        have := List.all_eq_true.1 i6 _ (getD_mem (l := n.pivots) (i := q - 1) (by omega))
        simpa using this
      · obtain rfl : q = 0 := by omega
        rw [rg_at pl hq]; simp
    have hin : innerOk (pstN n j) = true := by
      have pe : (pstN n j).pivots.length + 1 = (pstN n j).kids.length := z4
      rw [e] at pe z3 ⊢
      dsimp only at pe z3
      simp only [innerOk, Bool.and_eq_true]
      refine ⟨⟨⟨⟨⟨rfl, ?_⟩, by rw [decide_eq_true_eq]; exact pe⟩, ?_⟩, ?_, ?_⟩, ?_⟩
      · cases he : (pstK n (n.buf.getD j default)).2 with
        | nil => rw [he] at z3; simp at z3
        | cons a b => rfl
      · rw [List.all_eq_true]
        intro x hx
        rcases kids_from hx with hx | rfl
        · exact List.all_eq_true.1 i4 x hx
        · simp only [edOk, gEd, Bool.and_eq_true, decide_eq_true_eq, Bool.not_eq_true', beq_eq_false_iff_ne]
          exact ⟨⟨key16.2.2, decide_eq_true key16.1⟩, decide_eq_true key16.2.1⟩
      · rw [rise_pw, pstK_eq]
        exact pst_rise hI _
      · rw [List.all_eq_true]
        intro x hx
        rw [decide_eq_true_eq]
        rw [pstK_eq] at hx
        simp only [List.mem_append, List.mem_map] at hx
        rcases hx with (⟨q, hq, rfl⟩ | hx) | ⟨q, hq, rfl⟩
        · exact lo16 q (listA_mem.1 (List.mem_of_mem_drop hq)).1
        · split at hx
          · simp only [List.mem_singleton] at hx; subst hx; exact key16.1
          · cases hx
        · exact mx_len2 (lo16 q (listB_mem.1 hq).1) (Nat.le_trans (succS_len _) key16.1)
      · rw [List.all_eq_true]
        intro m hm
        exact List.all_eq_true.1 i7 m (keptM_mem hm)
    rw [mayN, if_neg (by rw [e] at c z1 ⊢; dsimp only at c z1 ⊢; simp only [List.length_nil]; omega), if_neg (by rw [e]; exact Bool.false_ne_true), if_pos hin]
theorem pst_small (n : Nd) (i : Int) (hs : n.small) : (pstN n i).small := by
  by_cases h : pstE n i = 0
  · obtain ⟨z1, z2, z3, z4⟩ := pst_sizes h
    obtain ⟨j, rfl, hj, hk, h0, hI, hl, e⟩ := pst_parts h
    have b16 := (may_inner h0 hl).2
    rw [e] at z1 z2 z3 z4 ⊢
    dsimp only at z1 z2 z3 z4
    exact ⟨by simp, by dsimp only; omega, by dsimp only; omega, by dsimp only; omega⟩
  · rw [pstN, if_pos h]; exact zero_small
end Go.Proofs.Ytmfonbehcfjjgaa.Mv
