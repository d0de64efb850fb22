/- A machine for proofs, part U: a region that draws its order. Under no condition. -/
import Derived.Test.YtocppeifkjdeiaaCoreT
namespace Go.Proofs.Ytocppeifkjdeiaa.Mv
open Go
set_option linter.unusedSimpArgs false
set_option linter.unusedVariables false
set_option linter.unusedSectionVars false

structure Reg (c : Ctx) (tab : Tab) (ops : Array Oper) (st : St) (rs : List Rec) : Prop where
  tabok : TabOk c.P tab
  chain : Chain c.P tab ops ops.toList st rs
  ni : NI ops rs
  ok : ops.all (okOper c.N) = true
  back : ∀ (j : Nat) o, ops[j]? = some o → ∀ e ∈ o.after.toList, Region.binds .any e = true → e.on < j

/-- Done so far: with each, what it waits for. -/
def Down (ops : Array Oper) (S : Nat → Bool) : Prop := ∀ (j : Nat) o, ops[j]? = some o → S j = true → ∀ e ∈ o.after.toList, Region.binds .any e = true → S e.on = true

section
variable {c : Ctx} {tab : Tab} {ops : Array Oper} {st : St} {rs : List Rec} (h : Reg c tab ops st rs) {S : Nat → Bool} (hS : Down ops S)
include h hS

theorem Reg.len : rs.length = ops.size := by have := chain_len h.chain; simpa using this

theorem Reg.off {i : Nat} {o : Oper} (ho : ops[i]? = some o) {r : Rec} (hr : rs[i]? = some r) (hi : S i = false) (hp : ∀ e ∈ o.after.toList, Region.binds .any e = true → S e.on = true) {j : Nat} {q : Rec} (hq : rs[j]? = some q) :
    ∃ o', ops[j]? = some o' ∧ ((j < i ∧ S j = false → Off ops o' o q r) ∧ (i < j ∧ S j = true → Off ops o o' r q)) := by
  have hj : j < ops.size := by rw [← h.len hS]; exact (List.getElem?_eq_some_iff.1 hq).1
  refine ⟨ops[j], Array.getElem?_eq_getElem hj, fun ⟨h1, h2⟩ => ?_, fun ⟨h1, h2⟩ => ?_⟩
  · refine apart_off (h.ni j i _ o q r h1 (Array.getElem?_eq_getElem hj) ho hq hr ?_)
    cases hb : ((Region.before ops).getD i 0).testBit j with
    | false => rfl
    | true =>
      have := bef_closed hS i i j (Nat.le_refl _) (fun o' ho' e he hb' => by
        rw [ho] at ho'; cases ho'; exact ⟨hp e he hb', h.back i o ho e he hb'⟩) h.back hb
      rw [h2] at this; cases this
  · refine apart_off (h.ni i j o _ r q h1 ho (Array.getElem?_eq_getElem hj) hr hq ?_)
    cases hb : ((Region.before ops).getD j 0).testBit i with
    | false => rfl
    | true =>
      have := bef_closed hS j j i (Nat.le_refl _) (fun o' ho' e he hb' => ⟨hS j o' ho' h2 e he hb', h.back j o' ho' e he hb'⟩) h.back hb
      rw [hi] at this; cases this

theorem Reg.one {i : Nat} {o : Oper} (ho : ops[i]? = some o) {r : Rec} (hr : rs[i]? = some r) (hi : S i = false) (hp : ∀ e ∈ o.after.toList, Region.binds .any e = true → S e.on = true) : OneOk c.P tab ops (appS rs S 0 st) o r := by
  have h0 := chain_at h.chain (by simpa using ho) hr 0
  have hsame : ∀ j q, rs[j]? = some q → (∀ o', Off ops o' o q r → False) → (∀ o', Off ops o o' r q → False) → (fun j => decide (j < 0 + i)) (0 + j) = S (0 + j) := fun j q hq h1 h2 => by
    obtain ⟨o', ho', h3, h4⟩ := h.off hS ho hr hi hp hq
    simp only [Nat.zero_add]
    rcases Nat.lt_trichotomy j i with hj | hj | hj
    · have : S j = true := by
        cases hs : S j with
        | true => rfl
        | false => exact (h1 o' (h3 ⟨hj, hs⟩)).elim
      simp [this, hj]
    · subst hj; simp [hi]
    · have : S j = false := by
        cases hs : S j with
        | false => rfl
        | true => exact (h2 o' (h4 ⟨hj, hs⟩)).elim
      simp [this]; omega
  refine one_agree h0 (fun x hx => ?_) (fun t ht => ?_) (fun d hd => ?_) (fun d hd => ?_)
  · cases x with
    | tmp t =>
      simp only [St.val]
      exact appS_get (fun j q hq hl => hsame j q hq (fun o' ho' => (ho'.read t hl).1 (by simpa using hx)) fun o' ho' => (ho'.read' t hl).1 (by simpa using hx)) rfl
    | const v => rfl
    | func f => rfl
    | global g => rfl
  · exact appS_ob (fun j q hq hl => hsame j q hq (fun o' ho' => ho'.tag t hl ht) fun o' ho' => ho'.tag' t hl ht) rfl
  · exact appS_get (fun j q hq hl => hsame j q hq (fun o' ho' => (ho'.read d hl).2 hd) fun o' ho' => (ho'.read' d hl).2 hd) rfl
  · have hfree : (appS rs (fun j => decide (j < 0 + i)) 0 st).free d := by
      rcases h0.2 with ⟨_, _, hf⟩ | ⟨_, he⟩
      · exact hf d hd
      · rw [he] at hd; simp [putEff] at hd
    refine ⟨hfree.1, fun hm => ?_, fun hm => ?_⟩
    · rcases refs_appT hm with hm | ⟨j, q, hq, hs, hm⟩
      · exact hfree.2.1 (refs_appT' (.inl hm))
      · obtain ⟨o', ho', _, h4⟩ := h.off hS ho hr hi hp hq
        simp only [Nat.zero_add] at hs
        by_cases hj : j < i
        · exact hfree.2.1 (refs_appT' (.inr ⟨j, q, hq, by simpa using hj, hm⟩))
        · by_cases hj' : j = i
          · subst hj'; rw [hi] at hs; cases hs
          · exact ((h4 ⟨by omega, hs⟩).new d hd).1 hm
    · rcases refs_appB hm with hm | ⟨j, q, hq, hs, hm⟩
      · exact hfree.2.2 (refs_appB' (.inl hm))
      · obtain ⟨o', ho', _, h4⟩ := h.off hS ho hr hi hp hq
        simp only [Nat.zero_add] at hs
        by_cases hj : j < i
        · exact hfree.2.2 (refs_appB' (.inr ⟨j, q, hq, by simpa using hj, hm⟩))
        · by_cases hj' : j = i
          · subst hj'; rw [hi] at hs; cases hs
          · exact ((h4 ⟨by omega, hs⟩).new d hd).2 hm

theorem Reg.step {i : Nat} {o : Oper} (ho : ops[i]? = some o) {r : Rec} (hr : rs[i]? = some r) (hi : S i = false) (hp : ∀ e ∈ o.after.toList, Region.binds .any e = true → S e.on = true) {a : Act} {w : World} (hrr : RR c (appS rs S 0 st) a w)
    {Q : Exit → Act → World → Prop} {K : Act → World → Prop} (hK : ∀ a' w', RR c (appS rs (fun j => j == i || S j) 0 st) a' w' → K a' w') : wpOp c.P ops Q i K a w := by
  have hcong : ∀ a' w', RR c ((appS rs S 0 st).app r.e) a' w' → K a' w' := fun a' w' hx => hK a' w' (hx.congr
    (fun t => (appS_add_get hr (by omega) hi fun j q hq hj hs hl => by
      obtain ⟨o', ho', _, h4⟩ := h.off hS ho hr hi hp hq
      exact (h4 ⟨hj, by simpa using hs⟩).tt t hl).symm)
    (fun t => (appS_add_ob hr (by omega) hi fun j q hq hj hs hl => by
      obtain ⟨o', ho', _, h4⟩ := h.off hS ho hr hi hp hq
      exact (h4 ⟨hj, by simpa using hs⟩).bb t hl).symm))
  obtain ⟨Γ, m, hw⟩ := hrr
  have h1 := h.one hS ho hr hi hp
  have hoko : okOper c.N o = true := (Array.all_eq_true_iff_forall_mem.1 h.ok) o (Array.mem_of_getElem? ho)
  unfold wpOp
  rw [ho]
  simp only
  rcases h1.2 with ⟨h2, h3, h4⟩ | ⟨h2, h3⟩
  · rw [wants_spec hw h.ok h2]
    simp only [if_true]
    exact .inl (Oper.wp_mono hcong (does_wp h.tabok hw hoko h3 h4))
  · rw [wants_spec hw h.ok h2]
    simp only [Bool.false_eq_true, if_false]
    refine hcong _ _ ?_
    rw [h3]
    exact skip_put hw o.dst
end

theorem Reg.any {c : Ctx} {tab : Tab} {ops : Array Oper} {st : St} {rs : List Rec} (h : Reg c tab ops st rs) {Q : Exit → Act → World → Prop} (hQ : ∀ a w, RR c (appS rs (fun _ => true) 0 st) a w → Q .normal a w) :
    ∀ (fuel : Nat) (listed : Array Bool) (a : Act) (w : World), listed.size = ops.size → (listed.toList.filter (!·)).length = fuel → Down ops (fun j => listed.getD j false) → RR c (appS rs (fun j => listed.getD j false) 0 st) a w → wpAny c.P .any ops Q fuel listed a w := by
  intro fuel
  -- who has not been done, and waits for nobody that has not been done
  have hready : ∀ (listed : Array Bool), listed.size = ops.size → Down ops (fun j => listed.getD j false) → (∃ i, i < ops.size ∧ listed.getD i true = false) → Region.ready .any ops listed ≠ [] := by
    intro listed hsz hD ⟨i, hi, hl⟩
    have key : ∀ n i, i ≤ n → i < ops.size → listed.getD i true = false → ∃ j, j ∈ Region.ready .any ops listed := by
      intro n
      induction n with
      | zero =>
        intro i hn hi hl
        obtain rfl : i = 0 := by omega
        refine ⟨0, mem_ready.2 ⟨hl, ops[0], Array.getElem?_eq_getElem hi, fun e he hb => ?_⟩⟩
        have := h.back 0 _ (Array.getElem?_eq_getElem hi) e (by simpa using he) hb; omega
      | succ n ih =>
        intro i hn hi hl
        by_cases hall : ∀ e ∈ (ops[i]).after, Region.binds .any e = true → listed.getD e.on false = true
        · exact ⟨i, mem_ready.2 ⟨hl, ops[i], Array.getElem?_eq_getElem hi, hall⟩⟩
        · have ⟨e, he⟩ := Classical.not_forall.1 hall
          have ⟨he1, he2⟩ := Classical.not_imp.1 he
          have ⟨hb, hn'⟩ := Classical.not_imp.1 he2
          have hlt := h.back i _ (Array.getElem?_eq_getElem hi) e (by simpa using he1) hb
          refine ih e.on (by omega) (by omega) ?_
          have hlt' : e.on < listed.size := by omega
          simp [Array.getD, hlt'] at hn' ⊢
          exact hn'
    obtain ⟨j, hj⟩ := key i i (Nat.le_refl _) hi hl
    intro e; rw [e] at hj; cases hj
  have hopen : ∀ (listed : Array Bool), listed.size = ops.size → (listed.toList.filter (!·)).length ≠ 0 → ∃ i, i < ops.size ∧ listed.getD i true = false := by
    intro listed hsz hne
    cases hf : listed.toList.filter (!·) with
    | nil => rw [hf] at hne; exact absurd rfl hne
    | cons b l =>
      have hb : b ∈ listed.toList.filter (!·) := by rw [hf]; simp
      obtain ⟨hb1, hb2⟩ := List.mem_filter.1 hb
      obtain ⟨i, hi⟩ := List.getElem?_of_mem hb1
      have hi' : listed[i]? = some b := by simpa using hi
      have hlt : i < listed.size := (Array.getElem?_eq_some_iff.1 hi').1
      refine ⟨i, by omega, ?_⟩
      rw [Array.getD_eq_getD_getElem?, hi']
      simpa using hb2
  induction fuel with
  | zero =>
    intro listed a w hsz hlen hD hrr
    have hall : ∀ i, i < ops.size → listed.getD i false = true := fun i hi => by
      cases hl : listed.getD i false with
      | true => rfl
      | false =>
        exfalso
        have hlt : i < listed.size := by omega
        have : listed[i] ∈ listed.toList.filter (!·) := List.mem_filter.2 ⟨by simp, by simp [Array.getD, hlt] at hl; simp [hl]⟩
        rw [List.length_eq_zero_iff.1 hlen] at this; cases this
    refine ⟨?_, hQ a w (hrr.congr (fun t => appS_get (fun j r hr _ => ?_) rfl) (fun t => appS_ob (fun j r hr _ => ?_) rfl))⟩
    · cases hr : Region.ready .any ops listed with
      | nil => rfl
      | cons j l =>
        have hj : j ∈ Region.ready .any ops listed := by rw [hr]; simp
        obtain ⟨h1, o, ho, _⟩ := mem_ready.1 hj
        have hlt : j < ops.size := (Array.getElem?_eq_some_iff.1 ho).1
        have := hall j hlt
        simp [Array.getD, hsz, hlt] at h1 this
        rw [h1] at this; cases this
    · have : j < ops.size := by rw [← h.len hD]; exact (List.getElem?_eq_some_iff.1 hr).1
      simpa using hall j this
    · have : j < ops.size := by rw [← h.len hD]; exact (List.getElem?_eq_some_iff.1 hr).1
      simpa using hall j this
  | succ n ih =>
    intro listed a w hsz hlen hD hrr
    refine ⟨fun hnil => absurd hnil (hready listed hsz hD (hopen listed hsz (by omega))), fun i hi => ?_⟩
    obtain ⟨h1, o, ho, h2⟩ := mem_ready.1 hi
    have hlt : i < ops.size := (Array.getElem?_eq_some_iff.1 ho).1
    have hlt' : i < listed.size := by omega
    have hir : i < rs.length := by rw [h.len hD]; exact hlt
    have hiS : listed.getD i false = false := by simp [Array.getD, hlt'] at h1 ⊢; exact h1
    have hset : (fun j => (listed.setIfInBounds i true).getD j false) = fun j => j == i || listed.getD j false := by
      funext j
      by_cases e : j = i
      · subst e; simp [Array.getD, hlt']
      · have e' : ¬ i = j := fun x => e x.symm
        simp [Array.getD_eq_getD_getElem?, Array.getElem?_setIfInBounds, e, e']
    refine h.step hD ho (List.getElem?_eq_getElem hir) hiS (fun e he hb => h2 e (by simpa using he) hb) hrr fun a' w' hx => ?_
    refine ih (listed.setIfInBounds i true) a' w' (by simpa using hsz) ?_ ?_ (by rw [hset]; exact hx)
    · have hcount : ∀ (l : List Bool) (i : Nat), l[i]? = some false → ((l.set i true).filter (!·)).length + 1 = (l.filter (!·)).length := by
        intro l
        induction l with
        | nil => intro i hi; simp at hi
        | cons b l ih =>
          intro i hi
          cases i with
          | zero => simp at hi; subst hi; simp
          | succ i =>
            have := ih i (by simpa using hi)
            cases b <;> simp [List.filter_cons] at this ⊢ <;> omega
      have hli : listed.toList[i]? = some false := by
        simp [Array.getD, hlt'] at h1
        simp [hlt', h1]
      have := hcount listed.toList i hli
      simp only [Array.toList_setIfInBounds]
      omega
    · rw [hset]
      intro j o' ho' hj e he hb
      simp only [Bool.or_eq_true, beq_iff_eq] at hj ⊢
      rcases hj with rfl | hj
      · rw [ho] at ho'; cases ho'
        exact .inr (h2 e (by simpa using he) hb)
      · exact .inr (hD j o' ho' hj e he hb)

theorem Reg.wp {c : Ctx} {tab : Tab} {ops : Array Oper} {st : St} {rs : List Rec} (h : Reg c tab ops st rs) (hm : c.P.follows .mixedOrders = true) {Q : Exit → Act → World → Prop} (hQ : ∀ a w, RR c (appS rs (fun _ => true) 0 st) a w → Q .normal a w) {id : Nat} {a : Act} {w : World} (hrr : RR c st a w) :
    (Code.region id ops true).wp c.P Q a w := by
  refine wp_region_any hm (h.any hQ ops.size _ a _ (by simp) ?_ ?_ ?_)
  · rw [Array.toList_replicate, List.filter_replicate]
    simp
  · intro j o ho hj
    simp [Array.getD_eq_getD_getElem?, Array.getElem?_replicate] at hj
    split at hj <;> simp at hj
  · refine hrr.drew.congr (fun t => ?_) (fun t => ?_)
    · have : appS rs (fun j => (Array.replicate ops.size false).getD j false) 0 st = st := by
        have h4 : ∀ (rs : List Rec) (i : Nat) (s : St), appS rs (fun j => (Array.replicate ops.size false).getD j false) i s = s := by
          intro rs; induction rs with
          | nil => intro i s; rfl
          | cons r rs ih =>
            intro i s
            have : (Array.replicate ops.size false).getD i false = false := by
              simp [Array.getD_eq_getD_getElem?, Array.getElem?_replicate]; split <;> rfl
            simp only [appS, this, Bool.false_eq_true, if_false]
            exact ih _ _
        exact h4 _ _ _
      rw [this]
    · have : appS rs (fun j => (Array.replicate ops.size false).getD j false) 0 st = st := by
        have h4 : ∀ (rs : List Rec) (i : Nat) (s : St), appS rs (fun j => (Array.replicate ops.size false).getD j false) i s = s := by
          intro rs; induction rs with
          | nil => intro i s; rfl
          | cons r rs ih =>
            intro i s
            have : (Array.replicate ops.size false).getD i false = false := by
              simp [Array.getD_eq_getD_getElem?, Array.getElem?_replicate]; split <;> rfl
            simp only [appS, this, Bool.false_eq_true, if_false]
            exact ih _ _
        exact h4 _ _ _
      rw [this]

end Go.Proofs.Ytocppeifkjdeiaa.Mv
