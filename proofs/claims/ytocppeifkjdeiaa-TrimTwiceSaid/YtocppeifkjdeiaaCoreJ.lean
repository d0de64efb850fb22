/- A machine for proofs, part J: slices that grow, in the relation. Under no condition. -/
import Derived.Test.YtocppeifkjdeiaaCoreI
namespace Go.Proofs.Ytocppeifkjdeiaa.Mv
open Go
set_option linter.unusedSimpArgs false
set_option linter.unusedVariables false

/-- More is kept: a row's first cells. -/
def prot (Γ : Gam) (b : Option Nat) (l : List Value) : Gam := fun ad => if b = some ad.block ∧ ad.spot = none ∧ ad.off < l.length then l[ad.off]? else Γ ad

/-- What is appended: an argument of append, its cells, its rows. -/
structure Arg (P : Program) (Γ : Gam) (w : World) (sz : Nat) (x : Value) (news : List Value) (ys : List (List AV)) : Prop where
  len : (Builtin.lenOf x).run P w = .ok ys.length w
  cells : ∀ w' : World, w'.heap = w.heap → (Builtin.firstCells sz ys.length x).run P w' = .ok news.toArray w'
  one : ∀ v ∈ news, v.oneCell' = true
  rows : ∀ r ∈ ys, r.length = sz
  rep : RepL Γ Nm.e news ys.flatten

theorem Arg.len' {P Γ w sz x news ys} (h : Arg P Γ w sz x news ys) : news.length = ys.length * sz := by rw [h.rep.1, flat_len h.rows]

theorem arg_sh {P : Program} {Γ m} {w : World} (hg : ∀ ad v, Γ ad = some v → w.cell? ad = some v) {x : Value} {sz : Nat} {ys : List (List AV)} (h : Rep Γ m x (.sh sz ys)) : ∃ news, Arg P Γ w sz x news ys := by
  rcases h.sh_inv with ⟨a, rfl, rfl⟩ | ⟨a, cap, vs, rfl, h2, h3, h4, h5, h6, h7⟩
  · refine ⟨[], ⟨by simp [Builtin.lenOf], fun w' _ => ?_, by simp, by simp, .nil⟩⟩
    cases a with
    | none => simp [Builtin.firstCells]
    | some a => simp [Builtin.firstCells, loadCells, loadCellsFrom]
  · refine ⟨vs, ⟨by simp [Builtin.lenOf], fun w' hw => ?_, h6, h4, h7⟩⟩
    refine run_firstCells_some w' sz ys.length a ys.length cap vs (by rw [h7.1, flat_len h4]) fun j v hv => ?_
    have := hg _ _ (h5 j v hv)
    simpa [World.cell?, hw] using this

theorem arg_str {P : Program} {Γ} {w : World} (l : List UInt8) : Arg P Γ w 1 (.string ⟨l.toArray⟩) (l.map fun b => .int .u8 (b.toNat : Int)) (BS l) := by
  have hf : (BS l).flatten = l.map fun b => AV.i .u8 (b.toNat : Int) := by
    induction l with
    | nil => rfl
    | cons x l ih => simp [BS] at ih ⊢; exact ih
  have hs : ByteArray.size ⟨l.toArray⟩ = l.length := by simp [ByteArray.size]
  refine ⟨by simp [Builtin.lenOf, hs, BS], fun w' _ => ?_, by simp [Value.oneCell'], by simp [BS], ⟨by simp [hf], fun j v c hv hc => ?_⟩⟩
  · have hx : (⟨l.toArray⟩ : ByteArray).extract 0 l.length = ⟨l.toArray⟩ := by
      apply ByteArray.ext; simp
    simp [Builtin.firstCells, BS, hx]
  · rw [hf] at hc
    rw [List.getElem?_map] at hv hc
    cases hq : l[j]? with
    | none => rw [hq] at hv; cases hv
    | some b => rw [hq] at hv hc; cases hv; cases hc; exact .i

theorem owns_cell {w : World} {e sz v n xs g} (h : w.ownsRow 0 e sz v n xs) (hg : v.ownBlock = some g) {j : Nat} {u : Value} (hu : xs[j]? = some u) : w.cell? ⟨g, j, none⟩ = some u := by
  have := h.cells hg j u hu
  rwa [add_lit, Nat.zero_add] at this
theorem owns_nil {w : World} {e sz v n xs} (h : w.ownsRow 0 e sz v n xs) (hg : v.ownBlock = none) : v = .slice none 0 0 ∧ n = 0 ∧ xs = [] := by
  rcases h.2 with ⟨rfl, rfl⟩ | ⟨g, cap, cur, rfl, _⟩
  · exact ⟨rfl, rfl, List.eq_nil_of_length_eq_zero (by simpa using h.1)⟩
  · cases hg
theorem owns_val {w : World} {e sz v n xs g} (h : w.ownsRow 0 e sz v n xs) (hg : v.ownBlock = some g) : ∃ cap, v = .slice (some ⟨g, 0, none⟩) n cap ∧ n ≤ cap ∧ cap ≤ maxLen := by
  rcases h.2 with ⟨rfl, rfl⟩ | ⟨g', cap, cur, rfl, _, _, h1, h2, _⟩
  · cases hg
  · cases hg; exact ⟨cap, rfl, h1, h2⟩

/-- A row that is owned, kept, and read as rows: what it stands for. -/
theorem rep_own {Γ m} {w : World} {e : TypeId} {sz : Nat} {v : Value} {xs : List Value} {rows : List (List AV)} (h : w.ownsRow 0 e sz v rows.length xs) (hr : RepL Γ Nm.e xs rows.flatten) (hl : ∀ r ∈ rows, r.length = sz) (h1 : ∀ v ∈ xs, v.oneCell' = true)
    (hp : ∀ g, v.ownBlock = some g → ∀ j, j < rows.length * sz → Γ ⟨g, j, none⟩ = xs[j]?) : Rep Γ m v (.sh sz rows) := by
  cases hb : v.ownBlock with
  | none =>
    obtain ⟨rfl, hn, rfl⟩ := owns_nil h hb
    rw [List.eq_nil_of_length_eq_zero hn]
    exact .sh0
  | some g =>
    obtain ⟨cap, rfl, hc, hm⟩ := owns_val h hb
    refine .sh xs hc hm rfl hl hr.1 (fun j v hv => ?_) h1 hr.2
    rw [add_lit, Nat.zero_add, hp g rfl j (by rw [← h.1]; exact (List.getElem?_eq_some_iff.1 hv).1)]
    exact hv

/-- What the cells of a slice that grows are. -/
theorem own_rep {Γ m} {w : World} {e : TypeId} {sz : Nat} {v : Value} {xs : List Value} {rows : List (List AV)} (h : w.ownsRow 0 e sz v rows.length xs) (hr : Rep Γ m v (.sh sz rows))
    (hp : ∀ g, v.ownBlock = some g → ∀ j, j < rows.length * sz → Γ ⟨g, j, none⟩ = xs[j]?) : RepL Γ Nm.e xs rows.flatten ∧ (∀ r ∈ rows, r.length = sz) ∧ ∀ v ∈ xs, v.oneCell' = true := by
  rcases hr.sh_inv with ⟨a, rfl, rfl⟩ | ⟨a, cap, vs, rfl, h2, h3, h4, h5, h6, h7⟩
  · have : xs = [] := List.eq_nil_of_length_eq_zero (by simpa using h.1)
    subst this
    exact ⟨.nil, by simp, by simp⟩
  · have hx : vs = xs := by
      have hlen : vs.length = xs.length := by rw [h7.1, flat_len h4, h.1]
      cases hb : Value.ownBlock (.slice (some a) rows.length cap) with
      | none => cases hb
      | some g =>
        obtain ⟨cap', he, _⟩ := owns_val h hb
        cases he
        apply List.ext_getElem?
        intro j
        by_cases hj : j < vs.length
        · have h8 := h5 j vs[j] (List.getElem?_eq_getElem hj)
          rw [add_lit, Nat.zero_add, hp g rfl j (by rw [← flat_len h4, ← h7.1]; exact hj)] at h8
          rw [List.getElem?_eq_getElem hj, h8]
        · rw [List.getElem?_eq_none (by omega), List.getElem?_eq_none (by omega)]
    subst hx
    exact ⟨h7, h4, h6⟩

theorem prot_at {Γ : Gam} {g : Nat} {l : List Value} {j : Nat} (hj : j < l.length) : prot Γ (some g) l ⟨g, j, none⟩ = l[j]? := by simp [prot, hj]
theorem prot_other {Γ : Gam} {b : Option Nat} {l : List Value} {ad : Addr} (h : b ≠ some ad.block) : prot Γ b l ad = Γ ad := by simp [prot, h]

section
variable {c : Ctx} {tab : Tab} (ht : TabOk c.P tab) {t u e : TypeId} {i j iu : TyI} (hi : look tab t = some i) (hd : i.d = .slice e) (hj : look tab e = some j) (hu : look tab u = some iu) (hud : ∀ k, iu.d ≠ .int k)
include ht hi hd hj hu hud

/-- Append to what grows. -/
theorem RRW.grow {Γ m st a w} (h : RRW c Γ m st a w) (hsz : 0 < j.size) {tg : Nat} {rows ys : List (List AV)} (hob : st.ob tg = .gw rows.length) {v x : Value} (hv : Rep Γ m v (.gr tg e j.size rows)) {news : List Value} (hx : Arg c.P Γ w j.size x news ys) {ty : TypeId}
    (h63 : rows.length + ys.length ≤ maxLen) (hb : (rows.length + ys.length) * j.bytes ≤ 140737488355328) :
    ∃ v' w' Γ' m', (Builtin.append_ #[t, u] ty #[v, x]).run c.P w = .ok v' w' ∧ RRW c Γ' m' ⟨st.T, (tg, .gw (rows.length + ys.length)) :: st.B⟩ a w' ∧ Rep Γ' m' v' (.gr tg e j.size (rows ++ ys)) := by
  have hobk := h.obs tg
  rw [hob] at hobk
  obtain ⟨v0, e0, sz0, xs, k1, k2, k3, k4⟩ := hobk
  cases hv with | gr hv hka => ?_
  rw [hka] at k1; cases k1
  have hp := fun g hg => (k4 g hg).1
  obtain ⟨r1, r2, r3⟩ := own_rep k3 hv hp
  obtain ⟨v', w', q1, q2, q4, q5⟩ := append_core ht hi hd hj hu hud hsz k3 hx.len hx.cells (by rw [hx.len']) hx.one h63 hb (ty := ty)
  let Γ' := prot Γ v'.ownBlock (xs ++ news)
  let m' : Nm := ⟨m.th, fun s k => if s = tg ∧ k = rows.length + ys.length then some (v', e, j.size) else m.ka s k⟩
  have hblk : (st.ob tg).blk m tg = v.ownBlock := by rw [hob]; simp [Ob.blk, hka]
  have hxl : xs.length = rows.length * j.size := k3.1
  have hlen : (xs ++ news).length = (rows.length + ys.length) * j.size := q2.1
  have hlt : ∀ s b, (st.ob s).blk m s = some b → b < w.heap.size := fun s b hs => (h.obs s).lt hs
  -- other blocks stay
  have hkeep : ∀ k, k < w.heap.size → v.ownBlock ≠ some k → w'.heap[k]? = w.heap[k]? := fun k hk hne => by
    rcases q4 with ⟨_, q3⟩ | ⟨_, _, _, q3⟩
    · exact q3.block k hk (Ne.symm hne)
    · exact q3.block k hk (by simp)
  have hstream : w'.os = w.os ∧ w'.tape = w.tape ∧ w'.output = w.output ∧ w.heap.size ≤ w'.heap.size := by
    rcases q4 with ⟨_, q3⟩ | ⟨_, _, _, q3⟩ <;> exact ⟨q3.os, q3.tape, q3.output, q3.size⟩
  -- where the row lies, nothing else is kept
  have hfree : ∀ g, v'.ownBlock = some g → ∀ ad : Addr, ad.block = g → (ad.spot ≠ none ∨ rows.length * j.size ≤ ad.off ∨ v.ownBlock ≠ some g) → Γ ad = none := by
    intro g hg ad had hcase
    by_cases e1 : v.ownBlock = some g
    · refine (k4 g e1).2 ad had ?_
      rcases hcase with hc | hc | hc
      · exact .inl hc
      · exact .inr hc
      · exact absurd e1 hc
    · rcases q4 with ⟨q4, _⟩ | ⟨g', hg', q4, _⟩
      · rw [q4] at hg; exact absurd hg e1
      · rw [q4] at hg; cases hg
        cases hΓ : Γ ad with
        | none => rfl
        | some y => have := block_lt_of_cell (h.gok ad y hΓ); omega
  have hsub : Sub Γ Γ' := fun ad y hy => by
    show prot Γ _ _ ad = some y
    unfold prot
    split
    · rename_i hc
      obtain ⟨c1, c2, c3⟩ := hc
      by_cases e1 : ad.off < rows.length * j.size ∧ v.ownBlock = some ad.block
      · have := (k4 _ e1.2).1 ad.off e1.1
        obtain ⟨ab, ao, as⟩ := ad
        simp only at c2 this e1 ⊢
        subst c2
        rw [this] at hy
        rw [List.getElem?_append_left (by rw [hxl]; exact e1.1)]
        exact hy
      · have := hfree _ c1 ad rfl (by
          by_cases e2 : ad.off < rows.length * j.size
          · exact .inr (.inr fun e3 => e1 ⟨e2, e3⟩)
          · exact .inr (.inl (by omega)))
        rw [this] at hy; cases hy
    · exact hy
  have hgok : ∀ ad y, Γ' ad = some y → w'.cell? ad = some y := fun ad y hy => by
    change prot Γ _ _ ad = some y at hy
    unfold prot at hy
    split at hy
    · rename_i hc
      obtain ⟨c1, c2, c3⟩ := hc
      obtain ⟨ab, ao, as⟩ := ad
      simp only at c1 c2 c3 hy ⊢
      subst c2
      exact owns_cell q2 c1 hy
    · rename_i hc
      have hlt' := block_lt_of_cell (h.gok ad y hy)
      by_cases e1 : v.ownBlock = some ad.block
      · rcases q4 with ⟨q4, _⟩ | ⟨g', hg', q4, q3⟩
        · exfalso
          rw [q4] at hc
          by_cases e2 : ad.spot = none ∧ ad.off < rows.length * j.size
          · exact hc ⟨e1, e2.1, by rw [hlen, Nat.add_mul]; omega⟩
          · have := (k4 _ e1).2 ad rfl (by
              by_cases e3 : ad.spot = none
              · exact .inr (by have := e2; simp [e3] at this; omega)
              · exact .inl e3)
            rw [this] at hy; cases hy
        · rw [World.cell?_of_block (w := w) (q3.block ad.block hlt' (by simp))]
          exact h.gok ad y hy
      · rw [World.cell?_of_block (w := w) (hkeep ad.block hlt' e1)]
        exact h.gok ad y hy
  have hext : ∀ r, Ext m m' r := fun r => ⟨fun _ hx => hx, fun k x hx => by
    show (if r = tg ∧ k = rows.length + ys.length then _ else _) = _
    split
    · rename_i hc
      obtain ⟨rfl, rfl⟩ := hc
      have := k2 _ _ hx
      have h0 : ys.length = 0 := by omega
      obtain ⟨rfl, _⟩ := q5 h0
      rw [h0, Nat.add_zero, hka] at hx
      exact hx
    · exact hx⟩
  have hob' : ∀ s, (⟨st.T, (tg, .gw (rows.length + ys.length)) :: st.B⟩ : St).ob s = if tg = s then .gw (rows.length + ys.length) else st.ob s := fun s => ob_cons _ _ _ _ _
  have hka' : m'.ka tg (rows.length + ys.length) = some (v', e, j.size) := by simp [m']
  have hblk' : (Ob.gw (rows.length + ys.length)).blk m' tg = v'.ownBlock := by simp [Ob.blk, hka']
  have hother : ∀ s, s ≠ tg → m'.th s = m.th s ∧ m'.ka s = m.ka s := fun s hs => ⟨rfl, by funext k; simp [m', hs]⟩
  have hrep : RepL Γ' Nm.e (xs ++ news) (rows ++ ys).flatten := by
    rw [List.flatten_append]
    have h1 := r1.append hx.rep
    exact ⟨h1.1, fun a b c d f => (h1.2 a b c d f).sub hsub⟩
  have hrows : ∀ r ∈ rows ++ ys, r.length = j.size := fun r hr => by
    rcases List.mem_append.1 hr with hr | hr
    · exact r2 r hr
    · exact hx.rows r hr
  refine ⟨v', w', Γ', m', q1, ?_, .gr (rep_own (by rw [List.length_append]; exact q2) hrep hrows (fun v hv => ?_) fun g hg k hk => ?_) (by rw [List.length_append]; exact hka')⟩
  · refine h.mem hsub (fun t r _ => hext r) (fun p _ => hext p) hgok (fun s => ?_) (fun s g hg => ?_) (fun s s' g hg hg' => ?_) ?_ (fun ad h0 h1 => ?_)
    · rw [hob']
      split
      · rename_i e1; subst e1
        refine ⟨v', e, j.size, xs ++ news, hka', fun k y hy => ?_, q2, fun g hg => ⟨fun k hk => ?_, fun ad had hq => ?_⟩⟩
        · by_cases e2 : k = rows.length + ys.length
          · omega
          · have : m'.ka tg k = m.ka tg k := by simp [m', e2]
            rw [this] at hy
            have := k2 k y hy; omega
        · show prot Γ v'.ownBlock _ _ = _
          rw [hg]
          exact prot_at (by rw [hlen]; exact hk)
        · show prot Γ v'.ownBlock _ _ = _
          unfold prot
          rw [if_neg (fun hc => by
            rcases hq with hq | hq
            · exact hq hc.2.1
            · have := hc.2.2; rw [hlen] at this; omega)]
          exact hfree g hg ad had (by
            rcases hq with hq | hq
            · exact .inl hq
            · exact .inr (.inl (by rw [Nat.add_mul] at hq; omega)))
      · rename_i e1
        have hne : s ≠ tg := Ne.symm e1
        refine (h.obs s).keep hsub (hother s hne).1 (hother s hne).2 (fun r _ => hext r) fun b hb' => ?_
        have hnb : v.ownBlock ≠ some b := fun e2 => hne (h.inj s tg b hb' (by rw [hblk, e2]))
        refine ⟨hkeep b (hlt s b hb') hnb, fun ad had => prot_other fun e2 => ?_⟩
        rcases q4 with ⟨q4, _⟩ | ⟨g', hg', q4, _⟩
        · rw [q4, had] at e2; exact hnb e2
        · rw [q4, had] at e2; cases e2; have := hlt s b hb'; omega
    · rw [hob'] at hg
      split at hg
      · rename_i e1; subst e1
        rw [hblk'] at hg
        rcases q4 with ⟨q4, _⟩ | ⟨g', hg', q4, _⟩
        · rw [q4] at hg; exact h.own tg g (by rw [hblk]; exact hg)
        · rw [q4] at hg; cases hg; exact .inl (Nat.le_trans h.frame.size hg')
      · rename_i e1
        rw [blk_same (hother s (Ne.symm e1)).1 (hother s (Ne.symm e1)).2] at hg
        exact h.own s g hg
    · have key : ∀ s, s ≠ tg → ∀ b, (st.ob s).blk m s = some b → v'.ownBlock = some b → False := fun s hs b hb' hv' => by
        rcases q4 with ⟨q4, _⟩ | ⟨g', hg', q4, _⟩
        · rw [q4] at hv'; exact hs (h.inj s tg b hb' (by rw [hblk]; exact hv'))
        · rw [q4] at hv'; cases hv'; have := hlt s b hb'; omega
      rw [hob'] at hg hg'
      split at hg <;> split at hg'
      · rename_i e1 e2; rw [← e1, ← e2]
      · rename_i e1 e2
        subst e1
        rw [hblk'] at hg
        rw [blk_same (hother s' (Ne.symm e2)).1 (hother s' (Ne.symm e2)).2] at hg'
        exact (key s' (Ne.symm e2) g hg' hg).elim
      · rename_i e1 e2
        subst e2
        rw [hblk'] at hg'
        rw [blk_same (hother s (Ne.symm e1)).1 (hother s (Ne.symm e1)).2] at hg
        exact (key s (Ne.symm e1) g hg hg').elim
      · rename_i e1 e2
        rw [blk_same (hother s (Ne.symm e1)).1 (hother s (Ne.symm e1)).2] at hg
        rw [blk_same (hother s' (Ne.symm e2)).1 (hother s' (Ne.symm e2)).2] at hg'
        exact h.inj s s' g hg hg'
    · refine h.frame.trans' hstream.1 hstream.2.1 hstream.2.2.1 hstream.2.2.2 fun k hk => ?_
      by_cases e1 : v.ownBlock = some k
      · exact .inl ⟨k, h.own tg k (by rw [hblk]; exact e1), rfl⟩
      · exact .inr (hkeep k hk e1)
    · change prot Γ _ _ ad ≠ none at h1
      unfold prot at h1
      split at h1
      · rename_i hc
        rcases q4 with ⟨q4, _⟩ | ⟨g', hg', q4, _⟩
        · exact h.own tg ad.block (by rw [hblk, ← q4]; exact hc.1)
        · have := hc.1; rw [q4] at this; cases this; exact .inl (Nat.le_trans h.frame.size hg')
      · exact absurd h0 h1
  · rcases List.mem_append.1 hv with hv | hv
    · exact r3 v hv
    · exact hx.one v hv
  · show prot Γ v'.ownBlock _ _ = _
    rw [hg]
    exact prot_at (by rw [hlen]; rwa [List.length_append] at hk)
end

end Go.Proofs.Ytocppeifkjdeiaa.Mv
