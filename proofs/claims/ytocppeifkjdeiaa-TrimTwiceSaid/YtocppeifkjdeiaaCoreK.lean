/- A machine for proofs, part K: operations that turn memory. Under no condition. -/
import Derived.Test.YtocppeifkjdeiaaCoreJ
namespace Go.Proofs.Ytocppeifkjdeiaa.Mv
open Go
set_option linter.unusedSimpArgs false
set_option linter.unusedVariables false

/-- What append is handed, as rows. -/
def argOf : AV → Option (Nat × List (List AV))
  | .sh sz ys => some (sz, ys)
  | .gr _ _ sz ys => some (sz, ys)
  | .s l => some (1, BS l)
  | _ => none
def argNil : AV → Bool
  | .nil => true
  | _ => false

/-- Operations that turn memory: what they do. -/
def mop (tab : Tab) (st : St) (o : Oper) : Option Eff :=
  match o.op with
  | .store t x y => match look tab t, st.val x, o.dst with
    | some i, .ptr g off, none => match st.ob g with
      | .bx cs => if fitsIn i.size (st.val y) = true ∧ (st.val y).cells.all AV.leaf = true ∧ off + i.size ≤ cs.length then some ⟨[], [(g, .bx (splice cs off (st.val y).cells))], []⟩ else none
      | _ => none
    | _, _, _ => none
  | .box _ x => match o.dst with
    | some d => if fitsIn (st.val x).cells.length (st.val x) = true ∧ (st.val x).cells.all AV.leaf = true then some ⟨[(d, .ptr d 0)], [(d, .bx (st.val x).cells)], [d]⟩ else none
    | none => none
  | .alloc t => match look tab t, o.dst with
    | some i, some d => some ⟨[(d, .ptr d 0)], [(d, .bx (i.zero.map ofVal))], [d]⟩
    | _, _ => none
  | .buildSlice t len ps => match look tab t, o.dst with
    | some i, some d => match i.d with
      | .slice e => match look tab e with
        | some j => if ps.toList.map (·.1) = List.range len ∧ ps.toList.all (fun p => fitsIn j.size (st.val p.2) && (st.val p.2).cells.all AV.shut) = true ∧ len * j.size ≤ 16777216 ∧ 0 < j.size then
            some ⟨[(d, .gr d e j.size (ps.toList.map fun p => (st.val p.2).cells.map AV.close))], [(d, .gw len)], [d]⟩ else none
        | none => none
      | _ => none
    | _, _ => none
  | .convert s d' x => match look tab s, look tab d', st.val x, o.dst with
    | some i, some j, .s l, some d => match i.d, j.d with
      | .string, .slice e => match look tab e with
        | some ie => match ie.d with
          | .int .u8 => if l.length ≤ 137438953472 then some ⟨[(d, .bsl d 0 l.length 1)], [(d, .bx (cellsB l))], [d]⟩ else none
          | _ => none
        | none => none
      | _, _ => none
    | _, _, _, _ => none
  | .makeSlice t x y => match look tab t, o.dst with
    | some i, some d => match i.d, st.val x, st.val y with
      | .slice e, .i .i64 n, .i .i64 k => match look tab e with
        | some j => if 0 ≤ n ∧ n ≤ k ∧ k ≤ 140737488355328 ∧ j.bytes * k ≤ 140737488355328 ∧ 0 < j.size ∧ (j.zero.map ofVal).all AV.shut = true then
            some ⟨[(d, .gr d e j.size (List.replicate n.toNat (j.zero.map ofVal)))], [(d, .gw n.toNat)], [d]⟩ else none
        | none => none
      | _, _, _ => none
    | _, _ => none
  | .call cl => match cl.callee with
    | .builtin .append => match cl.args.toList, cl.argTypes.toList, o.dst with
      | [s, x], [t, u], some d => match look tab t, look tab u with
        | some i, some iu => match i.d with
          | .slice e => match look tab e, (match iu.d with | .slice _ => true | .string => true | _ => false) with
            | some j, true => match (if argNil (st.val x) then some (j.size, []) else argOf (st.val x)) with
              | some (sz, ys) => match st.val s with
                | .gr tg e' sz' rows => match st.ob tg with
                  | .gw n => if e' = e ∧ sz' = j.size ∧ sz = j.size ∧ 0 < j.size ∧ n = rows.length ∧ 0 < j.bytes ∧ (rows.length + ys.length) * j.bytes ≤ 140737488355328 then
                      some ⟨[(d, .gr tg e j.size (rows ++ ys))], [(tg, .gw (rows.length + ys.length))], []⟩ else none
                  | _ => none
                | .nil => if sz = j.size ∧ 0 < j.size ∧ 0 < j.bytes ∧ ys.length * j.bytes ≤ 140737488355328 then
                      some ⟨[(d, .gr d e j.size ys)], [(d, .gw ys.length)], [d]⟩ else none
                | _ => none
              | none => none
            | _, _ => none
          | _ => none
        | _, _ => none
      | _, _, _ => none
    | _ => none
  | _ => none

/-- A tag that nothing leads to. -/
def St.free (s : St) (d : Nat) : Prop := d < 1000000 ∧ d ∉ St.refsT s.T ∧ d ∉ St.refsB s.B

theorem St.app_put (s : St) (d : Nat) (c : AV) (B : List (Nat × Ob)) (new : List Nat) : s.app ⟨[(d, c)], B, new⟩ = (⟨s.T, B ++ s.B⟩ : St).put d c := rfl

/-- A new row. -/
theorem RRW.row {c Γ m st a w} (h : RRW c Γ m st a w) {d : Nat} (hf : st.free d) {e : TypeId} {sz cap : Nat} {cur : Array Value} {xs : List Value} {rows : List (List AV)} (hcap : rows.length ≤ cap) (hm : cap ≤ maxLen) (hs : cur.size = cap * sz)
    (ht : cur.toList.take (rows.length * sz) = xs) (hr : RepL Γ Nm.e xs rows.flatten) (hl : ∀ r ∈ rows, r.length = sz) (h1 : ∀ v ∈ xs, v.oneCell' = true) :
    ∃ Γ' m', RRW c Γ' m' ⟨st.T, (d, .gw rows.length) :: st.B⟩ a (w.alloc (.cells cur e)) ∧ Rep Γ' m' (.slice (some ⟨w.heap.size, 0, none⟩) rows.length cap) (.gr d e sz rows) := by
  let v : Value := .slice (some ⟨w.heap.size, 0, none⟩) rows.length cap
  let Γ' := prot Γ (some w.heap.size) xs
  have hxl : xs.length = rows.length * sz := by rw [hr.1, flat_len hl]
  have hown : (w.alloc (.cells cur e)).ownsRow 0 e sz v rows.length xs := ⟨hxl, .inr ⟨w.heap.size, cap, cur, rfl, Nat.zero_le _, heap_alloc_new w _, hcap, hm, hs, ht⟩⟩
  have hnone : ∀ ad : Addr, ad.block = w.heap.size → Γ ad = none := fun ad had => by
    cases hΓ : Γ ad with
    | none => rfl
    | some y => have := block_lt_of_cell (h.gok ad y hΓ); omega
  have hsub : Sub Γ Γ' := fun ad y hy => by
    show prot Γ _ _ ad = some y
    rw [prot_other]
    · exact hy
    · intro e; have e := Option.some.inj e; rw [hnone ad e.symm] at hy; cases hy
  have hp : ∀ j, j < rows.length * sz → Γ' ⟨w.heap.size, j, none⟩ = xs[j]? := fun j hj => prot_at (by omega)
  let m' := m.set d none fun k => if k = rows.length then some (v, e, sz) else none
  have hka : m'.ka d rows.length = some (v, e, sz) := by simp [m', Nm.set]
  refine ⟨Γ', m', h.new hf.1 hf.2.1 hf.2.2 hsub rfl rfl rfl (by simp) (fun i hi => heap_alloc_old w _ i hi) (fun ad had => prot_other (by intro e; have e := Option.some.inj e; omega)) (fun ad y hy => ?_) ?_ (fun i hi => ?_), .gr (rep_own hown ⟨hr.1, fun a b c d f => (hr.2 a b c d f).sub hsub⟩ hl h1 fun g hg j hj => ?_) hka⟩
  · change prot Γ _ _ ad = some y at hy
    unfold prot at hy
    split at hy
    · rename_i hc
      obtain ⟨ab, ao, as⟩ := ad
      simp only at hc hy
      obtain ⟨c1, c2, c3⟩ := hc
      subst c2; cases c1
      exact owns_cell hown rfl hy
    · exact cell_alloc (h.gok ad y hy)
  · refine ⟨v, e, sz, xs, hka, fun k y hy => ?_, hown, fun g hg => ?_⟩
    · simp only [Nm.set, if_true] at hy
      split at hy
      · omega
      · cases hy
    · cases hg
      refine ⟨hp, fun ad had hq => ?_⟩
      show prot Γ _ _ ad = none
      unfold prot
      rw [if_neg (fun hc => by
        rcases hq with hq | hq
        · exact hq hc.2.1
        · have := hc.2.2; omega)]
      exact hnone ad had
  · simp only [Ob.blk] at hi
    change (m'.ka d rows.length).bind _ = _ at hi
    rw [hka] at hi
    cases hi; exact Nat.le_refl _
  · cases hg; exact hp j hj

/-- The nil slice, as one that grows. -/
theorem RRW.nilrow {c Γ m st a w} (h : RRW c Γ m st a w) {d : Nat} (hf : st.free d) (e : TypeId) (sz : Nat) :
    ∃ m', RRW c Γ m' ⟨st.T, (d, .gw 0) :: st.B⟩ a w ∧ Rep Γ m' (.slice none 0 0) (.gr d e sz []) ∧ (∀ t, t ≠ d → Ext m m' t) := by
  let m' := m.set d none fun k => if k = 0 then some (.slice none 0 0, e, sz) else none
  have hka : m'.ka d 0 = some (.slice none 0 0, e, sz) := by simp [m', Nm.set]
  refine ⟨m', h.new hf.1 hf.2.1 hf.2.2 (Sub.refl _) rfl rfl rfl (Nat.le_refl _) (fun _ _ => rfl) (fun _ _ => rfl) h.gok ⟨_, e, sz, [], hka, fun k y hy => ?_, World.ownsRow_nil w 0 e sz, fun g hg => by cases hg⟩ (fun i hi => ?_), .gr .sh0 hka, fun t ht => m.set_ext d _ _ ht⟩
  · simp only [Nm.set, if_true] at hy
    split at hy
    · omega
    · cases hy
  · simp only [Ob.blk] at hi
    change (m'.ka d 0).bind _ = _ at hi
    rw [hka] at hi; cases hi

end Go.Proofs.Ytocppeifkjdeiaa.Mv
