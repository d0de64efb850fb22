/- What the statement MeanParts needs, part 11. Under no condition. -/
import Derived.RangeFuncNested
import Derived.RangeFuncBound
import Derived.RangeFuncCalls
import Derived.RangeFuncLeaves
import Derived.Shelf.Abstract
import Derived.Shelf.RegionOpen
import Derived.WalkKit
import Derived.OwnWalkIn
import Derived.TacticsInMore
import Derived.LoopNIn
import Derived.LoopIn
import Derived.Test.YtocppeifkjdeiaaMMeanParts10
/- The last message that speaks of a key: the iterator. Under no condition. -/
namespace Go.Proofs.Ytocppeifkjdeiaa.Mv
open Go Go.Proofs Go.RowKit Go.Shelf
set_option linter.unusedSimpArgs false
set_option linter.unusedVariables false
section
set_option maxRecDepth 10000
set_option maxHeartbeats 4000000
attribute [local irreducible] AW AO AR
theorem gSpeaks (m : Ms) (k : L) (h : m.key.length ≤ 1000000) : Good Try.prog 140 [.agg m.av, .s k] [] (.b (spk m k)) [] := by
  have g1 := gAbout m h
  have g2 := gIn (abS m).1 (abS m).2.1 (abS m).2.2 k
  rw [ab_in] at g2
  refine Good.w tabOk mixed Try.func140 (N := 9) (by kernel_rfl) rfl (by (repeat (first | exact LE.nil | apply LE.cons)); done) (by (repeat (first | exact LE.nil | apply LE.cons)); done) fun D hD F => ?_
  repeat' (first
    | apply AO.nil
    | (apply AO.kCall 103; refine AO.sCall (hg := g1) (h := ?_))
    | (apply AO.kCall 60; refine AO.sCall (hg := g2) (h := ?_))
    | (apply AO.kBox; refine AO.sBox (h := ?_))
    | (apply AO.kP; first | refine AO.sP (h := ?_) | refine AO.sPi (h := ?_) | refine AO.sLoadB (h := ?_))
    | apply AW.seq
    | (apply AW.kR; refine AW.sR (h := ?_))
    | apply AW.skip
    | apply AW.block
    | apply AW.out
    | (apply AW.kE; refine AW.sE (h := ?_))
    | apply AW.label)
  exact AW.ret (hD rfl .refl)
end
attribute [local go_sem] Oper.semAt_some
/-- A load of which it is known what it reads. -/
theorem wpIn_loadT {F : Fence} {n : Nat} {P : Program} {w : World} {ops : Array Oper} {rest : List Oper} {o : Oper} {a : Act} {Q : Exit → Act → World → Prop} {t : TypeId} {x : Operand} {p v : Value} (hg : o.guard = none) (hop : o.op = Op.load t x) (hx : a.eval x = p)
    (hl : (Instr.loadAt t p).run P w = .ok v w) (hK : wpListIn F n P ops Q rest (a.put o.dst v) w) : wpListIn F n P ops Q (o :: rest) a w := by
  refine wpListIn_plain hg fun K' hK' => ?_
  unfold Oper.wpIn
  refine ⟨by simp [Oper.about, hop], ?_⟩
  rw [Oper.semAt_plain F _ _ (by rw [hop]; intro c hc'; cases hc')]
  simp [execOp, hop, hx, hl, Result.andThen]
  exact hK' _ _ hK
/-- What has come when k rounds are over, from the last one on. -/
def down (n : Nat) : Nat → List Nat
  | 0 => []
  | k + 1 => down n k ++ [n - 1 - k]
theorem down_len (n : Nat) : ∀ k, (down n k).length = k
  | 0 => rfl
  | k + 1 => by rw [down, List.length_append, down_len n k]; rfl
set_option maxRecDepth 100000 in
set_option maxHeartbeats 2000000 in
/-- slices.Backward's closure, on slices of any elements of one struct type, for every loop body that keeps what lay below n₀. -/
theorem back1_in (F : Fence) (n : Nat) (h8 : F.fn 148) (hro : F.round = none) (hn : 1 ≤ n) (l Bs n₀ len cap : Nat) (a : Addr) (el : Nat → Value) (hreach : len ≤ 1000000) (J Jx : List Nat → World → Prop)
    (hY : ∀ pre x W, J pre W → pre.length < len → YieldAt F (n - 1) Try.prog l #[.int .i64 (x : Nat), el x] W fun e W' =>
      (e = .returned (.bool true) ∧ J (pre ++ [x]) W' ∧ Below n₀ W W') ∨ (e = .returned (.bool false) ∧ Jx (pre ++ [x]) W'))
    (W : World) (hBs : W.cell? ⟨Bs, 0, none⟩ = some (.slice (some a) len cap)) (hB0 : Bs < n₀)
    (hel : ∀ j, j < len → ∀ W', Below n₀ W W' → (Instr.loadAt 104 (.pointer (some (a.add (j * 6))))).run Try.prog W' = .ok (el j) W') (h0 : J [] W) :
    CallsIn F n Try.prog 148 #[.func (.yield l) #[] #[], .pointer (some ⟨Bs, 0, none⟩)] W fun e W' => (∃ v, e = .returned v) ∧
      ((∃ ys, ys = down len len ∧ J ys W') ∨ (∃ pre, (∃ k, k ≤ len ∧ pre = down len k) ∧ Jx pre W')) := by
  refine callsIn_of_wp Try.func148 rfl h8 ?_ hro
  simp only [Try.ntmps148, List.size_toArray, List.length_cons, List.length_nil, Nat.reduceAdd, Nat.reduceSub, Array.replicate_succ, Array.replicate_zero, List.push_toArray, List.append_toArray, List.nil_append, List.cons_append]
  have w1 : Go.RowKit.wrap64 ((len : Int) - 1) = (len : Int) - 1 := by unfold Go.RowKit.wrap64; omega
  gi_wp2
  gi_loopw [3] (fun i wr => ∃ k : Nat, k ≤ len ∧ i = .int .i64 ((len : Int) - 1 - k) ∧ J (down len k) wr ∧ Below n₀ W wr) (fun i _ => (intOf i + 1).toNat)
  case atStart => exact ⟨0, Nat.zero_le _, by simp, h0, Below.refl _ _⟩
  case round =>
    obtain ⟨k, hk, rfl, hJs, hnx⟩ := hrel
    have hcx : wr.cell? ⟨Bs, 0, none⟩ = some (.slice (some a) len cap) := (hnx.cell (p := ⟨Bs, 0, none⟩) hB0).trans hBs
    by_cases hlt : k < len
    · obtain ⟨j, hj⟩ : ∃ j : Nat, j + k + 1 = len := ⟨len - 1 - k, by omega⟩
      obtain ⟨fn, tmps, assign, body, hy, hR⟩ := hY _ j wr hJs (by rw [down_len]; exact hlt)
      have hj2 : (len : Int) - 1 - k = (j : Int) := by omega
      have hj3 : j < len := by omega
      have hl := hel j (by omega) wr hnx
      have h9 : (0 : Int) ≤ (j : Int) := by omega
      simp only [hj2]
      gi_wp2_with (refine wpIn_loadT (t := 104) rfl rfl rfl hl ?_)
      have hd : down len (k + 1) = down len k ++ [j] := by rw [down, show len - 1 - k = j by omega]
      refine hR.mono ?_
      rintro e W3 (⟨rfl, hJ3, hk3⟩ | ⟨rfl, hJx3⟩)
      · have w2 : Go.RowKit.wrap64 ((j : Int) - 1) = (j : Int) - 1 := by unfold Go.RowKit.wrap64; omega
        gi_wp2
        go_roundw
        case rel => exact ⟨k + 1, by omega, by simp; omega, by rw [hd]; exact hJ3, hnx.trans hk3⟩
        case measure => simp [intOf]
      · gi_wp2
        refine bodyPost_ret (results_none rfl _ _ _) rfl ?_
        exact ⟨⟨_, rfl⟩, .inr ⟨_, ⟨k + 1, by omega, hd.symm⟩, hJx3⟩⟩
    · obtain rfl : k = len := by omega
      have h9 : ¬ (0 : Int) ≤ (k : Int) - 1 - k := by omega
      gi_wp2
      go_end0
      exact ⟨⟨_, rfl⟩, .inl hJs⟩
set_option maxRecDepth 100000 in
set_option maxHeartbeats 2000000 in
/-- .. at the nil slice: no round. -/
theorem back1_nil_in (F : Fence) (n : Nat) (h8 : F.fn 148) (hro : F.round = none) (l Bs : Nat) (J : List Nat → World → Prop) (W : World) (hBs : W.cell? ⟨Bs, 0, none⟩ = some (.slice none 0 0)) (h0 : J [] W) :
    CallsIn F n Try.prog 148 #[.func (.yield l) #[] #[], .pointer (some ⟨Bs, 0, none⟩)] W fun e W' => (∃ v, e = .returned v) ∧ J [] W' := by
  refine callsIn_of_wp Try.func148 rfl h8 ?_ hro
  simp only [Try.ntmps148, List.size_toArray, List.length_cons, List.length_nil, Nat.reduceAdd, Nat.reduceSub, Array.replicate_succ, Array.replicate_zero, List.push_toArray, List.append_toArray, List.nil_append, List.cons_append]
  gi_wp2
  gi_loopw [3] (fun i wr => i = .int .i64 (-1) ∧ J [] wr) (fun _ _ => 0)
  case atStart => exact ⟨rfl, h0⟩
  case round =>
    obtain ⟨rfl, hJs⟩ := hrel
    gi_wp2
    go_end0
    exact ⟨⟨_, rfl⟩, hJs⟩
set_option maxRecDepth 100000 in
set_option maxHeartbeats 1000000 in
/-- slices.Backward: the slice is boxed; the function captures the box. -/
theorem back_in (F : Fence) (n : Nat) (h6 : F.fn 139) (hro : F.round = none) (a : Option Addr) (len cap : Nat) (w : World) :
    CallsIn F n Try.prog 139 #[.slice a len cap] w fun e w' => e = .returned (.func (.func 148) #[] #[.pointer (some ⟨w.heap.size, 0, none⟩)]) ∧ w' = w.alloc (.cells #[.slice a len cap] 25) := by
  refine callsIn_of_wp Try.func139 rfl h6 ?_ hro
  simp only [Try.ntmps139, List.size_toArray, List.length_cons, List.length_nil, Nat.reduceAdd, Nat.reduceSub, Array.replicate_succ, Array.replicate_zero, List.push_toArray, List.append_toArray, List.nil_append, List.cons_append]
  gi_wp2
  go_ret
  exact ⟨rfl, rfl⟩
/-- What slices.Backward hands back: all, from the last one on; or the first k of them. -/
theorem back_stops (F : Fence) (n : Nat) (h8 : F.fn 148) (hro : F.round = none) (hn : 1 ≤ n) (Bs n₀ len cap : Nat) (a : Option Addr) (el : Nat → Value) (hreach : len ≤ 1000000) (hnil : a = none → len = 0 ∧ cap = 0) (w : World) (hBs : Bs < w.heap.size) (hB0 : Bs < n₀) (hn₀ : n₀ ≤ w.heap.size)
    (hc : w.cell? ⟨Bs, 0, none⟩ = some (.slice a len cap))
    (hel : ∀ a0, a = some a0 → ∀ j, j < len → ∀ W', Below n₀ w W' → (Instr.loadAt 104 (.pointer (some (a0.add (j * 6))))).run Try.prog W' = .ok (el j) W') :
    SeqStopsK F n Try.prog 148 #[.pointer (some ⟨Bs, 0, none⟩)] (fun x : Nat => #[Value.int .i64 (x : Int), el x]) (Below n₀) (fun ys => ys = down len len) (fun pre => ∃ k, k ≤ len ∧ pre = down len k) len w := fun l J Jx W hW _ _ hY h0 => by
  have hc' := (hW.cell (p := ⟨Bs, 0, none⟩) hBs).trans hc
  cases a with
  | none =>
    obtain ⟨rfl, rfl⟩ := hnil rfl
    exact (back1_nil_in F n h8 hro l Bs J W hc' h0).mono fun e W' ⟨he, hj⟩ => ⟨he, .inl ⟨_, rfl, hj⟩⟩
  | some a => exact back1_in F n h8 hro hn l Bs n₀ len cap a el hreach J Jx hY W hc' hB0 (fun j hj W' hb => hel a rfl j hj W' ((hW.mono hn₀).trans hb)) h0
end Go.Proofs.Ytocppeifkjdeiaa.Mv

/- The last message that speaks of a key: msg.Last. Under no condition. -/
namespace Go.Proofs.Ytocppeifkjdeiaa.Mv
open Go Go.Proofs Go.RowKit Go.Shelf
set_option linter.unusedSimpArgs false
set_option linter.unusedVariables false
attribute [local go_sem] Oper.semAt_some

/-- A message's value. -/
def msV (m : Ms) : Value := .agg #[.int .u8 (m.kind.toNat : Int), .string ⟨m.key.toArray⟩, .string ⟨m.val.toArray⟩, .int .u32 (m.block.toNat : Int), .int .u16 (m.deep.toNat : Int), .string ⟨m.add.toArray⟩]
def msC (m : Ms) : List Value := [.int .u8 (m.kind.toNat : Int), .string ⟨m.key.toArray⟩, .string ⟨m.val.toArray⟩, .int .u32 (m.block.toNat : Int), .int .u16 (m.deep.toNat : Int), .string ⟨m.add.toArray⟩]
theorem msV_rep (Γ : Gam) (m : Nm) (x : Ms) : Rep Γ m (msV x) (.agg x.av) := .agg (msC x) rfl fun j v c hv hc => by
  match j with
  | 0 => cases hv; cases hc; exact .i
  | 1 => cases hv; cases hc; exact .s
  | 2 => cases hv; cases hc; exact .s
  | 3 => cases hv; cases hc; exact .i
  | 4 => cases hv; cases hc; exact .i
  | 5 => cases hv; cases hc; exact .s
  | j + 6 => simp [msC] at hv
/-- A flat value is what it stands for. -/
def litV : AV → Value
  | .i k n => .int k n
  | .b t => .bool t
  | .s l => .string ⟨l.toArray⟩
  | _ => undef
theorem rep_lit {Γ m v c} (h : Rep Γ m v c) (hc : c.flat = true) : v = litV c := by
  cases h <;> first | rfl | (simp [AV.flat] at hc)
theorem msFlat (l : List Ms) : (l.map Ms.av).flatten.map litV = (l.map msC).flatten := by
  induction l with
  | nil => rfl
  | cons m l ih => rw [List.map_cons, List.flatten_cons, List.map_append, ih]; rfl
theorem msAll (l : List Ms) : ∀ c ∈ (l.map Ms.av).flatten, c.flat = true := by
  intro c hc
  simp only [List.mem_flatten, List.mem_map] at hc
  obtain ⟨r, ⟨m, _, rfl⟩, hc⟩ := hc
  simp only [Ms.av, List.mem_cons, List.not_mem_nil, or_false] at hc
  rcases hc with rfl | rfl | rfl | rfl | rfl | rfl <;> rfl
theorem ms_cells {Γ m} {vs : List Value} {l : List Ms} (h : RepL Γ m vs (l.map Ms.av).flatten) : vs = (l.map msC).flatten := by
  rw [← msFlat]
  refine List.ext_getElem (by rw [List.length_map]; exact h.1) fun j h1 h2 => ?_
  have h3 : j < (l.map Ms.av).flatten.length := by rw [List.length_map] at h2; exact h2
  rw [List.getElem_map]
  exact rep_lit (h.2 j _ _ (List.getElem?_eq_getElem h1) (List.getElem?_eq_getElem h3)) (msAll l _ (List.getElem_mem h3))
theorem msC_take (l : List Ms) : ∀ j, j < l.length → (((l.map msC).flatten).drop (j * 6)).take 6 = msC (l.getD j default) := by
  induction l with
  | nil => intro j h; simp at h
  | cons m l ih =>
    intro j h
    cases j with
    | zero => rfl
    | succ j =>
      rw [List.map_cons, List.flatten_cons, show (j + 1) * 6 = (msC m).length + j * 6 by show _ = 6 + _; omega, ← List.drop_drop, List.drop_left]
      exact ih j (by simpa using h)
/-- A load of a message of a list. -/
theorem ms_load {w : World} {a : Addr} {l : List Ms} (h : ∀ (j : Nat) (v : Value), ((l.map msC).flatten)[j]? = some v → w.cell? (a.add j) = some v) (j : Nat) (hj : j < l.length) :
    (Instr.loadAt 104 (.pointer (some (a.add (j * 6))))).run Try.prog w = .ok (msV (l.getD j default)) w := by
  have hl : look tab 104 = some ty104 := rfl
  have ht := msC_take l j hj
  have hlen : ((l.map msC).flatten).length = l.length * 6 := by
    clear h ht hj
    induction l with
    | nil => rfl
    | cons m l ih => rw [List.map_cons, List.flatten_cons, List.length_append, ih, List.length_cons, show (msC m).length = 6 from rfl]; omega
  have hc := loadCells_run (P := Try.prog) (w := w) (a := a.add (j * 6)) (vs := ((l.map msC).flatten).drop (j * 6)) (fun i v hv => by
    rw [List.getElem?_drop] at hv
    rw [show (a.add (j * 6)).add i = a.add (j * 6 + i) by by_cases h1 : i = 0 <;> by_cases h2 : j * 6 = 0 <;> simp [Addr.add, h1, h2, Nat.add_assoc]]
    exact h _ v hv) (n := 6) (by rw [List.length_drop, hlen]; omega)
  rw [ht] at hc
  simp [Instr.loadAt, Instr.sureAddr, loadVar, (tabOk.at hl).run_agg w, show ty104.agg = true from rfl, (tabOk.at hl).run_size w, show ty104.size = 6 from rfl, hc, msC, msV]
theorem ms_load0 {w : World} {a : Addr} {m : Ms} (h : ∀ (j : Nat) (v : Value), (msC m)[j]? = some v → w.cell? (a.add j) = some v) : (Instr.loadAt 104 (.pointer (some a))).run Try.prog w = .ok (msV m) w := by
  have := ms_load (w := w) (a := a) (l := [m]) (by simpa using h) 0 (by simp)
  simpa [Addr.add] using this
theorem speaks_calls (W : World) (m : Ms) (k : L) (hm : m.key.length ≤ 1000000) : Calls Try.prog 140 #[msV m, .string ⟨k.toArray⟩] W fun e W' => e = .returned (.bool (spk m k)) ∧ Below W.heap.size W W' := by
  refine ((gSpeaks m k hm).calls W (fun _ => none) Nm.e [msV m, .string ⟨k.toArray⟩] (fun _ _ h => by cases h) (.cons (msV_rep _ _ m) (.cons .s .nil)) (fun p hp => by simp at hp) (fun p hp => by simp at hp)).mono fun e W' ⟨v, Γ', m', he, hp⟩ => ?_
  have hr := hp.rep
  cases hr
  exact ⟨he, hp.frame.os, hp.frame.tape, hp.frame.output, hp.frame.size, fun i hi => hp.frame.block i hi (fun ⟨p, hp', _⟩ => by simp at hp')⟩
theorem down_mem {n : Nat} : ∀ {k j : Nat}, k ≤ n → n ≤ j + k ∧ j < n → j ∈ down n k
  | 0, j, _, h => by omega
  | k + 1, j, hk, h => by
    rw [down, List.mem_append]
    by_cases c : j = n - 1 - k
    · exact .inr (by simp [c])
    · exact .inl (down_mem (by omega) ⟨by omega, h.2⟩)
theorem lastI_none (l : List Ms) (k : L) : ∀ q, (∀ j, j < q → spk (l.getD j default) k = false) → lastI l k q = -1
  | 0, _ => rfl
  | q + 1, h => by
    rw [lastI, h q (by omega), if_neg (by decide)]
    exact lastI_none l k q fun j hj => h j (by omega)
theorem lastI_some (l : List Ms) (k : L) (x : Nat) (hx : spk (l.getD x default) k = true) : ∀ q, x < q → (∀ j, x < j → j < q → spk (l.getD j default) k = false) → lastI l k q = x
  | 0, h, _ => by omega
  | q + 1, h, hn => by
    rw [lastI]
    by_cases c : x = q
    · subst c; rw [if_pos hx]
    · rw [hn q (by omega) (by omega), if_neg (by decide)]
      exact lastI_some l k x hx q (by omega) fun j h1 h2 => hn j h1 (by omega)
theorem heap_kept {W W' : World} {row : Option Nat} {B : Nat} {c : Array Value} {t : TypeId} {fr : Nat × Nat} (h : W.heap[B]? = some (.cells c t fr)) (hg : W.grownBy W' row) (hrow : ∀ r, row = some r → ∃ o : Obj, W.heap[r]? = some o ∧ o.isCells = false) : W'.heap[B]? = some (.cells c t fr) :=
  (hg.block B (Array.getElem?_eq_some_iff.1 h).1 (fun e => by obtain ⟨o, ho, hc⟩ := hrow B e.symm; rw [h] at ho; cases ho; cases hc)).trans h
set_option maxRecDepth 100000 in
set_option maxHeartbeats 4000000 in
theorem last_in (l : List Ms) (k : L) (hl : l.length ≤ 1000000) (hk : ∀ j, (l.getD j default).key.length ≤ 1000000) (a : Option Addr) (cap : Nat) (hnil : a = none → l.length = 0 ∧ cap = 0) (w : World)
    (hcell : ∀ a0, a = some a0 → ∀ (j : Nat) (v : Value), ((l.map msC).flatten)[j]? = some v → w.cell? (a0.add j) = some v ∧ (a0.add j).block < w.heap.size) :
    CallsIn Fence.wide 9 Try.prog 113 #[.slice a l.length cap, .string ⟨k.toArray⟩] w fun e W' => e = .returned (.int .i64 (lastI l k l.length)) ∧ Below w.heap.size w W' := by
  have h1 : 1 ≤ 9 := by omega
  have hro : Fence.wide.round = none := rfl
  refine callsIn_of_wp_marks Try.func113 rfl trivial ?_ hro
  simp only [Try.ntmps113, List.size_toArray, List.length_cons, List.length_nil, Nat.reduceAdd, Nat.reduceSub, Array.replicate_succ, Array.replicate_zero, List.push_toArray, List.append_toArray, List.nil_append, List.cons_append]
  gi_wp2_with (refine ⟨trivial, ?_⟩; gi_at_call 139; refine (back_in Fence.wide 8 trivial hro _ _ _ _).mono ?_; rintro e w' ⟨rfl, rfl⟩)
  have bK := ((Boxed.new w 9 (.string ⟨k.toArray⟩)).alloc (.cells #[.int .i64 0] 3)).alloc (.cells #[.slice a l.length cap] 25)
  have bR := (Boxed.new (w.alloc (.cells #[.string ⟨k.toArray⟩] 9)) 3 (.int .i64 0)).alloc (.cells #[.slice a l.length cap] 25)
  have bS := Boxed.new ((w.alloc (.cells #[.string ⟨k.toArray⟩] 9)).alloc (.cells #[.int .i64 0] 3)) 25 (.slice a l.length cap)
  simp only [World.size_alloc] at bR bS
  have hB0 : Below w.heap.size w (((w.alloc (.cells #[.string ⟨k.toArray⟩] 9)).alloc (.cells #[.int .i64 0] 3)).alloc (.cells #[.slice a l.length cap] 25)) := (((Below.refl _ w).alloc (Nat.le_refl _) _).alloc (by simp) _).alloc (by simp; omega) _
  have hsz : (((w.alloc (.cells #[.string ⟨k.toArray⟩] 9)).alloc (.cells #[.int .i64 0] 3)).alloc (.cells #[.slice a l.length cap] 25)).heap.size = w.heap.size + 3 := by simp
  obtain ⟨W0, hW0⟩ : ∃ W0, ((w.alloc (.cells #[.string ⟨k.toArray⟩] 9)).alloc (.cells #[.int .i64 0] 3)).alloc (.cells #[.slice a l.length cap] 25) = W0 := ⟨_, rfl⟩
  rw [hW0] at bK bR bS hB0 hsz ⊢
  clear hW0
  have hld : ∀ W, Below w.heap.size w W → ∀ a0, a = some a0 → ∀ (j : Nat) (v : Value), ((l.map msC).flatten)[j]? = some v → W.cell? (a0.add j) = some v := fun W hB a0 e j v hv => by
    obtain ⟨c1, c2⟩ := hcell a0 e j v hv
    exact (hB.cell c2).trans c1
  refine wpIn_rangeFunc_ownH hro h1 (gf := 148) (lb := #[.pointer (some ⟨w.heap.size + 1 + 1, 0, none⟩)]) rfl trivial (enters_of Try.func148 (by kernel_rfl) rfl)
    (back_stops Fence.wide 8 trivial hro (by omega) (w.heap.size + 1 + 1) (w.heap.size + 3) l.length cap a (fun j => msV (l.getD j default)) hl hnil W0 (by omega) (by omega) (by omega) bS.cell
      (fun a0 e j hj W' hb => ms_load (hld W' (hB0.trans (hb.mono (by omega))) a0 e) j hj)) belowK_t (belowK_b (by omega)) (Below.refl _ _) (fun _ => rfl)
    (fun pre W => (((Boxed W w.heap.size 9 (.string ⟨k.toArray⟩) ∧ Boxed W (w.heap.size + 1) 3 (.int .i64 0)) ∧ Boxed W (w.heap.size + 1 + 1) 25 (.slice a l.length cap)) ∧ (∀ x ∈ pre, spk (l.getD x default) k = false)) ∧ Below w.heap.size w W)
    (fun c pre W => ((c = .ret ∧ ∃ ini x, pre = ini ++ [x] ∧ (∀ y ∈ ini, spk (l.getD y default) k = false) ∧ spk (l.getD x default) k = true ∧ Boxed W (w.heap.size + 1) 3 (.int .i64 (x : Nat)))) ∧ Below w.heap.size w W)
    (OwnFrom.and (OwnFrom.and (OwnFrom.and (OwnFrom.and (Own.from (boxed_own _ _ _) _) (Own.from (boxed_own _ _ _) _)) (Own.from (boxed_own _ _ _) _)) (ownFrom_pure _ _)) (ownFrom_below (Nat.le_refl _) (by omega)))
    (fun c => OwnFrom.and (Own.from (fun s A B row hs hg hr => by obtain ⟨hc, ini, x, e1, e2, e3, e4⟩ := hs; exact ⟨hc, ini, x, e1, e2, e3, boxed_own _ 3 (fun (_ : Unit) => Value.int .i64 (x : Nat)) () A B row e4 hg hr⟩) _) (ownFrom_below (Nat.le_refl _) (by omega)))
    ⟨⟨⟨⟨bK, bR⟩, bS⟩, by simp⟩, hB0⟩
    (fun x a' W => ∃ Bx, w.heap.size + 1 < Bx ∧ W.heap[Bx]? = some (.cells (msC (l.getD x default)).toArray 104 (0, 0)) ∧ a' = { tmps := #[.slice a l.length cap, .string ⟨k.toArray⟩, undef, .pointer (some ⟨w.heap.size, 0, none⟩), .pointer (some ⟨w.heap.size + 1, 0, none⟩), .int .i64 (x : Nat), .pointer (some ⟨Bx, 0, none⟩), .slice a l.length cap, .func (.func 148) #[] #[.pointer (some ⟨w.heap.size + 1 + 1, 0, none⟩)], .int .i64 (x : Nat), msV (l.getD x default), undef, undef, undef, undef], defers := [] })
    (fun x a' _ X Y row hs hg hr => by obtain ⟨Bx, h1, h2, h3⟩ := hs; exact ⟨Bx, h1, heap_kept h2 hg (fun r e => (hr r e).2), h3⟩)
    ?assign ?body ?done ?stop
  case assign =>
    rintro l' pre x W K ⟨⟨⟨⟨b1, b2⟩, b3⟩, hp⟩, hB⟩ hK
    have lt3 := b3.lt
    simp only [msV, List.getD_eq_getElem?_getD] at hK ⊢
    gi_wp2
    exact hK _ _ ((KeepsOthers.alloc _ _).from _) ((Below.refl _ W).alloc (by omega) _) ⟨⟨⟨⟨b1.alloc _, b2.alloc _⟩, b3.alloc _⟩, by simpa only [List.getD_eq_getElem?_getD] using hp⟩, hB.alloc hB.size _⟩ ⟨W.heap.size, b2.lt, World.alloc_heap_new W _, rfl⟩
  case body =>
    rintro l' pre x a' W hl' ⟨r, hr⟩ ⟨⟨⟨⟨b1, b2⟩, b3⟩, hp⟩, hB⟩ ⟨Bx, hBx, hX, rfl⟩ hlt
    have lt3 := b3.lt
    have c1 := b1.cell
    have hld2 : (Instr.loadAt 104 (.pointer (some ⟨Bx, 0, none⟩))).run Try.prog W = .ok (msV (l.getD x default)) W := ms_load0 (fun j v hv => by rw [add_lit, Nat.zero_add, cell_of_row W Bx _ _ _ _ hX]; simpa using hv)
    have hsp := speaks_calls W (l.getD x default) k (hk x)
    have bel : ∀ {B t v W2}, Boxed W B t v → Below W.heap.size W W2 → Boxed W2 B t v := fun h hb => (hb.block _ h.lt).trans h
    have kf : ∀ {W2}, Below W.heap.size W W2 → KeepsFrom W0.heap.size W W2 := fun hb => ⟨hb.size, fun i o _ hi _ => (hb.block i (Array.getElem?_eq_some_iff.1 hi).1).trans hi⟩
    cases hs : spk (l.getD x default) k with
    | true =>
      rw [hs] at hsp
      gi_wp2_with (first | (refine wpIn_loadT (t := 104) rfl rfl rfl hld2 ?_) | (refine ⟨trivial, ?_⟩; gi_at_call 140; refine (CallsIn.inRound l' (callsIn_wide.2 hsp)).mono ?_; rintro e W2 ⟨rfl, hf⟩; have b2' := bel b2 hf; have c2 := b2'.cell; have f2 := b2'.frozen))
      exact ⟨(kf hf).trans ((KeepsOthers.setCell _ _ _).from _), ⟨rfl, pre, x, rfl, hp, hs, b2'.set _⟩, (hB.trans (hf.mono (by omega))).setCell (p := ⟨w.heap.size + 1, 0, none⟩) (by simp) _⟩
    | false =>
      rw [hs] at hsp
      gi_wp2_with (first | (refine wpIn_loadT (t := 104) rfl rfl rfl hld2 ?_) | (refine ⟨trivial, ?_⟩; gi_at_call 140; refine (CallsIn.inRound l' (callsIn_wide.2 hsp)).mono ?_; rintro e W2 ⟨rfl, hf⟩; have b2' := bel b2 hf; have c2 := b2'.cell; have f2 := b2'.frozen))
      exact ⟨kf hf, hf.mono (by omega), ⟨⟨⟨bel b1 hf, b2'⟩, bel b3 hf⟩, fun y hy => (List.mem_append.1 hy).elim (hp y) (fun e => by simp at e; subst e; exact hs)⟩, hB.trans (hf.mono (by omega))⟩
  case done =>
    rintro D ys W hD rfl ⟨⟨⟨⟨b1, b2⟩, b3⟩, hp⟩, hB⟩ hK
    have c2 := b2.cell
    have f2 := b2.frozen
    gi_wp2
    have hK' := (KeepsOthers.setCell W ⟨w.heap.size + 1, 0, none⟩ (.int .i64 (-1))).same D _ hK rfl
    refine ⟨by simp, .inl ⟨_, _, rfl, run_takeDeferred hK', ?_⟩⟩
    have hc5 := cell_kept (World.cell?_setCell_same' W ⟨w.heap.size + 1, 0, none⟩ (.int .i64 (-1)) (by rw [c2]; rfl)) (grownBy_putObj' _ D (.deferred none)) (fun r e => by cases e; exact ⟨_, hK', rfl⟩)
    refine ⟨.int .i64 (-1), ?_, ?_, (hB.setCell (p := ⟨w.heap.size + 1, 0, none⟩) (by simp) _).trans (belowK_b (w := w) (Nat.le_refl _) _ D _ _ (by omega) hK' rfl rfl)⟩
    · simp [results, Try.f113, go_sem, hc5]
    · rw [lastI_none l k l.length (fun j hj => hp j (down_mem (Nat.le_refl _) (by omega)))]
  case stop =>
    rintro D c pre W hD ⟨q, hq, rfl⟩ ⟨⟨rfl, ini, x, e1, e2, e3, b2⟩, hB⟩ hK
    gi_wp2
    refine ⟨by simp, .inl ⟨_, _, rfl, run_takeDeferred hK, ?_⟩⟩
    have hc5 := cell_kept b2.cell (grownBy_putObj' _ D (.deferred none)) (fun r e => by cases e; exact ⟨_, hK, rfl⟩)
    refine ⟨.int .i64 (x : Nat), ?_, ?_, hB.trans (belowK_b (w := w) (Nat.le_refl _) W D _ _ (by omega) hK rfl rfl)⟩
    · simp [results, Try.f113, go_sem, hc5]
    · obtain ⟨q', rfl⟩ : ∃ q', q = q' + 1 := by
        cases q with
        | zero => simp [down] at e1
        | succ q' => exact ⟨q', rfl⟩
      rw [down] at e1
      obtain ⟨rfl, e5⟩ := List.append_inj' e1 rfl
      obtain rfl : l.length - 1 - q' = x := by simpa using e5
      rw [lastI_some l k (l.length - 1 - q') e3 l.length (by omega) (fun j h1 h2 => e2 j (down_mem (by omega) (by omega)))]
/-- The last message that speaks of a key. -/
theorem gLast (l : List Ms) (k : L) (hl : l.length ≤ 1000000) (hk : ∀ j, (l.getD j default).key.length ≤ 1000000) : Good Try.prog 113 [.sh 6 (l.map Ms.av), .s k] [] (.i .i64 (lastI l k l.length)) [] :=
  ⟨⟨_, Try.func113, rfl, rfl⟩, fun w Γ m vals gok hv hobs hinj => by
    obtain ⟨v1, hv1, r1⟩ := hv.get (j := 0) rfl
    obtain ⟨v2, hv2, r2⟩ := hv.get (j := 1) rfl
    obtain rfl : vals = [v1, v2] := by
      have hl := hv.1
      match vals, hl with
      | [a, b], _ => simp at hv1 hv2; rw [hv1, hv2]
    cases r2
    have fin : Calls Try.prog 113 [v1, .string ⟨k.toArray⟩].toArray w (fun e W' => e = .returned (.int .i64 (lastI l k l.length)) ∧ Below w.heap.size w W') := by
      rcases r1.sh_inv with ⟨a, rfl, e⟩ | ⟨a, cap, vs, rfl, _, _, _, h4, h5, h6⟩
      · have : l = [] := by simpa using e
        subst this
        exact callsIn_wide.1 (last_in [] k hl hk a 0 (fun _ => ⟨rfl, rfl⟩) w (fun a0 _ j v h => by simp at h))
      · have := ms_cells h6
        subst this
        rw [List.length_map]
        exact callsIn_wide.1 (last_in l k hl hk (some a) cap (fun h => by cases h) w (fun a0 e j v h => by
          cases e
          have := gok _ _ (h4 j v h)
          exact ⟨this, block_lt_of_cell this⟩))
    refine fin.mono fun e W' ⟨he, hb⟩ => ?_
    refine ⟨_, Γ, m, he, Sub.refl _, fun ad v h => ?_, .i, fun p hp => by simp at hp, fun p hp => by simp at hp, fun g ⟨p, hp, _⟩ => by simp at hp, fun p hp => by simp at hp, ⟨hb.os, hb.tape, hb.output, hb.size, fun i hi _ => hb.block i hi⟩, fun ad h0 h1 => absurd h0 h1⟩
    have := gok ad v h
    exact (hb.cell (block_lt_of_cell this)).trans this⟩
end Go.Proofs.Ytocppeifkjdeiaa.Mv

/- The nodes' Step, whole. Under no condition. -/
namespace Go.Proofs.Ytocppeifkjdeiaa.Mv
open Go Go.Proofs
set_option linter.unusedSimpArgs false
set_option linter.unusedVariables false
set_option maxRecDepth 10000
set_option maxHeartbeats 4000000
attribute [local irreducible] AW AO AR

theorem getP_at2 : ∀ {l : List Pr}, rise (l.map Pr.k) = true → ∀ {i : Nat}, i < l.length → getP l (l.getD i default).k = some (l.getD i default).v
  | p :: l, hr, 0, _ => by simp [getP]
  | p :: l, hr, i + 1, hi => by
    have hi' : i < l.length := by simpa using hi
    have hlt := rise_lt hr (i := 0) (i + 1) (by omega) (by simpa using hi')
    have e1 : (List.map Pr.k (p :: l)).getD 0 default = p.k := by simp
    have e2 : (List.map Pr.k (p :: l)).getD (i + 1) default = (l.getD i default).k := by
      rw [List.map_cons, List.getD_cons_succ, getD_map Pr.k hi']
    rw [e1, e2] at hlt
    rw [List.getD_cons_succ, getP, if_neg (fun e => by rw [e, lt_irrefl] at hlt; cases hlt)]
    exact getP_at2 (rise_tail hr) hi'
theorem getP_none {k : L} : ∀ {l : List Pr}, (∀ i, i < l.length → ¬ (l.getD i default).k = k) → getP l k = none
  | [], _ => rfl
  | p :: l, h => by
    rw [getP, if_neg (show ¬ p.k = k from h 0 (by simp))]
    exact getP_none fun i hi => h (i + 1) (by simpa using hi)
/-- The search finds what is there. -/
theorem wayL_get {l : List Pr} {k : L} (hr : rise (l.map Pr.k) = true) : wayL l k = getP l k := by
  have hk : ∀ i j, i < j → j < l.length → lt (l.getD i default).k (l.getD j default).k = true := fun i j h1 h2 => by
    have := rise_lt hr (i := i) j h1 (by simpa using h2)
    rwa [getD_map Pr.k (by omega), getD_map Pr.k h2] at this
  have mono : ∀ a b, a ≤ b → b < l.length → prF l k a = true → prF l k b = true := fun a b h1 h2 h3 => by
    by_cases e : a = b
    · rw [← e]; exact h3
    · have h4 := hk a b (by omega) h2
      simp only [prF, Bool.not_eq_true'] at h3 ⊢
      cases h5 : lt (l.getD b default).k k with
      | false => rfl
      | true => rw [lt_trans h4 h5] at h3; cases h3
  obtain ⟨b1, b2, b3⟩ := bs_spec' l.length mono
  unfold wayL
  generalize bs (prF l k) 0 l.length = q at *
  split
  · rename_i h
    simp only [Bool.and_eq_true, decide_eq_true_eq, beq_iff_eq] at h
    rw [← h.2, getP_at2 hr h.1]
  · rename_i h
    simp only [Bool.and_eq_true, decide_eq_true_eq, beq_iff_eq] at h
    refine (getP_none fun i hi e => ?_).symm
    rcases Nat.lt_trichotomy i q with g | g | g
    · have := b2 i g
      simp only [prF, e, lt_irrefl] at this
      cases this
    · subst g; exact h ⟨hi, e⟩
    · have h6 := b3 (by omega)
      simp only [prF, Bool.not_eq_true'] at h6
      have h7 := hk q i g hi
      rw [e] at h7
      rw [h7] at h6; cases h6
theorem gOn (b : B32) (d : W16) (s a k : L) (h1 : a.length + k.length ≤ 137438953472) : Good Try.prog 114 [.agg [.i .u32 b.toNat, .i .u16 d.toNat, .s s, .s a], .s k] [] (.agg (onW b d s a k).av) [] := by
  refine Good.w tabOk mixed Try.func114 (N := 23) (by kernel_rfl) rfl (by (repeat (first | exact LE.nil | apply LE.cons)); done) (by (repeat (first | exact LE.nil | apply LE.cons)); done) fun D hD F => ?_
  repeat' (first
    | apply AO.nil
    | (apply AO.kCall 61; refine AO.sCall (hg := (gUp _ _ _ h1)) (h := ?_))
    | (apply AO.kBox; refine AO.sBox (h := ?_))
    | (apply AO.kAlloc; refine AO.sAlloc (h := ?_))
    | (apply AO.kStore; first | refine AO.sStore (h := ?_) | refine AO.sStB (h := ?_))
    | (apply AO.kP; first | refine AO.sP (h := ?_) | refine AO.sPi (h := ?_) | refine AO.sLoadB (h := ?_))
    | apply AW.seq
    | (apply AW.kR; refine AW.sR (h := ?_))
    | apply AW.skip
    | apply AW.block
    | apply AW.out
    | (apply AW.kE; refine AW.sE (h := ?_))
    | apply AW.label
    | ((first | (apply AW.kC; refine AW.sC (h1 := fun h => ?_) (h2 := fun h => ?_))) <;> (try (first | exact Bool.noConfusion h | exact absurd h (by decide) | (simp at h; done) | (rw [h]; try simp only [nrm] at h; try rw [h]; try (exfalso; omega)) | skip))))
  · rw [onW, if_neg (by rw [h]; decide)] at hD
    exact AW.ret (hD rfl .refl)
  · rw [onW, if_pos h] at hD
    exact AW.ret (hD rfl .refl)
theorem gStepF (pairs : List Pr) (pivots : List L) (kids : List Ed) (buf : List Ms) (k : L) (hs : (⟨false, pairs, pivots, kids, buf⟩ : Nd).small) (hx : (⟨false, pairs, pivots, kids, buf⟩ : Nd).strs) (hk : k.length ≤ 1000000)
    (h0 : mayN ⟨false, pairs, pivots, kids, buf⟩ = 0) : Good Try.prog 83 [.agg (Nd.av ⟨false, pairs, pivots, kids, buf⟩), .s k] [] (.agg (leadN ⟨false, pairs, pivots, kids, buf⟩ k).av) [] := by
  obtain ⟨e1, e2, e3⟩ := kidL_may (k := k) (may_inner h0 rfl).1
  dsimp only at e1 e2 e3
  have hs3 : kids.length ≤ 1000000 := hs.kids
  have hs4 : buf.length ≤ 1000000 := hs.buf
  have l3 : (kids.map Ed.av).length = kids.length := by simp
  have l4 : (buf.map Ms.av).length = buf.length := by simp
  obtain ⟨i1, i2⟩ := lastI_lt buf k buf.length
  have sk := hx.kids (kidL ⟨false, pairs, pivots, kids, buf⟩ k kids.length).toNat (by show _ < kids.length; rw [e1]; omega)
  have u1 : (kids.getD (kidL ⟨false, pairs, pivots, kids, buf⟩ k kids.length).toNat default).add.length + k.length ≤ 137438953472 := by have := sk.2; dsimp only at this; omega
  have u2 : (buf.getD (lastI buf k buf.length).toNat default).add.length + k.length ≤ 137438953472 := by have := (sm_any hx.buf (lastI buf k buf.length).toNat).2; dsimp only at this; omega
  have gM := gMay ⟨false, pairs, pivots, kids, buf⟩ hs
  rw [h0] at gM
  have gK := gKid ⟨false, pairs, pivots, kids, buf⟩ k hs
  have gL := gLast buf k hs4 (fun j => (sm_any hx.buf j).1)
  rw [← e1] at gK
  rw [← e1] at e2 e3
  refine Good.w tabOk mixed Try.func83 (N := 74) (by kernel_rfl) rfl (by (repeat (first | exact LE.nil | apply LE.cons)); done) (by (repeat (first | exact LE.nil | apply LE.cons)); done) fun D hD F => ?_
  repeat' (first
    | apply AO.nil
    | (apply AO.kCall 57; refine AO.sCall (hg := gM) (h := ?_))
    | (apply AO.kCall 113; refine AO.sCall (hg := gL) (h := ?_))
    | (apply AO.kCall 115; refine AO.sCall (hg := gK) (h := ?_))
    | (apply AO.kIx; first | refine AO.sIxN (hm := by first | decide | omega | assumption | (simp only [List.length_map]; omega) | (refine ⟨?_, ?_⟩ <;> (simp only [List.length_map]; omega))) (h := ?_) | refine AO.sIx (hm := by first | decide | omega | assumption | (simp only [List.length_map]; omega) | (refine ⟨?_, ?_⟩ <;> (simp only [List.length_map]; omega))) (h := ?_) | refine AO.sP (h := ?_) | refine AO.sPi (hq := by first | decide | omega | assumption | (simp only [List.length_map]; omega) | (refine ⟨?_, ?_⟩ <;> (simp only [List.length_map]; omega))) (h := ?_))
    | (apply AO.kBox; refine AO.sBox (h := ?_))
    | (apply AO.kAlloc; refine AO.sAlloc (h := ?_))
    | (apply AO.kStore; first | refine AO.sStore (h := ?_) | refine AO.sStB (ho := by first | decide | omega | assumption | (simp only [List.length_map]; omega) | (refine ⟨?_, ?_⟩ <;> (simp only [List.length_map]; omega))) (h := ?_))
    | (apply AO.kP; first | refine AO.sP (h := ?_) | refine AO.sPi (hq := by first | decide | omega | assumption | (simp only [List.length_map]; omega) | (refine ⟨?_, ?_⟩ <;> (simp only [List.length_map]; omega))) (h := ?_) | refine AO.sLoadB (ho := by first | decide | omega | assumption | (simp only [List.length_map]; omega) | (refine ⟨?_, ?_⟩ <;> (simp only [List.length_map]; omega))) (h := ?_))
    | apply AW.seq
    | (apply AW.kR; refine AW.sR (h := ?_))
    | apply AW.skip
    | apply AW.block
    | apply AW.out
    | (apply AW.kE; refine AW.sE (h := ?_))
    | apply AW.label
    | (apply AW.kRd; refine AW.sRd (h := ?_))
    | ((first | (apply AW.kC; refine AW.sC (h1 := fun h => ?_) (h2 := fun h => ?_))) <;> (try (first | exact Bool.noConfusion h | exact absurd h (by decide) | (simp at h; done) | (rw [h]; try simp only [nrm] at h; try rw [h]; try (exfalso; omega)) | skip)))
    | (apply AR.kAny; first | (apply AR.kCall 57; refine AR.sCall (hg := gM) (h := ?_)) | (apply AR.kCall 113; refine AR.sCall (hg := gL) (h := ?_)) | (apply AR.kCall 115; refine AR.sCall (hg := gK) (h := ?_)) | (apply AR.kIx; first | refine AR.sIxN (hm := by first | decide | omega | assumption | (simp only [List.length_map]; omega) | (refine ⟨?_, ?_⟩ <;> (simp only [List.length_map]; omega))) (h := ?_) | refine AR.sIx (hm := by first | decide | omega | assumption | (simp only [List.length_map]; omega) | (refine ⟨?_, ?_⟩ <;> (simp only [List.length_map]; omega))) (h := ?_) | refine AR.sP (h := ?_) | refine AR.sPi (hq := by first | decide | omega | assumption | (simp only [List.length_map]; omega) | (refine ⟨?_, ?_⟩ <;> (simp only [List.length_map]; omega))) (h := ?_)) | (apply AR.kBox; refine AR.sBox (h := ?_)) | (apply AR.kAlloc; refine AR.sAlloc (h := ?_)) | (apply AR.kStore; refine AR.sStore (h := ?_)) | (apply AR.kP; first | refine AR.sP (h := ?_) | refine AR.sPi (hq := by first | decide | omega | assumption | (simp only [List.length_map]; omega) | (refine ⟨?_, ?_⟩ <;> (simp only [List.length_map]; omega))) (h := ?_)))
    | (apply AR.kNil; refine AR.sNil (h := ?_)))
  · rw [leadF2 (by assumption) (by rw [← k1]; assumption)] at hD
    exact AW.ret (hD rfl .refl)
  · repeat' (first
    | apply AO.nil
    | (apply AO.kCall 114; refine AO.sCall (hg := (gOn (buf.getD (lastI buf k buf.length).toNat default).block (buf.getD (lastI buf k buf.length).toNat default).deep (buf.getD (lastI buf k buf.length).toNat default).key (buf.getD (lastI buf k buf.length).toNat default).add k u2)) (h := ?_))
    | (apply AO.kIx; first | refine AO.sIxN (h := ?_) | refine AO.sIx (h := ?_) | refine AO.sP (h := ?_) | refine AO.sPi (h := ?_))
    | (apply AO.kBox; refine AO.sBox (h := ?_))
    | (apply AO.kAlloc; refine AO.sAlloc (h := ?_))
    | (apply AO.kStore; first | refine AO.sStore (h := ?_) | refine AO.sStB (h := ?_))
    | (apply AO.kP; first | refine AO.sP (h := ?_) | refine AO.sPi (h := ?_) | refine AO.sLoadB (h := ?_))
    | apply AW.seq
    | (apply AW.kR; refine AW.sR (h := ?_))
    | apply AW.skip
    | apply AW.block
    | apply AW.out
    | (apply AW.kE; refine AW.sE (h := ?_))
    | apply AW.label
    | (apply AW.kRd; refine AW.sRd (h := ?_))
    | ((first | (apply AW.kC; refine AW.sC (h1 := fun h => ?_) (h2 := fun h => ?_))) <;> (try (first | exact Bool.noConfusion h | exact absurd h (by decide) | (simp at h; done) | (rw [h]; try simp only [nrm] at h; try rw [h]; try (exfalso; omega)) | skip)))
    | (apply AR.kAny; first | (apply AR.kCall 114; refine AR.sCall (hg := (gOn (buf.getD (lastI buf k buf.length).toNat default).block (buf.getD (lastI buf k buf.length).toNat default).deep (buf.getD (lastI buf k buf.length).toNat default).key (buf.getD (lastI buf k buf.length).toNat default).add k u2)) (h := ?_)) | (apply AR.kIx; first | refine AR.sIxN (h := ?_) | refine AR.sIx (h := ?_) | refine AR.sP (h := ?_) | refine AR.sPi (h := ?_)) | (apply AR.kBox; refine AR.sBox (h := ?_)) | (apply AR.kAlloc; refine AR.sAlloc (h := ?_)) | (apply AR.kStore; refine AR.sStore (h := ?_)) | (apply AR.kP; first | refine AR.sP (h := ?_) | refine AR.sPi (h := ?_)))
    | (apply AR.kNil; refine AR.sNil (h := ?_)))
    rw [leadF3 (by assumption) (by rw [← k1]; assumption) (by rw [← k3]; assumption)] at hD
    exact AW.ret (hD rfl .refl)
  · rw [leadF4 (by assumption) (by rw [← k1]; assumption) (by rw [← k3]; assumption)] at hD
    exact AW.ret (hD rfl .refl)
  · repeat' (first
    | apply AO.nil
    | (apply AO.kCall 114; refine AO.sCall (hg := (gOn (kids.getD (kidL ⟨false, pairs, pivots, kids, buf⟩ k kids.length).toNat default).block (kids.getD (kidL ⟨false, pairs, pivots, kids, buf⟩ k kids.length).toNat default).deep (kids.getD (kidL ⟨false, pairs, pivots, kids, buf⟩ k kids.length).toNat default).strip (kids.getD (kidL ⟨false, pairs, pivots, kids, buf⟩ k kids.length).toNat default).add k u1)) (h := ?_))
    | (apply AO.kIx; first | refine AO.sIxN (h := ?_) | refine AO.sIx (h := ?_) | refine AO.sP (h := ?_) | refine AO.sPi (h := ?_))
    | (apply AO.kBox; refine AO.sBox (h := ?_))
    | (apply AO.kAlloc; refine AO.sAlloc (h := ?_))
    | (apply AO.kStore; first | refine AO.sStore (h := ?_) | refine AO.sStB (h := ?_))
    | (apply AO.kP; first | refine AO.sP (h := ?_) | refine AO.sPi (h := ?_) | refine AO.sLoadB (h := ?_))
    | apply AW.seq
    | (apply AW.kR; refine AW.sR (h := ?_))
    | apply AW.skip
    | apply AW.block
    | apply AW.out
    | (apply AW.kE; refine AW.sE (h := ?_))
    | apply AW.label
    | (apply AW.kRd; refine AW.sRd (h := ?_))
    | ((first | (apply AW.kC; refine AW.sC (h1 := fun h => ?_) (h2 := fun h => ?_))) <;> (try (first | exact Bool.noConfusion h | exact absurd h (by decide) | (simp at h; done) | (rw [h]; try simp only [nrm] at h; try rw [h]; try (exfalso; omega)) | skip)))
    | (apply AR.kAny; first | (apply AR.kCall 114; refine AR.sCall (hg := (gOn (kids.getD (kidL ⟨false, pairs, pivots, kids, buf⟩ k kids.length).toNat default).block (kids.getD (kidL ⟨false, pairs, pivots, kids, buf⟩ k kids.length).toNat default).deep (kids.getD (kidL ⟨false, pairs, pivots, kids, buf⟩ k kids.length).toNat default).strip (kids.getD (kidL ⟨false, pairs, pivots, kids, buf⟩ k kids.length).toNat default).add k u1)) (h := ?_)) | (apply AR.kIx; first | refine AR.sIxN (h := ?_) | refine AR.sIx (h := ?_) | refine AR.sP (h := ?_) | refine AR.sPi (h := ?_)) | (apply AR.kBox; refine AR.sBox (h := ?_)) | (apply AR.kAlloc; refine AR.sAlloc (h := ?_)) | (apply AR.kStore; refine AR.sStore (h := ?_)) | (apply AR.kP; first | refine AR.sP (h := ?_) | refine AR.sPi (h := ?_)))
    | (apply AR.kNil; refine AR.sNil (h := ?_)))
    rw [leadF1 h] at hD
    exact AW.ret (hD rfl .refl)
/-- Where a key leads, by the program. -/
theorem gStep (n : Nd) (k : L) (hs : n.small) (hx : n.strs) (hk : k.length ≤ 1000000) : Good Try.prog 83 [.agg n.av, .s k] [] (.agg (stepN n k).av) [] := by
  by_cases h0 : mayN n = 0
  · rw [stepN, if_pos h0]
    cases hl : n.leaf with
    | true =>
      refine gStepLeaf n k hs hl _ ?_
      have ho := may_leaf h0 hl
      simp only [leafOk, Bool.and_eq_true] at ho
      rw [if_pos h0, leafWay, wayL_get ho.1.2, leadN, if_pos hl]
      all_goals (cases getP n.pairs k <;> rfl)
    | false =>
      obtain ⟨leaf, pairs, pivots, kids, buf⟩ := n
      dsimp only at hl
      subst hl
      exact gStepF _ _ _ _ _ hs hx hk h0
  · rw [stepN, if_neg h0]
    have gM := gMay n hs
    refine Good.w tabOk mixed Try.func83 (N := 74) (by kernel_rfl) rfl (by (repeat (first | exact LE.nil | apply LE.cons)); done) (by (repeat (first | exact LE.nil | apply LE.cons)); done) fun D hD F => ?_
    repeat' (first
    | apply AO.nil
    | (apply AO.kCall 57; refine AO.sCall (hg := gM) (h := ?_))
    | (apply AO.kIx; first | refine AO.sIxN (h := ?_) | refine AO.sIx (h := ?_) | refine AO.sP (h := ?_) | refine AO.sPi (h := ?_))
    | (apply AO.kBox; refine AO.sBox (h := ?_))
    | (apply AO.kAlloc; refine AO.sAlloc (h := ?_))
    | (apply AO.kStore; first | refine AO.sStore (h := ?_) | refine AO.sStB (h := ?_))
    | (apply AO.kP; first | refine AO.sP (h := ?_) | refine AO.sPi (h := ?_) | refine AO.sLoadB (h := ?_))
    | apply AW.seq
    | (apply AW.kR; refine AW.sR (h := ?_))
    | apply AW.skip
    | apply AW.block
    | apply AW.out
    | (apply AW.kE; refine AW.sE (h := ?_))
    | apply AW.label
    | (apply AW.kRd; refine AW.sRd (h := ?_))
    | ((first | (apply AW.kC; refine AW.sC (h1 := fun h => ?_) (h2 := fun h => ?_))) <;> (try (first | exact Bool.noConfusion h | exact absurd h (by decide) | (simp at h; done) | (rw [h]; try simp only [nrm] at h; try rw [h]; try (exfalso; omega)) | skip)))
    | (apply AR.kAny; first | (apply AR.kCall 57; refine AR.sCall (hg := gM) (h := ?_)) | (apply AR.kIx; first | refine AR.sIxN (h := ?_) | refine AR.sIx (h := ?_) | refine AR.sP (h := ?_) | refine AR.sPi (h := ?_)) | (apply AR.kBox; refine AR.sBox (h := ?_)) | (apply AR.kAlloc; refine AR.sAlloc (h := ?_)) | (apply AR.kStore; refine AR.sStore (h := ?_)) | (apply AR.kP; first | refine AR.sP (h := ?_) | refine AR.sPi (h := ?_)))
    | (apply AR.kNil; refine AR.sNil (h := ?_)))
    · exact AW.ret (hD rfl .refl)
    all_goals exact absurd (eq0 (by assumption)) h0
end Go.Proofs.Ytocppeifkjdeiaa.Mv

/- Nodes: how deep one is; its targets. Under no condition. -/
namespace Go.Proofs.Ytocppeifkjdeiaa.Mv
open Go Go.Proofs
set_option linter.unusedSimpArgs false
set_option linter.unusedVariables false
set_option maxRecDepth 10000
set_option maxHeartbeats 4000000
attribute [local irreducible] AW AO AR

theorem foldl_more {α β : Type} [Inhabited α] {l : List α} {f : β → α → β} {d : β} {q : Nat} (h : q < l.length) : (l.take (q + 1)).foldl f d = f ((l.take q).foldl f d) (l.getD q default) := by
  rw [takeD h, List.foldl_append]; rfl
def dpK (d : Nat) (e : Ed) : Nat := max d e.deep.toNat
def dpM (d : Nat) (m : Ms) : Nat := if m.kind = 3 then max d m.deep.toNat else d
theorem dpK_le {l : List Ed} : ∀ {d : Nat}, d ≤ 65535 → l.foldl dpK d ≤ 65535 := by
  induction l with
  | nil => intro d h; exact h
  | cons e l ih => intro d h; exact ih (by have := e.deep.isLt; unfold dpK; omega)
theorem dpM_le {l : List Ms} : ∀ {d : Nat}, d ≤ 65535 → l.foldl dpM d ≤ 65535 := by
  induction l with
  | nil => intro d h; exact h
  | cons e l ih => intro d h; exact ih (by have := e.deep.isLt; unfold dpM; split <;> omega)
theorem maxI (a b : Nat) : (if (b : Int) > (a : Int) then (b : Int) else (a : Int)) = ((max a b : Nat) : Int) := by
  split <;> omega
/-- How deep. -/
def deepN (n : Nd) : Nat := if n.leaf = true then 1 else min (n.buf.foldl dpM (n.kids.foldl dpK 0)) 65534 + 1
theorem gDeepF (pairs : List Pr) (pivots : List L) (kids : List Ed) (buf : List Ms) (hs : (⟨false, pairs, pivots, kids, buf⟩ : Nd).small) : Good Try.prog 134 [.agg (Nd.av ⟨false, pairs, pivots, kids, buf⟩)] [] (.i .u16 (deepN ⟨false, pairs, pivots, kids, buf⟩)) [] := by
  have hs3 : kids.length ≤ 1000000 := hs.kids
  have hs4 : buf.length ≤ 1000000 := hs.buf
  have l3 : (kids.map Ed.av).length = kids.length := by simp
  have l4 : (buf.map Ms.av).length = buf.length := by simp
  refine Good.w tabOk mixed Try.func134 (N := 40) (by kernel_rfl) rfl (by (repeat (first | exact LE.nil | apply LE.cons)); done) (by (repeat (first | exact LE.nil | apply LE.cons)); done) fun D hD F => ?_
  repeat' (first
    | apply AO.nil
    | (apply AO.kIx; first | refine AO.sIxN (h := ?_) | refine AO.sIx (h := ?_) | refine AO.sP (h := ?_) | refine AO.sPi (h := ?_))
    | (apply AO.kBox; refine AO.sBox (h := ?_))
    | (apply AO.kAlloc; refine AO.sAlloc (h := ?_))
    | (apply AO.kStore; first | refine AO.sStore (h := ?_) | refine AO.sStB (h := ?_))
    | (apply AO.kAdd; refine AO.sAdd (h := ?_))
    | (apply AO.kP; first | refine AO.sP (h := ?_) | refine AO.sPi (h := ?_) | refine AO.sLoadB (h := ?_))
    | apply AW.seq
    | (apply AW.kR; refine AW.sR (h := ?_))
    | apply AW.skip
    | apply AW.block
    | apply AW.out
    | (apply AW.kE; refine AW.sE (h := ?_))
    | apply AW.label
    | ((first | (apply AW.kC; refine AW.sC (h1 := fun h => ?_) (h2 := fun h => ?_))) <;> (try (first | exact Bool.noConfusion h | exact absurd h (by decide) | (simp at h; done) | (rw [h]; try simp only [nrm] at h; try rw [h]; try (exfalso; omega)) | skip))))
  refine AW.loopI (fun x : Nat × Nat => x.1 ≤ kids.length ∧ x.2 = (kids.take x.1).foldl dpK 0) (fun x => ⟨[(1, .ptr 1 0), (3, .i .u16 x.2), (11, .sh 4 (kids.map Ed.av)), (12, .i .i64 kids.length), (13, .i .i64 x.1)], [(1, .bx (Nd.av ⟨false, pairs, pivots, kids, buf⟩))]⟩) (fun x => kids.length - x.1) (0, 0) ⟨by simp, by simp⟩ (by (constructor <;> (repeat' (first | exact LeT.nil | exact LeB.nil | apply LeT.cons | apply LeB.cons | exact Ol.refl | apply Lx.s | apply Lx.b | apply Lx.i | exact Lx.refl)) <;> (first | rfl | assumption | omega | (simp only [List.length_map, BS_len]; done) | skip))) fun m ⟨q, d⟩ ⟨hn, hd⟩ ih => ?_
  dsimp only at hn hd ih ⊢
  have e := maxI d (kids.getD q default).deep.toNat
  repeat' (first
    | apply AO.nil
    | (apply AO.kIx; first | refine AO.sIxN (h := ?_) | refine AO.sIx (h := ?_) | refine AO.sP (h := ?_) | refine AO.sPi (h := ?_))
    | (apply AO.kBox; refine AO.sBox (h := ?_))
    | (apply AO.kAlloc; refine AO.sAlloc (h := ?_))
    | (apply AO.kStore; first | refine AO.sStore (h := ?_) | refine AO.sStB (h := ?_))
    | (apply AO.kAdd; refine AO.sAdd (h := ?_))
    | (apply AO.kP; first | refine AO.sP (h := ?_) | refine AO.sPi (h := ?_) | refine AO.sLoadB (h := ?_))
    | apply AW.seq
    | (apply AW.kR; refine AW.sR (h := ?_))
    | apply AW.skip
    | apply AW.block
    | apply AW.out
    | (apply AW.kE; refine AW.sE (h := ?_))
    | apply AW.label
    | ((first | (apply AW.kC; refine AW.sC (h1 := fun h => ?_) (h2 := fun h => ?_))) <;> (try (first | exact Bool.noConfusion h | exact absurd h (by decide) | (simp at h; done) | (rw [h]; try simp only [nrm] at h; try rw [h]; try (exfalso; omega)) | skip))))
  · have hq : q < kids.length := by omega
    exact ih (q + 1, max d (kids.getD q default).deep.toNat) _ ⟨by dsimp only; omega, by dsimp only; rw [hd, foldl_more hq]; rfl⟩ (by dsimp only; omega) (by (constructor <;> (repeat' (first | exact LeT.nil | exact LeB.nil | apply LeT.cons | apply LeB.cons | exact Ol.refl | apply Lx.s | apply Lx.b | apply Lx.i | exact Lx.refl)) <;> (first | rfl | assumption | omega | (simp only [List.length_map, BS_len]; done) | skip)))
  all_goals (obtain rfl : q = kids.length := by omega)
  all_goals rw [List.take_length] at hd
  all_goals (refine AW.loopI (fun x : Nat × Nat => x.1 ≤ buf.length ∧ x.2 = (buf.take x.1).foldl dpM d) (fun x => ⟨[(3, .i .u16 x.2), (23, .sh 6 (buf.map Ms.av)), (24, .i .i64 buf.length), (25, .i .i64 x.1)], []⟩) (fun x => buf.length - x.1) (0, d) ⟨by simp, by simp⟩ (by (constructor <;> (repeat' (first | exact LeT.nil | exact LeB.nil | apply LeT.cons | apply LeB.cons | exact Ol.refl | apply Lx.s | apply Lx.b | apply Lx.i | exact Lx.refl)) <;> (first | rfl | assumption | omega | (simp only [List.length_map, BS_len]; done) | skip))) fun m ⟨q2, d2⟩ ⟨hn2, hd2⟩ ih2 => ?_)
  all_goals dsimp only at hn2 hd2 ih2 ⊢
  all_goals (have e2 := maxI d2 (buf.getD q2 default).deep.toNat)
  all_goals (have lM : d2 ≤ 65535 := by rw [hd2]; exact dpM_le (by rw [hd]; exact dpK_le (by omega)))
  all_goals repeat' (first
    | apply AO.nil
    | (apply AO.kIx; first | refine AO.sIxN (h := ?_) | refine AO.sIx (h := ?_) | refine AO.sP (h := ?_) | refine AO.sPi (h := ?_))
    | (apply AO.kBox; refine AO.sBox (h := ?_))
    | (apply AO.kAlloc; refine AO.sAlloc (h := ?_))
    | (apply AO.kStore; first | refine AO.sStore (h := ?_) | refine AO.sStB (h := ?_))
    | (apply AO.kAdd; refine AO.sAdd (h := ?_))
    | (apply AO.kP; first | refine AO.sP (h := ?_) | refine AO.sPi (h := ?_) | refine AO.sLoadB (h := ?_))
    | apply AW.seq
    | (apply AW.kR; refine AW.sR (h := ?_))
    | apply AW.skip
    | apply AW.block
    | apply AW.out
    | (apply AW.kE; refine AW.sE (h := ?_))
    | apply AW.label
    | ((first | (apply AW.kC; refine AW.sC (h1 := fun h => ?_) (h2 := fun h => ?_))) <;> (try (first | exact Bool.noConfusion h | exact absurd h (by decide) | (simp at h; done) | (rw [h]; try simp only [nrm] at h; try rw [h]; try (exfalso; omega)) | skip))))
  · have hq : q2 < buf.length := by omega
    exact ih2 (q2 + 1, max d2 (buf.getD q2 default).deep.toNat) _ ⟨by dsimp only; omega, by dsimp only; rw [hd2, foldl_more hq, dpM, if_pos (by rw [← k3]; exact h)]⟩ (by dsimp only; omega) (by (constructor <;> (repeat' (first | exact LeT.nil | exact LeB.nil | apply LeT.cons | apply LeB.cons | exact Ol.refl | apply Lx.s | apply Lx.b | apply Lx.i | exact Lx.refl)) <;> (first | rfl | assumption | omega | (simp only [List.length_map, BS_len]; done) | skip)))
  · have hq : q2 < buf.length := by omega
    exact ih2 (q2 + 1, d2) _ ⟨by dsimp only; omega, by dsimp only; rw [hd2, foldl_more hq, dpM, if_neg (by rw [← k3]; exact h)]⟩ (by dsimp only; omega) (by (constructor <;> (repeat' (first | exact LeT.nil | exact LeB.nil | apply LeT.cons | apply LeB.cons | exact Ol.refl | apply Lx.s | apply Lx.b | apply Lx.i | exact Lx.refl)) <;> (first | rfl | assumption | omega | (simp only [List.length_map, BS_len]; done) | skip)))
  all_goals (obtain rfl : q2 = buf.length := by omega)
  all_goals rw [List.take_length] at hd2
  all_goals refine AW.ret (hD rfl (Lx.i ?_))
  all_goals (have eD : deepN ⟨false, pairs, pivots, kids, buf⟩ = min (buf.foldl dpM (kids.foldl dpK 0)) 65534 + 1 := rfl)
  all_goals rw [eD, ← hd, ← hd2]
  all_goals (rw [show IntKind.wrap .u16 = fun x : Int => x % 65536 from rfl]; dsimp only; split <;> omega)
theorem gDeepT (pairs : List Pr) (pivots : List L) (kids : List Ed) (buf : List Ms) : Good Try.prog 134 [.agg (Nd.av ⟨true, pairs, pivots, kids, buf⟩)] [] (.i .u16 (deepN ⟨true, pairs, pivots, kids, buf⟩)) [] := by
  refine Good.w tabOk mixed Try.func134 (N := 40) (by kernel_rfl) rfl (by (repeat (first | exact LE.nil | apply LE.cons)); done) (by (repeat (first | exact LE.nil | apply LE.cons)); done) fun D hD F => ?_
  repeat' (first
    | apply AO.nil
    | (apply AO.kIx; first | refine AO.sIxN (h := ?_) | refine AO.sIx (h := ?_) | refine AO.sP (h := ?_) | refine AO.sPi (h := ?_))
    | (apply AO.kBox; refine AO.sBox (h := ?_))
    | (apply AO.kAlloc; refine AO.sAlloc (h := ?_))
    | (apply AO.kStore; first | refine AO.sStore (h := ?_) | refine AO.sStB (h := ?_))
    | (apply AO.kAdd; refine AO.sAdd (h := ?_))
    | (apply AO.kP; first | refine AO.sP (h := ?_) | refine AO.sPi (h := ?_) | refine AO.sLoadB (h := ?_))
    | apply AW.seq
    | (apply AW.kR; refine AW.sR (h := ?_))
    | apply AW.skip
    | apply AW.block
    | apply AW.out
    | (apply AW.kE; refine AW.sE (h := ?_))
    | apply AW.label
    | ((first | (apply AW.kC; refine AW.sC (h1 := fun h => ?_) (h2 := fun h => ?_))) <;> (try (first | exact Bool.noConfusion h | exact absurd h (by decide) | (simp at h; done) | (rw [h]; try simp only [nrm] at h; try rw [h]; try (exfalso; omega)) | skip))))
  exact AW.ret (hD rfl (Lx.i rfl))
theorem gDeep (n : Nd) (hs : n.small) : Good Try.prog 134 [.agg n.av] [] (.i .u16 (deepN n)) [] := by
  obtain ⟨leaf, pairs, pivots, kids, buf⟩ := n
  cases leaf
  · exact gDeepF _ _ _ _ hs
  · exact gDeepT _ _ _ _
theorem gDeepF' (pairs : List Pr) (pivots : List L) (kids : List Ed) (buf : List Ms) (hs : (⟨false, pairs, pivots, kids, buf⟩ : Nd).small) : Good Try.prog 88 [.agg (Nd.av ⟨false, pairs, pivots, kids, buf⟩)] [] (.i .u16 (deepN ⟨false, pairs, pivots, kids, buf⟩)) [] := by
  have hs3 : kids.length ≤ 1000000 := hs.kids
  have hs4 : buf.length ≤ 1000000 := hs.buf
  have l3 : (kids.map Ed.av).length = kids.length := by simp
  have l4 : (buf.map Ms.av).length = buf.length := by simp
  refine Good.w tabOk mixed Try.func88 (N := 68) (by kernel_rfl) rfl (by (repeat (first | exact LE.nil | apply LE.cons)); done) (by (repeat (first | exact LE.nil | apply LE.cons)); done) fun D hD F => ?_
  repeat' (first
    | apply AO.nil
    | (apply AO.kIx; first | refine AO.sIxN (h := ?_) | refine AO.sIx (h := ?_) | refine AO.sP (h := ?_) | refine AO.sPi (h := ?_))
    | (apply AO.kBox; refine AO.sBox (h := ?_))
    | (apply AO.kAdd; refine AO.sAdd (h := ?_))
    | (apply AO.kCv; first | refine AO.sBytes (h := ?_) | refine AO.sStr (h := ?_) | refine AO.sStrR (h := ?_))
    | (apply AO.kP; first | refine AO.sP (h := ?_) | refine AO.sPi (h := ?_) | refine AO.sLoadB (h := ?_))
    | apply AW.seq
    | (apply AW.kR; refine AW.sR (h := ?_))
    | apply AW.skip
    | apply AW.block
    | apply AW.out
    | (apply AW.kE; refine AW.sE (h := ?_))
    | apply AW.label
    | ((first | (apply AO.kG; first | refine AO.sgt (h1 := fun h => ?_) (h2 := fun h => ?_) | refine AO.sgf (h1 := fun h => ?_) (h2 := fun h => ?_) | refine AO.sgs (h := ?_)) | (apply AW.kC; refine AW.sC (h1 := fun h => ?_) (h2 := fun h => ?_))) <;> (try (first | exact Bool.noConfusion h | exact absurd h (by decide) | (simp at h; done) | (rw [h]; try simp only [nrm] at h; try rw [h]; try (exfalso; omega)) | skip))))
  refine AW.loopI (fun x : Nat × Nat => x.1 ≤ kids.length ∧ x.2 = (kids.take x.1).foldl dpK 0) (fun x => ⟨[(1, .ptr 1 0), (3, .i .i64 x.2), (10, .i .i64 kids.length), (11, .i .i64 x.1)], [(1, .bx [.b false, .sh 2 (pairs.map Pr.av), .sh 1 (pivots.map sav), .sh 4 (kids.map Ed.av), .sh 6 (buf.map Ms.av)])]⟩) (fun x => kids.length - x.1) (0, 0) ⟨by simp, by simp⟩ (by (constructor <;> (repeat' (first | exact LeT.nil | exact LeB.nil | apply LeT.cons | apply LeB.cons | exact Ol.refl | apply Lx.s | apply Lx.b | apply Lx.i | exact Lx.refl)) <;> (first | rfl | assumption | omega | (simp only [List.length_map, BS_len]; done) | skip))) fun m ⟨q, d⟩ ⟨hn, hd⟩ ih => ?_
  dsimp only at hn hd ih ⊢
  have lw := (kids.getD q default).deep.isLt
  have w : IntKind.i64.wrap ((kids.getD q default).deep.toNat : Int) = ((kids.getD q default).deep.toNat : Int) := wrap64 (by omega)
  repeat' (first
    | apply AO.nil
    | (apply AO.kIx; first | refine AO.sIxN (hm := by first | decide | omega | assumption | (simp only [List.length_map]; omega)) (h := ?_) | refine AO.sIx (hm := by first | decide | omega | assumption | (simp only [List.length_map]; omega)) (h := ?_) | refine AO.sP (h := ?_) | refine AO.sPi (hq := by first | decide | omega | assumption | (simp only [List.length_map]; omega)) (h := ?_))
    | (apply AO.kBox; refine AO.sBox (h := ?_))
    | (apply AO.kAdd; refine AO.sAdd (hr := by first | decide | omega | assumption | (simp only [List.length_map]; omega)) (h := ?_))
    | (apply AO.kCv; first | refine AO.sBytes (h := ?_) | refine AO.sStr (h := ?_) | refine AO.sStrR (h := ?_))
    | (apply AO.kP; first | refine AO.sP (h := ?_) | refine AO.sPi (hq := by first | decide | omega | assumption | (simp only [List.length_map]; omega)) (h := ?_) | refine AO.sLoadB (ho := by first | decide | omega | assumption | (simp only [List.length_map]; omega)) (h := ?_))
    | apply AW.seq
    | (apply AW.kR; refine AW.sR (h := ?_))
    | apply AW.skip
    | apply AW.block
    | apply AW.out
    | (apply AW.kE; refine AW.sE (h := ?_))
    | apply AW.label
    | ((first | (apply AO.kG; first | refine AO.sgt (h1 := fun h => ?_) (h2 := fun h => ?_) | refine AO.sgf (h1 := fun h => ?_) (h2 := fun h => ?_) | refine AO.sgs (h := ?_)) | (apply AW.kC; refine AW.sC (h1 := fun h => ?_) (h2 := fun h => ?_))) <;> (try (first | exact Bool.noConfusion h | exact absurd h (by decide) | (simp at h; done) | (rw [h]; try simp only [nrm] at h; try rw [h]; try (exfalso; omega)) | skip))))
  · have hq : q < kids.length := by omega
    rw [w] at h
    exact ih (q + 1, max d (kids.getD q default).deep.toNat) _ ⟨by dsimp only; omega, by dsimp only; rw [hd, foldl_more hq]; rfl⟩ (by dsimp only; omega) (by rw [w]; (constructor <;> (repeat' (first | exact LeT.nil | exact LeB.nil | apply LeT.cons | apply LeB.cons | exact Ol.refl | apply Lx.s | apply Lx.b | apply Lx.i | exact Lx.refl)) <;> (first | rfl | assumption | omega | (simp only [List.length_map, BS_len]; done) | skip)))
  · have hq : q < kids.length := by omega
    rw [w] at h
    exact ih (q + 1, d) _ ⟨by dsimp only; omega, by dsimp only; rw [foldl_more hq, ← hd, dpK]; omega⟩ (by dsimp only; omega) (by (constructor <;> (repeat' (first | exact LeT.nil | exact LeB.nil | apply LeT.cons | apply LeB.cons | exact Ol.refl | apply Lx.s | apply Lx.b | apply Lx.i | exact Lx.refl)) <;> (first | rfl | assumption | omega | (simp only [List.length_map, BS_len]; done) | skip)))
  all_goals (obtain rfl : q = kids.length := by omega)
  all_goals rw [List.take_length] at hd
  all_goals (refine AW.loopI (fun x : Nat × Nat => x.1 ≤ buf.length ∧ x.2 = (buf.take x.1).foldl dpM d) (fun x => ⟨[(1, .ptr 1 0), (3, .i .i64 x.2), (33, .i .i64 buf.length), (34, .i .i64 x.1)], [(1, .bx [.b false, .sh 2 (pairs.map Pr.av), .sh 1 (pivots.map sav), .sh 4 (kids.map Ed.av), .sh 6 (buf.map Ms.av)])]⟩) (fun x => buf.length - x.1) (0, d) ⟨by simp, by simp⟩ (by (constructor <;> (repeat' (first | exact LeT.nil | exact LeB.nil | apply LeT.cons | apply LeB.cons | exact Ol.refl | apply Lx.s | apply Lx.b | apply Lx.i | exact Lx.refl)) <;> (first | rfl | assumption | omega | (simp only [List.length_map, BS_len]; done) | skip))) fun m ⟨q2, d2⟩ ⟨hn2, hd2⟩ ih2 => ?_)
  all_goals dsimp only at hn2 hd2 ih2 ⊢
  all_goals (have lw2 := (buf.getD q2 default).deep.isLt)
  all_goals (have w2 : IntKind.i64.wrap ((buf.getD q2 default).deep.toNat : Int) = ((buf.getD q2 default).deep.toNat : Int) := wrap64 (by omega))
  all_goals (have lM : d2 ≤ 65535 := by rw [hd2]; exact dpM_le (by rw [hd]; exact dpK_le (by omega)))
  all_goals repeat' (first
    | apply AO.nil
    | (apply AO.kIx; first | refine AO.sIxN (hm := by first | decide | omega | assumption | (simp only [List.length_map]; omega)) (h := ?_) | refine AO.sIx (hm := by first | decide | omega | assumption | (simp only [List.length_map]; omega)) (h := ?_) | refine AO.sP (h := ?_) | refine AO.sPi (hq := by first | decide | omega | assumption | (simp only [List.length_map]; omega)) (h := ?_))
    | (apply AO.kBox; refine AO.sBox (h := ?_))
    | (apply AO.kAdd; refine AO.sAdd (hr := by first | decide | omega | assumption | (simp only [List.length_map]; omega)) (h := ?_))
    | (apply AO.kCv; first | refine AO.sBytes (h := ?_) | refine AO.sStr (h := ?_) | refine AO.sStrR (h := ?_))
    | (apply AO.kP; first | refine AO.sP (h := ?_) | refine AO.sPi (hq := by first | decide | omega | assumption | (simp only [List.length_map]; omega)) (h := ?_) | refine AO.sLoadB (ho := by first | decide | omega | assumption | (simp only [List.length_map]; omega)) (h := ?_))
    | apply AW.seq
    | (apply AW.kR; refine AW.sR (h := ?_))
    | apply AW.skip
    | apply AW.block
    | apply AW.out
    | (apply AW.kE; refine AW.sE (h := ?_))
    | apply AW.label
    | ((first | (apply AO.kG; first | refine AO.sgt (h1 := fun h => ?_) (h2 := fun h => ?_) | refine AO.sgf (h1 := fun h => ?_) (h2 := fun h => ?_) | refine AO.sgs (h := ?_)) | (apply AW.kC; refine AW.sC (h1 := fun h => ?_) (h2 := fun h => ?_))) <;> (try (first | exact Bool.noConfusion h | exact absurd h (by decide) | (simp at h; done) | (rw [h]; try simp only [nrm] at h; try rw [h]; try (exfalso; omega)) | skip))))
  · have hq : q2 < buf.length := by omega
    rw [w2] at h
    exact ih2 (q2 + 1, max d2 (buf.getD q2 default).deep.toNat) _ ⟨by dsimp only; omega, by dsimp only; rw [hd2, foldl_more hq, dpM, if_pos (by rw [← k3]; assumption)]⟩ (by dsimp only; omega) (by rw [w2]; (constructor <;> (repeat' (first | exact LeT.nil | exact LeB.nil | apply LeT.cons | apply LeB.cons | exact Ol.refl | apply Lx.s | apply Lx.b | apply Lx.i | exact Lx.refl)) <;> (first | rfl | assumption | omega | (simp only [List.length_map, BS_len]; done) | skip)))
  · have hq : q2 < buf.length := by omega
    rw [w2] at h
    exact ih2 (q2 + 1, d2) _ ⟨by dsimp only; omega, by dsimp only; rw [foldl_more hq, ← hd2, dpM, if_pos (by rw [← k3]; assumption)]; omega⟩ (by dsimp only; omega) (by (constructor <;> (repeat' (first | exact LeT.nil | exact LeB.nil | apply LeT.cons | apply LeB.cons | exact Ol.refl | apply Lx.s | apply Lx.b | apply Lx.i | exact Lx.refl)) <;> (first | rfl | assumption | omega | (simp only [List.length_map, BS_len]; done) | skip)))
  · have hq : q2 < buf.length := by omega
    exact ih2 (q2 + 1, d2) _ ⟨by dsimp only; omega, by dsimp only; rw [hd2, foldl_more hq, dpM, if_neg (by rw [← k3]; assumption)]⟩ (by dsimp only; omega) (by (constructor <;> (repeat' (first | exact LeT.nil | exact LeB.nil | apply LeT.cons | apply LeB.cons | exact Ol.refl | apply Lx.s | apply Lx.b | apply Lx.i | exact Lx.refl)) <;> (first | rfl | assumption | omega | (simp only [List.length_map, BS_len]; done) | skip)))
  all_goals (obtain rfl : q2 = buf.length := by omega)
  all_goals rw [List.take_length] at hd2
  all_goals refine AW.ret (hD rfl (Lx.i ?_))
  all_goals (have eD : deepN ⟨false, pairs, pivots, kids, buf⟩ = min (buf.foldl dpM (kids.foldl dpK 0)) 65534 + 1 := rfl)
  all_goals rw [eD, ← hd, ← hd2]
  · omega
  all_goals (rw [show IntKind.wrap .u16 = fun x : Int => x % 65536 from rfl]; dsimp only; omega)
theorem gDeepT' (pairs : List Pr) (pivots : List L) (kids : List Ed) (buf : List Ms) : Good Try.prog 88 [.agg (Nd.av ⟨true, pairs, pivots, kids, buf⟩)] [] (.i .u16 (deepN ⟨true, pairs, pivots, kids, buf⟩)) [] := by
  refine Good.w tabOk mixed Try.func88 (N := 68) (by kernel_rfl) rfl (by (repeat (first | exact LE.nil | apply LE.cons)); done) (by (repeat (first | exact LE.nil | apply LE.cons)); done) fun D hD F => ?_
  repeat' (first
    | apply AO.nil
    | (apply AO.kIx; first | refine AO.sIxN (h := ?_) | refine AO.sIx (h := ?_) | refine AO.sP (h := ?_) | refine AO.sPi (h := ?_))
    | (apply AO.kBox; refine AO.sBox (h := ?_))
    | (apply AO.kAdd; refine AO.sAdd (h := ?_))
    | (apply AO.kCv; first | refine AO.sBytes (h := ?_) | refine AO.sStr (h := ?_) | refine AO.sStrR (h := ?_))
    | (apply AO.kP; first | refine AO.sP (h := ?_) | refine AO.sPi (h := ?_) | refine AO.sLoadB (h := ?_))
    | apply AW.seq
    | (apply AW.kR; refine AW.sR (h := ?_))
    | apply AW.skip
    | apply AW.block
    | apply AW.out
    | (apply AW.kE; refine AW.sE (h := ?_))
    | apply AW.label
    | ((first | (apply AO.kG; first | refine AO.sgt (h1 := fun h => ?_) (h2 := fun h => ?_) | refine AO.sgf (h1 := fun h => ?_) (h2 := fun h => ?_) | refine AO.sgs (h := ?_)) | (apply AW.kC; refine AW.sC (h1 := fun h => ?_) (h2 := fun h => ?_))) <;> (try (first | exact Bool.noConfusion h | exact absurd h (by decide) | (simp at h; done) | (rw [h]; try simp only [nrm] at h; try rw [h]; try (exfalso; omega)) | skip))))
  exact AW.ret (hD rfl (Lx.i rfl))
theorem gDeep' (n : Nd) (hs : n.small) : Good Try.prog 88 [.agg n.av] [] (.i .u16 (deepN n)) [] := by
  obtain ⟨leaf, pairs, pivots, kids, buf⟩ := n
  cases leaf
  · exact gDeepF' _ _ _ _ hs
  · exact gDeepT' _ _ _ _

/-! ### targets -/
def bav (b : B32) : List AV := [.i .u32 (b.toNat : Int)]
def tgK (l : List Ed) : List B32 := l.map Ed.block
def tgM (l : List Ms) : List B32 := (l.filter (fun m => m.kind == 3)).map Ms.block
def tgN (n : Nd) : List B32 := tgK n.kids ++ tgM n.buf
theorem filt3_yes {l : List Ms} {q : Nat} (h : q < l.length) (hk : (l.getD q default).kind = 3) : tgM (l.take (q + 1)) = tgM (l.take q) ++ [(l.getD q default).block] := by
  unfold tgM; rw [takeD h, List.filter_append, List.filter_cons_of_pos (by rw [hk]; rfl), List.map_append]; rfl
theorem filt3_no {l : List Ms} {q : Nat} (h : q < l.length) (hk : ¬ (l.getD q default).kind = 3) : tgM (l.take (q + 1)) = tgM (l.take q) := by
  unfold tgM; rw [takeD h, List.filter_append, List.filter_cons_of_neg (by simpa using hk), List.filter_nil, List.append_nil]
theorem tgM_len (l : List Ms) : (tgM l).length ≤ l.length := by
  rw [tgM, List.length_map]; exact List.length_filter_le _ _
end Go.Proofs.Ytocppeifkjdeiaa.Mv

/- Nodes: targets, own lists. Under no condition. -/
namespace Go.Proofs.Ytocppeifkjdeiaa.Mv
open Go Go.Proofs
set_option linter.unusedSimpArgs false
set_option linter.unusedVariables false
set_option maxRecDepth 10000
set_option maxHeartbeats 4000000
attribute [local irreducible] AW AO AR

theorem Lx.grE {H : Gam → Nm → Prop} {t : Nat} {e : TypeId} {sz : Nat} {rows rows' : List (List AV)} (h : rows = rows') : Lx H (.gr t e sz rows) (.sh sz rows') := h ▸ Lx.gr
theorem gTargets' (n : Nd) (hs : n.small) : Good Try.prog 89 [.agg n.av] [] (.sh 1 ((tgN n).map bav)) [] := by
  obtain ⟨leaf, pairs, pivots, kids, buf⟩ := n
  have hs3 : kids.length ≤ 1000000 := hs.kids
  have hs4 : buf.length ≤ 1000000 := hs.buf
  have l3 : (kids.map Ed.av).length = kids.length := by simp
  have l4 : (buf.map Ms.av).length = buf.length := by simp
  refine Good.w tabOk mixed Try.func89 (N := 47) (by kernel_rfl) rfl (by (repeat (first | exact LE.nil | apply LE.cons)); done) (by (repeat (first | exact LE.nil | apply LE.cons)); done) fun D hD F => ?_
  repeat' (first
    | apply AO.nil
    | (apply AO.kBuildS; first | refine AO.sBuildT (h := ?_) | refine AO.sBuildS (h := ?_))
    | (apply AO.kApp; first | refine AO.sGrowT (h := ?_) | refine AO.sNewT (h := ?_) | refine AO.sGrowBT (h := ?_) | refine AO.sGrow (h := ?_) | refine AO.sNewr (h := ?_))
    | (apply AO.kIx; first | refine AO.sIxN (h := ?_) | refine AO.sIx (h := ?_) | refine AO.sP (h := ?_) | refine AO.sPi (h := ?_))
    | (apply AO.kBox; refine AO.sBox (h := ?_))
    | (apply AO.kAdd; refine AO.sAdd (h := ?_))
    | (apply AO.kP; first | refine AO.sP (h := ?_) | refine AO.sPi (h := ?_) | refine AO.sLoadB (h := ?_) | refine AO.sSameB (h := ?_))
    | (apply AO.kP; refine AO.eqNil (h1 := fun h => ?_) (h2 := ?_))
    | apply AW.seq
    | (apply AW.kR; refine AW.sR (h := ?_))
    | apply AW.skip
    | apply AW.block
    | apply AW.out
    | (apply AW.kE; refine AW.sE (h := ?_))
    | apply AW.label
    | ((first | (apply AW.kC; refine AW.sC (h1 := fun h => ?_) (h2 := fun h => ?_))) <;> (try (first | exact Bool.noConfusion h | exact absurd h (by decide) | (simp at h; done) | (rw [h]; try simp only [nrm] at h; try rw [h]; try (exfalso; omega)) | skip))))
  refine AW.loopI (fun x : Nat × List B32 => x.1 ≤ kids.length ∧ x.2 = tgK (kids.take x.1)) (fun x => ⟨[(1, .ptr 1 0), (3, .gr 6 46 1 (x.2.map bav)), (9, .i .i64 (kids.length : Nat)), (10, .i .i64 x.1)], [(1, .bx [.b leaf, .sh 2 (pairs.map Pr.av), .sh 1 (pivots.map sav), .sh 4 (kids.map Ed.av), .sh 6 (buf.map Ms.av)]), (6, .gw (x.2.map bav).length)]⟩) (fun x => kids.length - x.1) (0, []) ⟨by simp, rfl⟩ (by (constructor <;> (repeat' (first | exact LeT.nil | exact LeB.nil | apply LeT.cons | apply LeB.cons | exact Ol.refl | apply Lx.s | apply Lx.b | apply Lx.i | exact Lx.refl)) <;> (first | rfl | assumption | omega | (simp only [List.length_map, BS_len]; done) | skip))) fun m ⟨q, o⟩ ⟨hn, ho⟩ ih => ?_
  dsimp only at hn ho ih ⊢
  have lo : o.length ≤ q := by rw [ho, tgK, List.length_map, List.length_take]; omega
  have lo' : (o.map bav).length = o.length := by simp
  repeat' (first
    | apply AO.nil
    | (apply AO.kBuildS; first | refine AO.sBuildT (h := ?_) | refine AO.sBuildS (h := ?_))
    | (apply AO.kApp; first | refine AO.sGrowT (h := ?_) | refine AO.sNewT (h := ?_) | refine AO.sGrowBT (h := ?_) | refine AO.sGrow (h := ?_) | refine AO.sNewr (h := ?_))
    | (apply AO.kIx; first | refine AO.sIxN (h := ?_) | refine AO.sIx (h := ?_) | refine AO.sP (h := ?_) | refine AO.sPi (h := ?_))
    | (apply AO.kBox; refine AO.sBox (h := ?_))
    | (apply AO.kAdd; refine AO.sAdd (h := ?_))
    | (apply AO.kP; first | refine AO.sP (h := ?_) | refine AO.sPi (h := ?_) | refine AO.sLoadB (h := ?_) | refine AO.sSameB (h := ?_))
    | (apply AO.kP; refine AO.eqNil (h1 := fun h => ?_) (h2 := ?_))
    | apply AW.seq
    | (apply AW.kR; refine AW.sR (h := ?_))
    | apply AW.skip
    | apply AW.block
    | apply AW.out
    | (apply AW.kE; refine AW.sE (h := ?_))
    | apply AW.label
    | ((first | (apply AW.kC; refine AW.sC (h1 := fun h => ?_) (h2 := fun h => ?_))) <;> (try (first | exact Bool.noConfusion h | exact absurd h (by decide) | (simp at h; done) | (rw [h]; try simp only [nrm] at h; try rw [h]; try (exfalso; omega)) | skip))))
  · have hq : q < kids.length := by omega
    exact ih (q + 1, o ++ [(kids.getD q default).block]) _ ⟨by dsimp only; omega, by dsimp only; rw [ho, tgK, tgK, takeD hq, List.map_append]; rfl⟩ (by dsimp only; omega) (by ((constructor <;> (repeat' (first | exact LeT.nil | exact LeB.nil | apply LeT.cons | apply LeB.cons | exact Ol.refl | apply Lx.s | apply Lx.b | apply Lx.i | exact Lx.refl)) <;> (first | rfl | assumption | omega | (simp only [List.length_map, BS_len]; done) | skip)) <;> (first | (refine Lx.eq (congrArg (AV.gr _ _ _) ?_); simp only [List.map_append, List.map_cons, List.map_nil]; rfl) | (refine Ol.eq (congrArg Ob.gw ?_); simp only [List.map_append, List.map_cons, List.map_nil, List.length_append, List.length_map, List.length_cons, List.length_nil]; done) | (refine Ol.bx ?_; (repeat' (first | exact LxL.nil | apply LxL.cons | exact Lx.refl | (refine Lx.eq (congrArg (AV.gr _ _ _) ?_); simp only [List.map_append, List.map_cons, List.map_nil]; rfl)))) | skip)))
  all_goals (obtain rfl : q = kids.length := by omega)
  all_goals rw [List.take_length] at ho
  all_goals (refine AW.loopI (fun x : Nat × List B32 => x.1 ≤ buf.length ∧ x.2 = o ++ tgM (buf.take x.1)) (fun x => ⟨[(1, .ptr 1 0), (3, .gr 6 46 1 (x.2.map bav)), (25, .i .i64 (buf.length : Nat)), (26, .i .i64 x.1)], [(1, .bx [.b leaf, .sh 2 (pairs.map Pr.av), .sh 1 (pivots.map sav), .sh 4 (kids.map Ed.av), .sh 6 (buf.map Ms.av)]), (6, .gw (x.2.map bav).length)]⟩) (fun x => buf.length - x.1) (0, o) ⟨by simp, by simp [tgM]⟩ (by (constructor <;> (repeat' (first | exact LeT.nil | exact LeB.nil | apply LeT.cons | apply LeB.cons | exact Ol.refl | apply Lx.s | apply Lx.b | apply Lx.i | exact Lx.refl)) <;> (first | rfl | assumption | omega | (simp only [List.length_map, BS_len]; done) | skip))) fun m2 ⟨q2, o2⟩ ⟨hn2, ho2⟩ ih2 => ?_)
  all_goals dsimp only at hn2 ho2 ih2 ⊢
  all_goals (have lo2 : o2.length ≤ 2000000 := (by rw [ho2, List.length_append]; have h9 := tgM_len (buf.take q2); rw [List.length_take] at h9; omega))
  all_goals (have lo2' : (o2.map bav).length = o2.length := by simp)
  all_goals repeat' (first
    | apply AO.nil
    | (apply AO.kBuildS; first | refine AO.sBuildT (h := ?_) | refine AO.sBuildS (h := ?_))
    | (apply AO.kApp; first | refine AO.sGrowT (h := ?_) | refine AO.sNewT (h := ?_) | refine AO.sGrowBT (h := ?_) | refine AO.sGrow (h := ?_) | refine AO.sNewr (h := ?_))
    | (apply AO.kIx; first | refine AO.sIxN (h := ?_) | refine AO.sIx (h := ?_) | refine AO.sP (h := ?_) | refine AO.sPi (h := ?_))
    | (apply AO.kBox; refine AO.sBox (h := ?_))
    | (apply AO.kAdd; refine AO.sAdd (h := ?_))
    | (apply AO.kP; first | refine AO.sP (h := ?_) | refine AO.sPi (h := ?_) | refine AO.sLoadB (h := ?_) | refine AO.sSameB (h := ?_))
    | (apply AO.kP; refine AO.eqNil (h1 := fun h => ?_) (h2 := ?_))
    | apply AW.seq
    | (apply AW.kR; refine AW.sR (h := ?_))
    | apply AW.skip
    | apply AW.block
    | apply AW.out
    | (apply AW.kE; refine AW.sE (h := ?_))
    | apply AW.label
    | ((first | (apply AW.kC; refine AW.sC (h1 := fun h => ?_) (h2 := fun h => ?_))) <;> (try (first | exact Bool.noConfusion h | exact absurd h (by decide) | (simp at h; done) | (rw [h]; try simp only [nrm] at h; try rw [h]; try (exfalso; omega)) | skip))))
  · have hq : q2 < buf.length := by omega
    exact ih2 (q2 + 1, o2 ++ [(buf.getD q2 default).block]) _ ⟨by dsimp only; omega, by dsimp only; rw [ho2, filt3_yes hq (by rw [← k3]; assumption), List.append_assoc]⟩ (by dsimp only; omega) (by ((constructor <;> (repeat' (first | exact LeT.nil | exact LeB.nil | apply LeT.cons | apply LeB.cons | exact Ol.refl | apply Lx.s | apply Lx.b | apply Lx.i | exact Lx.refl)) <;> (first | rfl | assumption | omega | (simp only [List.length_map, BS_len]; done) | skip)) <;> (first | (refine Lx.eq (congrArg (AV.gr _ _ _) ?_); simp only [List.map_append, List.map_cons, List.map_nil]; rfl) | (refine Ol.eq (congrArg Ob.gw ?_); simp only [List.map_append, List.map_cons, List.map_nil, List.length_append, List.length_map, List.length_cons, List.length_nil]; done) | (refine Ol.bx ?_; (repeat' (first | exact LxL.nil | apply LxL.cons | exact Lx.refl | (refine Lx.eq (congrArg (AV.gr _ _ _) ?_); simp only [List.map_append, List.map_cons, List.map_nil]; rfl)))) | skip)))
  · have hq : q2 < buf.length := by omega
    exact ih2 (q2 + 1, o2) _ ⟨by dsimp only; omega, by dsimp only; rw [ho2, filt3_no hq (by rw [← k3]; assumption)]⟩ (by dsimp only; omega) (by (constructor <;> (repeat' (first | exact LeT.nil | exact LeB.nil | apply LeT.cons | apply LeB.cons | exact Ol.refl | apply Lx.s | apply Lx.b | apply Lx.i | exact Lx.refl)) <;> (first | rfl | assumption | omega | (simp only [List.length_map, BS_len]; done) | skip)))
  all_goals (obtain rfl : q2 = buf.length := by omega)
  all_goals rw [List.take_length] at ho2
  all_goals subst ho
  all_goals exact AW.ret (hD rfl (Lx.grE (by rw [ho2]; rfl)))
/-! ### lists of one's own */ -/
theorem gCloneP (l : List Pr) (hl : l.length ≤ 1000000) : Good Try.prog 135 [.sh 2 (l.map Pr.av)] [] (.sh 2 (l.map Pr.av)) [] := by
  have ll : (l.map Pr.av).length = l.length := by simp
  refine Good.w tabOk mixed Try.func135 (N := 8) (by kernel_rfl) rfl (by (repeat (first | exact LE.nil | apply LE.cons)); done) (by (repeat (first | exact LE.nil | apply LE.cons)); done) fun D hD F => ?_
  repeat' (first
    | apply AO.nil
    | (apply AO.kBuildS; first | refine AO.sBuildT (h := ?_) | refine AO.sBuildS (h := ?_))
    | (apply AO.kApp; first | refine AO.sGrowT (h := ?_) | refine AO.sNewT (h := ?_) | refine AO.sGrowBT (h := ?_) | refine AO.sGrow (h := ?_) | refine AO.sNewr (h := ?_))
    | (apply AO.kP; first | refine AO.sP (h := ?_) | refine AO.sPi (h := ?_) | refine AO.sSameB (h := ?_))
    | (apply AO.kP; refine AO.eqNil (h1 := fun h => ?_) (h2 := ?_))
    | apply AW.seq
    | (apply AW.kR; refine AW.sR (h := ?_))
    | apply AW.skip
    | apply AW.block
    | apply AW.out
    | (apply AW.kE; refine AW.sE (h := ?_))
    | apply AW.label
    | ((first | (apply AW.kC; refine AW.sC (h1 := fun h => ?_) (h2 := fun h => ?_))) <;> (try (first | exact Bool.noConfusion h | exact absurd h (by decide) | (simp at h; done) | (rw [h]; try simp only [nrm] at h; try rw [h]; try (exfalso; omega)) | skip))))
  · have h0 : l.map Pr.av = [] := by assumption
    rw [h0] at hD; exact AW.ret (hD rfl Lx.nil)
  all_goals exact AW.ret (hD rfl (Lx.grE (by simp [BS])))
theorem gCloneE (l : List Ed) (hl : l.length ≤ 1000000) : Good Try.prog 137 [.sh 4 (l.map Ed.av)] [] (.sh 4 (l.map Ed.av)) [] := by
  have ll : (l.map Ed.av).length = l.length := by simp
  refine Good.w tabOk mixed Try.func137 (N := 8) (by kernel_rfl) rfl (by (repeat (first | exact LE.nil | apply LE.cons)); done) (by (repeat (first | exact LE.nil | apply LE.cons)); done) fun D hD F => ?_
  repeat' (first
    | apply AO.nil
    | (apply AO.kBuildS; first | refine AO.sBuildT (h := ?_) | refine AO.sBuildS (h := ?_))
    | (apply AO.kApp; first | refine AO.sGrowT (h := ?_) | refine AO.sNewT (h := ?_) | refine AO.sGrowBT (h := ?_) | refine AO.sGrow (h := ?_) | refine AO.sNewr (h := ?_))
    | (apply AO.kP; first | refine AO.sP (h := ?_) | refine AO.sPi (h := ?_) | refine AO.sSameB (h := ?_))
    | (apply AO.kP; refine AO.eqNil (h1 := fun h => ?_) (h2 := ?_))
    | apply AW.seq
    | (apply AW.kR; refine AW.sR (h := ?_))
    | apply AW.skip
    | apply AW.block
    | apply AW.out
    | (apply AW.kE; refine AW.sE (h := ?_))
    | apply AW.label
    | ((first | (apply AW.kC; refine AW.sC (h1 := fun h => ?_) (h2 := fun h => ?_))) <;> (try (first | exact Bool.noConfusion h | exact absurd h (by decide) | (simp at h; done) | (rw [h]; try simp only [nrm] at h; try rw [h]; try (exfalso; omega)) | skip))))
  · have h0 : l.map Ed.av = [] := by assumption
    rw [h0] at hD; exact AW.ret (hD rfl Lx.nil)
  all_goals exact AW.ret (hD rfl (Lx.grE (by simp [BS])))
theorem gCloneM (l : List Ms) (hl : l.length ≤ 1000000) : Good Try.prog 138 [.sh 6 (l.map Ms.av)] [] (.sh 6 (l.map Ms.av)) [] := by
  have ll : (l.map Ms.av).length = l.length := by simp
  refine Good.w tabOk mixed Try.func138 (N := 8) (by kernel_rfl) rfl (by (repeat (first | exact LE.nil | apply LE.cons)); done) (by (repeat (first | exact LE.nil | apply LE.cons)); done) fun D hD F => ?_
  repeat' (first
    | apply AO.nil
    | (apply AO.kBuildS; first | refine AO.sBuildT (h := ?_) | refine AO.sBuildS (h := ?_))
    | (apply AO.kApp; first | refine AO.sGrowT (h := ?_) | refine AO.sNewT (h := ?_) | refine AO.sGrowBT (h := ?_) | refine AO.sGrow (h := ?_) | refine AO.sNewr (h := ?_))
    | (apply AO.kP; first | refine AO.sP (h := ?_) | refine AO.sPi (h := ?_) | refine AO.sSameB (h := ?_))
    | (apply AO.kP; refine AO.eqNil (h1 := fun h => ?_) (h2 := ?_))
    | apply AW.seq
    | (apply AW.kR; refine AW.sR (h := ?_))
    | apply AW.skip
    | apply AW.block
    | apply AW.out
    | (apply AW.kE; refine AW.sE (h := ?_))
    | apply AW.label
    | ((first | (apply AW.kC; refine AW.sC (h1 := fun h => ?_) (h2 := fun h => ?_))) <;> (try (first | exact Bool.noConfusion h | exact absurd h (by decide) | (simp at h; done) | (rw [h]; try simp only [nrm] at h; try rw [h]; try (exfalso; omega)) | skip))))
  · have h0 : l.map Ms.av = [] := by assumption
    rw [h0] at hD; exact AW.ret (hD rfl Lx.nil)
  all_goals exact AW.ret (hD rfl (Lx.grE (by simp [BS])))
theorem gCloneS (l : List L) (hl : l.length ≤ 1000000) : Good Try.prog 136 [.sh 1 (l.map sav)] [] (.sh 1 (l.map sav)) [] := by
  have ll : (l.map sav).length = l.length := by simp
  refine Good.w tabOk mixed Try.func136 (N := 8) (by kernel_rfl) rfl (by (repeat (first | exact LE.nil | apply LE.cons)); done) (by (repeat (first | exact LE.nil | apply LE.cons)); done) fun D hD F => ?_
  repeat' (first
    | apply AO.nil
    | (apply AO.kBuildS; first | refine AO.sBuildT (h := ?_) | refine AO.sBuildS (h := ?_))
    | (apply AO.kApp; first | refine AO.sGrowT (h := ?_) | refine AO.sNewT (h := ?_) | refine AO.sGrowBT (h := ?_) | refine AO.sGrow (h := ?_) | refine AO.sNewr (h := ?_))
    | (apply AO.kP; first | refine AO.sP (h := ?_) | refine AO.sPi (h := ?_) | refine AO.sSameB (h := ?_))
    | (apply AO.kP; refine AO.eqNil (h1 := fun h => ?_) (h2 := ?_))
    | apply AW.seq
    | (apply AW.kR; refine AW.sR (h := ?_))
    | apply AW.skip
    | apply AW.block
    | apply AW.out
    | (apply AW.kE; refine AW.sE (h := ?_))
    | apply AW.label
    | ((first | (apply AW.kC; refine AW.sC (h1 := fun h => ?_) (h2 := fun h => ?_))) <;> (try (first | exact Bool.noConfusion h | exact absurd h (by decide) | (simp at h; done) | (rw [h]; try simp only [nrm] at h; try rw [h]; try (exfalso; omega)) | skip))))
  · have h0 : l.map sav = [] := by assumption
    rw [h0] at hD; exact AW.ret (hD rfl Lx.nil)
  all_goals exact AW.ret (hD rfl (Lx.grE (by simp [BS])))
end Go.Proofs.Ytocppeifkjdeiaa.Mv

/- Where a key leads on: to a target. Under no condition. -/
namespace Go.Proofs.Ytocppeifkjdeiaa.Mv
open Go Go.Proofs
set_option linter.unusedSimpArgs false
set_option linter.unusedVariables false
set_option maxRecDepth 10000
set_option maxHeartbeats 4000000
attribute [local irreducible] AW AO AR

theorem dpK_ge {l : List Ed} : ∀ {d : Nat}, d ≤ l.foldl dpK d ∧ ∀ e ∈ l, e.deep.toNat ≤ l.foldl dpK d := by
  induction l with
  | nil => intro d; exact ⟨Nat.le_refl _, fun e h => by simp at h⟩
  | cons x l ih =>
    intro d
    obtain ⟨a, b⟩ := ih (d := dpK d x)
    rw [List.foldl_cons]
    have c : d ≤ dpK d x ∧ x.deep.toNat ≤ dpK d x := by unfold dpK; omega
    exact ⟨Nat.le_trans c.1 a, fun e h => by
      rcases List.mem_cons.1 h with rfl | h
      · exact Nat.le_trans c.2 a
      · exact b e h⟩
theorem dpM_ge {l : List Ms} : ∀ {d : Nat}, d ≤ l.foldl dpM d ∧ ∀ e ∈ l, e.kind = 3 → e.deep.toNat ≤ l.foldl dpM d := by
  induction l with
  | nil => intro d; exact ⟨Nat.le_refl _, fun e h => by simp at h⟩
  | cons x l ih =>
    intro d
    obtain ⟨a, b⟩ := ih (d := dpM d x)
    rw [List.foldl_cons]
    have c : d ≤ dpM d x ∧ (x.kind = 3 → x.deep.toNat ≤ dpM d x) := by
      unfold dpM
      split
      · exact ⟨by omega, fun _ => by omega⟩
      · rename_i h; exact ⟨Nat.le_refl _, fun h' => absurd h' h⟩
    exact ⟨Nat.le_trans c.1 a, fun e h h3 => by
      rcases List.mem_cons.1 h with rfl | h
      · exact Nat.le_trans (c.2 h3) a
      · exact b e h h3⟩
theorem onW_yes {b d s a k} (h : (onW b d s a k).kind = 2) : (onW b d s a k).block = b ∧ (onW b d s a k).deep = d := by
  unfold onW at h ⊢
  split
  · exact ⟨rfl, rfl⟩
  · rename_i g; rw [if_neg g] at h; cases h
/-- What a way that leads nowhere on is. -/
def plainW (w : Wy) : Prop := w.kind.toNat ≤ 1 ∧ w.block = 0 ∧ w.key = []
theorem step_two {n : Nd} {k : L} (h : (stepN n k).kind = 2) : (stepN n k).block ∈ tgN n ∧ ((stepN n k).deep.toNat < deepN n ∨ deepN n = 65535) := by
  have z : ¬ wayZ.kind = 2 := by decide
  have zv : ∀ v, ¬ (wayV v).kind = 2 := fun v => by show ¬ (1 : UInt8) = 2; decide
  have fin : ∀ {b : B32} {d : W16}, n.leaf = false → b ∈ tgN n → d.toNat ≤ n.buf.foldl dpM (n.kids.foldl dpK 0) → b ∈ tgN n ∧ (d.toNat < deepN n ∨ deepN n = 65535) := fun hl h1 h2 => ⟨h1, by
    unfold deepN
    rw [if_neg (by rw [hl]; decide)]
    omega⟩
  unfold stepN at h ⊢
  split
  · rename_i h0
    rw [if_pos h0] at h
    unfold leadN at h ⊢
    split
    · rename_i h1
      rw [if_pos h1] at h
      cases g : getP n.pairs k with
      | none => rw [g] at h; exact absurd h z
      | some v => rw [g] at h; exact absurd h (zv v)
    · rename_i h1
      rw [if_neg h1] at h
      have hl : n.leaf = false := by simpa using h1
      split
      · rename_i h2
        rw [if_pos h2] at h
        obtain ⟨e1, e2⟩ := onW_yes h
        rw [e1, e2]
        obtain ⟨f1, f2, f3⟩ := kidL_may (k := k) (may_inner h0 hl).1
        have hm : n.kids.getD (kidL n k n.kids.length).toNat default ∈ n.kids := by
          rw [List.getD_eq_getElem?_getD, List.getElem?_eq_getElem (show (kidL n k n.kids.length).toNat < n.kids.length by rw [f1]; omega)]
          exact List.getElem_mem _
        exact fin hl (List.mem_append.2 (.inl (List.mem_map.2 ⟨_, hm, rfl⟩))) (Nat.le_trans (dpK_ge.2 _ hm) dpM_ge.1)
      · rename_i h2
        rw [if_neg h2] at h
        split
        · rename_i h3; rw [if_pos h3] at h; exact absurd h (zv _)
        · rename_i h3
          rw [if_neg h3] at h
          split
          · rename_i h4
            rw [if_pos h4] at h
            obtain ⟨e1, e2⟩ := onW_yes h
            rw [e1, e2]
            obtain ⟨i1, i2⟩ := lastI_lt n.buf k n.buf.length
            have hm : n.buf.getD (lastI n.buf k n.buf.length).toNat default ∈ n.buf := by
              rw [List.getD_eq_getElem?_getD, List.getElem?_eq_getElem (show (lastI n.buf k n.buf.length).toNat < n.buf.length by omega)]
              exact List.getElem_mem _
            exact fin hl (List.mem_append.2 (.inr (List.mem_map.2 ⟨_, List.mem_filter.2 ⟨hm, by rw [h4]; rfl⟩, rfl⟩))) (dpM_ge.2 _ hm h4)
          · rename_i h4; rw [if_neg h4] at h; exact absurd h z
  · rename_i h0
    rw [if_neg h0] at h
    exact absurd h z
def fd (l : List B32) (b : B32) (q : Nat) : Bool := (l.take q).any fun x => (x.toNat : Int) == (b.toNat : Int)
theorem tgN_len (n : Nd) : (tgN n).length ≤ n.kids.length + n.buf.length := by
  unfold tgN tgK
  rw [List.length_append, List.length_map]
  have := tgM_len n.buf
  omega
end Go.Proofs.Ytocppeifkjdeiaa.Mv

/- Calls to which a box is lent. Under no condition. -/
namespace Go.Proofs.Ytocppeifkjdeiaa.Mv
open Go Go.Proofs
set_option linter.unusedSimpArgs false
set_option linter.unusedVariables false

theorem ren_no (ρ : Nat → Nat) (c : AV) (h : c.refs = []) : c.ren ρ = c := by
  match c with
  | .agg cs => simp only [AV.ren, renL_eq]; congr 1; exact go cs h
  | .tup cs => simp only [AV.ren, renL_eq]; congr 1; exact go cs h
  | .clo f cs => simp only [AV.ren, renL_eq]; congr 1; exact go cs h
  | .gr .. => simp [AV.refs] at h
  | .ptr .. => simp [AV.refs] at h
  | .bsl .. => simp [AV.refs] at h
  | .bsc .. => simp [AV.refs] at h
  | .mpv _ => simp [AV.refs] at h
  | .any | .u | .x _ | .i .. | .b _ | .s _ | .nil | .sh .. | .shc .. | .pel _ | .fv _ => rfl
where go : (cs : List AV) → AV.refs.refsL cs = [] → cs.map (AV.ren ρ) = cs
  | [], _ => rfl
  | c :: cs, h => by
    simp only [AV.refs.refsL, List.append_eq_nil_iff] at h
    rw [List.map_cons, ren_no ρ c h.1, go cs h.2]
section
variable {P : Program} {tab : Tab} {N : Nat} {D : St → Prop} {F : Fx P tab N D} {ops : Array Oper} {k : List It} {l : List Oper} {T : List (Nat × AV)} {B : List (Nat × Ob)} {acc : List (List Nat × Eff)} {d : Nat} {ty : TypeId} {tg : List Nat}
end
end Go.Proofs.Ytocppeifkjdeiaa.Mv

/- Calls to which several objects are lent. Under no condition. -/
namespace Go.Proofs.Ytocppeifkjdeiaa.Mv
open Go Go.Proofs
set_option linter.unusedSimpArgs false
set_option linter.unusedVariables false

/-- What a callee's tags are in the caller. -/
def rho : List (Nat × Nat) → Nat → Nat
  | [], t => t
  | (a, b) :: r, t => cond (Nat.beq t a) b (rho r t)
inductive Rho : List (Nat × Nat) → Nat → Nat → Prop
  | nil {t} : Rho [] t t
  | here {a b r} : Rho ((a, b) :: r) a b
  | there {a b r t t'} : Nat.beq t a = false → Rho r t t' → Rho ((a, b) :: r) t t'
theorem Rho.eq {τ t t'} (h : Rho τ t t') : rho τ t = t' := by
  induction h with
  | nil => rfl
  | here => simp [rho]
  | there h1 h2 ih => simp only [rho, h1, cond_false]; exact ih
mutual
/-- A value by the caller's tags. -/
inductive Rn (τ : List (Nat × Nat)) : AV → AV → Prop
  | any : Rn τ .any .any
  | u : Rn τ .u .u
  | x {v} : Rn τ (.x v) (.x v)
  | i {k n} : Rn τ (.i k n) (.i k n)
  | b {t} : Rn τ (.b t) (.b t)
  | s {l} : Rn τ (.s l) (.s l)
  | nil : Rn τ .nil .nil
  | sh {sz rows} : Rn τ (.sh sz rows) (.sh sz rows)
  | pel {cs} : Rn τ (.pel cs) (.pel cs)
  | gr {t t' e sz rows} : Rho τ t t' → Rn τ (.gr t e sz rows) (.gr t' e sz rows)
  | ptr {t t' o} : Rho τ t t' → Rn τ (.ptr t o) (.ptr t' o)
  | bsl {t t' a n sz} : Rho τ t t' → Rn τ (.bsl t a n sz) (.bsl t' a n sz)
  | mpv {t t'} : Rho τ t t' → Rn τ (.mpv t) (.mpv t')
  | agg {cs ds} : RnL τ cs ds → Rn τ (.agg cs) (.agg ds)
  | tup {cs ds} : RnL τ cs ds → Rn τ (.tup cs) (.tup ds)
  | clo {f cs ds} : RnL τ cs ds → Rn τ (.clo f cs) (.clo f ds)
inductive RnL (τ : List (Nat × Nat)) : List AV → List AV → Prop
  | nil : RnL τ [] []
  | cons {c d cs ds} : Rn τ c d → RnL τ cs ds → RnL τ (c :: cs) (d :: ds)
  | same {cs} : AV.refs.refsL cs = [] → RnL τ cs cs
end
mutual
theorem Rn.eq {τ c d} (h : Rn τ c d) : c.ren (rho τ) = d := by
  cases h with
  | gr h => simp only [AV.ren, h.eq]
  | ptr h => simp only [AV.ren, h.eq]
  | bsl h => simp only [AV.ren, h.eq]
  | mpv h => simp only [AV.ren, h.eq]
  | agg h => simp only [AV.ren, renL_eq, h.eq]
  | tup h => simp only [AV.ren, renL_eq, h.eq]
  | clo h => simp only [AV.ren, renL_eq, h.eq]
  | _ => rfl
theorem RnL.eq {τ cs ds} (h : RnL τ cs ds) : cs.map (AV.ren (rho τ)) = ds := by
  cases h with
  | nil => rfl
  | cons h1 h2 => rw [List.map_cons, h1.eq, h2.eq]
  | same h => exact ren_no.go _ _ h
end
/-- An object by the caller's tags. -/
inductive Ro (τ : List (Nat × Nat)) : Ob → Ob → Prop
  | bx {cs ds} : RnL τ cs ds → Ro τ (.bx cs) (.bx ds)
  | gw {n} : Ro τ (.gw n) (.gw n)
  | mp {kk vk e} : Ro τ (.mp kk vk e) (.mp kk vk e)
  | dead : Ro τ .dead .dead
theorem Ro.eq {τ o o'} (h : Ro τ o o') : o.ren (rho τ) = o' := by
  cases h with
  | bx h => simp only [Ob.ren, renL_eq, h.eq]
  | _ => rfl
/-- The objects of a list, by the caller's tags. -/
inductive RoL (τ : List (Nat × Nat)) : List (Nat × Ob) → List (Nat × Ob) → Prop
  | nil : RoL τ [] []
  | cons {t t' o o' l l'} : Rho τ t t' → Ro τ o o' → RoL τ l l' → RoL τ ((t, o) :: l) ((t', o') :: l')
theorem RoL.eq {τ l l'} (h : RoL τ l l') : l.map (fun p => (rho τ p.1, p.2.ren (rho τ))) = l' := by
  induction h with
  | nil => rfl
  | cons h1 h2 h3 ih => rw [List.map_cons, h1.eq, h2.eq, ih]
/-- What is lent stands so in the caller. -/
inductive Lent (st : St) (tg : List Nat) (τ : List (Nat × Nat)) : List (Nat × Ob) → Prop
  | nil : Lent st tg τ []
  | cons {t t' o o' l} : Rho τ t t' → Ro τ o o' → st.ob t' = o' → tg.contains t' = true → Lent st tg τ l → Lent st tg τ ((t, o) :: l)
theorem Lent.ok {st tg τ l} (h : Lent st tg τ l) : ∀ p ∈ l, st.ob (rho τ p.1) = p.2.ren (rho τ) ∧ rho τ p.1 ∈ tg := by
  induction h with
  | nil => intro p hp; cases hp
  | cons h1 h2 h3 h4 h5 ih =>
    intro p hp
    cases hp with
    | head => dsimp only; rw [h1.eq, h2.eq]; exact ⟨h3, by simpa using h4⟩
    | tail _ hm => exact ih p hm
/-- One list ahead of another one. -/
inductive Apd {α : Type} : List α → List α → List α → Prop
  | nil {l} : Apd [] l l
  | cons {x a b c} : Apd a b c → Apd (x :: a) b (x :: c)
theorem Apd.eq {α : Type} {a b c : List α} (h : Apd a b c) : a ++ b = c := by
  induction h with
  | nil => rfl
  | cons _ ih => rw [List.cons_append, ih]
def injB (τ : List (Nat × Nat)) (l : List Nat) : Bool := l.all fun s => l.all fun t => !Nat.beq (rho τ s) (rho τ t) || Nat.beq s t
def nodB : List Nat → Bool
  | [] => true
  | t :: l => !l.contains t && nodB l
theorem nodB_ok : ∀ {l : List Nat}, nodB l = true → l.Nodup
  | [], _ => .nil
  | t :: l, h => by
    simp only [nodB, Bool.and_eq_true, Bool.not_eq_true', List.contains_eq_mem, decide_eq_false_iff_not] at h
    exact List.nodup_cons.2 ⟨h.1, nodB_ok h.2⟩
/-- The tags are in order: told apart, what is lent is given back, what is led to is there. -/
def tagsB (τ : List (Nat × Nat)) (i o : List Nat) (r : List Nat) (rs : List (Nat × Ob)) : Bool :=
  injB τ (i ++ o) && i.all (fun s => o.contains s) && nodB o && r.all (fun t => o.contains t) && rs.all (fun p => p.2.refs.all fun t => o.contains t)
theorem call_multi {P : Program} {st : St} {d : Nat} {ty : TypeId} {pos} {after} {fx : Operand} {xs : Array Operand} {ts : Array TypeId} {f : FuncId} {caps args asL : List AV} {ins outs : List (Nat × Ob)} {res res' : AV} {B' : List (Nat × Ob)} {nw : List Nat} (τ : List (Nat × Nat)) {g}
    (hc : st.val fx = .clo f caps) (ha : Wf (xs.toList.map st.val ++ caps) asL) (hg : Good P f args ins res outs) (hl : LeL asL (args.map (AV.ren (rho τ))))
    (hi : Lent st (tagsAt st ⟨some d, .call { callee := .value fx, args := xs, argTypes := ts }, ty, pos, after, g⟩) τ ins) (ht : tagsB τ (ins.map (·.1)) (outs.map (·.1)) res.refs outs = true)
    (hr : Rn τ res res') (ho : RoL τ outs B') (hn : (outs.map (·.1)).filterMap (fun t => if (ins.map (·.1)).contains t then none else some (rho τ t)) = nw) :
    CallOk P st ⟨some d, .call { callee := .value fx, args := xs, argTypes := ts }, ty, pos, after, g⟩ ⟨[(d, res')], B', nw⟩ := by
  simp only [tagsB, Bool.and_eq_true] at ht
  obtain ⟨⟨⟨⟨t1, t2⟩, t3⟩, t4⟩, t5⟩ := ht
  refine ⟨fx, xs, ts, d, f, caps, args, ins, res, outs, rho τ, rfl, rfl, hc, hg, by rw [ha.eq]; exact hl, hi.ok, fun s hs t htt e => ?_, fun s hs => ?_, nodB_ok t3, fun t htt => ?_, fun p hp t htt => ?_, ?_⟩
  · have := List.all_eq_true.1 (List.all_eq_true.1 t1 s hs) t htt
    rw [e] at this
    simpa using this
  · simpa using List.all_eq_true.1 t2 s hs
  · simpa using List.all_eq_true.1 t4 t htt
  · simpa using List.all_eq_true.1 (List.all_eq_true.1 t5 p hp) t htt
  · rw [hr.eq, ho.eq, ← hn]
    congr 1
    refine congrArg (fun F : Nat → Option Nat => List.filterMap F (outs.map (·.1))) (funext fun t => ?_)
    by_cases e : t ∈ ins.map (·.1)
    · rw [if_pos e, if_pos (by simpa using e)]
    · rw [if_neg e, if_neg (by simpa using e)]
/-- A walk in a function to which objects are lent. -/
theorem Good.wM {P : Program} {tab : Tab} (ht : TabOk P tab) (mo : P.follows .mixedOrders = true) {f : FuncId} {fn : Func} {code : Code} {rs : List ResultVar} {N : Nat} {args : List AV} {res : AV} {ins outs : List (Nat × Ob)} {T : List (Nat × AV)}
    (hf : P.funcs[f]? = some fn) (hfn : fnB fn N args.length = true) (hb : fn.body = some code) (hrs : LE fn.results.toList rs) (hT : LE (entT 0 args) T)
    (hbig : ins.all (fun p => decide (1000000 ≤ p.1)) = true)
    (h : ∀ D : St → Prop, (∀ {st cs0}, resAll tab st rs = some cs0 → Lx Tr (resTup cs0) res → LeB Tr st outs → D st) → ∀ F : Fx P tab N D, AW F [.c code] ⟨T, ins⟩) : Good P f args ins res outs :=
  Good.walk ht mo hf hfn hb hrs.eq (fun p hp => by simpa using List.all_eq_true.1 hbig p hp) (by
    rw [hT.eq]
    refine h _ fun {st cs0} a b c => ⟨fun t => t, cs0, a, by rw [ren_id]; exact b, fun p hp => ?_, fun s _ t _ e => e, fun p hp => rfl⟩
    have : ∀ {l : List (Nat × Ob)}, LeB Tr st l → ∀ p ∈ l, Ol Tr (st.ob p.1) (p.2.ren fun t => t) := fun hh => by
      induction hh with
      | nil => intro p hp; cases hp
      | cons h1 h2 ih =>
        intro p hp
        cases hp with
        | head =>
          have e : ∀ o : Ob, o.ren (fun t => t) = o := fun o => by
            cases o with
            | bx cs => simp only [Ob.ren, renL_eq]; rw [ren_id.go]
            | _ => rfl
          dsimp only; rw [e]; exact h1
        | tail _ hm => exact ih p hm
    exact this c p hp)
section
variable {P : Program} {tab : Tab} {N : Nat} {D : St → Prop} {F : Fx P tab N D} {ops : Array Oper} {k : List It} {l : List Oper} {T : List (Nat × AV)} {B : List (Nat × Ob)} {acc : List Rec} {d : Nat} {ty : TypeId} {tg : List Nat}
theorem AO.callM {pos} {after} {fx : Operand} {xs : Array Operand} {ts : Array TypeId} {f : FuncId} {caps args asL : List AV} {ins outs : List (Nat × Ob)} {res res' : AV} {B' B2 : List (Nat × Ob)} (τ : List (Nat × Nat)) (hg : Good P f args ins res outs)
    (hc : (⟨T, B⟩ : St).val fx = .clo f caps) (ha : Wf (xs.toList.map (⟨T, B⟩ : St).val ++ caps) asL) (hl : LeL asL (args.map (AV.ren (rho τ))))
    (hi : Lent ⟨T, B⟩ (tagsAt ⟨T, B⟩ ⟨some d, .call { callee := .value fx, args := xs, argTypes := ts }, ty, pos, after, none⟩) τ ins) (ht : tagsB τ (ins.map (·.1)) (outs.map (·.1)) res.refs outs = true)
    (hr : Rn τ res res') (ho : RoL τ outs B') (hn : (outs.map (·.1)).filterMap (fun t => if (ins.map (·.1)).contains t then none else some (rho τ t)) = [])
    (hB : Apd B' B B2) (h : AO F ops k l ⟨(d, res') :: T, B2⟩) : AO F ops k (⟨some d, .call { callee := .value fx, args := xs, argTypes := ts }, ty, pos, after, none⟩ :: l) ⟨T, B⟩ :=
  AO.step (e := ⟨[(d, res')], B', []⟩) rfl (.call (call_multi τ hc ha hg hl hi ht hr ho hn)) (fun e he => by simp at he) (by rw [← hB.eq] at h; exact h)
end
end Go.Proofs.Ytocppeifkjdeiaa.Mv

/- Calls that lead to a new object. Under no condition. -/
namespace Go.Proofs.Ytocppeifkjdeiaa.Mv
open Go Go.Proofs
set_option linter.unusedSimpArgs false
set_option linter.unusedVariables false
section
variable {P : Program} {tab : Tab} {N : Nat} {D : St → Prop} {F : Fx P tab N D} {ops : Array Oper} {k : List It} {l : List Oper} {T : List (Nat × AV)} {B : List (Nat × Ob)} {acc : List Rec} {d : Nat} {ty : TypeId} {tg : List Nat}
end
section
variable {P : Program} {tab : Tab} {N : Nat} {D : St → Prop} {F : Fx P tab N D} {k : List It}
end
end Go.Proofs.Ytocppeifkjdeiaa.Mv

/- Another name for a tag. Under no condition. -/
namespace Go.Proofs.Ytocppeifkjdeiaa.Mv
open Go Go.Proofs
set_option linter.unusedSimpArgs false
set_option linter.unusedVariables false
/-- Two tags change places. -/
def sw (s d t : Nat) : Nat := if t = s then d else if t = d then s else t
def St.ren (ρ : Nat → Nat) (st : St) : St := ⟨st.T.map fun p => (p.1, p.2.ren ρ), st.B.map fun p => (ρ p.1, p.2.ren ρ)⟩
section
variable {P : Program} {tab : Tab} {N : Nat} {D : St → Prop} {F : Fx P tab N D} {k : List It} {st : St}
end
end Go.Proofs.Ytocppeifkjdeiaa.Mv
