/- Lifts: what the small functions answer. Under no condition. -/
import Derived.Test.YtafbjkidgdpfoaaTab
namespace Go.Proofs.Ytafbjkidgdpfoaa.Mv
open Go Go.Proofs
set_option linter.unusedSimpArgs false
set_option linter.unusedVariables false
set_option maxRecDepth 10000
set_option maxHeartbeats 4000000
attribute [local irreducible] AW AO AR

abbrev L := List UInt8
/-- Does it begin so? -/
def hp (k p : L) : Bool := p.isPrefixOf k
def cutS (k p : L) : L := if hp k p then k.drop p.length else k
def upS (s a k : L) : L := if hp k s then a ++ k.drop s.length else []
def great2 (a b : L) : Bool := decide (300 < a.length) || decide (300 < b.length)
def awakeS : Bool := true

theorem hp_iff {k p : L} : hp k p = true ↔ k.take p.length = p := by
  rw [hp, List.isPrefixOf_iff_prefix, List.prefix_iff_eq_take]
  exact ⟨Eq.symm, Eq.symm⟩
theorem hp_len {k p : L} (h : hp k p = true) : p.length ≤ k.length := by
  rw [hp, List.isPrefixOf_iff_prefix] at h; exact h.length_le
theorem cutS_len (k p : L) : (cutS k p).length ≤ k.length := by
  unfold cutS; split <;> simp

theorem gGreat4 (a b : L) : Good Try.prog 14 [.agg [.s a, .s b]] [] (.b (great2 a b)) [] := by
  refine Good.w tabOk mixed Try.func14 (N := 13) (by kernel_rfl) rfl (by repeat (first | exact LE.nil | apply LE.cons)) (by repeat (first | exact LE.nil | apply LE.cons)) fun D hD F => ?_
  repeat' (first
    | apply AO.nil
    | (apply AO.kG; first | (refine AO.gt rfl (fun h => ?_) (fun h => ?_) <;> (first | exact Bool.noConfusion h | exact absurd h (by decide) | (simp at h; done) | (rw [h]; try simp only [decide_eq_true_eq, decide_eq_false_iff_not, Int.not_lt, Int.not_le, ge_iff_le, gt_iff_lt, Bool.not_eq_true', Bool.not_eq_false'] at h; try rw [h]) | skip)) | (refine AO.gf rfl (fun h => ?_) (fun h => ?_) <;> (first | exact Bool.noConfusion h | exact absurd h (by decide) | (simp at h; done) | (rw [h]; try simp only [decide_eq_true_eq, decide_eq_false_iff_not, Int.not_lt, Int.not_le, ge_iff_le, gt_iff_lt, Bool.not_eq_true', Bool.not_eq_false'] at h; try rw [h]) | skip)) | refine AO.gs rfl ?_)
    | (apply AO.kBox; refine AO.box (by repeat constructor) rfl rfl ?_)
    | (apply AO.kAlloc; refine AO.alloc rfl (by repeat constructor) rfl ?_)
    | (apply AO.kStore; refine AO.store rfl rfl rfl (by repeat constructor) rfl ?_)
    | (apply AO.kAdd; refine AO.add rfl rfl (by first | decide | omega | assumption | (simp only [List.length_take, List.length_drop, List.length_append, List.length_cons, List.length_nil, Nat.min_def] at *; omega)) ?_)
    | (apply AO.kSub; refine AO.sub rfl rfl (by first | decide | omega | assumption | (simp only [List.length_take, List.length_drop, List.length_append, List.length_cons, List.length_nil, Nat.min_def] at *; omega)) ?_)
    | (apply AO.kP; first | refine AO.p rfl (by repeat constructor) ?_ | refine AO.pi rfl (by repeat constructor) (by first | decide | omega | assumption | (simp only [List.length_take, List.length_drop, List.length_append, List.length_cons, List.length_nil, Nat.min_def] at *; omega)) ?_)
    | apply AW.seq
    | (apply AW.kR; refine AW.r (by kernel_rfl) ?_)
    | (apply AW.kC; refine AW.cond rfl rfl (fun h => ?_) (fun h => ?_) <;> (first | exact Bool.noConfusion h | exact absurd h (by decide) | (simp at h; done) | (rw [h]; try simp only [decide_eq_true_eq, decide_eq_false_iff_not, Int.not_lt, Int.not_le, ge_iff_le, gt_iff_lt, Bool.not_eq_true', Bool.not_eq_false'] at h; try rw [h]) | skip))
    | apply AW.skip
    | apply AW.block
    | apply AW.out
    | (apply AW.kE; refine AW.exit rfl ?_)
    | apply AW.label
    | (apply AW.kRd; refine AW.rd (by kernel_rfl) ?_)
    | (apply AR.kAny; first | (apply AR.kG; first | (refine AR.gt rfl (by repeat (first | exact LE.nil | apply LE.cons)) (fun h => ?_) (fun h => ?_) <;> (first | exact Bool.noConfusion h | exact absurd h (by decide) | (simp at h; done) | (rw [h]; try simp only [decide_eq_true_eq, decide_eq_false_iff_not, Int.not_lt, Int.not_le, ge_iff_le, gt_iff_lt, Bool.not_eq_true', Bool.not_eq_false'] at h; try rw [h]) | skip)) | (refine AR.gf rfl (by repeat (first | exact LE.nil | apply LE.cons)) (fun h => ?_) (fun h => ?_) <;> (first | exact Bool.noConfusion h | exact absurd h (by decide) | (simp at h; done) | (rw [h]; try simp only [decide_eq_true_eq, decide_eq_false_iff_not, Int.not_lt, Int.not_le, ge_iff_le, gt_iff_lt, Bool.not_eq_true', Bool.not_eq_false'] at h; try rw [h]) | skip)) | refine AR.gs rfl (by repeat (first | exact LE.nil | apply LE.cons)) ?_) | (apply AR.kBox; refine AR.box (by repeat constructor) rfl rfl (by repeat (first | exact LE.nil | apply LE.cons)) ?_) | (apply AR.kAlloc; refine AR.alloc rfl (by repeat constructor) rfl (by repeat (first | exact LE.nil | apply LE.cons)) ?_) | (apply AR.kStore; refine AR.store rfl rfl rfl (by repeat constructor) rfl (by repeat (first | exact LE.nil | apply LE.cons)) ?_) | (apply AR.kAdd; refine AR.add rfl rfl (by first | decide | omega | assumption | (simp only [List.length_take, List.length_drop, List.length_append, List.length_cons, List.length_nil, Nat.min_def] at *; omega)) (by repeat (first | exact LE.nil | apply LE.cons)) ?_) | (apply AR.kSub; refine AR.sub rfl rfl (by first | decide | omega | assumption | (simp only [List.length_take, List.length_drop, List.length_append, List.length_cons, List.length_nil, Nat.min_def] at *; omega)) (by repeat (first | exact LE.nil | apply LE.cons)) ?_) | (apply AR.kP; first | refine AR.p rfl (by repeat constructor) (by repeat (first | exact LE.nil | apply LE.cons)) ?_ | refine AR.pi rfl (by repeat constructor) (by first | decide | omega | assumption | (simp only [List.length_take, List.length_drop, List.length_append, List.length_cons, List.length_nil, Nat.min_def] at *; omega)) (by repeat (first | exact LE.nil | apply LE.cons)) ?_))
    | (apply AR.kNil; refine AR.nil (by kernel_rfl) (by kernel_rfl) ?_))
  all_goals refine AW.ret (hD rfl (Lx.b ?_))
  all_goals (rw [Bool.eq_iff_iff]; simp [great2]; try omega)

theorem gHasPrefix' (k p : L) : Good Try.prog 52 [.s k, .s p] [] (.b (hp k p)) [] := by
  refine Good.w tabOk mixed Try.func52 (N := 18) (by kernel_rfl) rfl (by repeat (first | exact LE.nil | apply LE.cons)) (by repeat (first | exact LE.nil | apply LE.cons)) fun D hD F => ?_
  repeat' (first
    | apply AO.nil
    | (apply AO.kG; first | (refine AO.gt rfl (fun h => ?_) (fun h => ?_) <;> (first | exact Bool.noConfusion h | exact absurd h (by decide) | (simp at h; done) | (rw [h]; try simp only [decide_eq_true_eq, decide_eq_false_iff_not, Int.not_lt, Int.not_le, ge_iff_le, gt_iff_lt, Bool.not_eq_true', Bool.not_eq_false'] at h; try rw [h]) | skip)) | (refine AO.gf rfl (fun h => ?_) (fun h => ?_) <;> (first | exact Bool.noConfusion h | exact absurd h (by decide) | (simp at h; done) | (rw [h]; try simp only [decide_eq_true_eq, decide_eq_false_iff_not, Int.not_lt, Int.not_le, ge_iff_le, gt_iff_lt, Bool.not_eq_true', Bool.not_eq_false'] at h; try rw [h]) | skip)) | refine AO.gs rfl ?_)
    | (apply AO.kBox; refine AO.box (by repeat constructor) rfl rfl ?_)
    | (apply AO.kAlloc; refine AO.alloc rfl (by repeat constructor) rfl ?_)
    | (apply AO.kStore; refine AO.store rfl rfl rfl (by repeat constructor) rfl ?_)
    | (apply AO.kAdd; refine AO.add rfl rfl (by first | decide | omega | assumption | (simp only [List.length_take, List.length_drop, List.length_append, List.length_cons, List.length_nil, Nat.min_def] at *; omega)) ?_)
    | (apply AO.kSub; refine AO.sub rfl rfl (by first | decide | omega | assumption | (simp only [List.length_take, List.length_drop, List.length_append, List.length_cons, List.length_nil, Nat.min_def] at *; omega)) ?_)
    | (apply AO.kP; first | refine AO.p rfl (by repeat constructor) ?_ | refine AO.pi rfl (by repeat constructor) (by first | decide | omega | assumption | (simp only [List.length_take, List.length_drop, List.length_append, List.length_cons, List.length_nil, Nat.min_def] at *; omega)) ?_)
    | apply AW.seq
    | (apply AW.kR; refine AW.r (by kernel_rfl) ?_)
    | (apply AW.kC; refine AW.cond rfl rfl (fun h => ?_) (fun h => ?_) <;> (first | exact Bool.noConfusion h | exact absurd h (by decide) | (simp at h; done) | (rw [h]; try simp only [decide_eq_true_eq, decide_eq_false_iff_not, Int.not_lt, Int.not_le, ge_iff_le, gt_iff_lt, Bool.not_eq_true', Bool.not_eq_false'] at h; try rw [h]) | skip))
    | apply AW.skip
    | apply AW.block
    | apply AW.out
    | (apply AW.kE; refine AW.exit rfl ?_)
    | apply AW.label
    | (apply AW.kRd; refine AW.rd (by kernel_rfl) ?_)
    | (apply AR.kAny; first | (apply AR.kG; first | (refine AR.gt rfl (by repeat (first | exact LE.nil | apply LE.cons)) (fun h => ?_) (fun h => ?_) <;> (first | exact Bool.noConfusion h | exact absurd h (by decide) | (simp at h; done) | (rw [h]; try simp only [decide_eq_true_eq, decide_eq_false_iff_not, Int.not_lt, Int.not_le, ge_iff_le, gt_iff_lt, Bool.not_eq_true', Bool.not_eq_false'] at h; try rw [h]) | skip)) | (refine AR.gf rfl (by repeat (first | exact LE.nil | apply LE.cons)) (fun h => ?_) (fun h => ?_) <;> (first | exact Bool.noConfusion h | exact absurd h (by decide) | (simp at h; done) | (rw [h]; try simp only [decide_eq_true_eq, decide_eq_false_iff_not, Int.not_lt, Int.not_le, ge_iff_le, gt_iff_lt, Bool.not_eq_true', Bool.not_eq_false'] at h; try rw [h]) | skip)) | refine AR.gs rfl (by repeat (first | exact LE.nil | apply LE.cons)) ?_) | (apply AR.kBox; refine AR.box (by repeat constructor) rfl rfl (by repeat (first | exact LE.nil | apply LE.cons)) ?_) | (apply AR.kAlloc; refine AR.alloc rfl (by repeat constructor) rfl (by repeat (first | exact LE.nil | apply LE.cons)) ?_) | (apply AR.kStore; refine AR.store rfl rfl rfl (by repeat constructor) rfl (by repeat (first | exact LE.nil | apply LE.cons)) ?_) | (apply AR.kAdd; refine AR.add rfl rfl (by first | decide | omega | assumption | (simp only [List.length_take, List.length_drop, List.length_append, List.length_cons, List.length_nil, Nat.min_def] at *; omega)) (by repeat (first | exact LE.nil | apply LE.cons)) ?_) | (apply AR.kSub; refine AR.sub rfl rfl (by first | decide | omega | assumption | (simp only [List.length_take, List.length_drop, List.length_append, List.length_cons, List.length_nil, Nat.min_def] at *; omega)) (by repeat (first | exact LE.nil | apply LE.cons)) ?_) | (apply AR.kP; first | refine AR.p rfl (by repeat constructor) (by repeat (first | exact LE.nil | apply LE.cons)) ?_ | refine AR.pi rfl (by repeat constructor) (by first | decide | omega | assumption | (simp only [List.length_take, List.length_drop, List.length_append, List.length_cons, List.length_nil, Nat.min_def] at *; omega)) (by repeat (first | exact LE.nil | apply LE.cons)) ?_))
    | (apply AR.kNil; refine AR.nil (by kernel_rfl) (by kernel_rfl) ?_))
  all_goals refine AW.ret (hD rfl (Lx.b ?_))
  all_goals (rw [Bool.eq_iff_iff]; simp [hp_iff])
  intro e
  have := congrArg List.length e
  simp at this
  omega
theorem gCutPrefix' (k p : L) : Good Try.prog 51 [.s k, .s p] [] (.tup [.s (cutS k p), .b (hp k p)]) [] := by
  refine Good.w tabOk mixed Try.func51 (N := 15) (by kernel_rfl) rfl (by repeat (first | exact LE.nil | apply LE.cons)) (by repeat (first | exact LE.nil | apply LE.cons)) fun D hD F => ?_
  repeat' (first
    | apply AO.nil
    | (apply AO.kG; first | (refine AO.gt rfl (fun h => ?_) (fun h => ?_) <;> (first | exact Bool.noConfusion h | exact absurd h (by decide) | (simp at h; done) | (rw [h]; try simp only [decide_eq_true_eq, decide_eq_false_iff_not, Int.not_lt, Int.not_le, ge_iff_le, gt_iff_lt, Bool.not_eq_true', Bool.not_eq_false'] at h; try rw [h]) | skip)) | (refine AO.gf rfl (fun h => ?_) (fun h => ?_) <;> (first | exact Bool.noConfusion h | exact absurd h (by decide) | (simp at h; done) | (rw [h]; try simp only [decide_eq_true_eq, decide_eq_false_iff_not, Int.not_lt, Int.not_le, ge_iff_le, gt_iff_lt, Bool.not_eq_true', Bool.not_eq_false'] at h; try rw [h]) | skip)) | refine AO.gs rfl ?_)
    | (apply AO.kCall 52; refine AO.call rfl (by repeat constructor) (gHasPrefix' _ _) (by repeat (first | exact LeL.nil | (refine LeL.cons (Le.refl _) ?_) | (refine LeL.cons Le.gr ?_) | (refine LeL.cons Le.nil ?_))) rfl ?_; skip)
    | (apply AO.kBox; refine AO.box (by repeat constructor) rfl rfl ?_)
    | (apply AO.kAlloc; refine AO.alloc rfl (by repeat constructor) rfl ?_)
    | (apply AO.kStore; refine AO.store rfl rfl rfl (by repeat constructor) rfl ?_)
    | (apply AO.kAdd; refine AO.add rfl rfl (by first | decide | omega | assumption | (simp only [List.length_take, List.length_drop, List.length_append, List.length_cons, List.length_nil, Nat.min_def] at *; omega)) ?_)
    | (apply AO.kSub; refine AO.sub rfl rfl (by first | decide | omega | assumption | (simp only [List.length_take, List.length_drop, List.length_append, List.length_cons, List.length_nil, Nat.min_def] at *; omega)) ?_)
    | (apply AO.kP; first | refine AO.p rfl (by repeat constructor) ?_ | refine AO.pi rfl (by repeat constructor) (by first | decide | omega | assumption | (simp only [List.length_take, List.length_drop, List.length_append, List.length_cons, List.length_nil, Nat.min_def] at *; omega)) ?_)
    | apply AW.seq
    | (apply AW.kR; refine AW.r (by kernel_rfl) ?_)
    | (apply AW.kC; refine AW.cond rfl rfl (fun h => ?_) (fun h => ?_) <;> (first | exact Bool.noConfusion h | exact absurd h (by decide) | (simp at h; done) | (rw [h]; try simp only [decide_eq_true_eq, decide_eq_false_iff_not, Int.not_lt, Int.not_le, ge_iff_le, gt_iff_lt, Bool.not_eq_true', Bool.not_eq_false'] at h; try rw [h]) | skip))
    | apply AW.skip
    | apply AW.block
    | apply AW.out
    | (apply AW.kE; refine AW.exit rfl ?_)
    | apply AW.label
    | (apply AW.kRd; refine AW.rd (by kernel_rfl) ?_)
    | (apply AR.kAny; first | (apply AR.kG; first | (refine AR.gt rfl (by repeat (first | exact LE.nil | apply LE.cons)) (fun h => ?_) (fun h => ?_) <;> (first | exact Bool.noConfusion h | exact absurd h (by decide) | (simp at h; done) | (rw [h]; try simp only [decide_eq_true_eq, decide_eq_false_iff_not, Int.not_lt, Int.not_le, ge_iff_le, gt_iff_lt, Bool.not_eq_true', Bool.not_eq_false'] at h; try rw [h]) | skip)) | (refine AR.gf rfl (by repeat (first | exact LE.nil | apply LE.cons)) (fun h => ?_) (fun h => ?_) <;> (first | exact Bool.noConfusion h | exact absurd h (by decide) | (simp at h; done) | (rw [h]; try simp only [decide_eq_true_eq, decide_eq_false_iff_not, Int.not_lt, Int.not_le, ge_iff_le, gt_iff_lt, Bool.not_eq_true', Bool.not_eq_false'] at h; try rw [h]) | skip)) | refine AR.gs rfl (by repeat (first | exact LE.nil | apply LE.cons)) ?_) | (apply AR.kCall 52; refine AR.call rfl (by repeat constructor) (gHasPrefix' _ _) (by repeat (first | exact LeL.nil | (refine LeL.cons (Le.refl _) ?_) | (refine LeL.cons Le.gr ?_) | (refine LeL.cons Le.nil ?_))) rfl (by repeat (first | exact LE.nil | apply LE.cons)) ?_; skip) | (apply AR.kBox; refine AR.box (by repeat constructor) rfl rfl (by repeat (first | exact LE.nil | apply LE.cons)) ?_) | (apply AR.kAlloc; refine AR.alloc rfl (by repeat constructor) rfl (by repeat (first | exact LE.nil | apply LE.cons)) ?_) | (apply AR.kStore; refine AR.store rfl rfl rfl (by repeat constructor) rfl (by repeat (first | exact LE.nil | apply LE.cons)) ?_) | (apply AR.kAdd; refine AR.add rfl rfl (by first | decide | omega | assumption | (simp only [List.length_take, List.length_drop, List.length_append, List.length_cons, List.length_nil, Nat.min_def] at *; omega)) (by repeat (first | exact LE.nil | apply LE.cons)) ?_) | (apply AR.kSub; refine AR.sub rfl rfl (by first | decide | omega | assumption | (simp only [List.length_take, List.length_drop, List.length_append, List.length_cons, List.length_nil, Nat.min_def] at *; omega)) (by repeat (first | exact LE.nil | apply LE.cons)) ?_) | (apply AR.kP; first | refine AR.p rfl (by repeat constructor) (by repeat (first | exact LE.nil | apply LE.cons)) ?_ | refine AR.pi rfl (by repeat constructor) (by first | decide | omega | assumption | (simp only [List.length_take, List.length_drop, List.length_append, List.length_cons, List.length_nil, Nat.min_def] at *; omega)) (by repeat (first | exact LE.nil | apply LE.cons)) ?_))
    | (apply AR.kNil; refine AR.nil (by kernel_rfl) (by kernel_rfl) ?_))
  · exact AW.ret (hD rfl (Lx.tup (.cons (Lx.s (by simp [cutS, h])) (.cons (Lx.b h.symm) .nil))))
  · have h2 := hp_len h
    repeat' (first
    | apply AO.nil
    | (apply AO.kG; first | (refine AO.gt rfl (fun h => ?_) (fun h => ?_) <;> (first | exact Bool.noConfusion h | exact absurd h (by decide) | (simp at h; done) | (rw [h]; try simp only [decide_eq_true_eq, decide_eq_false_iff_not, Int.not_lt, Int.not_le, ge_iff_le, gt_iff_lt, Bool.not_eq_true', Bool.not_eq_false'] at h; try rw [h]) | skip)) | (refine AO.gf rfl (fun h => ?_) (fun h => ?_) <;> (first | exact Bool.noConfusion h | exact absurd h (by decide) | (simp at h; done) | (rw [h]; try simp only [decide_eq_true_eq, decide_eq_false_iff_not, Int.not_lt, Int.not_le, ge_iff_le, gt_iff_lt, Bool.not_eq_true', Bool.not_eq_false'] at h; try rw [h]) | skip)) | refine AO.gs rfl ?_)
    | (apply AO.kBox; refine AO.box (by repeat constructor) rfl rfl ?_)
    | (apply AO.kAlloc; refine AO.alloc rfl (by repeat constructor) rfl ?_)
    | (apply AO.kStore; refine AO.store rfl rfl rfl (by repeat constructor) rfl ?_)
    | (apply AO.kAdd; refine AO.add rfl rfl (by first | decide | omega | assumption | (simp only [List.length_take, List.length_drop, List.length_append, List.length_cons, List.length_nil, Nat.min_def] at *; omega)) ?_)
    | (apply AO.kSub; refine AO.sub rfl rfl (by first | decide | omega | assumption | (simp only [List.length_take, List.length_drop, List.length_append, List.length_cons, List.length_nil, Nat.min_def] at *; omega)) ?_)
    | (apply AO.kP; first | refine AO.p rfl (by repeat constructor) ?_ | refine AO.pi rfl (by repeat constructor) (by first | decide | omega | assumption | (simp only [List.length_take, List.length_drop, List.length_append, List.length_cons, List.length_nil, Nat.min_def] at *; omega)) ?_)
    | apply AW.seq
    | (apply AW.kR; refine AW.r (by kernel_rfl) ?_)
    | (apply AW.kC; refine AW.cond rfl rfl (fun h => ?_) (fun h => ?_) <;> (first | exact Bool.noConfusion h | exact absurd h (by decide) | (simp at h; done) | (rw [h]; try simp only [decide_eq_true_eq, decide_eq_false_iff_not, Int.not_lt, Int.not_le, ge_iff_le, gt_iff_lt, Bool.not_eq_true', Bool.not_eq_false'] at h; try rw [h]) | skip))
    | apply AW.skip
    | apply AW.block
    | apply AW.out
    | (apply AW.kE; refine AW.exit rfl ?_)
    | apply AW.label
    | (apply AW.kRd; refine AW.rd (by kernel_rfl) ?_)
    | (apply AR.kAny; first | (apply AR.kG; first | (refine AR.gt rfl (by repeat (first | exact LE.nil | apply LE.cons)) (fun h => ?_) (fun h => ?_) <;> (first | exact Bool.noConfusion h | exact absurd h (by decide) | (simp at h; done) | (rw [h]; try simp only [decide_eq_true_eq, decide_eq_false_iff_not, Int.not_lt, Int.not_le, ge_iff_le, gt_iff_lt, Bool.not_eq_true', Bool.not_eq_false'] at h; try rw [h]) | skip)) | (refine AR.gf rfl (by repeat (first | exact LE.nil | apply LE.cons)) (fun h => ?_) (fun h => ?_) <;> (first | exact Bool.noConfusion h | exact absurd h (by decide) | (simp at h; done) | (rw [h]; try simp only [decide_eq_true_eq, decide_eq_false_iff_not, Int.not_lt, Int.not_le, ge_iff_le, gt_iff_lt, Bool.not_eq_true', Bool.not_eq_false'] at h; try rw [h]) | skip)) | refine AR.gs rfl (by repeat (first | exact LE.nil | apply LE.cons)) ?_) | (apply AR.kBox; refine AR.box (by repeat constructor) rfl rfl (by repeat (first | exact LE.nil | apply LE.cons)) ?_) | (apply AR.kAlloc; refine AR.alloc rfl (by repeat constructor) rfl (by repeat (first | exact LE.nil | apply LE.cons)) ?_) | (apply AR.kStore; refine AR.store rfl rfl rfl (by repeat constructor) rfl (by repeat (first | exact LE.nil | apply LE.cons)) ?_) | (apply AR.kAdd; refine AR.add rfl rfl (by first | decide | omega | assumption | (simp only [List.length_take, List.length_drop, List.length_append, List.length_cons, List.length_nil, Nat.min_def] at *; omega)) (by repeat (first | exact LE.nil | apply LE.cons)) ?_) | (apply AR.kSub; refine AR.sub rfl rfl (by first | decide | omega | assumption | (simp only [List.length_take, List.length_drop, List.length_append, List.length_cons, List.length_nil, Nat.min_def] at *; omega)) (by repeat (first | exact LE.nil | apply LE.cons)) ?_) | (apply AR.kP; first | refine AR.p rfl (by repeat constructor) (by repeat (first | exact LE.nil | apply LE.cons)) ?_ | refine AR.pi rfl (by repeat constructor) (by first | decide | omega | assumption | (simp only [List.length_take, List.length_drop, List.length_append, List.length_cons, List.length_nil, Nat.min_def] at *; omega)) (by repeat (first | exact LE.nil | apply LE.cons)) ?_))
    | (apply AR.kNil; refine AR.nil (by kernel_rfl) (by kernel_rfl) ?_))
    exact AW.ret (hD rfl (Lx.tup (.cons (Lx.s (by simp [cutS, h])) (.cons (Lx.b h.symm) .nil))))
theorem gCutPrefix (k p : L) : Good Try.prog 46 [.s k, .s p] [] (.tup [.s (cutS k p), .b (hp k p)]) [] := by
  refine Good.w tabOk mixed Try.func46 (N := 11) (by kernel_rfl) rfl (by repeat (first | exact LE.nil | apply LE.cons)) (by repeat (first | exact LE.nil | apply LE.cons)) fun D hD F => ?_
  repeat' (first
    | apply AO.nil
    | (apply AO.kG; first | (refine AO.gt rfl (fun h => ?_) (fun h => ?_) <;> (first | exact Bool.noConfusion h | exact absurd h (by decide) | (simp at h; done) | (rw [h]; try simp only [decide_eq_true_eq, decide_eq_false_iff_not, Int.not_lt, Int.not_le, ge_iff_le, gt_iff_lt, Bool.not_eq_true', Bool.not_eq_false'] at h; try rw [h]) | skip)) | (refine AO.gf rfl (fun h => ?_) (fun h => ?_) <;> (first | exact Bool.noConfusion h | exact absurd h (by decide) | (simp at h; done) | (rw [h]; try simp only [decide_eq_true_eq, decide_eq_false_iff_not, Int.not_lt, Int.not_le, ge_iff_le, gt_iff_lt, Bool.not_eq_true', Bool.not_eq_false'] at h; try rw [h]) | skip)) | refine AO.gs rfl ?_)
    | (apply AO.kCall 51; refine AO.call rfl (by repeat constructor) (gCutPrefix' _ _) (by repeat (first | exact LeL.nil | (refine LeL.cons (Le.refl _) ?_) | (refine LeL.cons Le.gr ?_) | (refine LeL.cons Le.nil ?_))) rfl ?_; skip)
    | (apply AO.kBox; refine AO.box (by repeat constructor) rfl rfl ?_)
    | (apply AO.kAlloc; refine AO.alloc rfl (by repeat constructor) rfl ?_)
    | (apply AO.kStore; refine AO.store rfl rfl rfl (by repeat constructor) rfl ?_)
    | (apply AO.kAdd; refine AO.add rfl rfl (by first | decide | omega | assumption | (simp only [List.length_take, List.length_drop, List.length_append, List.length_cons, List.length_nil, Nat.min_def] at *; omega)) ?_)
    | (apply AO.kSub; refine AO.sub rfl rfl (by first | decide | omega | assumption | (simp only [List.length_take, List.length_drop, List.length_append, List.length_cons, List.length_nil, Nat.min_def] at *; omega)) ?_)
    | (apply AO.kP; first | refine AO.p rfl (by repeat constructor) ?_ | refine AO.pi rfl (by repeat constructor) (by first | decide | omega | assumption | (simp only [List.length_take, List.length_drop, List.length_append, List.length_cons, List.length_nil, Nat.min_def] at *; omega)) ?_)
    | apply AW.seq
    | (apply AW.kR; refine AW.r (by kernel_rfl) ?_)
    | (apply AW.kC; refine AW.cond rfl rfl (fun h => ?_) (fun h => ?_) <;> (first | exact Bool.noConfusion h | exact absurd h (by decide) | (simp at h; done) | (rw [h]; try simp only [decide_eq_true_eq, decide_eq_false_iff_not, Int.not_lt, Int.not_le, ge_iff_le, gt_iff_lt, Bool.not_eq_true', Bool.not_eq_false'] at h; try rw [h]) | skip))
    | apply AW.skip
    | apply AW.block
    | apply AW.out
    | (apply AW.kE; refine AW.exit rfl ?_)
    | apply AW.label
    | (apply AW.kRd; refine AW.rd (by kernel_rfl) ?_)
    | (apply AR.kAny; first | (apply AR.kG; first | (refine AR.gt rfl (by repeat (first | exact LE.nil | apply LE.cons)) (fun h => ?_) (fun h => ?_) <;> (first | exact Bool.noConfusion h | exact absurd h (by decide) | (simp at h; done) | (rw [h]; try simp only [decide_eq_true_eq, decide_eq_false_iff_not, Int.not_lt, Int.not_le, ge_iff_le, gt_iff_lt, Bool.not_eq_true', Bool.not_eq_false'] at h; try rw [h]) | skip)) | (refine AR.gf rfl (by repeat (first | exact LE.nil | apply LE.cons)) (fun h => ?_) (fun h => ?_) <;> (first | exact Bool.noConfusion h | exact absurd h (by decide) | (simp at h; done) | (rw [h]; try simp only [decide_eq_true_eq, decide_eq_false_iff_not, Int.not_lt, Int.not_le, ge_iff_le, gt_iff_lt, Bool.not_eq_true', Bool.not_eq_false'] at h; try rw [h]) | skip)) | refine AR.gs rfl (by repeat (first | exact LE.nil | apply LE.cons)) ?_) | (apply AR.kCall 51; refine AR.call rfl (by repeat constructor) (gCutPrefix' _ _) (by repeat (first | exact LeL.nil | (refine LeL.cons (Le.refl _) ?_) | (refine LeL.cons Le.gr ?_) | (refine LeL.cons Le.nil ?_))) rfl (by repeat (first | exact LE.nil | apply LE.cons)) ?_; skip) | (apply AR.kBox; refine AR.box (by repeat constructor) rfl rfl (by repeat (first | exact LE.nil | apply LE.cons)) ?_) | (apply AR.kAlloc; refine AR.alloc rfl (by repeat constructor) rfl (by repeat (first | exact LE.nil | apply LE.cons)) ?_) | (apply AR.kStore; refine AR.store rfl rfl rfl (by repeat constructor) rfl (by repeat (first | exact LE.nil | apply LE.cons)) ?_) | (apply AR.kAdd; refine AR.add rfl rfl (by first | decide | omega | assumption | (simp only [List.length_take, List.length_drop, List.length_append, List.length_cons, List.length_nil, Nat.min_def] at *; omega)) (by repeat (first | exact LE.nil | apply LE.cons)) ?_) | (apply AR.kSub; refine AR.sub rfl rfl (by first | decide | omega | assumption | (simp only [List.length_take, List.length_drop, List.length_append, List.length_cons, List.length_nil, Nat.min_def] at *; omega)) (by repeat (first | exact LE.nil | apply LE.cons)) ?_) | (apply AR.kP; first | refine AR.p rfl (by repeat constructor) (by repeat (first | exact LE.nil | apply LE.cons)) ?_ | refine AR.pi rfl (by repeat constructor) (by first | decide | omega | assumption | (simp only [List.length_take, List.length_drop, List.length_append, List.length_cons, List.length_nil, Nat.min_def] at *; omega)) (by repeat (first | exact LE.nil | apply LE.cons)) ?_))
    | (apply AR.kNil; refine AR.nil (by kernel_rfl) (by kernel_rfl) ?_))
  all_goals exact AW.ret (hD rfl (Lx.tup (.cons .refl (.cons .refl .nil))))
theorem gUp (s a k : L) (h1 : a.length + k.length ≤ 9223372036854775807) : Good Try.prog 18 [.agg [.s s, .s a], .s k] [] (.tup [.s (upS s a k), .b (hp k s)]) [] := by
  have h2 := cutS_len k s
  refine Good.w tabOk mixed Try.func18 (N := 21) (by kernel_rfl) rfl (by repeat (first | exact LE.nil | apply LE.cons)) (by repeat (first | exact LE.nil | apply LE.cons)) fun D hD F => ?_
  repeat' (first
    | apply AO.nil
    | (apply AO.kG; first | (refine AO.gt rfl (fun h => ?_) (fun h => ?_) <;> (first | exact Bool.noConfusion h | exact absurd h (by decide) | (simp at h; done) | (rw [h]; try simp only [decide_eq_true_eq, decide_eq_false_iff_not, Int.not_lt, Int.not_le, ge_iff_le, gt_iff_lt, Bool.not_eq_true', Bool.not_eq_false'] at h; try rw [h]) | skip)) | (refine AO.gf rfl (fun h => ?_) (fun h => ?_) <;> (first | exact Bool.noConfusion h | exact absurd h (by decide) | (simp at h; done) | (rw [h]; try simp only [decide_eq_true_eq, decide_eq_false_iff_not, Int.not_lt, Int.not_le, ge_iff_le, gt_iff_lt, Bool.not_eq_true', Bool.not_eq_false'] at h; try rw [h]) | skip)) | refine AO.gs rfl ?_)
    | (apply AO.kCall 46; refine AO.call rfl (by repeat constructor) (gCutPrefix _ _) (by repeat (first | exact LeL.nil | (refine LeL.cons (Le.refl _) ?_) | (refine LeL.cons Le.gr ?_) | (refine LeL.cons Le.nil ?_))) rfl ?_; skip)
    | (apply AO.kBox; refine AO.box (by repeat constructor) rfl rfl ?_)
    | (apply AO.kAlloc; refine AO.alloc rfl (by repeat constructor) rfl ?_)
    | (apply AO.kStore; refine AO.store rfl rfl rfl (by repeat constructor) rfl ?_)
    | (apply AO.kAdd; refine AO.add rfl rfl (by first | decide | omega | assumption | (simp only [List.length_take, List.length_drop, List.length_append, List.length_cons, List.length_nil, Nat.min_def] at *; omega)) ?_)
    | (apply AO.kSub; refine AO.sub rfl rfl (by first | decide | omega | assumption | (simp only [List.length_take, List.length_drop, List.length_append, List.length_cons, List.length_nil, Nat.min_def] at *; omega)) ?_)
    | (apply AO.kP; first | refine AO.p rfl (by repeat constructor) ?_ | refine AO.pi rfl (by repeat constructor) (by first | decide | omega | assumption | (simp only [List.length_take, List.length_drop, List.length_append, List.length_cons, List.length_nil, Nat.min_def] at *; omega)) ?_)
    | apply AW.seq
    | (apply AW.kR; refine AW.r (by kernel_rfl) ?_)
    | (apply AW.kC; refine AW.cond rfl rfl (fun h => ?_) (fun h => ?_) <;> (first | exact Bool.noConfusion h | exact absurd h (by decide) | (simp at h; done) | (rw [h]; try simp only [decide_eq_true_eq, decide_eq_false_iff_not, Int.not_lt, Int.not_le, ge_iff_le, gt_iff_lt, Bool.not_eq_true', Bool.not_eq_false'] at h; try rw [h]) | skip))
    | apply AW.skip
    | apply AW.block
    | apply AW.out
    | (apply AW.kE; refine AW.exit rfl ?_)
    | apply AW.label
    | (apply AW.kRd; refine AW.rd (by kernel_rfl) ?_)
    | (apply AR.kAny; first | (apply AR.kG; first | (refine AR.gt rfl (by repeat (first | exact LE.nil | apply LE.cons)) (fun h => ?_) (fun h => ?_) <;> (first | exact Bool.noConfusion h | exact absurd h (by decide) | (simp at h; done) | (rw [h]; try simp only [decide_eq_true_eq, decide_eq_false_iff_not, Int.not_lt, Int.not_le, ge_iff_le, gt_iff_lt, Bool.not_eq_true', Bool.not_eq_false'] at h; try rw [h]) | skip)) | (refine AR.gf rfl (by repeat (first | exact LE.nil | apply LE.cons)) (fun h => ?_) (fun h => ?_) <;> (first | exact Bool.noConfusion h | exact absurd h (by decide) | (simp at h; done) | (rw [h]; try simp only [decide_eq_true_eq, decide_eq_false_iff_not, Int.not_lt, Int.not_le, ge_iff_le, gt_iff_lt, Bool.not_eq_true', Bool.not_eq_false'] at h; try rw [h]) | skip)) | refine AR.gs rfl (by repeat (first | exact LE.nil | apply LE.cons)) ?_) | (apply AR.kCall 46; refine AR.call rfl (by repeat constructor) (gCutPrefix _ _) (by repeat (first | exact LeL.nil | (refine LeL.cons (Le.refl _) ?_) | (refine LeL.cons Le.gr ?_) | (refine LeL.cons Le.nil ?_))) rfl (by repeat (first | exact LE.nil | apply LE.cons)) ?_; skip) | (apply AR.kBox; refine AR.box (by repeat constructor) rfl rfl (by repeat (first | exact LE.nil | apply LE.cons)) ?_) | (apply AR.kAlloc; refine AR.alloc rfl (by repeat constructor) rfl (by repeat (first | exact LE.nil | apply LE.cons)) ?_) | (apply AR.kStore; refine AR.store rfl rfl rfl (by repeat constructor) rfl (by repeat (first | exact LE.nil | apply LE.cons)) ?_) | (apply AR.kAdd; refine AR.add rfl rfl (by first | decide | omega | assumption | (simp only [List.length_take, List.length_drop, List.length_append, List.length_cons, List.length_nil, Nat.min_def] at *; omega)) (by repeat (first | exact LE.nil | apply LE.cons)) ?_) | (apply AR.kSub; refine AR.sub rfl rfl (by first | decide | omega | assumption | (simp only [List.length_take, List.length_drop, List.length_append, List.length_cons, List.length_nil, Nat.min_def] at *; omega)) (by repeat (first | exact LE.nil | apply LE.cons)) ?_) | (apply AR.kP; first | refine AR.p rfl (by repeat constructor) (by repeat (first | exact LE.nil | apply LE.cons)) ?_ | refine AR.pi rfl (by repeat constructor) (by first | decide | omega | assumption | (simp only [List.length_take, List.length_drop, List.length_append, List.length_cons, List.length_nil, Nat.min_def] at *; omega)) (by repeat (first | exact LE.nil | apply LE.cons)) ?_))
    | (apply AR.kNil; refine AR.nil (by kernel_rfl) (by kernel_rfl) ?_))
  all_goals exact AW.ret (hD rfl (Lx.tup (.cons (Lx.s (by simp [upS, cutS, h])) (.cons (Lx.b h.symm) .nil))))
theorem gTurn (s a : L) : Good Try.prog 45 [.agg [.s s, .s a]] [] (.agg [.s a, .s s]) [] := by
  refine Good.w tabOk mixed Try.func45 (N := 8) (by kernel_rfl) rfl (by repeat (first | exact LE.nil | apply LE.cons)) (by repeat (first | exact LE.nil | apply LE.cons)) fun D hD F => ?_
  repeat' (first
    | apply AO.nil
    | (apply AO.kG; first | (refine AO.gt rfl (fun h => ?_) (fun h => ?_) <;> (first | exact Bool.noConfusion h | exact absurd h (by decide) | (simp at h; done) | (rw [h]; try simp only [decide_eq_true_eq, decide_eq_false_iff_not, Int.not_lt, Int.not_le, ge_iff_le, gt_iff_lt, Bool.not_eq_true', Bool.not_eq_false'] at h; try rw [h]) | skip)) | (refine AO.gf rfl (fun h => ?_) (fun h => ?_) <;> (first | exact Bool.noConfusion h | exact absurd h (by decide) | (simp at h; done) | (rw [h]; try simp only [decide_eq_true_eq, decide_eq_false_iff_not, Int.not_lt, Int.not_le, ge_iff_le, gt_iff_lt, Bool.not_eq_true', Bool.not_eq_false'] at h; try rw [h]) | skip)) | refine AO.gs rfl ?_)
    | (apply AO.kBox; refine AO.box (by repeat constructor) rfl rfl ?_)
    | (apply AO.kAlloc; refine AO.alloc rfl (by repeat constructor) rfl ?_)
    | (apply AO.kStore; refine AO.store rfl rfl rfl (by repeat constructor) rfl ?_)
    | (apply AO.kAdd; refine AO.add rfl rfl (by first | decide | omega | assumption | (simp only [List.length_take, List.length_drop, List.length_append, List.length_cons, List.length_nil, Nat.min_def] at *; omega)) ?_)
    | (apply AO.kSub; refine AO.sub rfl rfl (by first | decide | omega | assumption | (simp only [List.length_take, List.length_drop, List.length_append, List.length_cons, List.length_nil, Nat.min_def] at *; omega)) ?_)
    | (apply AO.kP; first | refine AO.p rfl (by repeat constructor) ?_ | refine AO.pi rfl (by repeat constructor) (by first | decide | omega | assumption | (simp only [List.length_take, List.length_drop, List.length_append, List.length_cons, List.length_nil, Nat.min_def] at *; omega)) ?_)
    | apply AW.seq
    | (apply AW.kR; refine AW.r (by kernel_rfl) ?_)
    | (apply AW.kC; refine AW.cond rfl rfl (fun h => ?_) (fun h => ?_) <;> (first | exact Bool.noConfusion h | exact absurd h (by decide) | (simp at h; done) | (rw [h]; try simp only [decide_eq_true_eq, decide_eq_false_iff_not, Int.not_lt, Int.not_le, ge_iff_le, gt_iff_lt, Bool.not_eq_true', Bool.not_eq_false'] at h; try rw [h]) | skip))
    | apply AW.skip
    | apply AW.block
    | apply AW.out
    | (apply AW.kE; refine AW.exit rfl ?_)
    | apply AW.label
    | (apply AW.kRd; refine AW.rd (by kernel_rfl) ?_)
    | (apply AR.kAny; first | (apply AR.kG; first | (refine AR.gt rfl (by repeat (first | exact LE.nil | apply LE.cons)) (fun h => ?_) (fun h => ?_) <;> (first | exact Bool.noConfusion h | exact absurd h (by decide) | (simp at h; done) | (rw [h]; try simp only [decide_eq_true_eq, decide_eq_false_iff_not, Int.not_lt, Int.not_le, ge_iff_le, gt_iff_lt, Bool.not_eq_true', Bool.not_eq_false'] at h; try rw [h]) | skip)) | (refine AR.gf rfl (by repeat (first | exact LE.nil | apply LE.cons)) (fun h => ?_) (fun h => ?_) <;> (first | exact Bool.noConfusion h | exact absurd h (by decide) | (simp at h; done) | (rw [h]; try simp only [decide_eq_true_eq, decide_eq_false_iff_not, Int.not_lt, Int.not_le, ge_iff_le, gt_iff_lt, Bool.not_eq_true', Bool.not_eq_false'] at h; try rw [h]) | skip)) | refine AR.gs rfl (by repeat (first | exact LE.nil | apply LE.cons)) ?_) | (apply AR.kBox; refine AR.box (by repeat constructor) rfl rfl (by repeat (first | exact LE.nil | apply LE.cons)) ?_) | (apply AR.kAlloc; refine AR.alloc rfl (by repeat constructor) rfl (by repeat (first | exact LE.nil | apply LE.cons)) ?_) | (apply AR.kStore; refine AR.store rfl rfl rfl (by repeat constructor) rfl (by repeat (first | exact LE.nil | apply LE.cons)) ?_) | (apply AR.kAdd; refine AR.add rfl rfl (by first | decide | omega | assumption | (simp only [List.length_take, List.length_drop, List.length_append, List.length_cons, List.length_nil, Nat.min_def] at *; omega)) (by repeat (first | exact LE.nil | apply LE.cons)) ?_) | (apply AR.kSub; refine AR.sub rfl rfl (by first | decide | omega | assumption | (simp only [List.length_take, List.length_drop, List.length_append, List.length_cons, List.length_nil, Nat.min_def] at *; omega)) (by repeat (first | exact LE.nil | apply LE.cons)) ?_) | (apply AR.kP; first | refine AR.p rfl (by repeat constructor) (by repeat (first | exact LE.nil | apply LE.cons)) ?_ | refine AR.pi rfl (by repeat constructor) (by first | decide | omega | assumption | (simp only [List.length_take, List.length_drop, List.length_append, List.length_cons, List.length_nil, Nat.min_def] at *; omega)) (by repeat (first | exact LE.nil | apply LE.cons)) ?_))
    | (apply AR.kNil; refine AR.nil (by kernel_rfl) (by kernel_rfl) ?_))
  exact AW.ret (hD rfl .refl)
theorem gDown (s a k : L) (h1 : s.length + k.length ≤ 9223372036854775807) : Good Try.prog 19 [.agg [.s s, .s a], .s k] [] (.tup [.s (upS a s k), .b (hp k a)]) [] := by
  refine Good.w tabOk mixed Try.func19 (N := 12) (by kernel_rfl) rfl (by repeat (first | exact LE.nil | apply LE.cons)) (by repeat (first | exact LE.nil | apply LE.cons)) fun D hD F => ?_
  repeat' (first
    | apply AO.nil
    | (apply AO.kG; first | (refine AO.gt rfl (fun h => ?_) (fun h => ?_) <;> (first | exact Bool.noConfusion h | exact absurd h (by decide) | (simp at h; done) | (rw [h]; try simp only [decide_eq_true_eq, decide_eq_false_iff_not, Int.not_lt, Int.not_le, ge_iff_le, gt_iff_lt, Bool.not_eq_true', Bool.not_eq_false'] at h; try rw [h]) | skip)) | (refine AO.gf rfl (fun h => ?_) (fun h => ?_) <;> (first | exact Bool.noConfusion h | exact absurd h (by decide) | (simp at h; done) | (rw [h]; try simp only [decide_eq_true_eq, decide_eq_false_iff_not, Int.not_lt, Int.not_le, ge_iff_le, gt_iff_lt, Bool.not_eq_true', Bool.not_eq_false'] at h; try rw [h]) | skip)) | refine AO.gs rfl ?_)
    | (apply AO.kCall 45; refine AO.call rfl (by repeat constructor) (gTurn _ _) (by repeat (first | exact LeL.nil | (refine LeL.cons (Le.refl _) ?_) | (refine LeL.cons Le.gr ?_) | (refine LeL.cons Le.nil ?_))) rfl ?_; skip)
    | (apply AO.kCall 18; refine AO.call rfl (by repeat constructor) (gUp _ _ _ ?_) (by repeat (first | exact LeL.nil | (refine LeL.cons (Le.refl _) ?_) | (refine LeL.cons Le.gr ?_) | (refine LeL.cons Le.nil ?_))) rfl ?_; (· first | decide | omega | assumption | (simp only [List.length_take, List.length_drop, List.length_append, List.length_cons, List.length_nil, Nat.min_def] at *; omega)); skip)
    | (apply AO.kBox; refine AO.box (by repeat constructor) rfl rfl ?_)
    | (apply AO.kAlloc; refine AO.alloc rfl (by repeat constructor) rfl ?_)
    | (apply AO.kStore; refine AO.store rfl rfl rfl (by repeat constructor) rfl ?_)
    | (apply AO.kAdd; refine AO.add rfl rfl (by first | decide | omega | assumption | (simp only [List.length_take, List.length_drop, List.length_append, List.length_cons, List.length_nil, Nat.min_def] at *; omega)) ?_)
    | (apply AO.kSub; refine AO.sub rfl rfl (by first | decide | omega | assumption | (simp only [List.length_take, List.length_drop, List.length_append, List.length_cons, List.length_nil, Nat.min_def] at *; omega)) ?_)
    | (apply AO.kP; first | refine AO.p rfl (by repeat constructor) ?_ | refine AO.pi rfl (by repeat constructor) (by first | decide | omega | assumption | (simp only [List.length_take, List.length_drop, List.length_append, List.length_cons, List.length_nil, Nat.min_def] at *; omega)) ?_)
    | apply AW.seq
    | (apply AW.kR; refine AW.r (by kernel_rfl) ?_)
    | (apply AW.kC; refine AW.cond rfl rfl (fun h => ?_) (fun h => ?_) <;> (first | exact Bool.noConfusion h | exact absurd h (by decide) | (simp at h; done) | (rw [h]; try simp only [decide_eq_true_eq, decide_eq_false_iff_not, Int.not_lt, Int.not_le, ge_iff_le, gt_iff_lt, Bool.not_eq_true', Bool.not_eq_false'] at h; try rw [h]) | skip))
    | apply AW.skip
    | apply AW.block
    | apply AW.out
    | (apply AW.kE; refine AW.exit rfl ?_)
    | apply AW.label
    | (apply AW.kRd; refine AW.rd (by kernel_rfl) ?_)
    | (apply AR.kAny; first | (apply AR.kG; first | (refine AR.gt rfl (by repeat (first | exact LE.nil | apply LE.cons)) (fun h => ?_) (fun h => ?_) <;> (first | exact Bool.noConfusion h | exact absurd h (by decide) | (simp at h; done) | (rw [h]; try simp only [decide_eq_true_eq, decide_eq_false_iff_not, Int.not_lt, Int.not_le, ge_iff_le, gt_iff_lt, Bool.not_eq_true', Bool.not_eq_false'] at h; try rw [h]) | skip)) | (refine AR.gf rfl (by repeat (first | exact LE.nil | apply LE.cons)) (fun h => ?_) (fun h => ?_) <;> (first | exact Bool.noConfusion h | exact absurd h (by decide) | (simp at h; done) | (rw [h]; try simp only [decide_eq_true_eq, decide_eq_false_iff_not, Int.not_lt, Int.not_le, ge_iff_le, gt_iff_lt, Bool.not_eq_true', Bool.not_eq_false'] at h; try rw [h]) | skip)) | refine AR.gs rfl (by repeat (first | exact LE.nil | apply LE.cons)) ?_) | (apply AR.kCall 45; refine AR.call rfl (by repeat constructor) (gTurn _ _) (by repeat (first | exact LeL.nil | (refine LeL.cons (Le.refl _) ?_) | (refine LeL.cons Le.gr ?_) | (refine LeL.cons Le.nil ?_))) rfl (by repeat (first | exact LE.nil | apply LE.cons)) ?_; skip) | (apply AR.kCall 18; refine AR.call rfl (by repeat constructor) (gUp _ _ _ ?_) (by repeat (first | exact LeL.nil | (refine LeL.cons (Le.refl _) ?_) | (refine LeL.cons Le.gr ?_) | (refine LeL.cons Le.nil ?_))) rfl (by repeat (first | exact LE.nil | apply LE.cons)) ?_; (· first | decide | omega | assumption | (simp only [List.length_take, List.length_drop, List.length_append, List.length_cons, List.length_nil, Nat.min_def] at *; omega)); skip) | (apply AR.kBox; refine AR.box (by repeat constructor) rfl rfl (by repeat (first | exact LE.nil | apply LE.cons)) ?_) | (apply AR.kAlloc; refine AR.alloc rfl (by repeat constructor) rfl (by repeat (first | exact LE.nil | apply LE.cons)) ?_) | (apply AR.kStore; refine AR.store rfl rfl rfl (by repeat constructor) rfl (by repeat (first | exact LE.nil | apply LE.cons)) ?_) | (apply AR.kAdd; refine AR.add rfl rfl (by first | decide | omega | assumption | (simp only [List.length_take, List.length_drop, List.length_append, List.length_cons, List.length_nil, Nat.min_def] at *; omega)) (by repeat (first | exact LE.nil | apply LE.cons)) ?_) | (apply AR.kSub; refine AR.sub rfl rfl (by first | decide | omega | assumption | (simp only [List.length_take, List.length_drop, List.length_append, List.length_cons, List.length_nil, Nat.min_def] at *; omega)) (by repeat (first | exact LE.nil | apply LE.cons)) ?_) | (apply AR.kP; first | refine AR.p rfl (by repeat constructor) (by repeat (first | exact LE.nil | apply LE.cons)) ?_ | refine AR.pi rfl (by repeat constructor) (by first | decide | omega | assumption | (simp only [List.length_take, List.length_drop, List.length_append, List.length_cons, List.length_nil, Nat.min_def] at *; omega)) (by repeat (first | exact LE.nil | apply LE.cons)) ?_))
    | (apply AR.kNil; refine AR.nil (by kernel_rfl) (by kernel_rfl) ?_))
  exact AW.ret (hD rfl .refl)

def joinOk (s1 a1 s2 a2 : L) : Bool := hp a1 s2 || hp s2 a1
def joinS (s1 a1 s2 a2 : L) : L := if hp a1 s2 then s1 else if hp s2 a1 then s1 ++ s2.drop a1.length else []
def joinA (s1 a1 s2 a2 : L) : L := if hp a1 s2 then a2 ++ a1.drop s2.length else if hp s2 a1 then a2 else []
theorem gJoin (s1 a1 s2 a2 : L) (h1 : a2.length + a1.length ≤ 9223372036854775807) (h2 : s1.length + s2.length ≤ 9223372036854775807) :
    Good Try.prog 16 [.agg [.s s1, .s a1], .agg [.s s2, .s a2]] [] (.tup [.agg [.s (joinS s1 a1 s2 a2), .s (joinA s1 a1 s2 a2)], .b (joinOk s1 a1 s2 a2)]) [] := by
  have h3 := cutS_len a1 s2
  have h4 := cutS_len s2 a1
  refine Good.w tabOk mixed Try.func16 (N := 43) (by kernel_rfl) rfl (by repeat (first | exact LE.nil | apply LE.cons)) (by repeat (first | exact LE.nil | apply LE.cons)) fun D hD F => ?_
  repeat' (first
    | apply AO.nil
    | (apply AO.kG; first | (refine AO.gt rfl (fun h => ?_) (fun h => ?_) <;> (first | exact Bool.noConfusion h | exact absurd h (by decide) | (simp at h; done) | (rw [h]; try simp only [decide_eq_true_eq, decide_eq_false_iff_not, Int.not_lt, Int.not_le, ge_iff_le, gt_iff_lt, Bool.not_eq_true', Bool.not_eq_false'] at h; try rw [h]) | skip)) | (refine AO.gf rfl (fun h => ?_) (fun h => ?_) <;> (first | exact Bool.noConfusion h | exact absurd h (by decide) | (simp at h; done) | (rw [h]; try simp only [decide_eq_true_eq, decide_eq_false_iff_not, Int.not_lt, Int.not_le, ge_iff_le, gt_iff_lt, Bool.not_eq_true', Bool.not_eq_false'] at h; try rw [h]) | skip)) | refine AO.gs rfl ?_)
    | (apply AO.kCall 46; refine AO.call rfl (by repeat constructor) (gCutPrefix _ _) (by repeat (first | exact LeL.nil | (refine LeL.cons (Le.refl _) ?_) | (refine LeL.cons Le.gr ?_) | (refine LeL.cons Le.nil ?_))) rfl ?_; skip)
    | (apply AO.kBox; refine AO.box (by repeat constructor) rfl rfl ?_)
    | (apply AO.kAlloc; refine AO.alloc rfl (by repeat constructor) rfl ?_)
    | (apply AO.kStore; refine AO.store rfl rfl rfl (by repeat constructor) rfl ?_)
    | (apply AO.kAdd; refine AO.add rfl rfl (by first | decide | omega | assumption | (simp only [List.length_take, List.length_drop, List.length_append, List.length_cons, List.length_nil, Nat.min_def] at *; omega)) ?_)
    | (apply AO.kSub; refine AO.sub rfl rfl (by first | decide | omega | assumption | (simp only [List.length_take, List.length_drop, List.length_append, List.length_cons, List.length_nil, Nat.min_def] at *; omega)) ?_)
    | (apply AO.kP; first | refine AO.p rfl (by repeat constructor) ?_ | refine AO.pi rfl (by repeat constructor) (by first | decide | omega | assumption | (simp only [List.length_take, List.length_drop, List.length_append, List.length_cons, List.length_nil, Nat.min_def] at *; omega)) ?_)
    | apply AW.seq
    | (apply AW.kR; refine AW.r (by kernel_rfl) ?_)
    | (apply AW.kC; refine AW.cond rfl rfl (fun h => ?_) (fun h => ?_) <;> (first | exact Bool.noConfusion h | exact absurd h (by decide) | (simp at h; done) | (rw [h]; try simp only [decide_eq_true_eq, decide_eq_false_iff_not, Int.not_lt, Int.not_le, ge_iff_le, gt_iff_lt, Bool.not_eq_true', Bool.not_eq_false'] at h; try rw [h]) | skip))
    | apply AW.skip
    | apply AW.block
    | apply AW.out
    | (apply AW.kE; refine AW.exit rfl ?_)
    | apply AW.label
    | (apply AW.kRd; refine AW.rd (by kernel_rfl) ?_)
    | (apply AR.kAny; first | (apply AR.kG; first | (refine AR.gt rfl (by repeat (first | exact LE.nil | apply LE.cons)) (fun h => ?_) (fun h => ?_) <;> (first | exact Bool.noConfusion h | exact absurd h (by decide) | (simp at h; done) | (rw [h]; try simp only [decide_eq_true_eq, decide_eq_false_iff_not, Int.not_lt, Int.not_le, ge_iff_le, gt_iff_lt, Bool.not_eq_true', Bool.not_eq_false'] at h; try rw [h]) | skip)) | (refine AR.gf rfl (by repeat (first | exact LE.nil | apply LE.cons)) (fun h => ?_) (fun h => ?_) <;> (first | exact Bool.noConfusion h | exact absurd h (by decide) | (simp at h; done) | (rw [h]; try simp only [decide_eq_true_eq, decide_eq_false_iff_not, Int.not_lt, Int.not_le, ge_iff_le, gt_iff_lt, Bool.not_eq_true', Bool.not_eq_false'] at h; try rw [h]) | skip)) | refine AR.gs rfl (by repeat (first | exact LE.nil | apply LE.cons)) ?_) | (apply AR.kCall 46; refine AR.call rfl (by repeat constructor) (gCutPrefix _ _) (by repeat (first | exact LeL.nil | (refine LeL.cons (Le.refl _) ?_) | (refine LeL.cons Le.gr ?_) | (refine LeL.cons Le.nil ?_))) rfl (by repeat (first | exact LE.nil | apply LE.cons)) ?_; skip) | (apply AR.kBox; refine AR.box (by repeat constructor) rfl rfl (by repeat (first | exact LE.nil | apply LE.cons)) ?_) | (apply AR.kAlloc; refine AR.alloc rfl (by repeat constructor) rfl (by repeat (first | exact LE.nil | apply LE.cons)) ?_) | (apply AR.kStore; refine AR.store rfl rfl rfl (by repeat constructor) rfl (by repeat (first | exact LE.nil | apply LE.cons)) ?_) | (apply AR.kAdd; refine AR.add rfl rfl (by first | decide | omega | assumption | (simp only [List.length_take, List.length_drop, List.length_append, List.length_cons, List.length_nil, Nat.min_def] at *; omega)) (by repeat (first | exact LE.nil | apply LE.cons)) ?_) | (apply AR.kSub; refine AR.sub rfl rfl (by first | decide | omega | assumption | (simp only [List.length_take, List.length_drop, List.length_append, List.length_cons, List.length_nil, Nat.min_def] at *; omega)) (by repeat (first | exact LE.nil | apply LE.cons)) ?_) | (apply AR.kP; first | refine AR.p rfl (by repeat constructor) (by repeat (first | exact LE.nil | apply LE.cons)) ?_ | refine AR.pi rfl (by repeat constructor) (by first | decide | omega | assumption | (simp only [List.length_take, List.length_drop, List.length_append, List.length_cons, List.length_nil, Nat.min_def] at *; omega)) (by repeat (first | exact LE.nil | apply LE.cons)) ?_))
    | (apply AR.kNil; refine AR.nil (by kernel_rfl) (by kernel_rfl) ?_))
  all_goals (refine AW.ret (hD rfl ?_); (repeat' (first | apply Lx.s | apply Lx.b | apply Lx.i | apply LxL.cons | exact LxL.nil | apply Lx.tup | apply Lx.agg | apply Lx.refl)) <;> (try with_reducible rfl))
  all_goals simp_all [joinS, joinA, joinOk, cutS]
theorem min_toNat (x y : Nat) : (if (x : Int) < (y : Int) then (x : Int) else (y : Int)).toNat = min x y := by
  split <;> omega
theorem join_take (a s : L) : (a.take (min s.length a.length) == s.take (min s.length a.length)) = (hp a s || hp s a) := by
  rw [Bool.eq_iff_iff]
  simp only [beq_iff_eq, Bool.or_eq_true, hp_iff]
  rcases Nat.le_total s.length a.length with h | h
  · rw [Nat.min_eq_left h, List.take_length]
    constructor
    · exact .inl
    · rintro (h1 | h1)
      · exact h1
      · have := congrArg List.length h1
        simp only [List.length_take] at this
        have he : s.length = a.length := by omega
        rw [← he, List.take_length] at h1
        rw [he, List.take_length]
        exact h1.symm
  · rw [Nat.min_eq_right h, List.take_length]
    constructor
    · exact fun h => .inr h.symm
    · rintro (h1 | h1)
      · have := congrArg List.length h1
        simp only [List.length_take] at this
        have he : s.length = a.length := by omega
        rw [← he, List.take_length]
        rw [he, List.take_length] at h1
        exact h1
      · exact h1.symm
theorem gJoin' (s1 a1 s2 a2 : L) (h1 : a2.length + a1.length ≤ 9223372036854775807) (h2 : s1.length + s2.length ≤ 9223372036854775807) :
    Good Try.prog 17 [.agg [.s s1, .s a1], .agg [.s s2, .s a2]] [] (.tup [.agg [.s (joinS s1 a1 s2 a2), .s (joinA s1 a1 s2 a2)], .b (joinOk s1 a1 s2 a2)]) [] := by
  refine Good.w tabOk mixed Try.func17 (N := 39) (by kernel_rfl) rfl (by repeat (first | exact LE.nil | apply LE.cons)) (by repeat (first | exact LE.nil | apply LE.cons)) fun D hD F => ?_
  repeat' (first
    | apply AO.nil
    | (apply AO.kG; first | (refine AO.gt rfl (fun h => ?_) (fun h => ?_) <;> (first | exact Bool.noConfusion h | exact absurd h (by decide) | (simp at h; done) | (rw [h]; try simp only [decide_eq_true_eq, decide_eq_false_iff_not, Int.not_lt, Int.not_le, ge_iff_le, gt_iff_lt, Bool.not_eq_true', Bool.not_eq_false'] at h; try rw [h]) | skip)) | (refine AO.gf rfl (fun h => ?_) (fun h => ?_) <;> (first | exact Bool.noConfusion h | exact absurd h (by decide) | (simp at h; done) | (rw [h]; try simp only [decide_eq_true_eq, decide_eq_false_iff_not, Int.not_lt, Int.not_le, ge_iff_le, gt_iff_lt, Bool.not_eq_true', Bool.not_eq_false'] at h; try rw [h]) | skip)) | refine AO.gs rfl ?_)
    | (apply AO.kBox; refine AO.box (by repeat constructor) rfl rfl ?_)
    | (apply AO.kAlloc; refine AO.alloc rfl (by repeat constructor) rfl ?_)
    | (apply AO.kStore; refine AO.store rfl rfl rfl (by repeat constructor) rfl ?_)
    | (apply AO.kAdd; refine AO.add rfl rfl (by first | decide | omega | assumption | (simp only [List.length_take, List.length_drop, List.length_append, List.length_cons, List.length_nil, Nat.min_def] at *; omega)) ?_)
    | (apply AO.kSub; refine AO.sub rfl rfl (by first | decide | omega | assumption | (simp only [List.length_take, List.length_drop, List.length_append, List.length_cons, List.length_nil, Nat.min_def] at *; omega)) ?_)
    | (apply AO.kP; first | refine AO.p rfl (by repeat constructor) ?_ | refine AO.pi rfl (by repeat constructor) (by first | decide | omega | assumption | (simp only [List.length_take, List.length_drop, List.length_append, List.length_cons, List.length_nil, Nat.min_def] at *; omega)) ?_)
    | apply AW.seq
    | (apply AW.kR; refine AW.r (by kernel_rfl) ?_)
    | (apply AW.kC; refine AW.cond rfl rfl (fun h => ?_) (fun h => ?_) <;> (first | exact Bool.noConfusion h | exact absurd h (by decide) | (simp at h; done) | (rw [h]; try simp only [decide_eq_true_eq, decide_eq_false_iff_not, Int.not_lt, Int.not_le, ge_iff_le, gt_iff_lt, Bool.not_eq_true', Bool.not_eq_false'] at h; try rw [h]) | skip))
    | apply AW.skip
    | apply AW.block
    | apply AW.out
    | (apply AW.kE; refine AW.exit rfl ?_)
    | apply AW.label
    | (apply AW.kRd; refine AW.rd (by kernel_rfl) ?_)
    | (apply AR.kAny; first | (apply AR.kG; first | (refine AR.gt rfl (by repeat (first | exact LE.nil | apply LE.cons)) (fun h => ?_) (fun h => ?_) <;> (first | exact Bool.noConfusion h | exact absurd h (by decide) | (simp at h; done) | (rw [h]; try simp only [decide_eq_true_eq, decide_eq_false_iff_not, Int.not_lt, Int.not_le, ge_iff_le, gt_iff_lt, Bool.not_eq_true', Bool.not_eq_false'] at h; try rw [h]) | skip)) | (refine AR.gf rfl (by repeat (first | exact LE.nil | apply LE.cons)) (fun h => ?_) (fun h => ?_) <;> (first | exact Bool.noConfusion h | exact absurd h (by decide) | (simp at h; done) | (rw [h]; try simp only [decide_eq_true_eq, decide_eq_false_iff_not, Int.not_lt, Int.not_le, ge_iff_le, gt_iff_lt, Bool.not_eq_true', Bool.not_eq_false'] at h; try rw [h]) | skip)) | refine AR.gs rfl (by repeat (first | exact LE.nil | apply LE.cons)) ?_) | (apply AR.kBox; refine AR.box (by repeat constructor) rfl rfl (by repeat (first | exact LE.nil | apply LE.cons)) ?_) | (apply AR.kAlloc; refine AR.alloc rfl (by repeat constructor) rfl (by repeat (first | exact LE.nil | apply LE.cons)) ?_) | (apply AR.kStore; refine AR.store rfl rfl rfl (by repeat constructor) rfl (by repeat (first | exact LE.nil | apply LE.cons)) ?_) | (apply AR.kAdd; refine AR.add rfl rfl (by first | decide | omega | assumption | (simp only [List.length_take, List.length_drop, List.length_append, List.length_cons, List.length_nil, Nat.min_def] at *; omega)) (by repeat (first | exact LE.nil | apply LE.cons)) ?_) | (apply AR.kSub; refine AR.sub rfl rfl (by first | decide | omega | assumption | (simp only [List.length_take, List.length_drop, List.length_append, List.length_cons, List.length_nil, Nat.min_def] at *; omega)) (by repeat (first | exact LE.nil | apply LE.cons)) ?_) | (apply AR.kP; first | refine AR.p rfl (by repeat constructor) (by repeat (first | exact LE.nil | apply LE.cons)) ?_ | refine AR.pi rfl (by repeat constructor) (by first | decide | omega | assumption | (simp only [List.length_take, List.length_drop, List.length_append, List.length_cons, List.length_nil, Nat.min_def] at *; omega)) (by repeat (first | exact LE.nil | apply LE.cons)) ?_))
    | (apply AR.kNil; refine AR.nil (by kernel_rfl) (by kernel_rfl) ?_))
  all_goals (refine AW.ret (hD rfl ?_); (repeat' (first | apply Lx.s | apply Lx.b | apply Lx.i | apply LxL.cons | exact LxL.nil | apply Lx.tup | apply Lx.agg | apply Lx.refl)) <;> (try with_reducible rfl))
  all_goals (rw [min_toNat] at *)
  all_goals (rw [join_take] at h)
  all_goals simp only [joinS, joinA, joinOk]
  · simp at h; simp [h]
  · simp at h; simp [h]
  · exact h.symm
  · cases h1 : hp a1 s2 with
    | true => rw [Nat.min_eq_left (hp_len h1)]; simp
    | false => rw [h1, Bool.false_or] at h; rw [Nat.min_eq_right (hp_len h)]; simp [h]
  · cases h1 : hp a1 s2 with
    | true => rw [Nat.min_eq_left (hp_len h1)]; simp
    | false => rw [h1, Bool.false_or] at h; rw [Nat.min_eq_right (hp_len h)]; simp [h]
  · exact h.symm
theorem gAwake4 : Good Try.prog 15 [] [] (.b true) [] := by
  refine Good.w tabOk mixed Try.func15 (N := 29) (by kernel_rfl) rfl (by repeat (first | exact LE.nil | apply LE.cons)) (by repeat (first | exact LE.nil | apply LE.cons)) fun D hD F => ?_
  repeat' (first
    | apply AO.nil
    | (apply AO.kG; first | (refine AO.gt rfl (fun h => ?_) (fun h => ?_) <;> (first | exact Bool.noConfusion h | exact absurd h (by decide) | (simp at h; done) | (rw [h]; try simp only [decide_eq_true_eq, decide_eq_false_iff_not, Int.not_lt, Int.not_le, ge_iff_le, gt_iff_lt, Bool.not_eq_true', Bool.not_eq_false'] at h; try rw [h]) | skip)) | (refine AO.gf rfl (fun h => ?_) (fun h => ?_) <;> (first | exact Bool.noConfusion h | exact absurd h (by decide) | (simp at h; done) | (rw [h]; try simp only [decide_eq_true_eq, decide_eq_false_iff_not, Int.not_lt, Int.not_le, ge_iff_le, gt_iff_lt, Bool.not_eq_true', Bool.not_eq_false'] at h; try rw [h]) | skip)) | refine AO.gs rfl ?_)
    | (apply AO.kCall 18; refine AO.call rfl (by repeat constructor) (gUp _ _ _ ?_) (by repeat (first | exact LeL.nil | (refine LeL.cons (Le.refl _) ?_) | (refine LeL.cons Le.gr ?_) | (refine LeL.cons Le.nil ?_))) rfl ?_; (· first | decide | omega | assumption | (simp only [List.length_take, List.length_drop, List.length_append, List.length_cons, List.length_nil, Nat.min_def] at *; omega)); skip)
    | (apply AO.kCall 16; refine AO.call rfl (by repeat constructor) (gJoin _ _ _ _ ?_ ?_) (by repeat (first | exact LeL.nil | (refine LeL.cons (Le.refl _) ?_) | (refine LeL.cons Le.gr ?_) | (refine LeL.cons Le.nil ?_))) rfl ?_; (· first | decide | omega | assumption | (simp only [List.length_take, List.length_drop, List.length_append, List.length_cons, List.length_nil, Nat.min_def] at *; omega)); (· first | decide | omega | assumption | (simp only [List.length_take, List.length_drop, List.length_append, List.length_cons, List.length_nil, Nat.min_def] at *; omega)); skip)
    | (apply AO.kBox; refine AO.box (by repeat constructor) rfl rfl ?_)
    | (apply AO.kAlloc; refine AO.alloc rfl (by repeat constructor) rfl ?_)
    | (apply AO.kStore; refine AO.store rfl rfl rfl (by repeat constructor) rfl ?_)
    | (apply AO.kAdd; refine AO.add rfl rfl (by first | decide | omega | assumption | (simp only [List.length_take, List.length_drop, List.length_append, List.length_cons, List.length_nil, Nat.min_def] at *; omega)) ?_)
    | (apply AO.kSub; refine AO.sub rfl rfl (by first | decide | omega | assumption | (simp only [List.length_take, List.length_drop, List.length_append, List.length_cons, List.length_nil, Nat.min_def] at *; omega)) ?_)
    | (apply AO.kP; first | refine AO.p rfl (by repeat constructor) ?_ | refine AO.pi rfl (by repeat constructor) (by first | decide | omega | assumption | (simp only [List.length_take, List.length_drop, List.length_append, List.length_cons, List.length_nil, Nat.min_def] at *; omega)) ?_)
    | apply AW.seq
    | (apply AW.kR; refine AW.r (by kernel_rfl) ?_)
    | (apply AW.kC; refine AW.cond rfl rfl (fun h => ?_) (fun h => ?_) <;> (first | exact Bool.noConfusion h | exact absurd h (by decide) | (simp at h; done) | (rw [h]; try simp only [decide_eq_true_eq, decide_eq_false_iff_not, Int.not_lt, Int.not_le, ge_iff_le, gt_iff_lt, Bool.not_eq_true', Bool.not_eq_false'] at h; try rw [h]) | skip))
    | apply AW.skip
    | apply AW.block
    | apply AW.out
    | (apply AW.kE; refine AW.exit rfl ?_)
    | apply AW.label
    | (apply AW.kRd; refine AW.rd (by kernel_rfl) ?_)
    | (apply AR.kAny; first | (apply AR.kG; first | (refine AR.gt rfl (by repeat (first | exact LE.nil | apply LE.cons)) (fun h => ?_) (fun h => ?_) <;> (first | exact Bool.noConfusion h | exact absurd h (by decide) | (simp at h; done) | (rw [h]; try simp only [decide_eq_true_eq, decide_eq_false_iff_not, Int.not_lt, Int.not_le, ge_iff_le, gt_iff_lt, Bool.not_eq_true', Bool.not_eq_false'] at h; try rw [h]) | skip)) | (refine AR.gf rfl (by repeat (first | exact LE.nil | apply LE.cons)) (fun h => ?_) (fun h => ?_) <;> (first | exact Bool.noConfusion h | exact absurd h (by decide) | (simp at h; done) | (rw [h]; try simp only [decide_eq_true_eq, decide_eq_false_iff_not, Int.not_lt, Int.not_le, ge_iff_le, gt_iff_lt, Bool.not_eq_true', Bool.not_eq_false'] at h; try rw [h]) | skip)) | refine AR.gs rfl (by repeat (first | exact LE.nil | apply LE.cons)) ?_) | (apply AR.kCall 18; refine AR.call rfl (by repeat constructor) (gUp _ _ _ ?_) (by repeat (first | exact LeL.nil | (refine LeL.cons (Le.refl _) ?_) | (refine LeL.cons Le.gr ?_) | (refine LeL.cons Le.nil ?_))) rfl (by repeat (first | exact LE.nil | apply LE.cons)) ?_; (· first | decide | omega | assumption | (simp only [List.length_take, List.length_drop, List.length_append, List.length_cons, List.length_nil, Nat.min_def] at *; omega)); skip) | (apply AR.kCall 16; refine AR.call rfl (by repeat constructor) (gJoin _ _ _ _ ?_ ?_) (by repeat (first | exact LeL.nil | (refine LeL.cons (Le.refl _) ?_) | (refine LeL.cons Le.gr ?_) | (refine LeL.cons Le.nil ?_))) rfl (by repeat (first | exact LE.nil | apply LE.cons)) ?_; (· first | decide | omega | assumption | (simp only [List.length_take, List.length_drop, List.length_append, List.length_cons, List.length_nil, Nat.min_def] at *; omega)); (· first | decide | omega | assumption | (simp only [List.length_take, List.length_drop, List.length_append, List.length_cons, List.length_nil, Nat.min_def] at *; omega)); skip) | (apply AR.kBox; refine AR.box (by repeat constructor) rfl rfl (by repeat (first | exact LE.nil | apply LE.cons)) ?_) | (apply AR.kAlloc; refine AR.alloc rfl (by repeat constructor) rfl (by repeat (first | exact LE.nil | apply LE.cons)) ?_) | (apply AR.kStore; refine AR.store rfl rfl rfl (by repeat constructor) rfl (by repeat (first | exact LE.nil | apply LE.cons)) ?_) | (apply AR.kAdd; refine AR.add rfl rfl (by first | decide | omega | assumption | (simp only [List.length_take, List.length_drop, List.length_append, List.length_cons, List.length_nil, Nat.min_def] at *; omega)) (by repeat (first | exact LE.nil | apply LE.cons)) ?_) | (apply AR.kSub; refine AR.sub rfl rfl (by first | decide | omega | assumption | (simp only [List.length_take, List.length_drop, List.length_append, List.length_cons, List.length_nil, Nat.min_def] at *; omega)) (by repeat (first | exact LE.nil | apply LE.cons)) ?_) | (apply AR.kP; first | refine AR.p rfl (by repeat constructor) (by repeat (first | exact LE.nil | apply LE.cons)) ?_ | refine AR.pi rfl (by repeat constructor) (by first | decide | omega | assumption | (simp only [List.length_take, List.length_drop, List.length_append, List.length_cons, List.length_nil, Nat.min_def] at *; omega)) (by repeat (first | exact LE.nil | apply LE.cons)) ?_))
    | (apply AR.kNil; refine AR.nil (by kernel_rfl) (by kernel_rfl) ?_))
  all_goals (refine AW.ret (hD rfl ?_); (repeat' (first | apply Lx.s | apply Lx.b | apply Lx.i | apply LxL.cons | exact LxL.nil | apply Lx.tup | apply Lx.agg | apply Lx.refl)) <;> (try with_reducible rfl))
  all_goals decide
end Go.Proofs.Ytafbjkidgdpfoaa.Mv
