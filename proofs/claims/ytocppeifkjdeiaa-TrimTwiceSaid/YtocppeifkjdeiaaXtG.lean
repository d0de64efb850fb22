/- A machine for proofs: a row that a call answers, as a box. Under no condition. -/
import Derived.Test.YtocppeifkjdeiaaXtF
namespace Go.Proofs.Ytocppeifkjdeiaa.Mv
open Go
set_option linter.unusedSimpArgs false
set_option linter.unusedVariables false

/-- Values that lead nowhere. -/
def AV.flat : AV → Bool
  | .i .. | .b _ | .s _ => true
  | _ => false
theorem Rep.flat {Γ Γ' m m' v c} (h : Rep Γ m v c) (hc : c.flat = true) : Rep Γ' m' v c := by
  cases h <;> first | exact .i | exact .b | exact .s | (simp [AV.flat] at hc)
theorem flatB (l : List UInt8) : (BS l).flatten.all AV.flat = true := by
  rw [BS_flat]
  simp [cellsB, AV.flat]
theorem close_flat {c : AV} (h : c.flat = true) : c.close = c := by cases c <;> simp [AV.flat] at h <;> rfl
theorem closeL_flat {cs : List AV} (h : cs.all AV.flat = true) : cs.map AV.close = cs := by
  induction cs with
  | nil => rfl
  | cons c cs ih =>
    simp only [List.all_cons, Bool.and_eq_true] at h
    rw [List.map_cons, close_flat h.1, ih h.2]
theorem flat_shut {cs : List AV} (h : cs.all AV.flat = true) : cs.all AV.shut = true := by
  rw [List.all_eq_true] at *
  intro c hc
  have := h c hc
  cases c <;> simp [AV.flat] at this <;> rfl
/-- A box's rows, once it is written no more. -/
theorem Lx.fzR {t sz : Nat} {rows : List (List AV)} (hfl : rows.flatten.all AV.flat = true) (hrl : ∀ r ∈ rows, r.length = sz) : Lx (FzG t rows.flatten) (.bsl t 0 rows.length sz) (.sh sz rows) := fun Γ m v hh hr => by
  cases hr with
  | bsl hth hn =>
    have := hh _ hth 0
    rw [List.drop_zero, closeL_flat hfl] at this
    cases this with
    | pel vs h1 h2 h3 h4 => exact .sh vs hn.1 hn.2 rfl hrl h1 h2 h3 h4
theorem Lx.fzB {t : Nat} {l : List UInt8} : Lx (FzG t (cellsB l)) (.bsl t 0 l.length 1) (.sh 1 (BS l)) := by
  have := Lx.fzR (t := t) (sz := 1) (rows := BS l) (flatB l) (fun r hr => by
    simp only [BS, List.mem_map] at hr
    obtain ⟨b, _, rfl⟩ := hr; rfl)
  rwa [BS_len, BS_flat] at this
theorem cellsB_shut (l : List UInt8) : (cellsB l).all AV.shut = true := by simp [cellsB, AV.shut]
/-- A row that may grow, handed out as a box. -/
theorem Good.box {P : Program} {f : FuncId} {args : List AV} {t e sz : Nat} {rows : List (List AV)} (hg : Good P f args [] (.gr t e sz rows) [(t, .gw rows.length)]) (h0 : 0 < rows.length) (hfl : rows.flatten.all AV.flat = true) :
    Good P f args [] (.bsl t 0 rows.length sz) [(t, .bx rows.flatten)] :=
  ⟨hg.fn, fun w Γ m vals h1 h2 h3 h4 => (hg.calls w Γ m vals h1 h2 h3 h4).mono fun e' w' ⟨v, Γ', m', q, hp⟩ => by
    have hob := hp.obs (t, .gw rows.length) (by simp)
    obtain ⟨v0, e0, sz0, xs, k1, k2, k3, k4⟩ := hob
    have hrep := hp.rep
    cases hrep with
    | gr hsh hka =>
      rw [hka] at k1; cases k1
      rcases k3.2 with ⟨_, hz⟩ | ⟨gb, cap, cur, rfl, _, hheap, hnc, hcm, hcs, htake⟩
      · omega
      · have hblk : (Ob.gw rows.length).blk m' t = some gb := by simp [Ob.blk, hka, Value.ownBlock]
        have hnew : w.heap.size ≤ gb := by
          rcases hp.own gb ⟨(t, .gw rows.length), by simp, hblk⟩ with h | ⟨p, hp', _⟩
          · exact h
          · simp at hp'
        obtain ⟨r1, r2, r3⟩ := own_rep k3 hsh (fun g hg => (k4 g hg).1)
        let Γ'' : Gam := fun ad => if ad.block = gb then none else Γ' ad
        let m'' : Nm := m'.set t (some gb) fun _ => none
        refine ⟨_, Γ'', m'', q, fun ad y hy => ?_, fun ad y hy => ?_, .bsl (by simp [m'', Nm.set]) ⟨hnc, hcm⟩, fun p hp' => ?_, fun p hp' q' hq' g _ _ => by simp at hp' hq'; rw [hp', hq'], fun g hg' => ?_, fun p hp' => by simp at hp', hp.frame, fun ad h0 h1 => ?_⟩
        · have := block_lt_of_cell (h1 ad y hy)
          simp only [Γ'']
          rw [if_neg (by omega)]
          exact hp.sub ad y hy
        · simp only [Γ''] at hy
          split at hy
          · cases hy
          · exact hp.gok ad y hy
        · simp at hp'; subst hp'
          have hlen : rows.flatten.length = xs.length := r1.1.symm
          refine ⟨gb, cur, (e, 0, 0), by simp [m'', Nm.set], hheap, ⟨.inl (Nat.le_refl _), ?_⟩, fun j y z hy hz => ?_, fun j y hj hy => ?_, fun ad had => by simp [Γ'', had]⟩
          · rw [hlen, k3.1, hcs]; exact Nat.mul_le_mul_right _ hnc
          · have hj : j < xs.length := by rw [← hlen]; exact (List.getElem?_eq_some_iff.1 hz).1
            have hx : xs[j]? = some y := by
              rw [← htake, List.getElem?_take, if_pos (by rw [k3.1] at hj; exact hj)]; simpa using hy
            exact (r1.2 j y z hx hz).flat (List.all_eq_true.1 hfl z (List.mem_of_getElem? hz))
          · rw [hlen] at hj
            have hx : xs[j]? = some y := by
              rw [← htake, List.getElem?_take, if_pos (by rw [k3.1] at hj; exact hj)]; simpa using hy
            exact r3 y (List.mem_of_getElem? hx)
        · obtain ⟨p, hp', hg'⟩ := hg'
          simp at hp'; subst hp'
          simp only [Ob.blk, m'', Nm.set, if_true] at hg'
          cases hg'; exact .inl hnew
        · simp only [Γ''] at h1
          split at h1
          · exact absurd rfl h1
          · exact (hp.fresh ad h0 h1).imp id fun ⟨p, hp', _⟩ => by simp at hp'⟩
/-- A row of bytes, handed out as a box. -/
theorem Good.boxB {P : Program} {f : FuncId} {args : List AV} {t e : Nat} {l : List UInt8} (hg : Good P f args [] (.gr t e 1 (BS l)) [(t, .gw (BS l).length)]) (h0 : 0 < l.length) : Good P f args [] (.bsl t 0 l.length 1) [(t, .bx (cellsB l))] := by
  have := hg.box (by rw [BS_len]; exact h0) (flatB l)
  rwa [BS_len, BS_flat] at this
end Go.Proofs.Ytocppeifkjdeiaa.Mv
