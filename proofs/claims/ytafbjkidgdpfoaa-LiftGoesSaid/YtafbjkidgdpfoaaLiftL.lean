/- Lifts: the plain laws. Under no condition. -/
import Derived.Test.YtafbjkidgdpfoaaLiftA
namespace Go.Proofs.Ytafbjkidgdpfoaa.Mv
open Go Go.Proofs
set_option linter.unusedSimpArgs false
set_option linter.unusedVariables false

theorem hp_pre {k p : L} : hp k p = true ↔ ∃ t, k = p ++ t := by
  rw [hp, List.isPrefixOf_iff_prefix]
  exact ⟨fun ⟨t, h⟩ => ⟨t, h.symm⟩, fun ⟨t, h⟩ => ⟨t, h.symm⟩⟩
theorem hp_app (p t : L) : hp (p ++ t) p = true := hp_pre.2 ⟨t, rfl⟩
theorem hp_app2 (p t m : L) : hp (p ++ t) (p ++ m) = hp t m := by
  rw [Bool.eq_iff_iff, hp, hp, List.isPrefixOf_iff_prefix, List.isPrefixOf_iff_prefix, List.prefix_append_right_inj]
theorem hp_false {k p : L} (h : hp k p = false) : ¬ ∃ t, k = p ++ t := fun x => by rw [hp_pre.2 x] at h; cases h
theorem upS_app (p a t : L) : upS p a (p ++ t) = a ++ t := by simp [upS, hp_app]
theorem upS_no {p a k : L} (h : hp k p = false) : upS p a k = [] := by simp [upS, h]
theorem joinS_len (s1 a1 s2 a2 : L) : (joinS s1 a1 s2 a2).length ≤ s1.length + s2.length := by
  unfold joinS; split
  · omega
  · split <;> simp
theorem joinA_len (s1 a1 s2 a2 : L) : (joinA s1 a1 s2 a2).length ≤ a1.length + a2.length := by
  unfold joinA; split
  · simp; omega
  · split <;> simp
theorem great2_false {a b : L} (h : great2 a b = false) : a.length ≤ 300 ∧ b.length ≤ 300 := by
  simp [great2] at h; exact h
theorem upS_len (s a k : L) : (upS s a k).length ≤ a.length + k.length := by
  unfold upS; split <;> simp
/-- Where two lifts lead, one behind the other. -/
theorem join_law (s1 a1 s2 a2 k : L) :
    (joinOk s1 a1 s2 a2 = false → (hp k s1 && hp (upS s1 a1 k) s2) = false) ∧
    (joinOk s1 a1 s2 a2 = true → hp k (joinS s1 a1 s2 a2) = (hp k s1 && hp (upS s1 a1 k) s2) ∧ upS (joinS s1 a1 s2 a2) (joinA s1 a1 s2 a2) k = if hp k s1 = true then upS s2 a2 (upS s1 a1 k) else []) := by
  cases h1 : hp a1 s2 with
  | true =>
    obtain ⟨r, rfl⟩ := hp_pre.1 h1
    refine ⟨fun h => by simp [joinOk, h1] at h, fun _ => ?_⟩
    simp only [joinS, joinA, h1, if_true, List.drop_left']
    cases h2 : hp k s1 with
    | true =>
      obtain ⟨t, rfl⟩ := hp_pre.1 h2
      simp [upS_app, hp_app, List.append_assoc]
    | false => simp [upS_no h2]
  | false =>
    cases h3 : hp s2 a1 with
    | true =>
      obtain ⟨m, rfl⟩ := hp_pre.1 h3
      refine ⟨fun h => by simp [joinOk, h3] at h, fun _ => ?_⟩
      simp only [joinS, joinA, h1, h3, if_true, Bool.false_eq_true, if_false, List.drop_left']
      cases h2 : hp k s1 with
      | true =>
        obtain ⟨t, rfl⟩ := hp_pre.1 h2
        simp only [upS_app, hp_app2, Bool.true_and, if_true, true_and]
        cases h4 : hp t m with
        | true =>
          obtain ⟨u, rfl⟩ := hp_pre.1 h4
          rw [← List.append_assoc, ← List.append_assoc, upS_app, upS_app]
        | false => rw [upS_no (by rw [hp_app2]; exact h4), upS_no (by rw [hp_app2]; exact h4)]
      | false =>
        have : hp k (s1 ++ m) = false := by
          cases h5 : hp k (s1 ++ m) with
          | false => rfl
          | true =>
            obtain ⟨t, rfl⟩ := hp_pre.1 h5
            rw [List.append_assoc, hp_app] at h2; cases h2
        simp [this, upS_no this]
    | false =>
      refine ⟨fun _ => ?_, fun h => by simp [joinOk, h1, h3] at h⟩
      cases h2 : hp k s1 with
      | false => rfl
      | true =>
        obtain ⟨t, rfl⟩ := hp_pre.1 h2
        rw [upS_app, Bool.true_and]
        cases h5 : hp (a1 ++ t) s2 with
        | false => rfl
        | true =>
          exfalso
          rw [hp, List.isPrefixOf_iff_prefix] at h5
          rcases List.prefix_or_prefix_of_prefix h5 (List.prefix_append a1 t) with h | h
          · have : hp a1 s2 = true := by rw [hp, List.isPrefixOf_iff_prefix]; exact h
            rw [this] at h1; cases h1
          · have : hp s2 a1 = true := by rw [hp, List.isPrefixOf_iff_prefix]; exact h
            rw [this] at h3; cases h3
end Go.Proofs.Ytafbjkidgdpfoaa.Mv
