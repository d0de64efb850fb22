/- A machine for proofs, part I: slices that grow. Under no condition. -/
import Derived.Test.YtocppeifkjdeiaaCoreH
namespace Go.Proofs.Ytocppeifkjdeiaa.Mv
open Go
set_option linter.unusedSimpArgs false
set_option linter.unusedVariables false

section
variable {P : Program} {tab : Tab} (ht : TabOk P tab) {t u e : TypeId} {i j iu : TyI} (hi : look tab t = some i) (hd : i.d = .slice e) (hj : look tab e = some j) (hu : look tab u = some iu) (hud : ∀ k, iu.d ≠ .int k)
include ht hi hd hj hu hud

theorem append_core {w : World} (hsz : 0 < j.size) {v : Value} {n : Nat} {xs : List Value} (hown : w.ownsRow 0 e j.size v n xs) {x : Value} {m : Nat} {news : List Value} {ty : TypeId}
    (hlen : (Builtin.lenOf x).run P w = .ok m w) (hfc : ∀ w' : World, w'.heap = w.heap → (Builtin.firstCells j.size m x).run P w' = .ok news.toArray w') (hl : news.length = m * j.size) (h1 : ∀ v ∈ news, v.oneCell' = true)
    (h63 : n + m ≤ maxLen) (hb : (n + m) * j.bytes ≤ 140737488355328) :
    ∃ v' w', (Builtin.append_ #[t, u] ty #[v, x]).run P w = .ok v' w' ∧ w'.ownsRow 0 e j.size v' (n + m) (xs ++ news) ∧
      ((v'.ownBlock = v.ownBlock ∧ w.grownBy w' v.ownBlock) ∨ ∃ g, w.heap.size ≤ g ∧ v'.ownBlock = some g ∧ w.grownBy w' none) ∧ (m = 0 → v' = v ∧ w' = w) := by
  have hut := (ht.at hi).und
  rw [hd] at hut
  have huu := fun w => (ht.at hu).run_und w
  obtain ⟨f, hf, hfs, hfb, z, hz, hzl⟩ := (ht.at hj).info
  have hzs : z.cells.size = j.size := by
    rw [← (ht.at hj).one.2, ← hzl]; simp
  have hzero : (iu.d matches .int _) = false := by
    cases hq : iu.d <;> first | rfl | exact absurd hq (hud _)
  have hsmall : n + m ≤ 9223372036854775807 := by simp only [maxLen] at h63; omega
  have hlen' : (xs ++ news).length = (n + m) * j.size := by rw [List.length_append, hown.1, hl, Nat.add_mul]
  have grown : ∀ (old : Nat), old < n + m → ∀ (row : Option Nat),
      (w.drew.alloc (.cells (xs.toArray ++ news.toArray ++ Builtin.zeroCells z.cells (grownCap w (n + m) old e - (n + m))) e)).ownsRow 0 e j.size
        (.slice (some ⟨w.heap.size, 0, none⟩) (n + m) (grownCap w (n + m) old e)) (n + m) (xs ++ news) ∧
      w.grownBy (w.drew.alloc (.cells (xs.toArray ++ news.toArray ++ Builtin.zeroCells z.cells (grownCap w (n + m) old e - (n + m))) e)) row := by
    intro old ho row
    have hge := grownCap_ge w (n + m) old e
    have hcm : grownCap w (n + m) old e ≤ maxLen := grownCap_le_maxLen w (n + m) old e h63
    refine ⟨⟨hlen', .inr ⟨w.heap.size, _, _, rfl, Nat.zero_le _, heap_alloc_new w.drew _, hge, hcm, ?_, ?_⟩⟩, ⟨rfl, rfl, rfl, by simp, fun k hk _ => heap_alloc_old w.drew _ k hk⟩⟩
    · simp only [Array.size_append, List.size_toArray, size_zeroCells, hzs, hown.1, hl, ← Nat.add_mul]
      congr 1
      omega
    · simp only [Array.toList_append, List.append_assoc]
      rw [← List.append_assoc, ← hlen']
      exact List.take_left
  rcases hown.2 with ⟨rfl, rfl⟩ | ⟨g, cap, cur, rfl, hbg, hg, hnc, hcm, hcs, htake⟩
  · have hx : xs = [] := List.eq_nil_of_length_eq_zero (by simpa using hown.1)
    subst hx
    by_cases hm : m = 0
    · subst hm
      have hn : news = [] := List.eq_nil_of_length_eq_zero (by simpa using hl)
      subst hn
      refine ⟨.slice none 0 0, w, ?_, World.ownsRow_nil w 0 e j.size, .inl ⟨rfl, rfl, rfl, rfl, Nat.le_refl _, fun _ _ _ => rfl⟩, fun _ => ⟨rfl, rfl⟩⟩
      simp [Builtin.append_, run_underlying hut, huu, sizeOf, typeInfo, hf, hfs, hlen, hfc w rfl, hzero]
    · have hgr := grown 0 (by omega) none
      simp only [Nat.zero_add, List.nil_append, Array.empty_append] at hgr hsmall hb ⊢
      have h63' : ¬ (9223372036854775807 < (m : Int)) := by omega
      have h48' : ¬ (281474976710656 < Builtin.nextslicecap m 0 * f.bytes) := by rw [nextslicecap_zero (by omega), hfb]; omega
      refine ⟨_, _, ?_, hgr.1, .inr ⟨w.heap.size, Nat.le_refl _, rfl, hgr.2⟩, fun h => absurd h hm⟩
      have hfc' := hfc w.drew rfl
      simp [Builtin.append_, run_underlying hut, huu, sizeOf, typeInfo, zeroValue, hf, hfs, hfb, hz, hlen, hm, h63', Question.forced, run_firstCells_none, newRow, grownCap, hzero]
      rw [hfb] at h48'
      simp only [h48', if_false, hfc', grownCap] at *
      simp [hfc', newRow]
  · by_cases hroom : n + m ≤ cap
    · have hfit : n * j.size + news.length ≤ cur.size := by rw [hl, hcs, ← Nat.add_mul]; exact Nat.mul_le_mul_right _ hroom
      have hst := run_storeCells_at P g (n * j.size) e news 0 cur w hg (by simpa using hfit) h1
      simp only [Nat.add_zero] at hst
      have hr : (Builtin.append_ #[t, u] ty #[.slice (some ⟨g, 0, none⟩) n cap, x]).run P w =
          .ok (.slice (some ⟨g, 0, none⟩) (n + m) cap) (w.setRow g (cur.toList.take (n * j.size) ++ news ++ cur.toList.drop (n * j.size + news.length)).toArray) := by
        simp [Builtin.append_, run_underlying hut, huu, sizeOf, typeInfo, hf, hfs, hlen, hroom, hfc w rfl, Addr.add_lit, hst, hzero]
      refine ⟨_, _, hr, ⟨hlen', .inr ⟨g, cap, _, rfl, hbg, setRow_heap w g cur _ e _ hg, hroom, hcm, ?_, ?_⟩⟩, .inl ⟨rfl, rfl, rfl, rfl, by simp, fun k _ hk => setRow_other w g k _ (fun e => hk (by simp [Value.ownBlock, e]))⟩, fun hm => ?_⟩
      · simp only [List.size_toArray, List.length_append, List.length_take, List.length_drop, Array.length_toList]
        omega
      · rw [htake, ← hlen']
        exact List.take_left
      · subst hm
        have hn : news = [] := List.eq_nil_of_length_eq_zero (by simpa using hl)
        subst hn
        refine ⟨rfl, ?_⟩
        simp only [List.append_nil, List.length_nil, Nat.add_zero, List.take_append_drop]
        exact setRow_self w g cur e (0, 0) hg
    · have holds : ∀ j' u, xs[j']? = some u → w.cell? ((⟨g, 0, none⟩ : Addr).add j') = some u := hown.cells (g := g) rfl
      have hgr := grown cap (by omega) none
      have hn : ¬ (n + m ≤ cap) := hroom
      have h63' : ¬ (9223372036854775807 < ((n : Int) + (m : Int))) := by omega
      have h48' : ¬ (281474976710656 < Builtin.nextslicecap (n + m) cap * j.bytes) := by
        have := growslice_fits (need := n + m) (old := cap) (bytes := j.bytes) (by omega) hb
        omega
      have hfo := run_firstCells_some (P := P) w.drew j.size n ⟨g, 0, none⟩ n cap xs hown.1 (by simpa using holds)
      have hfc' := hfc w.drew rfl
      refine ⟨_, _, ?_, hgr.1, .inr ⟨w.heap.size, Nat.le_refl _, rfl, hgr.2⟩, fun h => by omega⟩
      simp [Builtin.append_, run_underlying hut, huu, sizeOf, typeInfo, zeroValue, hf, hfs, hfb, hz, hlen, hn, h63', h48', Question.forced, hfc', hfo, newRow, grownCap, hzero]
      congr 2
      apply Array.ext'
      simp [List.append_assoc]
end

end Go.Proofs.Ytocppeifkjdeiaa.Mv
