/- What the statement PackPuts needs, part 11. Under no condition. -/
import Derived.Shelf.RegionOpenPlain
import Derived.WalkKit
import Derived.Lib.Walk
import Derived.Lib.SliceRun
import Derived.Lib.AppendZerosOnto
import Derived.Test.YtmgmeidfnapahaaMPackPuts10
/- slices.Grow on bytes. Under no condition. -/
namespace Go.Proofs.Ytmgmeidfnapahaa.Mv
open Go Go.Proofs Go.Shelf Go.RowKit Go.Lib
set_option linter.unusedSimpArgs false
set_option linter.unusedVariables false

set_option maxHeartbeats 2000000 in
set_option maxRecDepth 100000 in
theorem growRoom (base : Option Addr) (l c n : Nat) (w : World) (hlc : l ≤ c) (hc63 : c ≤ 9223372036854775807) (hn63 : n ≤ 9223372036854775807) (hroom : l + n ≤ c) :
    Calls Try.prog 50 #[.slice base l c, .int .i64 n] w fun e w' => e = .returned (.slice base l c) ∧ w' = w := by
  have h1 : ¬ ((n : Int) < 0) := by omega
  have h2 : Go.RowKit.wrap64 ((c : Int) - (l : Int)) = (c : Int) - (l : Int) := by unfold Go.RowKit.wrap64; omega
  have h3 : Go.RowKit.wrap64 ((n : Int) - ((c : Int) - (l : Int))) = (n : Int) - ((c : Int) - (l : Int)) := by unfold Go.RowKit.wrap64; omega
  have h4 : ¬ ((n : Int) - ((c : Int) - (l : Int)) > 0) := by omega
  go_enter Try.func50, Try.ntmps50
  go_wp2
  go_ret
  exact ⟨rfl, rfl⟩
set_option maxHeartbeats 4000000 in
set_option maxRecDepth 100000 in
theorem growGrow (i0 : TypeInfo) (z : Value) (hi0 : Try.prog.info? 5 = some i0) (hz0 : i0.zero = some z) (hs0 : i0.size = 1) (hb0 : i0.bytes = 1)
    (base : Option Addr) (l c n : Nat) (cs : List Value) (w : World) (hlc : l ≤ c) (hroom : c < l + n) (hbig : l + n ≤ 140737488355328)
    (hcl : cs.length = c) (hnil : base = none → c = 0) (hcs : ∀ a, base = some a → ∀ j v, cs[j]? = some v → w.cell? (a.add j) = some v) :
    Calls Try.prog 50 #[.slice base l c, .int .i64 n] w fun e w' =>
      e = .returned (.slice (some ⟨w.heap.size, 0, none⟩) l (grownCap w (l + n) c 5)) ∧
      w' = w.drew.alloc (.cells (cs.toArray ++ Builtin.zeroCells z.cells (l + n - c) ++ Builtin.zeroCells z.cells (grownCap w (l + n) c 5 - (l + n))) 5) := by
  have h1 : ¬ ((n : Int) < 0) := by omega
  have h2 : Go.RowKit.wrap64 ((c : Int) - (l : Int)) = (c : Int) - (l : Int) := by unfold Go.RowKit.wrap64; omega
  have h3 : Go.RowKit.wrap64 ((n : Int) - ((c : Int) - (l : Int))) = (n : Int) - ((c : Int) - (l : Int)) := by unfold Go.RowKit.wrap64; omega
  have h4 : (n : Int) - ((c : Int) - (l : Int)) > 0 := by omega
  have hck : c + (l + n - c) = l + n := by omega
  have hold : (Builtin.firstCells i0.size c (.slice base c c)).run Try.prog w.drew = .ok cs.toArray w.drew := by
    cases base with
    | none =>
      have h0 := hnil rfl
      subst h0
      have hc0 : cs = [] := List.length_eq_zero_iff.1 hcl
      rw [hc0]
      exact run_firstCells_none w.drew i0.size 0 0 0
    | some a => exact run_firstCells_some w.drew i0.size c a c c cs (by rw [hcl, hs0, Nat.mul_one]) (fun j v hj => hcs a rfl j v hj)
  have hrz : ∀ ty, (Builtin.append_ #[22, 3] ty #[.slice base c c, .int .i64 ((n : Int) - ((c : Int) - (l : Int)))]).run Try.prog w =
      .ok (.slice (some ⟨w.heap.size, 0, none⟩) (l + n) (grownCap w (l + n) c 5)) (w.drew.alloc (.cells (cs.toArray ++ Builtin.zeroCells z.cells (l + n - c) ++ Builtin.zeroCells z.cells (grownCap w (l + n) c 5 - (l + n))) 5)) := fun ty => by
    have h := Lib.run_append_grow_zeros w 22 3 ty 5 i0 z .i64 .i64 Try.underlying22 Try.underlying3 hi0 hz0 base c c cs hold (l + n - c) (by omega) (by omega) (by omega) (by omega)
      (by rw [hb0]; omega)
      (by rw [hck]; exact growslice_fits hroom (by rw [hb0]; omega))
    rw [hck] at h
    rw [show (n : Int) - ((c : Int) - (l : Int)) = ((l + n - c : Nat) : Int) by omega]
    exact h
  have hGn : l + n ≤ grownCap w (l + n) c 5 := grownCap_ge w _ _ _
  obtain ⟨G, hG⟩ : ∃ G, G = grownCap w (l + n) c 5 := ⟨_, rfl⟩
  rw [← hG] at hrz hGn ⊢
  have hG63 : G ≤ 9223372036854775807 := by
    have := grownCap_le_maxLen w (l + n) c 5 (by unfold maxLen; omega)
    rw [← hG] at this
    unfold maxLen at this
    omega
  clear hold hck hG hcs hcl
  go_enter Try.func50, Try.ntmps50
  cases base with
  | none =>
    have h0 := hnil rfl
    subst h0
    obtain rfl : l = 0 := by omega
    go_wp2_with (at_builtin; refine Lib.wpList_append_run _ rfl _ _ _ _ rfl _ _ rfl rfl _ _ (hrz _) ?_)
    all_goals (go_ret; exact ⟨rfl, rfl⟩)
  | some a =>
    obtain ⟨ab, ao, asp⟩ := a
    go_wp2_with (at_builtin; refine Lib.wpList_append_run _ rfl _ _ _ _ rfl _ _ rfl rfl _ _ (hrz _) ?_)
    all_goals (go_ret; exact ⟨rfl, rfl⟩)
theorem BS_flen : (l : L) → (BS l).flatten.length = l.length
  | [] => rfl
  | x :: l => by have := BS_flen l; simp only [BS, List.map_cons, List.flatten_cons, List.length_append, List.length_cons, List.length_nil] at this ⊢; omega
theorem growcap_le (w : World) (n c : Nat) (h : n ≤ 137438953472) : grownCap w n c 5 ≤ maxLen := grownCap_le_maxLen w n c 5 (by unfold maxLen; omega)
/-- A slice with more room: the same bytes, under a new name. -/
theorem gGrow (l : L) (n : Nat) (hl : l.length ≤ 1000000) (hn : n ≤ 1000000) :
    Good Try.prog 50 [.gr 1000000 5 1 (BS l), .i .i64 n] [(1000000, .gw l.length)] (.gr 1000001 5 1 (BS l)) [(1000000, .dead), (1000001, .gw l.length)] :=
  ⟨⟨_, Try.func50, rfl, rfl⟩, fun w Γ m vals gok hv hobs hinj => by
    obtain ⟨v1, hv1, r1⟩ := hv.get (j := 0) rfl
    obtain ⟨v2, hv2, r2⟩ := hv.get (j := 1) rfl
    obtain rfl : vals = [v1, v2] := by
      have hl := hv.1
      match vals, hl with
      | [a, b], _ => simp at hv1 hv2; rw [hv1, hv2]
    have hlb : (BS l).length = l.length := BS_len l
    cases r2
    cases r1 with
    | gr hr hk =>
    rw [hlb] at hk
    obtain ⟨v0, e0, sz0, xs, k1, k2, k3, k4⟩ := hobs (1000000, .gw l.length) (by simp)
    rw [hk] at k1
    simp only [Option.some.injEq, Prod.mk.injEq] at k1
    obtain ⟨rfl, rfl, rfl⟩ := k1
    let ka' : Nat → Nat → Option (Value × TypeId × Nat) := fun t k => if t = 1000001 then m.ka 1000000 k else m.ka t k
    have hka : ∀ k, ka' 1000001 k = m.ka 1000000 k := fun k => by simp [ka']
    have hka0 : ∀ t k, t ≠ 1000001 → ka' t k = m.ka t k := fun t k h => by simp [ka', h]
    have ownIn : ∀ g, v1.ownBlock = some g → Owns m [(1000000, Ob.gw l.length)] g := fun g hg => ⟨_, List.mem_singleton.2 rfl, by simp [Ob.blk, hk, hg]⟩
    -- there is room
    have room : ∀ base c, v1 = .slice base l.length c → l.length + n ≤ c → c ≤ maxLen → Calls Try.prog 50 [v1, .int .i64 n].toArray w fun e w' => ∃ v Γ' m', e = .returned v ∧ Post [(1000000, .gw l.length)] (.gr 1000001 5 1 (BS l)) [(1000000, .dead), (1000001, .gw l.length)] w Γ m v w' Γ' m' := by
      intro base c e1 hroom hc
      subst e1
      refine (growRoom base l.length c n w (by omega) (by unfold maxLen at hc; omega) (by omega) hroom).mono fun e w' ⟨he, hw⟩ => ?_
      subst hw
      refine ⟨_, Γ, ⟨m.th, ka'⟩, he, Sub.refl _, gok, .gr (hr.mono (Sub.refl _) fun t ht => by simp [AV.refs] at ht) (by rw [hlb]; simp only [hka]; exact hk), fun p hp => ?_, ?_, ?_, fun p hp => ?_, Fr.refl _ _, fun ad h0 h1 => absurd h0 h1⟩
      · simp only [List.mem_cons, List.not_mem_nil, or_false] at hp
        rcases hp with rfl | rfl
        · trivial
        · exact ⟨_, _, _, xs, by simp only [hka]; exact hk, fun k y hy => k2 k y (by simpa only [hka] using hy), k3, k4⟩
      · intro p hp q hq g h1 h2
        simp only [List.mem_cons, List.not_mem_nil, or_false] at hp hq
        rcases hp with rfl | rfl <;> rcases hq with rfl | rfl <;> first | rfl | (cases h1) | (cases h2)
      · rintro g ⟨p, hp, hg⟩
        simp only [List.mem_cons, List.not_mem_nil, or_false] at hp
        rcases hp with rfl | rfl
        · cases hg
        · right
          simp only [Ob.blk, hka, hk] at hg
          exact ownIn g (by simpa using hg)
      · simp only [List.mem_singleton] at hp
        subst hp
        exact ⟨fun g h => h, fun k x h => by simp only [hka0 1000000 k (by decide)]; exact h⟩
    -- there is none
    have grow : ∀ base c (cs : List Value), v1 = .slice base l.length c → l.length ≤ c → c < l.length + n → cs.length = c → (base = none → c = 0) → (∀ a, base = some a → ∀ j v, cs[j]? = some v → w.cell? (a.add j) = some v) → cs.take l.length = xs →
        (∀ (j : Nat) v, xs[j]? = some v → v.oneCell' = true) → (∀ (j : Nat) v c, xs[j]? = some v → (BS l).flatten[j]? = some c → Rep Γ Nm.e v c) →
        Calls Try.prog 50 [v1, .int .i64 n].toArray w fun e w' => ∃ v Γ' m', e = .returned v ∧ Post [(1000000, .gw l.length)] (.gr 1000001 5 1 (BS l)) [(1000000, .dead), (1000001, .gw l.length)] w Γ m v w' Γ' m' := by
      intro base c cs e1 hlc hroom hcl hnil hcs htake hone hrep
      subst e1
      obtain ⟨i0, hi0, hs0, hb0, z, hz0, hzc⟩ := (tabOk.at (show look tab 5 = some ty5 from rfl)).info
      have hz1 : z.cells.size = 1 := by
        have : z.cells.size = ty5.zero.length := by simpa using congrArg List.length hzc
        exact this
      refine (growGrow i0 z hi0 hz0 hs0 hb0 base l.length c n cs w hlc hroom (by omega) hcl hnil hcs).mono fun e w' ⟨he, hw⟩ => ?_
      have hGn : l.length + n ≤ grownCap w (l.length + n) c 5 := grownCap_ge w _ _ _
      have hGm := growcap_le w (l.length + n) c (by omega)
      generalize grownCap w (l.length + n) c 5 = G at *
      generalize hcur : cs.toArray ++ Builtin.zeroCells z.cells (l.length + n - c) ++ Builtin.zeroCells z.cells (G - (l.length + n)) = cur at *
      have hcs : cur.size = G := by
        rw [← hcur]
        simp only [Array.size_append, size_zeroCells, hz1, List.size_toArray]; omega
      have hct : cur.toList.take l.length = xs := by
        rw [← hcur, ← htake]
        simp only [Array.toList_append, List.append_assoc]
        rw [List.take_append_of_le_length (by omega)]
      have hxl : xs.length = l.length := by rw [← htake, List.length_take]; omega
      have hnew : w'.heap[w.heap.size]? = some (.cells cur 5 (0, 0)) := by rw [hw]; show (w.heap.push _)[w.heap.size]? = _; simp
      have hold : ∀ k, k < w.heap.size → w'.heap[k]? = w.heap[k]? := fun k hk => by rw [hw]; exact Below.heap_alloc w.drew _ k hk
      let Γ' : Gam := fun ad => if ad.block = w.heap.size then (if ad.spot = none then xs[ad.off]? else none) else Γ ad
      have hin : ∀ j, Γ' ⟨w.heap.size, j, none⟩ = xs[j]? := fun j => by simp [Γ']
      have hout : ∀ ad : Addr, ad.block ≠ w.heap.size → Γ' ad = Γ ad := fun ad h => by simp [Γ', h]
      have hlow : ∀ ad v, Γ ad = some v → ad.block < w.heap.size := fun ad v h => by
        have := gok ad v h
        unfold World.cell? at this
        cases hb : w.heap[ad.block]? with
        | none => rw [hb] at this; simp at this
        | some o => exact (Array.getElem?_eq_some_iff.1 hb).1
      have hsub : Sub Γ Γ' := fun ad v h => by rw [hout ad (by have := hlow ad v h; omega)]; exact h
      have hcell : ∀ j v, xs[j]? = some v → w'.cell? ⟨w.heap.size, j, none⟩ = some v := fun j v h => by
        rw [cell_of_row w' _ _ cur 5 (0, 0) hnew]
        rw [← hct, List.getElem?_take] at h
        split at h
        · simpa using h
        · cases h
      let ka2 : Nat → Nat → Option (Value × TypeId × Nat) := fun t k => if t = 1000001 then (if k = l.length then some (.slice (some ⟨w.heap.size, 0, none⟩) l.length G, 5, 1) else none) else m.ka t k
      have hk2 : ka2 1000001 l.length = some (.slice (some ⟨w.heap.size, 0, none⟩) l.length G, 5, 1) := by simp [ka2]
      have hk3 : ∀ t k, t ≠ 1000001 → ka2 t k = m.ka t k := fun t k h => by simp [ka2, h]
      refine ⟨_, Γ', ⟨m.th, ka2⟩, he, hsub, fun ad v h => ?_, .gr (.sh xs (by omega) hGm hlb (fun r hr => by simp [BS] at hr; obtain ⟨x, _, rfl⟩ := hr; rfl) (by rw [hxl, BS_flen]) (fun j v h => by rw [add_lit]; simp only [Nat.zero_add]; rw [hin]; exact h) (fun v h => by obtain ⟨j, hj⟩ := List.getElem?_of_mem h; exact hone j v hj) fun j v c h1 h2 => (hrep j v c h1 h2).sub hsub) (by rw [hlb]; exact hk2), fun p hp => ?_, ?_, ?_, fun p hp => ?_, ?_, fun ad h0 h1 => ?_⟩
      · by_cases e : ad.block = w.heap.size
        · simp only [Γ', if_pos e] at h
          split at h
          · rename_i es
            obtain ⟨ab, ao, asp⟩ := ad
            simp only at e es h; subst e; subst es
            exact hcell ao v h
          · cases h
        · rw [hout ad e] at h
          have := gok ad v h
          unfold World.cell? at this ⊢
          rw [hold _ (hlow ad v h)]; exact this
      · simp only [List.mem_cons, List.not_mem_nil, or_false] at hp
        rcases hp with rfl | rfl
        · trivial
        · refine ⟨_, _, _, xs, hk2, fun k y hy => ?_, ⟨by rw [hxl, Nat.mul_one], .inr ⟨w.heap.size, G, cur, rfl, Nat.zero_le _, hnew, by omega, hGm, by rw [hcs, Nat.mul_one], by rw [Nat.mul_one]; exact hct⟩⟩, fun g hg => ?_⟩
          · simp only [ka2, if_true] at hy
            split at hy
            · omega
            · cases hy
          · simp only [Value.ownBlock, Option.some.injEq] at hg
            subst hg
            refine ⟨fun j _ => hin j, fun a ha hs => ?_⟩
            simp only [Γ', if_pos ha]
            split
            · rename_i es
              rcases hs with hs | hs
              · exact absurd es hs
              · exact List.getElem?_eq_none (by omega)
            · rfl
      · intro p hp q hq g h1 h2
        simp only [List.mem_cons, List.not_mem_nil, or_false] at hp hq
        rcases hp with rfl | rfl <;> rcases hq with rfl | rfl <;> first | rfl | (cases h1) | (cases h2)
      · rintro g ⟨p, hp, hg⟩
        simp only [List.mem_cons, List.not_mem_nil, or_false] at hp
        rcases hp with rfl | rfl
        · cases hg
        · left
          simp only [Ob.blk, hk2, Option.bind_some, Value.ownBlock, Option.some.injEq] at hg
          omega
      · simp only [List.mem_singleton] at hp
        subst hp
        exact ⟨fun g h => h, fun k x h => by rw [show (⟨m.th, ka2⟩ : Nm).ka 1000000 k = m.ka 1000000 k from hk3 1000000 k (by decide)]; exact h⟩
      · exact ⟨by rw [hw]; rfl, by rw [hw]; rfl, by rw [hw]; rfl, by rw [hw]; show w.heap.size ≤ (w.heap.push _).size; simp, fun k hk _ => hold k hk⟩
      · left
        by_cases e : ad.block = w.heap.size
        · omega
        · rw [hout ad e] at h1; exact absurd h0 h1
    obtain ⟨kl, kr⟩ := k3
    rcases kr with ⟨rfl, h0⟩ | ⟨g, cap, cur, rfl, _, hg, hle, hcm, hcs, hct⟩
    · have l0 : l = [] := List.eq_nil_of_length_eq_zero h0
      subst l0
      have x0 : xs = [] := List.eq_nil_of_length_eq_zero (by simpa using kl)
      subst x0
      by_cases c : n = 0
      · exact room none 0 rfl (by simp; omega) (by unfold maxLen; omega)
      · exact grow none 0 [] rfl (by simp) (by simp; omega) rfl (fun _ => rfl) (fun a h => by cases h) rfl (fun j v h => by simp at h) (fun j v c h => by simp at h)
    · by_cases c : l.length + n ≤ cap
      · exact room _ cap rfl c hcm
      · obtain ⟨k5, _⟩ := k4 g rfl
        rw [Nat.mul_one] at hct hcs kl k5
        have cells : ∀ j v, xs[j]? = some v → w.cell? ⟨g, j, none⟩ = some v := fun j v h => by
          rw [cell_of_row w g _ cur 5 (0, 0) hg]
          rw [← hct, List.getElem?_take] at h
          split at h
          · simpa using h
          · cases h
        have same : ∀ (vs : List Value), vs.length = (BS l).flatten.length → (∀ (j : Nat) v, vs[j]? = some v → Γ ((⟨g, 0, none⟩ : Addr).add j) = some v) → vs = xs := fun vs h1 h2 => by
          have hfl : (BS l).flatten.length = l.length := BS_flen l
          refine List.ext_getElem (by omega) fun j a b => ?_
          have := h2 j _ (List.getElem?_eq_getElem a)
          rw [add_lit, Nat.zero_add, k5 j (by omega), List.getElem?_eq_getElem b] at this
          exact (Option.some.inj this).symm
        refine grow _ cap cur.toList rfl hle (by omega) (by simpa using hcs) (fun h => by cases h) (fun a ha j v h => ?_) hct ?_ ?_
        · cases ha
          rw [add_lit, Nat.zero_add, cell_of_row w g _ cur 5 (0, 0) hg]; simpa using h
        · intro j v h
          rcases hr.sh_inv with ⟨a, e1, e2⟩ | ⟨a, cp, vs, e1, h1, h2, h3, h4, h5, h6, h7⟩
          · have : l = [] := by simpa [BS] using e2
            subst this
            rw [List.eq_nil_of_length_eq_zero kl] at h; simp at h
          · injection e1 with e3 e4 e5
            cases e3
            rw [← same vs h6 h4] at h
            exact h5 v (List.mem_of_getElem? h)
        · intro j v c h hc
          rcases hr.sh_inv with ⟨a, e1, e2⟩ | ⟨a, cp, vs, e1, h1, h2, h3, h4, h5, h6, h7⟩
          · have : l = [] := by simpa [BS] using e2
            subst this
            rw [List.eq_nil_of_length_eq_zero kl] at h; simp at h
          · injection e1 with e3 e4 e5
            cases e3
            rw [← same vs h6 h4] at h
            exact h7 j v c h hc⟩
end Go.Proofs.Ytmgmeidfnapahaa.Mv

/- Calls that lead to a new object. Under no condition. -/
namespace Go.Proofs.Ytmgmeidfnapahaa.Mv
open Go Go.Proofs
set_option linter.unusedSimpArgs false
set_option linter.unusedVariables false
section
variable {P : Program} {tab : Tab} {N : Nat} {D : St → Prop} {F : Fx P tab N D} {ops : Array Oper} {k : List It} {l : List Oper} {T : List (Nat × AV)} {B : List (Nat × Ob)} {acc : List Rec} {d : Nat} {ty : TypeId} {tg : List Nat}
theorem AO.callG {pos} {after} {fx : Operand} {xs : Array Operand} {ts : Array TypeId} {f : FuncId} {caps args asL : List AV} {ins outs : List (Nat × Ob)} {res res' : AV} {B' B2 : List (Nat × Ob)} (τ : List (Nat × Nat)) (hg : Good P f args ins res outs)
    (hc : (⟨T, B⟩ : St).val fx = .clo f caps) (ha : Wf (xs.toList.map (⟨T, B⟩ : St).val ++ caps) asL) (hl : LeL asL (args.map (AV.ren (rho τ))))
    (hi : Lent ⟨T, B⟩ (tagsAt ⟨T, B⟩ ⟨some d, .call { callee := .value fx, args := xs, argTypes := ts }, ty, pos, after, none⟩) τ ins) (ht : tagsB τ (ins.map (·.1)) (outs.map (·.1)) res.refs outs = true)
    (hr : Rn τ res res') (ho : RoL τ outs B') (hn : (outs.map (·.1)).filterMap (fun t => if (ins.map (·.1)).contains t then none else some (rho τ t)) = [d]) (hf : (⟨T, B⟩ : St).freeB d = true)
    (hB : Apd B' B B2) (h : AO F ops k l ⟨(d, res') :: T, B2⟩) : AO F ops k (⟨some d, .call { callee := .value fx, args := xs, argTypes := ts }, ty, pos, after, none⟩ :: l) ⟨T, B⟩ :=
  AO.step (e := ⟨[(d, res')], B', [d]⟩) rfl (.call (call_multi τ hc ha hg hl hi ht hr ho hn)) (fun e he => by simp at he; subst he; exact St.freeB_ok hf) (by rw [← hB.eq] at h; exact h)
theorem AR.callG {pos} {after} {fx : Operand} {xs : Array Operand} {ts : Array TypeId} {f : FuncId} {caps args asL : List AV} {ins outs : List (Nat × Ob)} {res res' : AV} {B' B2 : List (Nat × Ob)} (τ : List (Nat × Nat)) (hg : Good P f args ins res outs)
    (hc : (⟨T, B⟩ : St).val fx = .clo f caps) (ha : Wf (xs.toList.map (⟨T, B⟩ : St).val ++ caps) asL) (hl : LeL asL (args.map (AV.ren (rho τ))))
    (hi : Lent ⟨T, B⟩ (tagsAt ⟨T, B⟩ ⟨some d, .call { callee := .value fx, args := xs, argTypes := ts }, ty, pos, after, none⟩) τ ins) (ht : tagsB τ (ins.map (·.1)) (outs.map (·.1)) res.refs outs = true)
    (hr : Rn τ res res') (ho : RoL τ outs B') (hn : (outs.map (·.1)).filterMap (fun t => if (ins.map (·.1)).contains t then none else some (rho τ t)) = [d]) (hf : (⟨T, B⟩ : St).freeB d = true)
    (htg : LE (tagsAt ⟨T, B⟩ ⟨some d, .call { callee := .value fx, args := xs, argTypes := ts }, ty, pos, after, none⟩) tg)
    (hB : Apd B' B B2) (h : AR F ops k l ⟨(d, res') :: T, B2⟩ (⟨tg, ⟨[(d, res')], B', [d]⟩⟩ :: acc)) : AR F ops k (⟨some d, .call { callee := .value fx, args := xs, argTypes := ts }, ty, pos, after, none⟩ :: l) ⟨T, B⟩ acc :=
  AR.st (e := ⟨[(d, res')], B', [d]⟩) rfl (.call (call_multi τ hc ha hg hl hi ht hr ho hn)) (fun e he => by simp at he; subst he; exact St.freeB_ok hf) htg (by rw [← hB.eq] at h; exact h)
/-- What a call's first argument is: told ahead of a contract that asks for it. -/
theorem AO.isPtr {pos} {after} {fx : Operand} {xs : Array Operand} {ts : Array TypeId} {g o : Nat} (hx : (xs.toList.map (⟨T, B⟩ : St).val).head? = some (.ptr g o)) (h : AO F ops k (⟨some d, .call { callee := .value fx, args := xs, argTypes := ts }, ty, pos, after, none⟩ :: l) ⟨T, B⟩) : AO F ops k (⟨some d, .call { callee := .value fx, args := xs, argTypes := ts }, ty, pos, after, none⟩ :: l) ⟨T, B⟩ := h
theorem AO.isX {pos} {after} {fx : Operand} {xs : Array Operand} {ts : Array TypeId} {v : Value} (hx : (xs.toList.map (⟨T, B⟩ : St).val).head? = some (.x v)) (h : AO F ops k (⟨some d, .call { callee := .value fx, args := xs, argTypes := ts }, ty, pos, after, none⟩ :: l) ⟨T, B⟩) : AO F ops k (⟨some d, .call { callee := .value fx, args := xs, argTypes := ts }, ty, pos, after, none⟩ :: l) ⟨T, B⟩ := h
end
/-- A function that only reads, and answers a box of its own, may be lent a box. -/
theorem Good.lendB {P : Program} {f : FuncId} {args args' : List AV} {t n sz : Nat} {cs ds : List AV} (hg : Good P f args [] (.bsl t 0 n sz) [(t, .bx ds)]) (ht : t ≠ 1000000) (hfl : cs.all AV.flat = true) (hfd : ds.all AV.flat = true) (hl : LxL (FzG 1000000 cs) args' args) : Good P f args' [(1000000, .bx cs)] (.bsl t 0 n sz) [(1000000, .bx cs), (t, .bx ds)] :=
  ⟨hg.fn, fun w Γ m vals gok hv hobs hinj => by
    obtain ⟨g, cc, E, q1, q2, q3, q4, q5, q6⟩ := hobs (1000000, .bx cs) (by simp)
    let Γ' : Gam := fun ad => if ad.block = g ∧ ad.spot = none ∧ ad.off < cs.length then cc[ad.off]? else Γ ad
    have hin : ∀ j, j < cs.length → Γ' ⟨g, j, none⟩ = cc[j]? := fun j hj => by simp [Γ', hj]
    have hout : ∀ ad : Addr, ad.block ≠ g → Γ' ad = Γ ad := fun ad had => by simp [Γ', had]
    have hsub : Sub Γ Γ' := fun ad v hv => by
      by_cases e : ad.block = g
      · rw [q6 ad e] at hv; cases hv
      · rw [hout ad e]; exact hv
    have hgok : ∀ ad v, Γ' ad = some v → w.cell? ad = some v := fun ad v hv => by
      by_cases e : ad.block = g ∧ ad.spot = none ∧ ad.off < cs.length
      · obtain ⟨e1, e2, e3⟩ := e
        obtain ⟨ab, ao, asL⟩ := ad
        simp only at e1 e2 e3; subst e1; subst e2
        rw [hin ao e3] at hv
        rw [cell_of_row w ab _ cc E.1 E.2 q2]; exact hv
      · simp only [Γ', if_neg e] at hv
        exact gok ad v hv
    have hr : RepL Γ' Nm.e (cc.toList.take cs.length) (cs.map AV.close) := by
      refine ⟨by have := q3.2; simp; omega, fun j v x hv hx => ?_⟩
      rw [List.getElem?_take] at hv
      split at hv
      · rw [List.getElem?_map] at hx
        obtain ⟨y, hy, rfl⟩ := Option.map_eq_some_iff.1 hx
        exact ((q4 j v y (by simpa using hv) hy).sub hsub).close (List.all_eq_true.1 (flat_shut hfl) _ (List.mem_of_getElem? hy))
      · cases hv
    have hF : FzG 1000000 cs Γ' m := fun g' hg' off => by
      rw [q1] at hg'; cases hg'
      have hr' := hr.drop off
      refine .pel _ hr'.1 (fun j v hv => ?_) (fun v hv => ?_) hr'.2
      · rw [List.getElem?_drop, List.getElem?_take] at hv
        split at hv
        · rename_i hlt
          rw [add_lit, hin _ hlt]; simpa using hv
        · cases hv
      · obtain ⟨j, hj⟩ := List.getElem?_of_mem hv
        rw [List.getElem?_drop, List.getElem?_take] at hj
        split at hj
        · rename_i hlt; exact q5 _ v hlt (by simpa using hj)
        · cases hj
    have hv' : RepL Γ' m vals args := by
      refine ⟨by rw [hv.1, hl.len], fun j v c hvj hc => ?_⟩
      have hj : j < args'.length := by rw [hl.len]; exact (List.getElem?_eq_some_iff.1 hc).1
      exact hl.at j _ c (List.getElem?_eq_getElem hj) hc _ _ _ hF ((hv.2 j v _ hvj (List.getElem?_eq_getElem hj)).sub hsub)
    refine (hg.calls w Γ' m vals hgok hv' (fun p hp => by simp at hp) (fun p hp => by simp at hp)).mono fun e' w' ⟨v, Γ1, m1, q, hp⟩ => ?_
    have hgs : g < w.heap.size := (Array.getElem?_eq_some_iff.1 q2).1
    have hheap : w'.heap[g]? = some (.cells cc E.1 E.2) := by
      rw [hp.frame.block g hgs (fun ⟨p, hp', _⟩ => by simp at hp')]; exact q2
    obtain ⟨gb, c2, E2, b1, b2, b3, b4, b5, b6⟩ := hp.obs (t, .bx ds) (by simp)
    have hnew : w.heap.size ≤ gb := by
      rcases hp.own gb ⟨(t, .bx ds), by simp, b1⟩ with h | ⟨p, hp', _⟩
      · exact h
      · simp at hp'
    let Γ2 : Gam := fun ad => if ad.block = g then none else Γ1 ad
    let m2 : Nm := ⟨fun x => if x = t then some gb else m.th x, m.ka⟩
    have n1 : m2.th t = some gb := by simp [m2]
    have n2 : m2.th 1000000 = some g := by simp only [m2]; rw [if_neg (fun e => ht e.symm)]; exact q1
    have hrep := hp.rep
    cases hrep with
    | bsl hth hn =>
    have e1 := hth
    rw [b1] at e1; cases e1
    refine ⟨_, Γ2, m2, q, fun ad y hy => ?_, fun ad y hy => ?_, .bsl n1 hn, fun p hp' => ?_, fun p hp' q' hq' g' h1 h2 => ?_, fun g' hg' => ?_, fun p hp' => ?_, ⟨hp.frame.os, hp.frame.tape, hp.frame.output, hp.frame.size, fun k hk _ => hp.frame.block k hk (fun ⟨p, hp', _⟩ => by simp at hp')⟩, fun ad h0 h1 => ?_⟩
    · have e : ad.block ≠ g := fun e => by rw [q6 ad e] at hy; cases hy
      simp only [Γ2, if_neg e]
      exact hp.sub ad y (hsub ad y hy)
    · simp only [Γ2] at hy
      split at hy
      · cases hy
      · exact hp.gok ad y hy
    · simp only [List.mem_cons, List.not_mem_nil, or_false] at hp'
      rcases hp' with rfl | rfl
      · exact ⟨g, cc, E, n2, hheap, q3, fun j y d hy hd => (q4 j y d hy hd).flat (List.all_eq_true.1 hfl d (List.mem_of_getElem? hd)), q5, fun ad had => by simp [Γ2, had]⟩
      · refine ⟨gb, c2, E2, n1, b2, b3, fun j y d hy hd => (b4 j y d hy hd).flat (List.all_eq_true.1 hfd d (List.mem_of_getElem? hd)), b5, fun ad had => ?_⟩
        simp only [Γ2]
        split
        · rfl
        · exact b6 ad had
    · simp only [List.mem_cons, List.not_mem_nil, or_false] at hp' hq'
      rcases hp' with rfl | rfl <;> rcases hq' with rfl | rfl
      · rfl
      · simp only [Ob.blk, n1, n2] at h1 h2
        cases h1; cases h2; omega
      · simp only [Ob.blk, n1, n2] at h1 h2
        cases h1; cases h2; omega
      · rfl
    · obtain ⟨p, hp', hg'⟩ := hg'
      simp only [List.mem_cons, List.not_mem_nil, or_false] at hp'
      rcases hp' with rfl | rfl
      · right
        simp only [Ob.blk, n2] at hg'
        cases hg'
        exact ⟨(1000000, .bx cs), by simp, q1⟩
      · left
        simp only [Ob.blk, n1] at hg'
        cases hg'; exact hnew
    · simp only [List.mem_singleton] at hp'
      subst hp'
      exact ⟨fun x h => by rw [q1] at h; cases h; exact n2, fun _ _ h => h⟩
    · simp only [Γ2] at h1
      split at h1
      · exact absurd rfl h1
      · rename_i e
        have h0' : Γ' ad = none := by rw [hout ad e]; exact h0
        exact (hp.fresh ad h0' h1).imp id fun ⟨p, hp', _⟩ => by simp at hp'⟩
section
variable {P : Program} {tab : Tab} {N : Nat} {D : St → Prop} {F : Fx P tab N D} {k : List It}
/-- What comes behind code that ends in several ways is walked once, for each state of a family. -/
theorem AW.joinF {X : Code} {id : Nat} {st : St} {k : List It} {α : Type} (I : α → Prop) (E : α → St) (h : ∀ k' : List It, (∀ (x : α) (st' : St), I x → StLe Tr st' (E x) → AW F k' st') → AW F (.c X :: .b id :: k') st) (hk : ∀ x, I x → AW F k (E x)) : AW F (.c X :: .b id :: k) st :=
  h k fun x st' hx hl => AW.less hl (hk x hx)
end
end Go.Proofs.Ytmgmeidfnapahaa.Mv

/- Packing: what is put. Under no condition. -/
namespace Go.Proofs.Ytmgmeidfnapahaa.Mv
open Go Go.Proofs
set_option linter.unusedSimpArgs false
set_option linter.unusedVariables false
set_option maxRecDepth 10000
set_option maxHeartbeats 4000000
attribute [local irreducible] AW AO AR

theorem gGrowB (l : L) (n : Nat) (hl : l.length ≤ 1000000) (hn : n ≤ 1000000) :
    Good Try.prog 50 [.gr 1000000 5 1 (BS l), .i .i64 n] [(1000000, .gw (BS l).length)] (.gr 1000001 5 1 (BS l)) [(1000000, .dead), (1000001, .gw (BS l).length)] := by
  rw [BS_len]; exact gGrow l n hl hn
theorem gCloneG (l : L) (t : Nat) (hl : l.length ≤ 1000000) : Good Try.prog 48 [.sh 1 (BS l)] [] (.gr t 5 1 (BS l)) [(t, .gw (BS l).length)] := by
  have ll : (BS l).length = l.length := BS_len l
  refine Good.w2 tabOk mixed Try.func48 (N := 8) (by kernel_rfl) rfl (by (repeat (first | exact LE.nil | apply LE.cons)); done) (by (repeat (first | exact LE.nil | apply LE.cons)); done) fun D hD F => ?_
  repeat' (first
    | apply AO.nil
    | (apply AO.kBuildS; first | refine AO.sBuildT (h := ?_) | refine AO.sBuildS (h := ?_))
    | (apply AO.kApp; first | refine AO.sGrowT (h := ?_) | refine AO.sNewT (h := ?_) | refine AO.sGrowBT (h := ?_) | refine AO.sGrow (h := ?_) | refine AO.sNewr (h := ?_))
    | (apply AO.kP; first | refine AO.sP (h := ?_) | refine AO.sPi (h := ?_) | refine AO.sSameB (h := ?_))
    | (apply AO.kP; refine AO.eqNil (h1 := fun h => ?_) (h2 := ?_))
    | apply AW.seq
    | (apply AW.kR; refine AW.sR (h := ?_))
    | apply AW.skip
    | apply AW.block
    | apply AW.out
    | (apply AW.kE; refine AW.sE (h := ?_))
    | apply AW.label
    | ((first | (apply AW.kC; refine AW.sC (h1 := fun h => ?_) (h2 := fun h => ?_))) <;> (try (first | exact Bool.noConfusion h | exact absurd h (by decide) | (simp at h; done) | (rw [h]; try simp only [nrm] at h; try rw [h]; try (exfalso; omega)) | skip))))
  · have h0 : BS l = [] := by assumption
    have l0 : l.length = 0 := by rw [h0] at ll; exact ll.symm
    rw [h0] at hD
    refine AW.nilrow 900 5 1 (St.freeB_ok rfl) (st' := ⟨[(2, .gr 900 5 1 [])], [(900, .gw 0)]⟩) ⟨by ((repeat' (first | exact LeT.nil | apply LeT.cons | exact Lx.nilG | apply Lx.s | apply Lx.b | apply Lx.i | exact Lx.refl)) <;> (first | rfl | assumption | omega | (simp only [List.length_map, BS_len]; done) | skip)), by ((repeat' (first | exact LeB.nil | apply LeB.cons | exact Ol.refl)) <;> (first | rfl | skip))⟩ ?_
    exact AW.ret (hD 900 rfl .refl (Ol.eq rfl))
  · exact AW.ret (hD 5 rfl .refl .refl)
/-- A number's writing. -/
def be (n : Nat) : Nat → L
  | 0 => []
  | s + 1 => UInt8.ofNat (n / 256 ^ s) :: be n s
theorem be_len (n : Nat) : ∀ s, (be n s).length = s
  | 0 => rfl
  | s + 1 => by rw [be, List.length_cons, be_len n s]
theorem u8_nat (n : Nat) : u8 (n : Int) = UInt8.ofNat n := by
  apply UInt8.toNat_inj.1
  simp only [u8, UInt8.toNat_ofNat']
  omega
theorem byteOf (n i : Nat) : u8 ((n : Int) / 2 ^ ((8 * i : Nat) : Int).toNat) = UInt8.ofNat (n / 256 ^ i) := by
  have e : (2 : Int) ^ (8 * i) = ((256 ^ i : Nat) : Int) := by
    rw [show 256 = 2 ^ 8 from rfl, ← Nat.pow_mul]
    exact (Int.natCast_pow 2 (8 * i)).symm
  rw [show ((8 * i : Nat) : Int).toNat = 8 * i from rfl, e, ← Int.natCast_ediv]
  exact u8_nat _
theorem gNumber8 (l : L) (n t : Nat) (hl : l.length ≤ 900000) (hn : n < 256) : Good Try.prog 44 [.sh 1 (BS l), .i .u8 n, .i .i64 (1 : Nat)] [] (.gr t 5 1 (BS (l ++ be n 1))) [(t, .gw (BS (l ++ be n 1)).length)] := by
  have ll : (BS l).length = l.length := BS_len l
  have w : IntKind.wrap .u64 (n : Int) = n := wrap64n (by omega)
  refine Good.w2 tabOk mixed Try.func44 (N := 31) (by kernel_rfl) rfl (by (repeat (first | exact LE.nil | apply LE.cons)); done) (by (repeat (first | exact LE.nil | apply LE.cons)); done) fun D hD F => ?_
  repeat' (first
    | apply AO.nil
    | (apply AO.kCall 48; refine AO.sCall1 (hg := ( gCloneG l _ sd)) (h := ?_))
    | (apply AO.kCall 50; refine AO.callG [(1000000, 11), (1000001, 13)] (hg := (gGrowB l 1 sd sd)) (hc := by exact rfl) (ha := by (repeat constructor); done) (hl := by (repeat (first | exact LeL.nil | (refine LeL.cons (Le.refl _) ?_) | (refine LeL.cons Le.gr ?_) | (refine LeL.cons Le.nil ?_) | (refine LeL.cons Le.shc ?_))); done) (hi := by (repeat (first | exact Rho.here | exact Rho.nil | (refine Rho.there ?_ ?_; exact rfl) | exact RnL.nil | apply RnL.cons | exact RoL.nil | exact Lent.nil | exact Apd.nil | apply Apd.cons | (refine Lent.cons ?_ ?_ ?_ ?_ ?_) | (refine RoL.cons ?_ ?_ ?_) | (refine RnL.same ?_; exact rfl) | constructor | exact rfl)); done) (ht := by exact rfl) (hr := by (repeat (first | exact Rho.here | exact Rho.nil | (refine Rho.there ?_ ?_; exact rfl) | exact RnL.nil | apply RnL.cons | exact RoL.nil | exact Lent.nil | exact Apd.nil | apply Apd.cons | (refine Lent.cons ?_ ?_ ?_ ?_ ?_) | (refine RoL.cons ?_ ?_ ?_) | (refine RnL.same ?_; exact rfl) | constructor | exact rfl)); done) (ho := by (repeat (first | exact Rho.here | exact Rho.nil | (refine Rho.there ?_ ?_; exact rfl) | exact RnL.nil | apply RnL.cons | exact RoL.nil | exact Lent.nil | exact Apd.nil | apply Apd.cons | (refine Lent.cons ?_ ?_ ?_ ?_ ?_) | (refine RoL.cons ?_ ?_ ?_) | (refine RnL.same ?_; exact rfl) | constructor | exact rfl)); done) (hn := by exact rfl) (hf := by exact rfl) (hB := by (repeat (first | exact Rho.here | exact Rho.nil | (refine Rho.there ?_ ?_; exact rfl) | exact RnL.nil | apply RnL.cons | exact RoL.nil | exact Lent.nil | exact Apd.nil | apply Apd.cons | (refine Lent.cons ?_ ?_ ?_ ?_ ?_) | (refine RoL.cons ?_ ?_ ?_) | (refine RnL.same ?_; exact rfl) | constructor | exact rfl)); done) (h := ?_))
    | (apply AO.kBuildS; first | refine AO.sBuildT (h := ?_) | refine AO.sBuildS (h := ?_))
    | (apply AO.kApp; first | refine AO.sGrowT (h := ?_) | refine AO.sNewT (h := ?_) | refine AO.sGrowBT (h := ?_) | refine AO.sGrow (h := ?_) | refine AO.sNewr (h := ?_))
    | (apply AO.kSub; refine AO.sSub (h := ?_))
    | (apply AO.kCv; first | refine AO.sBytes (h := ?_) | refine AO.sStr (h := ?_) | refine AO.sStrR (h := ?_))
    | (apply AO.kP; first | refine AO.sP (h := ?_) | refine AO.sPi (h := ?_) | refine AO.sSameB (h := ?_))
    | (apply AO.kP; refine AO.eqNil (h1 := fun h => ?_) (h2 := ?_))
    | apply AW.seq
    | (apply AW.kR; refine AW.sR (h := ?_))
    | apply AW.skip
    | apply AW.block
    | apply AW.out
    | (apply AW.kE; refine AW.sE (h := ?_))
    | apply AW.label
    | ((first | (apply AW.kC; refine AW.sC (h1 := fun h => ?_) (h2 := fun h => ?_))) <;> (try (first | exact Bool.noConfusion h | exact absurd h (by decide) | (simp at h; done) | (rw [h]; try simp only [nrm] at h; try rw [h]; try (exfalso; omega)) | skip))))
  try simp only [w]
  refine AW.loopI (fun x : Nat × L => x.1 ≤ 1 ∧ x.2 ++ be n x.1 = l ++ be n 1) (fun x => ⟨[(7, .gr 13 5 1 (BS x.2)), (8, .i .u64 n), (9, .i .i64 ((x.1 : Int) - 1))], [(13, .gw (BS x.2).length)]⟩) (fun x => x.1) (1, l) ⟨by simp, rfl⟩ (by (constructor <;> (repeat' (first | exact LeT.nil | exact LeB.nil | apply LeT.cons | apply LeB.cons | exact Ol.refl | apply Lx.s | apply Lx.b | apply Lx.i | exact Lx.refl)) <;> (first | rfl | assumption | omega | (simp only [List.length_map, BS_len]; done) | skip))) fun m x hx ih => ?_
  obtain ⟨q, a⟩ := x
  obtain ⟨h1, h2⟩ := hx
  dsimp only at h1 h2 ih ⊢
  have hal : a.length + q = l.length + 1 := by have := congrArg List.length h2; simpa [be_len] using this
  match q, h1, h2, hal, ih with
  | 0, h1, h2, hal, ih =>
    rw [be, List.append_nil] at h2
    subst h2
    repeat' (first
    | apply AO.nil
    | (apply AO.kBuildS; first | refine AO.sBuildT (h := ?_) | refine AO.sBuildS (h := ?_))
    | (apply AO.kApp; first | refine AO.sGrowT (h := ?_) | refine AO.sNewT (h := ?_) | refine AO.sGrowBT (h := ?_) | refine AO.sGrow (h := ?_) | refine AO.sNewr (h := ?_))
    | (apply AO.kSub; refine AO.sSub (h := ?_))
    | (apply AO.kCv; first | refine AO.sBytes (h := ?_) | refine AO.sStr (h := ?_) | refine AO.sStrR (h := ?_))
    | (apply AO.kP; first | refine AO.sP (h := ?_) | refine AO.sPi (h := ?_) | refine AO.sSameB (h := ?_))
    | (apply AO.kP; refine AO.eqNil (h1 := fun h => ?_) (h2 := ?_))
    | apply AW.seq
    | (apply AW.kR; refine AW.sR (h := ?_))
    | apply AW.skip
    | apply AW.block
    | apply AW.out
    | (apply AW.kE; refine AW.sE (h := ?_))
    | apply AW.label
    | ((first | (apply AW.kC; refine AW.sC (h1 := fun h => ?_) (h2 := fun h => ?_))) <;> (try (first | exact Bool.noConfusion h | exact absurd h (by decide) | (simp at h; done) | (rw [h]; try simp only [nrm] at h; try rw [h]; try (exfalso; omega)) | skip))))
    exact AW.ret (hD 13 rfl .refl .refl)
  | q + 1, h1, h2, hal, ih =>
    have hm : IntKind.wrap .i64 (8 * (((q + 1 : Nat) : Int) - 1)) = ((8 * q : Nat) : Int) := by
      rw [show (8 * (((q + 1 : Nat) : Int) - 1)) = ((8 * q : Nat) : Int) by omega]
      exact wrap64 (by omega)
    have la : (BS a).length = a.length := BS_len a
    repeat' (first
    | apply AO.nil
    | (apply AO.kBuildS; first | refine AO.sBuildT (h := ?_) | refine AO.sBuildS (h := ?_))
    | (apply AO.kApp; first | refine AO.sGrowT (h := ?_) | refine AO.sNewT (h := ?_) | refine AO.sGrowBT (h := ?_) | refine AO.sGrow (h := ?_) | refine AO.sNewr (h := ?_))
    | (apply AO.kSub; refine AO.sSub (h := ?_))
    | (apply AO.kCv; first | refine AO.sBytes (h := ?_) | refine AO.sStr (h := ?_) | refine AO.sStrR (h := ?_))
    | (apply AO.kP; first | refine AO.sP (h := ?_) | refine AO.sPi (h := ?_) | refine AO.sSameB (h := ?_))
    | (apply AO.kP; refine AO.eqNil (h1 := fun h => ?_) (h2 := ?_))
    | apply AW.seq
    | (apply AW.kR; refine AW.sR (h := ?_))
    | apply AW.skip
    | apply AW.block
    | apply AW.out
    | (apply AW.kE; refine AW.sE (h := ?_))
    | apply AW.label
    | ((first | (apply AW.kC; refine AW.sC (h1 := fun h => ?_) (h2 := fun h => ?_))) <;> (try (first | exact Bool.noConfusion h | exact absurd h (by decide) | (simp at h; done) | (rw [h]; try simp only [nrm] at h; try rw [h]; try (exfalso; omega)) | skip))))
    simp only [hm]
    repeat' (first
    | apply AO.nil
    | (apply AO.kBuildS; first | refine AO.sBuildT (h := ?_) | refine AO.sBuildS (h := ?_))
    | (apply AO.kApp; first | refine AO.sGrowT (h := ?_) | refine AO.sNewT (h := ?_) | refine AO.sGrowBT (h := ?_) | refine AO.sGrow (h := ?_) | refine AO.sNewr (h := ?_))
    | (apply AO.kSub; refine AO.sSub (hr := by first | decide | omega | assumption | (simp only [BS_len, List.length_append, List.length_cons, List.length_nil]; omega) | exact ⟨by omega, by show _ ≤ (64 : Int); omega⟩) (h := ?_))
    | (apply AO.kCv; first | refine AO.sBytes (h := ?_) | refine AO.sStr (h := ?_) | refine AO.sStrR (h := ?_))
    | (apply AO.kP; first | refine AO.sP (h := ?_) | refine AO.sPi (hq := by first | decide | omega | assumption | (simp only [BS_len, List.length_append, List.length_cons, List.length_nil]; omega) | exact ⟨by omega, by show _ ≤ (64 : Int); omega⟩) (h := ?_) | refine AO.sSameB (h := ?_))
    | (apply AO.kP; refine AO.eqNil (h1 := fun h => ?_) (h2 := ?_))
    | apply AW.seq
    | (apply AW.kR; refine AW.sR (h := ?_))
    | apply AW.skip
    | apply AW.block
    | apply AW.out
    | (apply AW.kE; refine AW.sE (h := ?_))
    | apply AW.label
    | ((first | (apply AW.kC; refine AW.sC (h1 := fun h => ?_) (h2 := fun h => ?_))) <;> (try (first | exact Bool.noConfusion h | exact absurd h (by decide) | (simp at h; done) | (rw [h]; try simp only [nrm] at h; try rw [h]; try (exfalso; omega)) | skip))))
    simp only [byteOf n q]
    have e2 : (a ++ [UInt8.ofNat (n / 256 ^ q)]) ++ be n q = l ++ be n 1 := by rw [← h2, be, List.append_assoc]; rfl
    refine ih (q, a ++ [UInt8.ofNat (n / 256 ^ q)]) _ ⟨by omega, e2⟩ (by omega) ?_
    (constructor <;> (repeat' (first | exact LeT.nil | exact LeB.nil | apply LeT.cons | apply LeB.cons | exact Ol.refl | apply Lx.s | apply Lx.b | apply Lx.i | exact Lx.refl)) <;> (first | rfl | assumption | omega | (simp only [List.length_map, BS_len]; done) | skip))
theorem gNumber16 (l : L) (n t : Nat) (hl : l.length ≤ 900000) (hn : n < 65536) : Good Try.prog 45 [.sh 1 (BS l), .i .u16 n, .i .i64 (2 : Nat)] [] (.gr t 5 1 (BS (l ++ be n 2))) [(t, .gw (BS (l ++ be n 2)).length)] := by
  have ll : (BS l).length = l.length := BS_len l
  have w : IntKind.wrap .u64 (n : Int) = n := wrap64n (by omega)
  refine Good.w2 tabOk mixed Try.func45 (N := 31) (by kernel_rfl) rfl (by (repeat (first | exact LE.nil | apply LE.cons)); done) (by (repeat (first | exact LE.nil | apply LE.cons)); done) fun D hD F => ?_
  repeat' (first
    | apply AO.nil
    | (apply AO.kCall 48; refine AO.sCall1 (hg := ( gCloneG l _ sd)) (h := ?_))
    | (apply AO.kCall 50; refine AO.callG [(1000000, 11), (1000001, 13)] (hg := (gGrowB l 2 sd sd)) (hc := by exact rfl) (ha := by (repeat constructor); done) (hl := by (repeat (first | exact LeL.nil | (refine LeL.cons (Le.refl _) ?_) | (refine LeL.cons Le.gr ?_) | (refine LeL.cons Le.nil ?_) | (refine LeL.cons Le.shc ?_))); done) (hi := by (repeat (first | exact Rho.here | exact Rho.nil | (refine Rho.there ?_ ?_; exact rfl) | exact RnL.nil | apply RnL.cons | exact RoL.nil | exact Lent.nil | exact Apd.nil | apply Apd.cons | (refine Lent.cons ?_ ?_ ?_ ?_ ?_) | (refine RoL.cons ?_ ?_ ?_) | (refine RnL.same ?_; exact rfl) | constructor | exact rfl)); done) (ht := by exact rfl) (hr := by (repeat (first | exact Rho.here | exact Rho.nil | (refine Rho.there ?_ ?_; exact rfl) | exact RnL.nil | apply RnL.cons | exact RoL.nil | exact Lent.nil | exact Apd.nil | apply Apd.cons | (refine Lent.cons ?_ ?_ ?_ ?_ ?_) | (refine RoL.cons ?_ ?_ ?_) | (refine RnL.same ?_; exact rfl) | constructor | exact rfl)); done) (ho := by (repeat (first | exact Rho.here | exact Rho.nil | (refine Rho.there ?_ ?_; exact rfl) | exact RnL.nil | apply RnL.cons | exact RoL.nil | exact Lent.nil | exact Apd.nil | apply Apd.cons | (refine Lent.cons ?_ ?_ ?_ ?_ ?_) | (refine RoL.cons ?_ ?_ ?_) | (refine RnL.same ?_; exact rfl) | constructor | exact rfl)); done) (hn := by exact rfl) (hf := by exact rfl) (hB := by (repeat (first | exact Rho.here | exact Rho.nil | (refine Rho.there ?_ ?_; exact rfl) | exact RnL.nil | apply RnL.cons | exact RoL.nil | exact Lent.nil | exact Apd.nil | apply Apd.cons | (refine Lent.cons ?_ ?_ ?_ ?_ ?_) | (refine RoL.cons ?_ ?_ ?_) | (refine RnL.same ?_; exact rfl) | constructor | exact rfl)); done) (h := ?_))
    | (apply AO.kBuildS; first | refine AO.sBuildT (h := ?_) | refine AO.sBuildS (h := ?_))
    | (apply AO.kApp; first | refine AO.sGrowT (h := ?_) | refine AO.sNewT (h := ?_) | refine AO.sGrowBT (h := ?_) | refine AO.sGrow (h := ?_) | refine AO.sNewr (h := ?_))
    | (apply AO.kSub; refine AO.sSub (h := ?_))
    | (apply AO.kCv; first | refine AO.sBytes (h := ?_) | refine AO.sStr (h := ?_) | refine AO.sStrR (h := ?_))
    | (apply AO.kP; first | refine AO.sP (h := ?_) | refine AO.sPi (h := ?_) | refine AO.sSameB (h := ?_))
    | (apply AO.kP; refine AO.eqNil (h1 := fun h => ?_) (h2 := ?_))
    | apply AW.seq
    | (apply AW.kR; refine AW.sR (h := ?_))
    | apply AW.skip
    | apply AW.block
    | apply AW.out
    | (apply AW.kE; refine AW.sE (h := ?_))
    | apply AW.label
    | ((first | (apply AW.kC; refine AW.sC (h1 := fun h => ?_) (h2 := fun h => ?_))) <;> (try (first | exact Bool.noConfusion h | exact absurd h (by decide) | (simp at h; done) | (rw [h]; try simp only [nrm] at h; try rw [h]; try (exfalso; omega)) | skip))))
  try simp only [w]
  refine AW.loopI (fun x : Nat × L => x.1 ≤ 2 ∧ x.2 ++ be n x.1 = l ++ be n 2) (fun x => ⟨[(7, .gr 13 5 1 (BS x.2)), (8, .i .u64 n), (9, .i .i64 ((x.1 : Int) - 1))], [(13, .gw (BS x.2).length)]⟩) (fun x => x.1) (2, l) ⟨by simp, rfl⟩ (by (constructor <;> (repeat' (first | exact LeT.nil | exact LeB.nil | apply LeT.cons | apply LeB.cons | exact Ol.refl | apply Lx.s | apply Lx.b | apply Lx.i | exact Lx.refl)) <;> (first | rfl | assumption | omega | (simp only [List.length_map, BS_len]; done) | skip))) fun m x hx ih => ?_
  obtain ⟨q, a⟩ := x
  obtain ⟨h1, h2⟩ := hx
  dsimp only at h1 h2 ih ⊢
  have hal : a.length + q = l.length + 2 := by have := congrArg List.length h2; simpa [be_len] using this
  match q, h1, h2, hal, ih with
  | 0, h1, h2, hal, ih =>
    rw [be, List.append_nil] at h2
    subst h2
    repeat' (first
    | apply AO.nil
    | (apply AO.kBuildS; first | refine AO.sBuildT (h := ?_) | refine AO.sBuildS (h := ?_))
    | (apply AO.kApp; first | refine AO.sGrowT (h := ?_) | refine AO.sNewT (h := ?_) | refine AO.sGrowBT (h := ?_) | refine AO.sGrow (h := ?_) | refine AO.sNewr (h := ?_))
    | (apply AO.kSub; refine AO.sSub (h := ?_))
    | (apply AO.kCv; first | refine AO.sBytes (h := ?_) | refine AO.sStr (h := ?_) | refine AO.sStrR (h := ?_))
    | (apply AO.kP; first | refine AO.sP (h := ?_) | refine AO.sPi (h := ?_) | refine AO.sSameB (h := ?_))
    | (apply AO.kP; refine AO.eqNil (h1 := fun h => ?_) (h2 := ?_))
    | apply AW.seq
    | (apply AW.kR; refine AW.sR (h := ?_))
    | apply AW.skip
    | apply AW.block
    | apply AW.out
    | (apply AW.kE; refine AW.sE (h := ?_))
    | apply AW.label
    | ((first | (apply AW.kC; refine AW.sC (h1 := fun h => ?_) (h2 := fun h => ?_))) <;> (try (first | exact Bool.noConfusion h | exact absurd h (by decide) | (simp at h; done) | (rw [h]; try simp only [nrm] at h; try rw [h]; try (exfalso; omega)) | skip))))
    exact AW.ret (hD 13 rfl .refl .refl)
  | q + 1, h1, h2, hal, ih =>
    have hm : IntKind.wrap .i64 (8 * (((q + 1 : Nat) : Int) - 1)) = ((8 * q : Nat) : Int) := by
      rw [show (8 * (((q + 1 : Nat) : Int) - 1)) = ((8 * q : Nat) : Int) by omega]
      exact wrap64 (by omega)
    have la : (BS a).length = a.length := BS_len a
    repeat' (first
    | apply AO.nil
    | (apply AO.kBuildS; first | refine AO.sBuildT (h := ?_) | refine AO.sBuildS (h := ?_))
    | (apply AO.kApp; first | refine AO.sGrowT (h := ?_) | refine AO.sNewT (h := ?_) | refine AO.sGrowBT (h := ?_) | refine AO.sGrow (h := ?_) | refine AO.sNewr (h := ?_))
    | (apply AO.kSub; refine AO.sSub (h := ?_))
    | (apply AO.kCv; first | refine AO.sBytes (h := ?_) | refine AO.sStr (h := ?_) | refine AO.sStrR (h := ?_))
    | (apply AO.kP; first | refine AO.sP (h := ?_) | refine AO.sPi (h := ?_) | refine AO.sSameB (h := ?_))
    | (apply AO.kP; refine AO.eqNil (h1 := fun h => ?_) (h2 := ?_))
    | apply AW.seq
    | (apply AW.kR; refine AW.sR (h := ?_))
    | apply AW.skip
    | apply AW.block
    | apply AW.out
    | (apply AW.kE; refine AW.sE (h := ?_))
    | apply AW.label
    | ((first | (apply AW.kC; refine AW.sC (h1 := fun h => ?_) (h2 := fun h => ?_))) <;> (try (first | exact Bool.noConfusion h | exact absurd h (by decide) | (simp at h; done) | (rw [h]; try simp only [nrm] at h; try rw [h]; try (exfalso; omega)) | skip))))
    simp only [hm]
    repeat' (first
    | apply AO.nil
    | (apply AO.kBuildS; first | refine AO.sBuildT (h := ?_) | refine AO.sBuildS (h := ?_))
    | (apply AO.kApp; first | refine AO.sGrowT (h := ?_) | refine AO.sNewT (h := ?_) | refine AO.sGrowBT (h := ?_) | refine AO.sGrow (h := ?_) | refine AO.sNewr (h := ?_))
    | (apply AO.kSub; refine AO.sSub (hr := by first | decide | omega | assumption | (simp only [BS_len, List.length_append, List.length_cons, List.length_nil]; omega) | exact ⟨by omega, by show _ ≤ (64 : Int); omega⟩) (h := ?_))
    | (apply AO.kCv; first | refine AO.sBytes (h := ?_) | refine AO.sStr (h := ?_) | refine AO.sStrR (h := ?_))
    | (apply AO.kP; first | refine AO.sP (h := ?_) | refine AO.sPi (hq := by first | decide | omega | assumption | (simp only [BS_len, List.length_append, List.length_cons, List.length_nil]; omega) | exact ⟨by omega, by show _ ≤ (64 : Int); omega⟩) (h := ?_) | refine AO.sSameB (h := ?_))
    | (apply AO.kP; refine AO.eqNil (h1 := fun h => ?_) (h2 := ?_))
    | apply AW.seq
    | (apply AW.kR; refine AW.sR (h := ?_))
    | apply AW.skip
    | apply AW.block
    | apply AW.out
    | (apply AW.kE; refine AW.sE (h := ?_))
    | apply AW.label
    | ((first | (apply AW.kC; refine AW.sC (h1 := fun h => ?_) (h2 := fun h => ?_))) <;> (try (first | exact Bool.noConfusion h | exact absurd h (by decide) | (simp at h; done) | (rw [h]; try simp only [nrm] at h; try rw [h]; try (exfalso; omega)) | skip))))
    simp only [byteOf n q]
    have e2 : (a ++ [UInt8.ofNat (n / 256 ^ q)]) ++ be n q = l ++ be n 2 := by rw [← h2, be, List.append_assoc]; rfl
    refine ih (q, a ++ [UInt8.ofNat (n / 256 ^ q)]) _ ⟨by omega, e2⟩ (by omega) ?_
    (constructor <;> (repeat' (first | exact LeT.nil | exact LeB.nil | apply LeT.cons | apply LeB.cons | exact Ol.refl | apply Lx.s | apply Lx.b | apply Lx.i | exact Lx.refl)) <;> (first | rfl | assumption | omega | (simp only [List.length_map, BS_len]; done) | skip))
theorem gNumber32 (l : L) (n t : Nat) (hl : l.length ≤ 900000) (hn : n < 4294967296) : Good Try.prog 46 [.sh 1 (BS l), .i .u32 n, .i .i64 (4 : Nat)] [] (.gr t 5 1 (BS (l ++ be n 4))) [(t, .gw (BS (l ++ be n 4)).length)] := by
  have ll : (BS l).length = l.length := BS_len l
  have w : IntKind.wrap .u64 (n : Int) = n := wrap64n (by omega)
  refine Good.w2 tabOk mixed Try.func46 (N := 31) (by kernel_rfl) rfl (by (repeat (first | exact LE.nil | apply LE.cons)); done) (by (repeat (first | exact LE.nil | apply LE.cons)); done) fun D hD F => ?_
  repeat' (first
    | apply AO.nil
    | (apply AO.kCall 48; refine AO.sCall1 (hg := ( gCloneG l _ sd)) (h := ?_))
    | (apply AO.kCall 50; refine AO.callG [(1000000, 11), (1000001, 13)] (hg := (gGrowB l 4 sd sd)) (hc := by exact rfl) (ha := by (repeat constructor); done) (hl := by (repeat (first | exact LeL.nil | (refine LeL.cons (Le.refl _) ?_) | (refine LeL.cons Le.gr ?_) | (refine LeL.cons Le.nil ?_) | (refine LeL.cons Le.shc ?_))); done) (hi := by (repeat (first | exact Rho.here | exact Rho.nil | (refine Rho.there ?_ ?_; exact rfl) | exact RnL.nil | apply RnL.cons | exact RoL.nil | exact Lent.nil | exact Apd.nil | apply Apd.cons | (refine Lent.cons ?_ ?_ ?_ ?_ ?_) | (refine RoL.cons ?_ ?_ ?_) | (refine RnL.same ?_; exact rfl) | constructor | exact rfl)); done) (ht := by exact rfl) (hr := by (repeat (first | exact Rho.here | exact Rho.nil | (refine Rho.there ?_ ?_; exact rfl) | exact RnL.nil | apply RnL.cons | exact RoL.nil | exact Lent.nil | exact Apd.nil | apply Apd.cons | (refine Lent.cons ?_ ?_ ?_ ?_ ?_) | (refine RoL.cons ?_ ?_ ?_) | (refine RnL.same ?_; exact rfl) | constructor | exact rfl)); done) (ho := by (repeat (first | exact Rho.here | exact Rho.nil | (refine Rho.there ?_ ?_; exact rfl) | exact RnL.nil | apply RnL.cons | exact RoL.nil | exact Lent.nil | exact Apd.nil | apply Apd.cons | (refine Lent.cons ?_ ?_ ?_ ?_ ?_) | (refine RoL.cons ?_ ?_ ?_) | (refine RnL.same ?_; exact rfl) | constructor | exact rfl)); done) (hn := by exact rfl) (hf := by exact rfl) (hB := by (repeat (first | exact Rho.here | exact Rho.nil | (refine Rho.there ?_ ?_; exact rfl) | exact RnL.nil | apply RnL.cons | exact RoL.nil | exact Lent.nil | exact Apd.nil | apply Apd.cons | (refine Lent.cons ?_ ?_ ?_ ?_ ?_) | (refine RoL.cons ?_ ?_ ?_) | (refine RnL.same ?_; exact rfl) | constructor | exact rfl)); done) (h := ?_))
    | (apply AO.kBuildS; first | refine AO.sBuildT (h := ?_) | refine AO.sBuildS (h := ?_))
    | (apply AO.kApp; first | refine AO.sGrowT (h := ?_) | refine AO.sNewT (h := ?_) | refine AO.sGrowBT (h := ?_) | refine AO.sGrow (h := ?_) | refine AO.sNewr (h := ?_))
    | (apply AO.kSub; refine AO.sSub (h := ?_))
    | (apply AO.kCv; first | refine AO.sBytes (h := ?_) | refine AO.sStr (h := ?_) | refine AO.sStrR (h := ?_))
    | (apply AO.kP; first | refine AO.sP (h := ?_) | refine AO.sPi (h := ?_) | refine AO.sSameB (h := ?_))
    | (apply AO.kP; refine AO.eqNil (h1 := fun h => ?_) (h2 := ?_))
    | apply AW.seq
    | (apply AW.kR; refine AW.sR (h := ?_))
    | apply AW.skip
    | apply AW.block
    | apply AW.out
    | (apply AW.kE; refine AW.sE (h := ?_))
    | apply AW.label
    | ((first | (apply AW.kC; refine AW.sC (h1 := fun h => ?_) (h2 := fun h => ?_))) <;> (try (first | exact Bool.noConfusion h | exact absurd h (by decide) | (simp at h; done) | (rw [h]; try simp only [nrm] at h; try rw [h]; try (exfalso; omega)) | skip))))
  try simp only [w]
  refine AW.loopI (fun x : Nat × L => x.1 ≤ 4 ∧ x.2 ++ be n x.1 = l ++ be n 4) (fun x => ⟨[(7, .gr 13 5 1 (BS x.2)), (8, .i .u64 n), (9, .i .i64 ((x.1 : Int) - 1))], [(13, .gw (BS x.2).length)]⟩) (fun x => x.1) (4, l) ⟨by simp, rfl⟩ (by (constructor <;> (repeat' (first | exact LeT.nil | exact LeB.nil | apply LeT.cons | apply LeB.cons | exact Ol.refl | apply Lx.s | apply Lx.b | apply Lx.i | exact Lx.refl)) <;> (first | rfl | assumption | omega | (simp only [List.length_map, BS_len]; done) | skip))) fun m x hx ih => ?_
  obtain ⟨q, a⟩ := x
  obtain ⟨h1, h2⟩ := hx
  dsimp only at h1 h2 ih ⊢
  have hal : a.length + q = l.length + 4 := by have := congrArg List.length h2; simpa [be_len] using this
  match q, h1, h2, hal, ih with
  | 0, h1, h2, hal, ih =>
    rw [be, List.append_nil] at h2
    subst h2
    repeat' (first
    | apply AO.nil
    | (apply AO.kBuildS; first | refine AO.sBuildT (h := ?_) | refine AO.sBuildS (h := ?_))
    | (apply AO.kApp; first | refine AO.sGrowT (h := ?_) | refine AO.sNewT (h := ?_) | refine AO.sGrowBT (h := ?_) | refine AO.sGrow (h := ?_) | refine AO.sNewr (h := ?_))
    | (apply AO.kSub; refine AO.sSub (h := ?_))
    | (apply AO.kCv; first | refine AO.sBytes (h := ?_) | refine AO.sStr (h := ?_) | refine AO.sStrR (h := ?_))
    | (apply AO.kP; first | refine AO.sP (h := ?_) | refine AO.sPi (h := ?_) | refine AO.sSameB (h := ?_))
    | (apply AO.kP; refine AO.eqNil (h1 := fun h => ?_) (h2 := ?_))
    | apply AW.seq
    | (apply AW.kR; refine AW.sR (h := ?_))
    | apply AW.skip
    | apply AW.block
    | apply AW.out
    | (apply AW.kE; refine AW.sE (h := ?_))
    | apply AW.label
    | ((first | (apply AW.kC; refine AW.sC (h1 := fun h => ?_) (h2 := fun h => ?_))) <;> (try (first | exact Bool.noConfusion h | exact absurd h (by decide) | (simp at h; done) | (rw [h]; try simp only [nrm] at h; try rw [h]; try (exfalso; omega)) | skip))))
    exact AW.ret (hD 13 rfl .refl .refl)
  | q + 1, h1, h2, hal, ih =>
    have hm : IntKind.wrap .i64 (8 * (((q + 1 : Nat) : Int) - 1)) = ((8 * q : Nat) : Int) := by
      rw [show (8 * (((q + 1 : Nat) : Int) - 1)) = ((8 * q : Nat) : Int) by omega]
      exact wrap64 (by omega)
    have la : (BS a).length = a.length := BS_len a
    repeat' (first
    | apply AO.nil
    | (apply AO.kBuildS; first | refine AO.sBuildT (h := ?_) | refine AO.sBuildS (h := ?_))
    | (apply AO.kApp; first | refine AO.sGrowT (h := ?_) | refine AO.sNewT (h := ?_) | refine AO.sGrowBT (h := ?_) | refine AO.sGrow (h := ?_) | refine AO.sNewr (h := ?_))
    | (apply AO.kSub; refine AO.sSub (h := ?_))
    | (apply AO.kCv; first | refine AO.sBytes (h := ?_) | refine AO.sStr (h := ?_) | refine AO.sStrR (h := ?_))
    | (apply AO.kP; first | refine AO.sP (h := ?_) | refine AO.sPi (h := ?_) | refine AO.sSameB (h := ?_))
    | (apply AO.kP; refine AO.eqNil (h1 := fun h => ?_) (h2 := ?_))
    | apply AW.seq
    | (apply AW.kR; refine AW.sR (h := ?_))
    | apply AW.skip
    | apply AW.block
    | apply AW.out
    | (apply AW.kE; refine AW.sE (h := ?_))
    | apply AW.label
    | ((first | (apply AW.kC; refine AW.sC (h1 := fun h => ?_) (h2 := fun h => ?_))) <;> (try (first | exact Bool.noConfusion h | exact absurd h (by decide) | (simp at h; done) | (rw [h]; try simp only [nrm] at h; try rw [h]; try (exfalso; omega)) | skip))))
    simp only [hm]
    repeat' (first
    | apply AO.nil
    | (apply AO.kBuildS; first | refine AO.sBuildT (h := ?_) | refine AO.sBuildS (h := ?_))
    | (apply AO.kApp; first | refine AO.sGrowT (h := ?_) | refine AO.sNewT (h := ?_) | refine AO.sGrowBT (h := ?_) | refine AO.sGrow (h := ?_) | refine AO.sNewr (h := ?_))
    | (apply AO.kSub; refine AO.sSub (hr := by first | decide | omega | assumption | (simp only [BS_len, List.length_append, List.length_cons, List.length_nil]; omega) | exact ⟨by omega, by show _ ≤ (64 : Int); omega⟩) (h := ?_))
    | (apply AO.kCv; first | refine AO.sBytes (h := ?_) | refine AO.sStr (h := ?_) | refine AO.sStrR (h := ?_))
    | (apply AO.kP; first | refine AO.sP (h := ?_) | refine AO.sPi (hq := by first | decide | omega | assumption | (simp only [BS_len, List.length_append, List.length_cons, List.length_nil]; omega) | exact ⟨by omega, by show _ ≤ (64 : Int); omega⟩) (h := ?_) | refine AO.sSameB (h := ?_))
    | (apply AO.kP; refine AO.eqNil (h1 := fun h => ?_) (h2 := ?_))
    | apply AW.seq
    | (apply AW.kR; refine AW.sR (h := ?_))
    | apply AW.skip
    | apply AW.block
    | apply AW.out
    | (apply AW.kE; refine AW.sE (h := ?_))
    | apply AW.label
    | ((first | (apply AW.kC; refine AW.sC (h1 := fun h => ?_) (h2 := fun h => ?_))) <;> (try (first | exact Bool.noConfusion h | exact absurd h (by decide) | (simp at h; done) | (rw [h]; try simp only [nrm] at h; try rw [h]; try (exfalso; omega)) | skip))))
    simp only [byteOf n q]
    have e2 : (a ++ [UInt8.ofNat (n / 256 ^ q)]) ++ be n q = l ++ be n 4 := by rw [← h2, be, List.append_assoc]; rfl
    refine ih (q, a ++ [UInt8.ofNat (n / 256 ^ q)]) _ ⟨by omega, e2⟩ (by omega) ?_
    (constructor <;> (repeat' (first | exact LeT.nil | exact LeB.nil | apply LeT.cons | apply LeB.cons | exact Ol.refl | apply Lx.s | apply Lx.b | apply Lx.i | exact Lx.refl)) <;> (first | rfl | assumption | omega | (simp only [List.length_map, BS_len]; done) | skip))
theorem gNumber64 (l : L) (n t : Nat) (hl : l.length ≤ 900000) (hn : n < 18446744073709551616) : Good Try.prog 47 [.sh 1 (BS l), .i .u64 n, .i .i64 (8 : Nat)] [] (.gr t 5 1 (BS (l ++ be n 8))) [(t, .gw (BS (l ++ be n 8)).length)] := by
  have ll : (BS l).length = l.length := BS_len l
  have w : IntKind.wrap .u64 (n : Int) = n := wrap64n (by omega)
  refine Good.w2 tabOk mixed Try.func47 (N := 30) (by kernel_rfl) rfl (by (repeat (first | exact LE.nil | apply LE.cons)); done) (by (repeat (first | exact LE.nil | apply LE.cons)); done) fun D hD F => ?_
  repeat' (first
    | apply AO.nil
    | (apply AO.kCall 48; refine AO.sCall1 (hg := ( gCloneG l _ sd)) (h := ?_))
    | (apply AO.kCall 50; refine AO.callG [(1000000, 11), (1000001, 13)] (hg := (gGrowB l 8 sd sd)) (hc := by exact rfl) (ha := by (repeat constructor); done) (hl := by (repeat (first | exact LeL.nil | (refine LeL.cons (Le.refl _) ?_) | (refine LeL.cons Le.gr ?_) | (refine LeL.cons Le.nil ?_) | (refine LeL.cons Le.shc ?_))); done) (hi := by (repeat (first | exact Rho.here | exact Rho.nil | (refine Rho.there ?_ ?_; exact rfl) | exact RnL.nil | apply RnL.cons | exact RoL.nil | exact Lent.nil | exact Apd.nil | apply Apd.cons | (refine Lent.cons ?_ ?_ ?_ ?_ ?_) | (refine RoL.cons ?_ ?_ ?_) | (refine RnL.same ?_; exact rfl) | constructor | exact rfl)); done) (ht := by exact rfl) (hr := by (repeat (first | exact Rho.here | exact Rho.nil | (refine Rho.there ?_ ?_; exact rfl) | exact RnL.nil | apply RnL.cons | exact RoL.nil | exact Lent.nil | exact Apd.nil | apply Apd.cons | (refine Lent.cons ?_ ?_ ?_ ?_ ?_) | (refine RoL.cons ?_ ?_ ?_) | (refine RnL.same ?_; exact rfl) | constructor | exact rfl)); done) (ho := by (repeat (first | exact Rho.here | exact Rho.nil | (refine Rho.there ?_ ?_; exact rfl) | exact RnL.nil | apply RnL.cons | exact RoL.nil | exact Lent.nil | exact Apd.nil | apply Apd.cons | (refine Lent.cons ?_ ?_ ?_ ?_ ?_) | (refine RoL.cons ?_ ?_ ?_) | (refine RnL.same ?_; exact rfl) | constructor | exact rfl)); done) (hn := by exact rfl) (hf := by exact rfl) (hB := by (repeat (first | exact Rho.here | exact Rho.nil | (refine Rho.there ?_ ?_; exact rfl) | exact RnL.nil | apply RnL.cons | exact RoL.nil | exact Lent.nil | exact Apd.nil | apply Apd.cons | (refine Lent.cons ?_ ?_ ?_ ?_ ?_) | (refine RoL.cons ?_ ?_ ?_) | (refine RnL.same ?_; exact rfl) | constructor | exact rfl)); done) (h := ?_))
    | (apply AO.kBuildS; first | refine AO.sBuildT (h := ?_) | refine AO.sBuildS (h := ?_))
    | (apply AO.kApp; first | refine AO.sGrowT (h := ?_) | refine AO.sNewT (h := ?_) | refine AO.sGrowBT (h := ?_) | refine AO.sGrow (h := ?_) | refine AO.sNewr (h := ?_))
    | (apply AO.kSub; refine AO.sSub (h := ?_))
    | (apply AO.kCv; first | refine AO.sBytes (h := ?_) | refine AO.sStr (h := ?_) | refine AO.sStrR (h := ?_))
    | (apply AO.kP; first | refine AO.sP (h := ?_) | refine AO.sPi (h := ?_) | refine AO.sSameB (h := ?_))
    | (apply AO.kP; refine AO.eqNil (h1 := fun h => ?_) (h2 := ?_))
    | apply AW.seq
    | (apply AW.kR; refine AW.sR (h := ?_))
    | apply AW.skip
    | apply AW.block
    | apply AW.out
    | (apply AW.kE; refine AW.sE (h := ?_))
    | apply AW.label
    | ((first | (apply AW.kC; refine AW.sC (h1 := fun h => ?_) (h2 := fun h => ?_))) <;> (try (first | exact Bool.noConfusion h | exact absurd h (by decide) | (simp at h; done) | (rw [h]; try simp only [nrm] at h; try rw [h]; try (exfalso; omega)) | skip))))
  try simp only [w]
  refine AW.loopI (fun x : Nat × L => x.1 ≤ 8 ∧ x.2 ++ be n x.1 = l ++ be n 8) (fun x => ⟨[(7, .gr 13 5 1 (BS x.2)), (8, .i .u64 n), (9, .i .i64 ((x.1 : Int) - 1))], [(13, .gw (BS x.2).length)]⟩) (fun x => x.1) (8, l) ⟨by simp, rfl⟩ (by (constructor <;> (repeat' (first | exact LeT.nil | exact LeB.nil | apply LeT.cons | apply LeB.cons | exact Ol.refl | apply Lx.s | apply Lx.b | apply Lx.i | exact Lx.refl)) <;> (first | rfl | assumption | omega | (simp only [List.length_map, BS_len]; done) | skip))) fun m x hx ih => ?_
  obtain ⟨q, a⟩ := x
  obtain ⟨h1, h2⟩ := hx
  dsimp only at h1 h2 ih ⊢
  have hal : a.length + q = l.length + 8 := by have := congrArg List.length h2; simpa [be_len] using this
  match q, h1, h2, hal, ih with
  | 0, h1, h2, hal, ih =>
    rw [be, List.append_nil] at h2
    subst h2
    repeat' (first
    | apply AO.nil
    | (apply AO.kBuildS; first | refine AO.sBuildT (h := ?_) | refine AO.sBuildS (h := ?_))
    | (apply AO.kApp; first | refine AO.sGrowT (h := ?_) | refine AO.sNewT (h := ?_) | refine AO.sGrowBT (h := ?_) | refine AO.sGrow (h := ?_) | refine AO.sNewr (h := ?_))
    | (apply AO.kSub; refine AO.sSub (h := ?_))
    | (apply AO.kCv; first | refine AO.sBytes (h := ?_) | refine AO.sStr (h := ?_) | refine AO.sStrR (h := ?_))
    | (apply AO.kP; first | refine AO.sP (h := ?_) | refine AO.sPi (h := ?_) | refine AO.sSameB (h := ?_))
    | (apply AO.kP; refine AO.eqNil (h1 := fun h => ?_) (h2 := ?_))
    | apply AW.seq
    | (apply AW.kR; refine AW.sR (h := ?_))
    | apply AW.skip
    | apply AW.block
    | apply AW.out
    | (apply AW.kE; refine AW.sE (h := ?_))
    | apply AW.label
    | ((first | (apply AW.kC; refine AW.sC (h1 := fun h => ?_) (h2 := fun h => ?_))) <;> (try (first | exact Bool.noConfusion h | exact absurd h (by decide) | (simp at h; done) | (rw [h]; try simp only [nrm] at h; try rw [h]; try (exfalso; omega)) | skip))))
    exact AW.ret (hD 13 rfl .refl .refl)
  | q + 1, h1, h2, hal, ih =>
    have hm : IntKind.wrap .i64 (8 * (((q + 1 : Nat) : Int) - 1)) = ((8 * q : Nat) : Int) := by
      rw [show (8 * (((q + 1 : Nat) : Int) - 1)) = ((8 * q : Nat) : Int) by omega]
      exact wrap64 (by omega)
    have la : (BS a).length = a.length := BS_len a
    repeat' (first
    | apply AO.nil
    | (apply AO.kBuildS; first | refine AO.sBuildT (h := ?_) | refine AO.sBuildS (h := ?_))
    | (apply AO.kApp; first | refine AO.sGrowT (h := ?_) | refine AO.sNewT (h := ?_) | refine AO.sGrowBT (h := ?_) | refine AO.sGrow (h := ?_) | refine AO.sNewr (h := ?_))
    | (apply AO.kSub; refine AO.sSub (h := ?_))
    | (apply AO.kCv; first | refine AO.sBytes (h := ?_) | refine AO.sStr (h := ?_) | refine AO.sStrR (h := ?_))
    | (apply AO.kP; first | refine AO.sP (h := ?_) | refine AO.sPi (h := ?_) | refine AO.sSameB (h := ?_))
    | (apply AO.kP; refine AO.eqNil (h1 := fun h => ?_) (h2 := ?_))
    | apply AW.seq
    | (apply AW.kR; refine AW.sR (h := ?_))
    | apply AW.skip
    | apply AW.block
    | apply AW.out
    | (apply AW.kE; refine AW.sE (h := ?_))
    | apply AW.label
    | ((first | (apply AW.kC; refine AW.sC (h1 := fun h => ?_) (h2 := fun h => ?_))) <;> (try (first | exact Bool.noConfusion h | exact absurd h (by decide) | (simp at h; done) | (rw [h]; try simp only [nrm] at h; try rw [h]; try (exfalso; omega)) | skip))))
    simp only [hm]
    repeat' (first
    | apply AO.nil
    | (apply AO.kBuildS; first | refine AO.sBuildT (h := ?_) | refine AO.sBuildS (h := ?_))
    | (apply AO.kApp; first | refine AO.sGrowT (h := ?_) | refine AO.sNewT (h := ?_) | refine AO.sGrowBT (h := ?_) | refine AO.sGrow (h := ?_) | refine AO.sNewr (h := ?_))
    | (apply AO.kSub; refine AO.sSub (hr := by first | decide | omega | assumption | (simp only [BS_len, List.length_append, List.length_cons, List.length_nil]; omega) | exact ⟨by omega, by show _ ≤ (64 : Int); omega⟩) (h := ?_))
    | (apply AO.kCv; first | refine AO.sBytes (h := ?_) | refine AO.sStr (h := ?_) | refine AO.sStrR (h := ?_))
    | (apply AO.kP; first | refine AO.sP (h := ?_) | refine AO.sPi (hq := by first | decide | omega | assumption | (simp only [BS_len, List.length_append, List.length_cons, List.length_nil]; omega) | exact ⟨by omega, by show _ ≤ (64 : Int); omega⟩) (h := ?_) | refine AO.sSameB (h := ?_))
    | (apply AO.kP; refine AO.eqNil (h1 := fun h => ?_) (h2 := ?_))
    | apply AW.seq
    | (apply AW.kR; refine AW.sR (h := ?_))
    | apply AW.skip
    | apply AW.block
    | apply AW.out
    | (apply AW.kE; refine AW.sE (h := ?_))
    | apply AW.label
    | ((first | (apply AW.kC; refine AW.sC (h1 := fun h => ?_) (h2 := fun h => ?_))) <;> (try (first | exact Bool.noConfusion h | exact absurd h (by decide) | (simp at h; done) | (rw [h]; try simp only [nrm] at h; try rw [h]; try (exfalso; omega)) | skip))))
    simp only [byteOf n q]
    have e2 : (a ++ [UInt8.ofNat (n / 256 ^ q)]) ++ be n q = l ++ be n 8 := by rw [← h2, be, List.append_assoc]; rfl
    refine ih (q, a ++ [UInt8.ofNat (n / 256 ^ q)]) _ ⟨by omega, e2⟩ (by omega) ?_
    (constructor <;> (repeat' (first | exact LeT.nil | exact LeB.nil | apply LeT.cons | apply LeB.cons | exact Ol.refl | apply Lx.s | apply Lx.b | apply Lx.i | exact Lx.refl)) <;> (first | rfl | assumption | omega | (simp only [List.length_map, BS_len]; done) | skip))
theorem gPut8 (l : L) (n t : Nat) (hl : l.length ≤ 900000) (hn : n < 256) : Good Try.prog 19 [.sh 1 (BS l), .i .u8 n] [] (.gr t 5 1 (BS (l ++ be n 1))) [(t, .gw (BS (l ++ be n 1)).length)] := by
  refine Good.w2 tabOk mixed Try.func19 (N := 8) (by kernel_rfl) rfl (by (repeat (first | exact LE.nil | apply LE.cons)); done) (by (repeat (first | exact LE.nil | apply LE.cons)); done) fun D hD F => ?_
  repeat' (first
    | apply AO.nil
    | (apply AO.kCall 44; refine AO.sCall1 (hg := ( gNumber8 l n _ hl hn)) (h := ?_))
    | (apply AO.kP; first | refine AO.sP (h := ?_) | refine AO.sPi (h := ?_))
    | (apply AO.kP; refine AO.eqNil (h1 := fun h => ?_) (h2 := ?_))
    | apply AW.seq
    | (apply AW.kR; refine AW.sR (h := ?_))
    | apply AW.skip
    | apply AW.block
    | apply AW.out
    | (apply AW.kE; refine AW.sE (h := ?_))
    | apply AW.label)
  exact AW.ret (hD 7 rfl .refl .refl)
theorem gPut16 (l : L) (n t : Nat) (hl : l.length ≤ 900000) (hn : n < 65536) : Good Try.prog 20 [.sh 1 (BS l), .i .u16 n] [] (.gr t 5 1 (BS (l ++ be n 2))) [(t, .gw (BS (l ++ be n 2)).length)] := by
  refine Good.w2 tabOk mixed Try.func20 (N := 8) (by kernel_rfl) rfl (by (repeat (first | exact LE.nil | apply LE.cons)); done) (by (repeat (first | exact LE.nil | apply LE.cons)); done) fun D hD F => ?_
  repeat' (first
    | apply AO.nil
    | (apply AO.kCall 45; refine AO.sCall1 (hg := ( gNumber16 l n _ hl hn)) (h := ?_))
    | (apply AO.kP; first | refine AO.sP (h := ?_) | refine AO.sPi (h := ?_))
    | (apply AO.kP; refine AO.eqNil (h1 := fun h => ?_) (h2 := ?_))
    | apply AW.seq
    | (apply AW.kR; refine AW.sR (h := ?_))
    | apply AW.skip
    | apply AW.block
    | apply AW.out
    | (apply AW.kE; refine AW.sE (h := ?_))
    | apply AW.label)
  exact AW.ret (hD 7 rfl .refl .refl)
theorem gPut32 (l : L) (n t : Nat) (hl : l.length ≤ 900000) (hn : n < 4294967296) : Good Try.prog 21 [.sh 1 (BS l), .i .u32 n] [] (.gr t 5 1 (BS (l ++ be n 4))) [(t, .gw (BS (l ++ be n 4)).length)] := by
  refine Good.w2 tabOk mixed Try.func21 (N := 8) (by kernel_rfl) rfl (by (repeat (first | exact LE.nil | apply LE.cons)); done) (by (repeat (first | exact LE.nil | apply LE.cons)); done) fun D hD F => ?_
  repeat' (first
    | apply AO.nil
    | (apply AO.kCall 46; refine AO.sCall1 (hg := ( gNumber32 l n _ hl hn)) (h := ?_))
    | (apply AO.kP; first | refine AO.sP (h := ?_) | refine AO.sPi (h := ?_))
    | (apply AO.kP; refine AO.eqNil (h1 := fun h => ?_) (h2 := ?_))
    | apply AW.seq
    | (apply AW.kR; refine AW.sR (h := ?_))
    | apply AW.skip
    | apply AW.block
    | apply AW.out
    | (apply AW.kE; refine AW.sE (h := ?_))
    | apply AW.label)
  exact AW.ret (hD 7 rfl .refl .refl)
theorem gPut64 (l : L) (n t : Nat) (hl : l.length ≤ 900000) (hn : n < 18446744073709551616) : Good Try.prog 22 [.sh 1 (BS l), .i .u64 n] [] (.gr t 5 1 (BS (l ++ be n 8))) [(t, .gw (BS (l ++ be n 8)).length)] := by
  refine Good.w2 tabOk mixed Try.func22 (N := 8) (by kernel_rfl) rfl (by (repeat (first | exact LE.nil | apply LE.cons)); done) (by (repeat (first | exact LE.nil | apply LE.cons)); done) fun D hD F => ?_
  repeat' (first
    | apply AO.nil
    | (apply AO.kCall 47; refine AO.sCall1 (hg := ( gNumber64 l n _ hl hn)) (h := ?_))
    | (apply AO.kP; first | refine AO.sP (h := ?_) | refine AO.sPi (h := ?_))
    | (apply AO.kP; refine AO.eqNil (h1 := fun h => ?_) (h2 := ?_))
    | apply AW.seq
    | (apply AW.kR; refine AW.sR (h := ?_))
    | apply AW.skip
    | apply AW.block
    | apply AW.out
    | (apply AW.kE; refine AW.sE (h := ?_))
    | apply AW.label)
  exact AW.ret (hD 7 rfl .refl .refl)
def cut255 (x : L) : L := x.take 255
theorem gPutText (l x : L) (t : Nat) (hl : l.length ≤ 900000) (hx : x.length ≤ 1000000) : Good Try.prog 23 [.sh 1 (BS l), .s x] [] (.gr t 5 1 (BS (l ++ be (cut255 x).length 1 ++ cut255 x))) [(t, .gw (BS (l ++ be (cut255 x).length 1 ++ cut255 x)).length)] := by
  have e1 : (if (255 : Int) < (x.length : Int) then (255 : Int) else (x.length : Int)).toNat = min 255 x.length := by split <;> omega
  have e2 : x.take (min 255 x.length) = cut255 x := by
    unfold cut255
    by_cases c : x.length ≤ 255
    · rw [List.take_of_length_le (by omega), List.take_of_length_le c]
    · rw [show min 255 x.length = 255 by omega]
  have e3 : (cut255 x).length ≤ 255 := by unfold cut255; rw [List.length_take]; omega
  have e4 : IntKind.wrap .u8 ((cut255 x).length : Int) = (cut255 x).length := wrapN (.inl ⟨rfl, by omega⟩)
  have e5 := be_len (cut255 x).length 1
  refine Good.w2 tabOk mixed Try.func23 (N := 17) (by kernel_rfl) rfl (by (repeat (first | exact LE.nil | apply LE.cons)); done) (by (repeat (first | exact LE.nil | apply LE.cons)); done) fun D hD F => ?_
  repeat' (first
    | apply AO.nil
    | (apply AO.kApp; first | refine AO.sGrowT (h := ?_) | refine AO.sNewT (h := ?_) | refine AO.sGrowBT (h := ?_) | refine AO.sGrow (h := ?_) | refine AO.sNewr (h := ?_))
    | (apply AO.kSl; first | refine AO.sSl (h := ?_) | refine AO.sSlArr (h := ?_) | refine AO.sP (h := ?_))
    | (apply AO.kCv; first | refine AO.sBytes (h := ?_) | refine AO.sStr (h := ?_) | refine AO.sStrR (h := ?_))
    | (apply AO.kP; first | refine AO.sP (h := ?_) | refine AO.sPi (h := ?_) | refine AO.sSameB (h := ?_))
    | (apply AO.kP; refine AO.eqNil (h1 := fun h => ?_) (h2 := ?_))
    | apply AW.seq
    | (apply AW.kR; refine AW.sR (h := ?_))
    | apply AW.skip
    | apply AW.block
    | apply AW.out
    | (apply AW.kE; refine AW.sE (h := ?_))
    | apply AW.label)
  simp only [e1, e2, e4]
  repeat' (first
    | apply AO.nil
    | (apply AO.kCall 19; refine AO.sCall1 (hg := ( gPut8 l (cut255 x).length _ hl sd)) (h := ?_))
    | (apply AO.kApp; first | refine AO.sGrowT (h := ?_) | refine AO.sNewT (h := ?_) | refine AO.sGrowBT (h := ?_) | refine AO.sGrow (h := ?_) | refine AO.sNewr (h := ?_))
    | (apply AO.kSl; first | refine AO.sSl (h := ?_) | refine AO.sSlArr (h := ?_) | refine AO.sP (h := ?_))
    | (apply AO.kCv; first | refine AO.sBytes (h := ?_) | refine AO.sStr (h := ?_) | refine AO.sStrR (h := ?_))
    | (apply AO.kP; first | refine AO.sP (h := ?_) | refine AO.sPi (h := ?_) | refine AO.sSameB (h := ?_))
    | (apply AO.kP; refine AO.eqNil (h1 := fun h => ?_) (h2 := ?_))
    | apply AW.seq
    | (apply AW.kR; refine AW.sR (h := ?_))
    | apply AW.skip
    | apply AW.block
    | apply AW.out
    | (apply AW.kE; refine AW.sE (h := ?_))
    | apply AW.label)
  exact AW.ret (hD 14 rfl .refl .refl)
/-! ### the document's -/
theorem be_drop (n k : Nat) : ∀ s, s ≤ k → (be n k).drop (k - s) = be n s := by
  induction k with
  | zero => intro s hs; obtain rfl : s = 0 := by omega
            rfl
  | succ k ih =>
    intro s hs
    by_cases c : s = k + 1
    · subst c; simp
    · rw [show k + 1 - s = (k - s) + 1 by omega, be, List.drop_succ_cons]
      exact ih s (by omega)
theorem u8_mod (m : Nat) : u8 (((m : Nat) : Int).tmod 256) = UInt8.ofNat m := by
  rw [show (((m : Nat) : Int).tmod 256) = ((m % 256 : Nat) : Int) from rfl, u8_nat]
  apply UInt8.toNat_inj.1
  simp only [UInt8.toNat_ofNat']
  omega
theorem quo256 (n j : Nat) (hn : n < 18446744073709551616) : IntKind.wrap .u64 (((n / 256 ^ j : Nat) : Int).tdiv 256) = ((n / 256 ^ (j + 1) : Nat) : Int) := by
  rw [show (((n / 256 ^ j : Nat) : Int).tdiv 256) = ((n / 256 ^ j / 256 : Nat) : Int) from rfl, Nat.div_div_eq_div_mul, ← Nat.pow_succ]
  exact wrap64n (Nat.lt_of_le_of_lt (Nat.div_le_self _ _) hn)
theorem gRPut (l : L) (n s t : Nat) (hl : l.length ≤ 900000) (hn : n < 18446744073709551616) (hs : s ≤ 8) : Good Try.prog 24 [.sh 1 (BS l), .i .u64 n, .i .i64 s] [] (.gr t 5 1 (BS (l ++ be n s))) [(t, .gw (BS (l ++ be n s)).length)] := by
  have ll : (BS l).length = l.length := BS_len l
  refine Good.w2 tabOk mixed Try.func24 (N := 35) (by kernel_rfl) rfl (by (repeat (first | exact LE.nil | apply LE.cons)); done) (by (repeat (first | exact LE.nil | apply LE.cons)); done) fun D hD F => ?_
  repeat' (first
    | apply AO.nil
    | (apply AO.kBuildS; first | refine AO.sBuildT (h := ?_) | refine AO.sBuildS (h := ?_))
    | (apply AO.kApp; first | refine AO.sGrowT (h := ?_) | refine AO.sNewT (h := ?_) | refine AO.sGrowBT (h := ?_) | refine AO.sGrow (h := ?_) | refine AO.sNewr (h := ?_))
    | (apply AO.kSl; first | refine AO.sSl (h := ?_) | refine AO.sSlArr (h := ?_) | refine AO.sP (h := ?_))
    | (apply AO.kAdd; refine AO.sAdd (h := ?_))
    | (apply AO.kSub; refine AO.sSub (h := ?_))
    | (apply AO.kCv; first | refine AO.sBytes (h := ?_) | refine AO.sStr (h := ?_) | refine AO.sStrR (h := ?_))
    | (apply AO.kP; first | refine AO.sP (h := ?_) | refine AO.sPi (h := ?_) | refine AO.sSameB (h := ?_))
    | (apply AO.kP; refine AO.eqNil (h1 := fun h => ?_) (h2 := ?_))
    | apply AW.seq
    | (apply AW.kR; refine AW.sR (h := ?_))
    | apply AW.skip
    | apply AW.block
    | apply AW.out
    | (apply AW.kE; refine AW.sE (h := ?_))
    | apply AW.label
    | ((first | (apply AW.kC; refine AW.sC (h1 := fun h => ?_) (h2 := fun h => ?_))) <;> (try (first | exact Bool.noConfusion h | exact absurd h (by decide) | (simp at h; done) | (rw [h]; try simp only [nrm] at h; try rw [h]; try (exfalso; omega)) | skip))))
  refine AW.loopI (fun j : Nat => j ≤ 8) (fun j => ⟨[(0, .sh 1 (BS l)), (1, .i .u64 ((n / 256 ^ j : Nat) : Int)), (2, .i .i64 s), (7, .sh 1 (BS (be n j))), (8, .i .i64 j)], []⟩) (fun j => 8 - j) 0 (by decide) (by (constructor <;> (repeat' (first | exact LeT.nil | exact LeB.nil | apply LeT.cons | apply LeB.cons | exact Ol.refl | apply Lx.s | apply Lx.b | apply Lx.i | exact Lx.refl)) <;> (first | rfl | assumption | omega | (simp only [List.length_map, BS_len]; done) | skip)); exact Lx.gr) fun m j hj ih => ?_
  by_cases hj8 : j < 8
  · have lj : (BS (be n j)).length = j := by rw [BS_len, be_len]
    repeat' (first
    | apply AO.nil
    | (apply AO.kBuildS; first | refine AO.sBuildT (h := ?_) | refine AO.sBuildS (h := ?_))
    | (apply AO.kApp; first | refine AO.sGrowT (h := ?_) | refine AO.sNewT (h := ?_) | refine AO.sGrowBT (h := ?_) | refine AO.sGrow (h := ?_) | refine AO.sNewr (h := ?_))
    | (apply AO.kSl; first | refine AO.sSl (h := ?_) | refine AO.sSlArr (h := ?_) | refine AO.sP (h := ?_))
    | (apply AO.kAdd; refine AO.sAdd (h := ?_))
    | (apply AO.kSub; refine AO.sSub (h := ?_))
    | (apply AO.kCv; first | refine AO.sBytes (h := ?_) | refine AO.sStr (h := ?_) | refine AO.sStrR (h := ?_))
    | (apply AO.kP; first | refine AO.sP (h := ?_) | refine AO.sPi (h := ?_) | refine AO.sSameB (h := ?_))
    | (apply AO.kP; refine AO.eqNil (h1 := fun h => ?_) (h2 := ?_))
    | apply AW.seq
    | (apply AW.kR; refine AW.sR (h := ?_))
    | apply AW.skip
    | apply AW.block
    | apply AW.out
    | (apply AW.kE; refine AW.sE (h := ?_))
    | apply AW.label
    | ((first | (apply AW.kC; refine AW.sC (h1 := fun h => ?_) (h2 := fun h => ?_))) <;> (try (first | exact Bool.noConfusion h | exact absurd h (by decide) | (simp at h; done) | (rw [h]; try simp only [nrm] at h; try rw [h]; try (exfalso; omega)) | skip))))
    all_goals first
      | (exfalso; omega)
      | (simp only [u8_mod, quo256 n j hn]
         refine ih (j + 1) _ (by omega) (by omega) ?_
         (constructor <;> (repeat' (first | exact LeT.nil | exact LeB.nil | apply LeT.cons | apply LeB.cons | exact Ol.refl | apply Lx.s | apply Lx.b | apply Lx.i | exact Lx.refl)) <;> (first | rfl | assumption | omega | (simp only [List.length_map, BS_len]; done) | skip))
         exact Lx.gr)
  · obtain rfl : j = 8 := by omega
    have lj : (BS (be n 8)).length = 8 := by rw [BS_len, be_len]
    have ed : (be n 8).drop (8 - (s : Int)).toNat = be n s := by rw [show (8 - (s : Int)).toNat = 8 - s by omega]; exact be_drop n 8 s hs
    repeat' (first
    | apply AO.nil
    | (apply AO.kBuildS; first | refine AO.sBuildT (h := ?_) | refine AO.sBuildS (h := ?_))
    | (apply AO.kApp; first | refine AO.sGrowT (h := ?_) | refine AO.sNewT (h := ?_) | refine AO.sGrowBT (h := ?_) | refine AO.sGrow (h := ?_) | refine AO.sNewr (h := ?_))
    | (apply AO.kSl; first | refine AO.sSl (h := ?_) | refine AO.sSlArr (h := ?_) | refine AO.sP (h := ?_))
    | (apply AO.kAdd; refine AO.sAdd (h := ?_))
    | (apply AO.kSub; refine AO.sSub (h := ?_))
    | (apply AO.kCv; first | refine AO.sBytes (h := ?_) | refine AO.sStr (h := ?_) | refine AO.sStrR (h := ?_))
    | (apply AO.kP; first | refine AO.sP (h := ?_) | refine AO.sPi (h := ?_) | refine AO.sSameB (h := ?_))
    | (apply AO.kP; refine AO.eqNil (h1 := fun h => ?_) (h2 := ?_))
    | apply AW.seq
    | (apply AW.kR; refine AW.sR (h := ?_))
    | apply AW.skip
    | apply AW.block
    | apply AW.out
    | (apply AW.kE; refine AW.sE (h := ?_))
    | apply AW.label
    | ((first | (apply AW.kC; refine AW.sC (h1 := fun h => ?_) (h2 := fun h => ?_))) <;> (try (first | exact Bool.noConfusion h | exact absurd h (by decide) | (simp at h; done) | (rw [h]; try simp only [nrm] at h; try rw [h]; try (exfalso; omega)) | skip))))
    simp only [ed]
    exact AW.ret (hD 25 rfl .refl .refl)
theorem gRPutText (l x : L) (t : Nat) (hl : l.length ≤ 900000) (hx : x.length ≤ 1000000) : Good Try.prog 25 [.sh 1 (BS l), .s x] [] (.gr t 5 1 (BS (l ++ be (cut255 x).length 1 ++ cut255 x))) [(t, .gw (BS (l ++ be (cut255 x).length 1 ++ cut255 x)).length)] := by
  have e5 := be_len (cut255 x).length 1
  have e3 : (cut255 x).length ≤ 255 := by unfold cut255; rw [List.length_take]; omega
  have e4 : IntKind.wrap .u64 ((cut255 x).length : Int) = (cut255 x).length := wrap64n (by omega)
  refine Good.w2 tabOk mixed Try.func25 (N := 19) (by kernel_rfl) rfl (by (repeat (first | exact LE.nil | apply LE.cons)); done) (by (repeat (first | exact LE.nil | apply LE.cons)); done) fun D hD F => ?_
  repeat' (first
    | apply AO.nil
    | (apply AO.kApp; first | refine AO.sGrowT (h := ?_) | refine AO.sNewT (h := ?_) | refine AO.sGrowBT (h := ?_) | refine AO.sGrow (h := ?_) | refine AO.sNewr (h := ?_))
    | (apply AO.kSl; first | refine AO.sSl (h := ?_) | refine AO.sSlArr (h := ?_) | refine AO.sP (h := ?_))
    | (apply AO.kCv; first | refine AO.sBytes (h := ?_) | refine AO.sStr (h := ?_) | refine AO.sStrR (h := ?_))
    | (apply AO.kP; first | refine AO.sP (h := ?_) | refine AO.sPi (h := ?_) | refine AO.sSameB (h := ?_))
    | (apply AO.kP; refine AO.eqNil (h1 := fun h => ?_) (h2 := ?_))
    | apply AW.seq
    | (apply AW.kR; refine AW.sR (h := ?_))
    | apply AW.skip
    | apply AW.block
    | apply AW.out
    | (apply AW.kE; refine AW.sE (h := ?_))
    | apply AW.label
    | ((first | (apply AW.kC; refine AW.sC (h1 := fun h => ?_) (h2 := fun h => ?_))) <;> (try (first | exact Bool.noConfusion h | exact absurd h (by decide) | (simp at h; done) | (rw [h]; try simp only [nrm] at h; try rw [h]; try (exfalso; omega)) | skip))))
  · simp only [show x.take (Int.toNat 255) = cut255 x from rfl, e4]
    repeat' (first
    | apply AO.nil
    | (apply AO.kCall 24; refine AO.sCall1 (hg := ( gRPut l (cut255 x).length 1 _ hl sd sd)) (h := ?_))
    | (apply AO.kApp; first | refine AO.sGrowT (h := ?_) | refine AO.sNewT (h := ?_) | refine AO.sGrowBT (h := ?_) | refine AO.sGrow (h := ?_) | refine AO.sNewr (h := ?_))
    | (apply AO.kSl; first | refine AO.sSl (h := ?_) | refine AO.sSlArr (h := ?_) | refine AO.sP (h := ?_))
    | (apply AO.kCv; first | refine AO.sBytes (h := ?_) | refine AO.sStr (h := ?_) | refine AO.sStrR (h := ?_))
    | (apply AO.kP; first | refine AO.sP (h := ?_) | refine AO.sPi (h := ?_) | refine AO.sSameB (h := ?_))
    | (apply AO.kP; refine AO.eqNil (h1 := fun h => ?_) (h2 := ?_))
    | apply AW.seq
    | (apply AW.kR; refine AW.sR (h := ?_))
    | apply AW.skip
    | apply AW.block
    | apply AW.out
    | (apply AW.kE; refine AW.sE (h := ?_))
    | apply AW.label
    | ((first | (apply AW.kC; refine AW.sC (h1 := fun h => ?_) (h2 := fun h => ?_))) <;> (try (first | exact Bool.noConfusion h | exact absurd h (by decide) | (simp at h; done) | (rw [h]; try simp only [nrm] at h; try rw [h]; try (exfalso; omega)) | skip))))
    exact AW.ret (hD 15 rfl .refl .refl)
  · have ec : cut255 x = x := List.take_of_length_le (by omega)
    rw [ec] at hD e3 e4 e5
    simp only [e4]
    repeat' (first
    | apply AO.nil
    | (apply AO.kCall 24; refine AO.sCall1 (hg := ( gRPut l x.length 1 _ hl sd sd)) (h := ?_))
    | (apply AO.kApp; first | refine AO.sGrowT (h := ?_) | refine AO.sNewT (h := ?_) | refine AO.sGrowBT (h := ?_) | refine AO.sGrow (h := ?_) | refine AO.sNewr (h := ?_))
    | (apply AO.kSl; first | refine AO.sSl (h := ?_) | refine AO.sSlArr (h := ?_) | refine AO.sP (h := ?_))
    | (apply AO.kCv; first | refine AO.sBytes (h := ?_) | refine AO.sStr (h := ?_) | refine AO.sStrR (h := ?_))
    | (apply AO.kP; first | refine AO.sP (h := ?_) | refine AO.sPi (h := ?_) | refine AO.sSameB (h := ?_))
    | (apply AO.kP; refine AO.eqNil (h1 := fun h => ?_) (h2 := ?_))
    | apply AW.seq
    | (apply AW.kR; refine AW.sR (h := ?_))
    | apply AW.skip
    | apply AW.block
    | apply AW.out
    | (apply AW.kE; refine AW.sE (h := ?_))
    | apply AW.label
    | ((first | (apply AW.kC; refine AW.sC (h1 := fun h => ?_) (h2 := fun h => ?_))) <;> (try (first | exact Bool.noConfusion h | exact absurd h (by decide) | (simp at h; done) | (rw [h]; try simp only [nrm] at h; try rw [h]; try (exfalso; omega)) | skip))))
    exact AW.ret (hD 15 rfl .refl .refl)
end Go.Proofs.Ytmgmeidfnapahaa.Mv

/- Packing: the document's reader. Under no condition. -/
namespace Go.Proofs.Ytmgmeidfnapahaa.Mv
open Go Go.Proofs
set_option linter.unusedSimpArgs false
set_option linter.unusedVariables false
set_option maxRecDepth 10000
set_option maxHeartbeats 4000000
attribute [local irreducible] AW AO AR

/-! ### the document's reader -/
theorem gRGet (r : Rd) (s : Nat) (hs : s ≤ 8) (hb : r.b.length ≤ 1000000) (hp : r.p ≤ r.b.length) :
    Good Try.prog 37 [.agg r.av, .i .i64 s] [] (.tup [.i .u64 (takeV r s), .agg (takeR r s).av]) [] := by
  have lb : (BS r.b).length = r.b.length := BS_len r.b
  refine Good.w tabOk mixed Try.func37 (N := 46) (by kernel_rfl) rfl (by (repeat (first | exact LE.nil | apply LE.cons)); done) (by (repeat (first | exact LE.nil | apply LE.cons)); done) fun D hD F => ?_
  repeat' (first
    | apply AO.nil
    | (apply AO.kIx; first | refine AO.sIxN (h := ?_) | refine AO.sIx (h := ?_) | refine AO.sP (h := ?_) | refine AO.sPi (h := ?_))
    | (apply AO.kBox; refine AO.sBox (h := ?_))
    | (apply AO.kAlloc; refine AO.sAlloc (h := ?_))
    | (apply AO.kStore; first | refine AO.sStore (h := ?_) | refine AO.sStB (h := ?_))
    | (apply AO.kAdd; refine AO.sAdd (h := ?_))
    | (apply AO.kSub; refine AO.sSub (h := ?_))
    | (apply AO.kCv; first | refine AO.sBytes (h := ?_) | refine AO.sStr (h := ?_) | refine AO.sStrR (h := ?_))
    | (apply AO.kP; first | refine AO.sP (h := ?_) | refine AO.sPi (h := ?_) | refine AO.sLoadB (h := ?_))
    | apply AW.seq
    | (apply AW.kR; refine AW.sR (h := ?_))
    | apply AW.skip
    | apply AW.block
    | apply AW.out
    | (apply AW.kE; refine AW.sE (h := ?_))
    | apply AW.label
    | (apply AW.kRd; refine AW.sRd (h := ?_))
    | ((first | (apply AW.kC; refine AW.sC (h1 := fun h => ?_) (h2 := fun h => ?_))) <;> (try (first | exact Bool.noConfusion h | exact absurd h (by decide) | (simp at h; done) | (rw [h]; try simp only [nrm] at h; try rw [h]; try (exfalso; omega)) | skip)))
    | (apply AR.kAny; first | (apply AR.kIx; first | refine AR.sIxN (h := ?_) | refine AR.sIx (h := ?_) | refine AR.sP (h := ?_) | refine AR.sPi (h := ?_)) | (apply AR.kBox; refine AR.sBox (h := ?_)) | (apply AR.kAlloc; refine AR.sAlloc (h := ?_)) | (apply AR.kStore; refine AR.sStore (h := ?_)) | (apply AR.kAdd; refine AR.sAdd (h := ?_)) | (apply AR.kSub; refine AR.sSub (h := ?_)) | (apply AR.kCv; refine AR.sStrR (h := ?_)) | (apply AR.kP; first | refine AR.sP (h := ?_) | refine AR.sPi (h := ?_)))
    | (apply AR.kNil; refine AR.sNil (h := ?_)))
  · have e : r.e ≠ 0 := by simpa using h
    rw [(take_e e).1, (take_e e).2] at hD
    exact AW.ret (hD rfl .refl)
  all_goals have e0 : r.e = 0 := by simpa using ‹(r.e != 0) = false›
  · have t := take_s (s := s) e0 (by omega)
    rw [t.1, t.2] at hD
    exact AW.ret (hD rfl .refl)
  · have hle : r.p + s ≤ r.b.length := by omega
    have t := take_v e0 hle
    have pl : ((r.b.drop r.p).take s).length = s := by rw [List.length_take, List.length_drop]; omega
    have pg : ∀ q, q < s → r.b.getD (r.p + q) default = ((r.b.drop r.p).take s).getD q default := fun q hq => by
      rw [List.getD_eq_getElem?_getD, List.getD_eq_getElem?_getD, List.getElem?_take, if_pos hq, List.getElem?_drop]
    generalize hP : (r.b.drop r.p).take s = pc at *
    refine AW.loopI (fun q : Nat => q ≤ s) (fun q => ⟨[(1, .i .i64 s), (2, .ptr 2 0), (5, .ptr 5 0), (6, .i .u64 (num (pc.take q))), (7, .i .i64 q)], [(2, .bx r.av), (5, .bx [.nil, .i .i64 0, .i .i64 0])]⟩) (fun q => s - q) 0 (by simp) (by (constructor <;> (repeat' (first | exact LeT.nil | exact LeB.nil | apply LeT.cons | apply LeB.cons | exact Ol.refl | apply Lx.s | apply Lx.b | apply Lx.i | exact Lx.refl)) <;> (first | rfl | assumption | omega | (simp only [List.length_map, BS_len]; done) | skip))) fun m q hq ih => ?_
    by_cases hq2 : q < s
    · have nt := num_take (l := pc) q (by omega)
      have n56 : num (pc.take q) < 72057594037927936 := Nat.lt_of_lt_of_le nt (Nat.le_trans (Nat.pow_le_pow_right (by decide) (show q ≤ 7 by omega)) (by decide))
      have es := takeB (l := pc) (q := q) (by omega)
      have pq := pg q hq2
      have hc := (pc.getD q default).toNat_lt
      have ei : ((r.p : Int) + (q : Int)).toNat = r.p + q := by omega
      have os : IntKind.wrap .u64 (IntKind.wrap .u64 (256 * (num (pc.take q) : Int)) + IntKind.wrap .u64 ((pc.getD q default).toNat : Int)) = ((num (pc.take (q + 1)) : Nat) : Int) := by
        rw [es, num_snoc, show (256 * (num (pc.take q) : Int)) = ((num (pc.take q) * 256 : Nat) : Int) by omega, wrap64n (by omega), wrap64n (by omega), show (((num (pc.take q) * 256 : Nat) : Int) + ((pc.getD q default).toNat : Int)) = ((num (pc.take q) * 256 + (pc.getD q default).toNat : Nat) : Int) by omega, wrap64n (by omega)]
      repeat' (first
    | apply AO.nil
    | (apply AO.kIx; first | refine AO.sIxN (h := ?_) | refine AO.sIx (h := ?_) | refine AO.sP (h := ?_) | refine AO.sPi (h := ?_))
    | (apply AO.kBox; refine AO.sBox (h := ?_))
    | (apply AO.kAlloc; refine AO.sAlloc (h := ?_))
    | (apply AO.kStore; first | refine AO.sStore (h := ?_) | refine AO.sStB (h := ?_))
    | (apply AO.kAdd; refine AO.sAdd (h := ?_))
    | (apply AO.kSub; refine AO.sSub (h := ?_))
    | (apply AO.kCv; first | refine AO.sBytes (h := ?_) | refine AO.sStr (h := ?_) | refine AO.sStrR (h := ?_))
    | (apply AO.kP; first | refine AO.sP (h := ?_) | refine AO.sPi (h := ?_) | refine AO.sLoadB (h := ?_))
    | apply AW.seq
    | (apply AW.kR; refine AW.sR (h := ?_))
    | apply AW.skip
    | apply AW.block
    | apply AW.out
    | (apply AW.kE; refine AW.sE (h := ?_))
    | apply AW.label
    | (apply AW.kRd; refine AW.sRd (h := ?_))
    | ((first | (apply AW.kC; refine AW.sC (h1 := fun h => ?_) (h2 := fun h => ?_))) <;> (try (first | exact Bool.noConfusion h | exact absurd h (by decide) | (simp at h; done) | (rw [h]; try simp only [nrm] at h; try rw [h]; try (exfalso; omega)) | skip)))
    | (apply AR.kAny; first | (apply AR.kIx; first | refine AR.sIxN (h := ?_) | refine AR.sIx (h := ?_) | refine AR.sP (h := ?_) | refine AR.sPi (h := ?_)) | (apply AR.kBox; refine AR.sBox (h := ?_)) | (apply AR.kAlloc; refine AR.sAlloc (h := ?_)) | (apply AR.kStore; refine AR.sStore (h := ?_)) | (apply AR.kAdd; refine AR.sAdd (h := ?_)) | (apply AR.kSub; refine AR.sSub (h := ?_)) | (apply AR.kCv; refine AR.sStrR (h := ?_)) | (apply AR.kP; first | refine AR.sP (h := ?_) | refine AR.sPi (h := ?_)))
    | (apply AR.kNil; refine AR.sNil (h := ?_)))
      all_goals first
        | (exfalso; omega)
        | (simp only [ei, pq, os]
           refine ih (q + 1) _ (by omega) (by omega) ?_
           (constructor <;> (repeat' (first | exact LeT.nil | exact LeB.nil | apply LeT.cons | apply LeB.cons | exact Ol.refl | apply Lx.s | apply Lx.b | apply Lx.i | exact Lx.refl)) <;> (first | rfl | assumption | omega | (simp only [List.length_map, BS_len]; done) | skip)))
    · obtain rfl : q = s := by omega
      have e1 : pc.take q = pc := List.take_of_length_le (by omega)
      rw [e1]
      rw [t.1, t.2] at hD
      repeat' (first
    | apply AO.nil
    | (apply AO.kIx; first | refine AO.sIxN (h := ?_) | refine AO.sIx (h := ?_) | refine AO.sP (h := ?_) | refine AO.sPi (h := ?_))
    | (apply AO.kBox; refine AO.sBox (h := ?_))
    | (apply AO.kAlloc; refine AO.sAlloc (h := ?_))
    | (apply AO.kStore; first | refine AO.sStore (h := ?_) | refine AO.sStB (h := ?_))
    | (apply AO.kAdd; refine AO.sAdd (h := ?_))
    | (apply AO.kSub; refine AO.sSub (h := ?_))
    | (apply AO.kCv; first | refine AO.sBytes (h := ?_) | refine AO.sStr (h := ?_) | refine AO.sStrR (h := ?_))
    | (apply AO.kP; first | refine AO.sP (h := ?_) | refine AO.sPi (h := ?_) | refine AO.sLoadB (h := ?_))
    | apply AW.seq
    | (apply AW.kR; refine AW.sR (h := ?_))
    | apply AW.skip
    | apply AW.block
    | apply AW.out
    | (apply AW.kE; refine AW.sE (h := ?_))
    | apply AW.label
    | (apply AW.kRd; refine AW.sRd (h := ?_))
    | ((first | (apply AW.kC; refine AW.sC (h1 := fun h => ?_) (h2 := fun h => ?_))) <;> (try (first | exact Bool.noConfusion h | exact absurd h (by decide) | (simp at h; done) | (rw [h]; try simp only [nrm] at h; try rw [h]; try (exfalso; omega)) | skip)))
    | (apply AR.kAny; first | (apply AR.kIx; first | refine AR.sIxN (h := ?_) | refine AR.sIx (h := ?_) | refine AR.sP (h := ?_) | refine AR.sPi (h := ?_)) | (apply AR.kBox; refine AR.sBox (h := ?_)) | (apply AR.kAlloc; refine AR.sAlloc (h := ?_)) | (apply AR.kStore; refine AR.sStore (h := ?_)) | (apply AR.kAdd; refine AR.sAdd (h := ?_)) | (apply AR.kSub; refine AR.sSub (h := ?_)) | (apply AR.kCv; refine AR.sStrR (h := ?_)) | (apply AR.kP; first | refine AR.sP (h := ?_) | refine AR.sPi (h := ?_)))
    | (apply AR.kNil; refine AR.sNil (h := ?_)))
      all_goals exact AW.ret (hD rfl (.tup (.cons .refl (.cons (.agg (.cons .refl (.cons (Lx.i (by simp)) (.cons (Lx.i e0) .nil)))) .nil))))
theorem gRGetText (r : Rd) (most : Int) (hb : r.b.length ≤ 1000000) (hp : r.p ≤ r.b.length) :
    Good Try.prog 38 [.agg r.av, .i .i64 most] [] (.tup [.s (textP r most).1, .agg (textP r most).2.av]) [] := by
  have g := gRGet r 1 (by decide) hb hp
  have v256 : takeV r 1 < 256 := takeV_lt r 1
  have w : IntKind.wrap .i64 (takeV r 1 : Int) = takeV r 1 := wrap64 (by omega)
  obtain ⟨p1, p2⟩ := takeR_p (s := 1) hp
  have eb := takeR_b r 1
  unfold textP
  generalize takeR r 1 = r1 at *
  generalize takeV r 1 = n at *
  obtain ⟨b1, q1, e1⟩ := r1
  dsimp only at eb p1 p2 ⊢
  subst eb
  have lb : (BS r.b).length = r.b.length := BS_len r.b
  refine Good.w tabOk mixed Try.func38 (N := 55) (by kernel_rfl) rfl (by (repeat (first | exact LE.nil | apply LE.cons)); done) (by (repeat (first | exact LE.nil | apply LE.cons)); done) fun D hD F => ?_
  repeat' (first
    | apply AO.nil
    | (apply AO.kCall 37; refine AO.sCall (hg := g) (h := ?_))
    | (apply AO.kSl; first | refine AO.sSl (h := ?_) | refine AO.sSlArr (h := ?_) | refine AO.sP (h := ?_))
    | (apply AO.kBox; refine AO.sBox (h := ?_))
    | (apply AO.kAlloc; refine AO.sAlloc (h := ?_))
    | (apply AO.kStore; first | refine AO.sStore (h := ?_) | refine AO.sStB (h := ?_))
    | (apply AO.kAdd; refine AO.sAdd (h := ?_))
    | (apply AO.kSub; refine AO.sSub (h := ?_))
    | (apply AO.kCv; first | refine AO.sBytes (h := ?_) | refine AO.sStr (h := ?_) | refine AO.sStrR (h := ?_))
    | (apply AO.kP; first | refine AO.sP (h := ?_) | refine AO.sPi (h := ?_) | refine AO.sLoadB (h := ?_))
    | apply AW.seq
    | (apply AW.kR; refine AW.sR (h := ?_))
    | apply AW.skip
    | apply AW.block
    | apply AW.out
    | (apply AW.kE; refine AW.sE (h := ?_))
    | apply AW.label
    | (apply AW.kRd; refine AW.sRd (h := ?_))
    | ((first | (apply AW.kC; refine AW.sC (h1 := fun h => ?_) (h2 := fun h => ?_))) <;> (try (first | exact Bool.noConfusion h | exact absurd h (by decide) | (simp at h; done) | (rw [h]; try simp only [nrm] at h; try rw [h]; try (exfalso; omega)) | skip)))
    | (apply AR.kAny; first | (apply AR.kCall 37; refine AR.sCall (hg := g) (h := ?_)) | (apply AR.kSl; first | refine AR.sSl (h := ?_) | refine AR.sSlArr (h := ?_) | refine AR.sP (h := ?_)) | (apply AR.kBox; refine AR.sBox (h := ?_)) | (apply AR.kAlloc; refine AR.sAlloc (h := ?_)) | (apply AR.kStore; refine AR.sStore (h := ?_)) | (apply AR.kAdd; refine AR.sAdd (h := ?_)) | (apply AR.kSub; refine AR.sSub (h := ?_)) | (apply AR.kCv; refine AR.sStrR (h := ?_)) | (apply AR.kP; first | refine AR.sP (h := ?_) | refine AR.sPi (h := ?_)))
    | (apply AR.kNil; refine AR.sNil (h := ?_)))
  · have e : e1 ≠ 0 := by simpa using h
    rw [if_pos e] at hD
    exact AW.ret (hD rfl .refl)
  · rename_i h1; have h2 := h
    have e : ¬ e1 ≠ 0 := by simpa using h1
    rw [w] at h2
    rw [if_neg e, if_pos (show mx0 most < (n : Int) from h2)] at hD
    exact AW.ret (hD rfl .refl)
  · rename_i h1 h2; have h3 := h
    have e : ¬ e1 ≠ 0 := by simpa using h1
    rw [w] at h2 h3
    have h4 : ¬ mx0 most < (n : Int) := by have : (n : Int) ≤ mx0 most := h2; omega
    rw [if_neg e, if_neg h4, if_pos (by omega)] at hD
    exact AW.ret (hD rfl .refl)
  · rename_i h1 h2; have h3 := h
    have e : e1 = 0 := by simpa using h1
    subst e
    rw [w] at h2 h3
    have h4 : ¬ mx0 most < (n : Int) := by have : (n : Int) ≤ mx0 most := h2; omega
    have h5 : q1 + n ≤ r.b.length := by omega
    rw [if_neg (by simp), if_neg h4, if_neg (by omega)] at hD
    simp only [w]
    refine AW.ret (hD rfl (.tup (.cons (Lx.s ?_) (.cons (.agg (.cons .refl (.cons (Lx.i (by simp)) (.cons .refl .nil)))) .nil))))
    dsimp only
    rw [show (q1 : Int).toNat = q1 from rfl, show ((q1 : Int) + (n : Int)).toNat = q1 + n by omega, List.drop_take]
    congr 1; omega
theorem gREnd (r : Rd) (hb : r.b.length ≤ 1000000) : Good Try.prog 40 [.agg r.av] [] (.i .i64 (endR r)) [] := by
  have lb : (BS r.b).length = r.b.length := BS_len r.b
  refine Good.w tabOk mixed Try.func40 (N := 16) (by kernel_rfl) rfl (by (repeat (first | exact LE.nil | apply LE.cons)); done) (by (repeat (first | exact LE.nil | apply LE.cons)); done) fun D hD F => ?_
  repeat' (first
    | apply AO.nil
    | (apply AO.kBox; refine AO.sBox (h := ?_))
    | (apply AO.kP; first | refine AO.sP (h := ?_) | refine AO.sPi (h := ?_) | refine AO.sLoadB (h := ?_))
    | apply AW.seq
    | (apply AW.kR; refine AW.sR (h := ?_))
    | apply AW.skip
    | apply AW.block
    | apply AW.out
    | (apply AW.kE; refine AW.sE (h := ?_))
    | apply AW.label
    | ((first | (apply AO.kG; first | refine AO.sgt (h1 := fun h => ?_) (h2 := fun h => ?_) | refine AO.sgf (h1 := fun h => ?_) (h2 := fun h => ?_) | refine AO.sgs (h := ?_)) | (apply AW.kC; refine AW.sC (h1 := fun h => ?_) (h2 := fun h => ?_))) <;> (try (first | exact Bool.noConfusion h | exact absurd h (by decide) | (simp at h; done) | (rw [h]; try simp only [nrm] at h; try rw [h]; try (exfalso; omega)) | skip))))
  · exact AW.ret (hD rfl (Lx.i (by rw [endR, if_pos ⟨by assumption, by omega⟩])))
  · exact AW.ret (hD rfl (Lx.i (by rw [endR, if_neg (by rintro ⟨_, a⟩; omega)]; omega)))
  · exact AW.ret (hD rfl (Lx.i (by rw [endR, if_neg (by rintro ⟨a, _⟩; exact absurd a (by assumption))])))
end Go.Proofs.Ytmgmeidfnapahaa.Mv

/- Packing: what is put is taken. Under no condition. -/
namespace Go.Proofs.Ytmgmeidfnapahaa.Mv
open Go Go.Proofs
set_option linter.unusedSimpArgs false
set_option linter.unusedVariables false
set_option maxRecDepth 10000
set_option maxHeartbeats 4000000
attribute [local irreducible] AW AO AR

theorem gAwakeK : Good Try.prog 18 [] [] (.b true) [] := by
  have h1 := (gPut16 [] 258 0 (by decide) (by decide)).sh Le.gr
  have h2 := (gPutText [] [97, 98] 0 (by decide) (by decide)).sh Le.gr
  refine Good.w tabOk mixed Try.func18 (N := 9) (by kernel_rfl) rfl (by (repeat (first | exact LE.nil | apply LE.cons)); done) (by (repeat (first | exact LE.nil | apply LE.cons)); done) fun D hD F => ?_
  repeat' (first
    | apply AO.nil
    | (apply AO.kCall 20; refine AO.sCall (hg := h1) (h := ?_))
    | (apply AO.kCall 23; refine AO.sCall (hg := h2) (h := ?_))
    | (apply AO.kCv; first | refine AO.sBytes (h := ?_) | refine AO.sStr (h := ?_) | refine AO.sStrR (h := ?_))
    | (apply AO.kP; first | refine AO.sP (h := ?_) | refine AO.sPi (h := ?_))
    | (apply AO.kP; refine AO.eqNil (h1 := fun h => ?_) (h2 := ?_))
    | apply AW.seq
    | (apply AW.kR; refine AW.sR (h := ?_))
    | apply AW.skip
    | apply AW.block
    | apply AW.out
    | (apply AW.kE; refine AW.sE (h := ?_))
    | apply AW.label
    | ((first | (apply AO.kG; first | refine AO.sgt (h1 := fun h => ?_) (h2 := fun h => ?_) | refine AO.sgf (h1 := fun h => ?_) (h2 := fun h => ?_) | refine AO.sgs (h := ?_))) <;> (try (first | exact Bool.noConfusion h | exact absurd h (by decide) | (simp at h; done) | (rw [h]; try simp only [nrm] at h; try rw [h]; try (exfalso; omega)) | skip))))
  exact AW.ret (hD rfl .refl)
theorem num_go (l : L) (a : Nat) : l.foldl (fun n c => n * 256 + c.toNat) a = a * 256 ^ l.length + num l := by
  induction l generalizing a with
  | nil => simp [num]
  | cons c l ih =>
    have e : num (c :: l) = (0 * 256 + c.toNat) * 256 ^ l.length + num l := ih _
    rw [List.foldl_cons, ih, e, List.length_cons, Nat.pow_succ, Nat.add_mul, Nat.zero_mul, Nat.zero_add, Nat.mul_assoc, Nat.mul_comm 256, Nat.add_assoc]
theorem num_cons (c : UInt8) (l : L) : num (c :: l) = c.toNat * 256 ^ l.length + num l := by
  rw [num, List.foldl_cons, num_go, Nat.zero_mul, Nat.zero_add]
theorem num_be (n : Nat) : ∀ s, num (be n s) = n % 256 ^ s
  | 0 => by simp [be, num, Nat.mod_one]
  | s + 1 => by
    rw [be, num_cons, num_be n s, be_len, Nat.mod_pow_succ, UInt8.toNat_ofNat', Nat.mul_comm, Nat.add_comm]
/-- What was put is taken. -/
theorem take_be (A C : L) (m s : Nat) : takeV ⟨A ++ (be m s ++ C), A.length, 0⟩ s = m % 256 ^ s ∧ takeR ⟨A ++ (be m s ++ C), A.length, 0⟩ s = ⟨A ++ (be m s ++ C), A.length + s, 0⟩ := by
  have h := take_v (r := ⟨A ++ (be m s ++ C), A.length, 0⟩) (s := s) rfl (by simp [be_len])
  rw [h.1, h.2]
  refine ⟨?_, rfl⟩
  dsimp only
  rw [List.drop_left, List.take_append_of_le_length (by rw [be_len]; omega), List.take_of_length_le (by rw [be_len]; omega), num_be]
theorem w_mod {k : IntKind} {n s : Nat} (h : k = .u8 ∧ s = 1 ∨ k = .u16 ∧ s = 2 ∨ k = .u32 ∧ s = 4) : IntKind.wrap k (n : Int) = ((n % 256 ^ s : Nat) : Int) := by
  rcases h with ⟨rfl, rfl⟩ | ⟨rfl, rfl⟩ | ⟨rfl, rfl⟩ <;> (simp [IntKind.wrap, IntKind.bits, IntKind.signed]; try omega)
theorem be_mod (n : Nat) : ∀ s, be (n % 256 ^ s) s = be n s := by
  have : ∀ s k, s ≤ k → be (n % 256 ^ k) s = be n s := fun s => by
    induction s with
    | zero => intro k h; rfl
    | succ s ih =>
      intro k h
      rw [be, be, ih k (by omega)]
      congr 1
      apply UInt8.toNat_inj.1
      rw [UInt8.toNat_ofNat', UInt8.toNat_ofNat']
      obtain ⟨d, rfl⟩ : ∃ d, k = s + 1 + d := ⟨k - (s + 1), by omega⟩
      rw [Nat.pow_add, Nat.pow_succ, Nat.mul_assoc, Nat.mod_mul_right_div_self, Nat.mod_mul_right_mod]
  exact fun s => this s s (Nat.le_refl _)
theorem nat_u64 {n : Int} (h : (Lit.int .u64 n).wf = true) : ∃ m : Nat, n = (m : Int) ∧ m < 18446744073709551616 := by
  simp [Lit.wf] at h
  have e1 : IntKind.u64.min = 0 := by decide
  have e2 : IntKind.u64.max = 18446744073709551615 := by decide
  rw [e1, e2] at h
  exact ⟨n.toNat, by omega, by omega⟩
theorem gLawBack (b : L) (n : Nat) (x : L) (hn : n < 18446744073709551616) : Good Try.prog 9 [.sh 1 (BS b), .i .u64 n, .s x] [] (.b true) [] := by
  have lb : (BS b).length = b.length := BS_len b
  by_cases hc : b.length ≤ 2000 ∧ x.length ≤ 255
  · obtain ⟨c1, c2⟩ := hc
    have w8 : IntKind.wrap .u8 (n : Int) = ((n % 256 ^ 1 : Nat) : Int) := w_mod (.inl ⟨rfl, rfl⟩)
    have w16 : IntKind.wrap .u16 (n : Int) = ((n % 256 ^ 2 : Nat) : Int) := w_mod (.inr (.inl ⟨rfl, rfl⟩))
    have w32 : IntKind.wrap .u32 (n : Int) = ((n % 256 ^ 4 : Nat) : Int) := w_mod (.inr (.inr ⟨rfl, rfl⟩))
    have ec : cut255 x = x := List.take_of_length_le (by omega)
    have p1 : Good Try.prog 19 [.sh 1 (BS b), .i .u8 (IntKind.wrap .u8 (n : Int))] [] (.sh 1 (BS (b ++ be n 1))) [] := by
      have := (gPut8 b (n % 256 ^ 1) 0 (by omega) (Nat.mod_lt _ (by decide))).sh Le.gr
      rw [be_mod, ← w8] at this; exact this
    have p2 : Good Try.prog 20 [.sh 1 (BS (b ++ be n 1)), .i .u16 (IntKind.wrap .u16 (n : Int))] [] (.sh 1 (BS (b ++ be n 1 ++ be n 2))) [] := by
      have := (gPut16 (b ++ be n 1) (n % 256 ^ 2) 0 (by simp [be_len]; omega) (Nat.mod_lt _ (by decide))).sh Le.gr
      rw [be_mod, ← w16] at this; exact this
    have p3 : Good Try.prog 21 [.sh 1 (BS (b ++ be n 1 ++ be n 2)), .i .u32 (IntKind.wrap .u32 (n : Int))] [] (.sh 1 (BS (b ++ be n 1 ++ be n 2 ++ be n 4))) [] := by
      have := (gPut32 (b ++ be n 1 ++ be n 2) (n % 256 ^ 4) 0 (by simp [be_len]; omega) (Nat.mod_lt _ (by decide))).sh Le.gr
      rw [be_mod, ← w32] at this; exact this
    have p4 : Good Try.prog 22 [.sh 1 (BS (b ++ be n 1 ++ be n 2 ++ be n 4)), .i .u64 n] [] (.sh 1 (BS (b ++ be n 1 ++ be n 2 ++ be n 4 ++ be n 8))) [] :=
      (gPut64 (b ++ be n 1 ++ be n 2 ++ be n 4) n 0 (by simp [be_len]; omega) hn).sh Le.gr
    obtain ⟨tl, htl⟩ : ∃ tl, tl = be n 1 ++ (be n 2 ++ (be n 4 ++ (be n 8 ++ (be x.length 1 ++ x)))) := ⟨_, rfl⟩
    have tlen : tl.length = 16 + x.length := by rw [htl]; simp [be_len]; omega
    have p5 : Good Try.prog 23 [.sh 1 (BS (b ++ be n 1 ++ be n 2 ++ be n 4 ++ be n 8)), .s x] [] (.sh 1 (BS (b ++ tl))) [] := by
      have := (gPutText (b ++ be n 1 ++ be n 2 ++ be n 4 ++ be n 8) x 0 (by simp [be_len]; omega) (by omega)).sh Le.gr
      rw [ec] at this
      rw [htl]; simpa only [List.append_assoc] using this
    have pn := gNew tl (by omega)
    have r1 : Good Try.prog 30 [.ptr 1000000 0] [(1000000, .bx (Rd.av ⟨tl, 0, 0⟩))] (.i .u8 (IntKind.wrap .u8 (n : Int))) [(1000000, .bx (Rd.av ⟨tl, 1, 0⟩))] := by
      have h := gGet8 ⟨tl, 0, 0⟩ (by dsimp only; omega) (by dsimp only; omega)
      have t := take_be [] (be n 2 ++ (be n 4 ++ (be n 8 ++ (be x.length 1 ++ x)))) n 1
      rw [List.nil_append, ← htl, List.length_nil] at t
      rw [t.1, t.2, ← w8] at h; exact h
    have r2 : Good Try.prog 31 [.ptr 1000000 0] [(1000000, .bx (Rd.av ⟨tl, 1, 0⟩))] (.i .u16 (IntKind.wrap .u16 (n : Int))) [(1000000, .bx (Rd.av ⟨tl, 3, 0⟩))] := by
      have h := gGet16 ⟨tl, 1, 0⟩ (by dsimp only; omega) (by dsimp only; omega)
      have t := take_be (be n 1) (be n 4 ++ (be n 8 ++ (be x.length 1 ++ x))) n 2
      rw [← htl, be_len] at t
      rw [t.1, t.2, ← w16] at h; exact h
    have r3 : Good Try.prog 32 [.ptr 1000000 0] [(1000000, .bx (Rd.av ⟨tl, 3, 0⟩))] (.i .u32 (IntKind.wrap .u32 (n : Int))) [(1000000, .bx (Rd.av ⟨tl, 7, 0⟩))] := by
      have h := gGet32 ⟨tl, 3, 0⟩ (by dsimp only; omega) (by dsimp only; omega)
      have t := take_be (be n 1 ++ be n 2) (be n 8 ++ (be x.length 1 ++ x)) n 4
      rw [List.append_assoc, ← htl, List.length_append, be_len, be_len] at t
      rw [t.1, t.2, ← w32] at h; exact h
    have r4 : Good Try.prog 33 [.ptr 1000000 0] [(1000000, .bx (Rd.av ⟨tl, 7, 0⟩))] (.i .u64 n) [(1000000, .bx (Rd.av ⟨tl, 15, 0⟩))] := by
      have h := gGet64 ⟨tl, 7, 0⟩ (by dsimp only; omega) (by dsimp only; omega)
      have t := take_be (be n 1 ++ (be n 2 ++ be n 4)) (be x.length 1 ++ x) n 8
      rw [List.append_assoc, List.append_assoc, ← htl, List.length_append, List.length_append, be_len, be_len, be_len, Nat.mod_eq_of_lt (by omega)] at t
      rw [t.1, t.2] at h; exact h
    have r5 : Good Try.prog 34 [.ptr 1000000 0, .i .i64 255] [(1000000, .bx (Rd.av ⟨tl, 15, 0⟩))] (.s x) [(1000000, .bx (Rd.av ⟨tl, 16 + x.length, 0⟩))] := by
      have h := gGetText ⟨tl, 15, 0⟩ 255 (by dsimp only; omega) (by dsimp only; omega)
      have t := take_be (be n 1 ++ (be n 2 ++ (be n 4 ++ be n 8))) x x.length 1
      rw [List.append_assoc, List.append_assoc, List.append_assoc, ← htl, List.length_append, List.length_append, List.length_append, be_len, be_len, be_len, be_len, Nat.mod_eq_of_lt (by omega)] at t
      have e : textP ⟨tl, 15, 0⟩ 255 = (x, ⟨tl, 16 + x.length, 0⟩) := by
        have t1 : takeV ⟨tl, 15, 0⟩ 1 = x.length := t.1
        have t2 : takeR ⟨tl, 15, 0⟩ 1 = ⟨tl, 16, 0⟩ := t.2
        have d : tl.drop 16 = x := by
          rw [htl, ← List.append_assoc, ← List.append_assoc, ← List.append_assoc, ← List.append_assoc]
          exact List.drop_left' (by simp [be_len])
        unfold textP
        rw [t1, t2, if_neg (by simp), if_neg (by show ¬ (255 : Int) < _; omega), if_neg (by dsimp only; omega)]
        dsimp only
        rw [d, List.take_of_length_le (Nat.le_refl _)]
      rw [e] at h; exact h
    have r6 : Good Try.prog 35 [.ptr 1000000 0] [(1000000, .bx (Rd.av ⟨tl, 16 + x.length, 0⟩))] (.i .i64 0) [(1000000, .bx (Rd.av ⟨tl, 16 + x.length, 0⟩))] := by
      have h := gEnd ⟨tl, 16 + x.length, 0⟩ (by dsimp only; omega)
      rw [show endR ⟨tl, 16 + x.length, 0⟩ = 0 by rw [endR, if_neg (by rintro ⟨_, a⟩; dsimp only at a; omega)]] at h; exact h
    have r7 : Good Try.prog 36 [.ptr 1000000 0] [(1000000, .bx (Rd.av ⟨tl, 16 + x.length, 0⟩))] (.i .i64 0) [(1000000, .bx (Rd.av ⟨tl, 16 + x.length, 0⟩))] := by
      have h := gLeft ⟨tl, 16 + x.length, 0⟩ (by dsimp only; omega) (by dsimp only; omega)
      rw [show (((⟨tl, 16 + x.length, 0⟩ : Rd).b.length - (⟨tl, 16 + x.length, 0⟩ : Rd).p : Nat) : Int) = 0 by dsimp only; omega] at h; exact h
    have ed : (b ++ tl).drop b.length = tl := List.drop_left
    have lbt : (BS (b ++ tl)).length = b.length + tl.length := by rw [BS_len, List.length_append]
    refine Good.w tabOk mixed Try.func9 (N := 86) (by kernel_rfl) rfl (by (repeat (first | exact LE.nil | apply LE.cons)); done) (by (repeat (first | exact LE.nil | apply LE.cons)); done) fun D hD F => ?_
    repeat' (first
    | apply AO.nil
    | (apply AO.kCall 19; refine AO.sCall (hg := p1) (h := ?_))
    | (apply AO.kCall 20; refine AO.sCall (hg := p2) (h := ?_))
    | (apply AO.kCall 21; refine AO.sCall (hg := p3) (h := ?_))
    | (apply AO.kCall 22; refine AO.sCall (hg := p4) (h := ?_))
    | (apply AO.kCall 23; refine AO.sCall (hg := p5) (h := ?_))
    | (apply AO.kSl; first | refine AO.sSl (h := ?_) | refine AO.sSlArr (h := ?_) | refine AO.sP (h := ?_))
    | (apply AO.kCv; first | refine AO.sBytes (h := ?_) | refine AO.sStr (h := ?_) | refine AO.sStrR (h := ?_))
    | (apply AO.kP; first | refine AO.sP (h := ?_) | refine AO.sPi (h := ?_))
    | apply AW.seq
    | (apply AW.kR; refine AW.sR (h := ?_))
    | apply AW.skip
    | apply AW.block
    | apply AW.out
    | (apply AW.kE; refine AW.sE (h := ?_))
    | apply AW.label
    | ((first | (apply AO.kG; first | refine AO.sgt (h1 := fun h => ?_) (h2 := fun h => ?_) | refine AO.sgf (h1 := fun h => ?_) (h2 := fun h => ?_) | refine AO.sgs (h := ?_)) | (apply AW.kC; refine AW.sC (h1 := fun h => ?_) (h2 := fun h => ?_))) <;> (try (first | exact Bool.noConfusion h | exact absurd h (by decide) | (simp at h; done) | (rw [h]; try simp only [nrm] at h; try rw [h]; try (exfalso; omega)) | skip))))
    all_goals first
      | (exfalso; omega)
      | skip
    simp only [lb, Int.toNat_natCast, ed]
    repeat' (first
    | apply AO.nil
    | (apply AO.kCall 29; refine AO.sCall1 (hg := ( pn _)) (h := ?_))
    | (apply AO.kCall 30; refine AO.callM [(1000000, 41)] (hg := (r1)) (hc := by exact rfl) (ha := by (repeat constructor); done) (hl := by (repeat (first | exact LeL.nil | (refine LeL.cons (Le.refl _) ?_) | (refine LeL.cons Le.gr ?_) | (refine LeL.cons Le.nil ?_) | (refine LeL.cons Le.shc ?_))); done) (hi := by (repeat (first | exact Rho.here | exact Rho.nil | (refine Rho.there ?_ ?_; exact rfl) | exact RnL.nil | apply RnL.cons | exact RoL.nil | exact Lent.nil | exact Apd.nil | apply Apd.cons | (refine Lent.cons ?_ ?_ ?_ ?_ ?_) | (refine RoL.cons ?_ ?_ ?_) | (refine RnL.same ?_; exact rfl) | constructor | exact rfl)); done) (ht := by exact rfl) (hr := by (repeat (first | exact Rho.here | exact Rho.nil | (refine Rho.there ?_ ?_; exact rfl) | exact RnL.nil | apply RnL.cons | exact RoL.nil | exact Lent.nil | exact Apd.nil | apply Apd.cons | (refine Lent.cons ?_ ?_ ?_ ?_ ?_) | (refine RoL.cons ?_ ?_ ?_) | (refine RnL.same ?_; exact rfl) | constructor | exact rfl)); done) (ho := by (repeat (first | exact Rho.here | exact Rho.nil | (refine Rho.there ?_ ?_; exact rfl) | exact RnL.nil | apply RnL.cons | exact RoL.nil | exact Lent.nil | exact Apd.nil | apply Apd.cons | (refine Lent.cons ?_ ?_ ?_ ?_ ?_) | (refine RoL.cons ?_ ?_ ?_) | (refine RnL.same ?_; exact rfl) | constructor | exact rfl)); done) (hn := by exact rfl) (hB := by (repeat (first | exact Rho.here | exact Rho.nil | (refine Rho.there ?_ ?_; exact rfl) | exact RnL.nil | apply RnL.cons | exact RoL.nil | exact Lent.nil | exact Apd.nil | apply Apd.cons | (refine Lent.cons ?_ ?_ ?_ ?_ ?_) | (refine RoL.cons ?_ ?_ ?_) | (refine RnL.same ?_; exact rfl) | constructor | exact rfl)); done) (h := ?_))
    | (apply AO.kCall 31; refine AO.callM [(1000000, 41)] (hg := (r2)) (hc := by exact rfl) (ha := by (repeat constructor); done) (hl := by (repeat (first | exact LeL.nil | (refine LeL.cons (Le.refl _) ?_) | (refine LeL.cons Le.gr ?_) | (refine LeL.cons Le.nil ?_) | (refine LeL.cons Le.shc ?_))); done) (hi := by (repeat (first | exact Rho.here | exact Rho.nil | (refine Rho.there ?_ ?_; exact rfl) | exact RnL.nil | apply RnL.cons | exact RoL.nil | exact Lent.nil | exact Apd.nil | apply Apd.cons | (refine Lent.cons ?_ ?_ ?_ ?_ ?_) | (refine RoL.cons ?_ ?_ ?_) | (refine RnL.same ?_; exact rfl) | constructor | exact rfl)); done) (ht := by exact rfl) (hr := by (repeat (first | exact Rho.here | exact Rho.nil | (refine Rho.there ?_ ?_; exact rfl) | exact RnL.nil | apply RnL.cons | exact RoL.nil | exact Lent.nil | exact Apd.nil | apply Apd.cons | (refine Lent.cons ?_ ?_ ?_ ?_ ?_) | (refine RoL.cons ?_ ?_ ?_) | (refine RnL.same ?_; exact rfl) | constructor | exact rfl)); done) (ho := by (repeat (first | exact Rho.here | exact Rho.nil | (refine Rho.there ?_ ?_; exact rfl) | exact RnL.nil | apply RnL.cons | exact RoL.nil | exact Lent.nil | exact Apd.nil | apply Apd.cons | (refine Lent.cons ?_ ?_ ?_ ?_ ?_) | (refine RoL.cons ?_ ?_ ?_) | (refine RnL.same ?_; exact rfl) | constructor | exact rfl)); done) (hn := by exact rfl) (hB := by (repeat (first | exact Rho.here | exact Rho.nil | (refine Rho.there ?_ ?_; exact rfl) | exact RnL.nil | apply RnL.cons | exact RoL.nil | exact Lent.nil | exact Apd.nil | apply Apd.cons | (refine Lent.cons ?_ ?_ ?_ ?_ ?_) | (refine RoL.cons ?_ ?_ ?_) | (refine RnL.same ?_; exact rfl) | constructor | exact rfl)); done) (h := ?_))
    | (apply AO.kCall 32; refine AO.callM [(1000000, 41)] (hg := (r3)) (hc := by exact rfl) (ha := by (repeat constructor); done) (hl := by (repeat (first | exact LeL.nil | (refine LeL.cons (Le.refl _) ?_) | (refine LeL.cons Le.gr ?_) | (refine LeL.cons Le.nil ?_) | (refine LeL.cons Le.shc ?_))); done) (hi := by (repeat (first | exact Rho.here | exact Rho.nil | (refine Rho.there ?_ ?_; exact rfl) | exact RnL.nil | apply RnL.cons | exact RoL.nil | exact Lent.nil | exact Apd.nil | apply Apd.cons | (refine Lent.cons ?_ ?_ ?_ ?_ ?_) | (refine RoL.cons ?_ ?_ ?_) | (refine RnL.same ?_; exact rfl) | constructor | exact rfl)); done) (ht := by exact rfl) (hr := by (repeat (first | exact Rho.here | exact Rho.nil | (refine Rho.there ?_ ?_; exact rfl) | exact RnL.nil | apply RnL.cons | exact RoL.nil | exact Lent.nil | exact Apd.nil | apply Apd.cons | (refine Lent.cons ?_ ?_ ?_ ?_ ?_) | (refine RoL.cons ?_ ?_ ?_) | (refine RnL.same ?_; exact rfl) | constructor | exact rfl)); done) (ho := by (repeat (first | exact Rho.here | exact Rho.nil | (refine Rho.there ?_ ?_; exact rfl) | exact RnL.nil | apply RnL.cons | exact RoL.nil | exact Lent.nil | exact Apd.nil | apply Apd.cons | (refine Lent.cons ?_ ?_ ?_ ?_ ?_) | (refine RoL.cons ?_ ?_ ?_) | (refine RnL.same ?_; exact rfl) | constructor | exact rfl)); done) (hn := by exact rfl) (hB := by (repeat (first | exact Rho.here | exact Rho.nil | (refine Rho.there ?_ ?_; exact rfl) | exact RnL.nil | apply RnL.cons | exact RoL.nil | exact Lent.nil | exact Apd.nil | apply Apd.cons | (refine Lent.cons ?_ ?_ ?_ ?_ ?_) | (refine RoL.cons ?_ ?_ ?_) | (refine RnL.same ?_; exact rfl) | constructor | exact rfl)); done) (h := ?_))
    | (apply AO.kCall 33; refine AO.callM [(1000000, 41)] (hg := (r4)) (hc := by exact rfl) (ha := by (repeat constructor); done) (hl := by (repeat (first | exact LeL.nil | (refine LeL.cons (Le.refl _) ?_) | (refine LeL.cons Le.gr ?_) | (refine LeL.cons Le.nil ?_) | (refine LeL.cons Le.shc ?_))); done) (hi := by (repeat (first | exact Rho.here | exact Rho.nil | (refine Rho.there ?_ ?_; exact rfl) | exact RnL.nil | apply RnL.cons | exact RoL.nil | exact Lent.nil | exact Apd.nil | apply Apd.cons | (refine Lent.cons ?_ ?_ ?_ ?_ ?_) | (refine RoL.cons ?_ ?_ ?_) | (refine RnL.same ?_; exact rfl) | constructor | exact rfl)); done) (ht := by exact rfl) (hr := by (repeat (first | exact Rho.here | exact Rho.nil | (refine Rho.there ?_ ?_; exact rfl) | exact RnL.nil | apply RnL.cons | exact RoL.nil | exact Lent.nil | exact Apd.nil | apply Apd.cons | (refine Lent.cons ?_ ?_ ?_ ?_ ?_) | (refine RoL.cons ?_ ?_ ?_) | (refine RnL.same ?_; exact rfl) | constructor | exact rfl)); done) (ho := by (repeat (first | exact Rho.here | exact Rho.nil | (refine Rho.there ?_ ?_; exact rfl) | exact RnL.nil | apply RnL.cons | exact RoL.nil | exact Lent.nil | exact Apd.nil | apply Apd.cons | (refine Lent.cons ?_ ?_ ?_ ?_ ?_) | (refine RoL.cons ?_ ?_ ?_) | (refine RnL.same ?_; exact rfl) | constructor | exact rfl)); done) (hn := by exact rfl) (hB := by (repeat (first | exact Rho.here | exact Rho.nil | (refine Rho.there ?_ ?_; exact rfl) | exact RnL.nil | apply RnL.cons | exact RoL.nil | exact Lent.nil | exact Apd.nil | apply Apd.cons | (refine Lent.cons ?_ ?_ ?_ ?_ ?_) | (refine RoL.cons ?_ ?_ ?_) | (refine RnL.same ?_; exact rfl) | constructor | exact rfl)); done) (h := ?_))
    | (apply AO.kCall 34; refine AO.callM [(1000000, 41)] (hg := (r5)) (hc := by exact rfl) (ha := by (repeat constructor); done) (hl := by (repeat (first | exact LeL.nil | (refine LeL.cons (Le.refl _) ?_) | (refine LeL.cons Le.gr ?_) | (refine LeL.cons Le.nil ?_) | (refine LeL.cons Le.shc ?_))); done) (hi := by (repeat (first | exact Rho.here | exact Rho.nil | (refine Rho.there ?_ ?_; exact rfl) | exact RnL.nil | apply RnL.cons | exact RoL.nil | exact Lent.nil | exact Apd.nil | apply Apd.cons | (refine Lent.cons ?_ ?_ ?_ ?_ ?_) | (refine RoL.cons ?_ ?_ ?_) | (refine RnL.same ?_; exact rfl) | constructor | exact rfl)); done) (ht := by exact rfl) (hr := by (repeat (first | exact Rho.here | exact Rho.nil | (refine Rho.there ?_ ?_; exact rfl) | exact RnL.nil | apply RnL.cons | exact RoL.nil | exact Lent.nil | exact Apd.nil | apply Apd.cons | (refine Lent.cons ?_ ?_ ?_ ?_ ?_) | (refine RoL.cons ?_ ?_ ?_) | (refine RnL.same ?_; exact rfl) | constructor | exact rfl)); done) (ho := by (repeat (first | exact Rho.here | exact Rho.nil | (refine Rho.there ?_ ?_; exact rfl) | exact RnL.nil | apply RnL.cons | exact RoL.nil | exact Lent.nil | exact Apd.nil | apply Apd.cons | (refine Lent.cons ?_ ?_ ?_ ?_ ?_) | (refine RoL.cons ?_ ?_ ?_) | (refine RnL.same ?_; exact rfl) | constructor | exact rfl)); done) (hn := by exact rfl) (hB := by (repeat (first | exact Rho.here | exact Rho.nil | (refine Rho.there ?_ ?_; exact rfl) | exact RnL.nil | apply RnL.cons | exact RoL.nil | exact Lent.nil | exact Apd.nil | apply Apd.cons | (refine Lent.cons ?_ ?_ ?_ ?_ ?_) | (refine RoL.cons ?_ ?_ ?_) | (refine RnL.same ?_; exact rfl) | constructor | exact rfl)); done) (h := ?_))
    | (apply AO.kCall 35; refine AO.callM [(1000000, 41)] (hg := (r6)) (hc := by exact rfl) (ha := by (repeat constructor); done) (hl := by (repeat (first | exact LeL.nil | (refine LeL.cons (Le.refl _) ?_) | (refine LeL.cons Le.gr ?_) | (refine LeL.cons Le.nil ?_) | (refine LeL.cons Le.shc ?_))); done) (hi := by (repeat (first | exact Rho.here | exact Rho.nil | (refine Rho.there ?_ ?_; exact rfl) | exact RnL.nil | apply RnL.cons | exact RoL.nil | exact Lent.nil | exact Apd.nil | apply Apd.cons | (refine Lent.cons ?_ ?_ ?_ ?_ ?_) | (refine RoL.cons ?_ ?_ ?_) | (refine RnL.same ?_; exact rfl) | constructor | exact rfl)); done) (ht := by exact rfl) (hr := by (repeat (first | exact Rho.here | exact Rho.nil | (refine Rho.there ?_ ?_; exact rfl) | exact RnL.nil | apply RnL.cons | exact RoL.nil | exact Lent.nil | exact Apd.nil | apply Apd.cons | (refine Lent.cons ?_ ?_ ?_ ?_ ?_) | (refine RoL.cons ?_ ?_ ?_) | (refine RnL.same ?_; exact rfl) | constructor | exact rfl)); done) (ho := by (repeat (first | exact Rho.here | exact Rho.nil | (refine Rho.there ?_ ?_; exact rfl) | exact RnL.nil | apply RnL.cons | exact RoL.nil | exact Lent.nil | exact Apd.nil | apply Apd.cons | (refine Lent.cons ?_ ?_ ?_ ?_ ?_) | (refine RoL.cons ?_ ?_ ?_) | (refine RnL.same ?_; exact rfl) | constructor | exact rfl)); done) (hn := by exact rfl) (hB := by (repeat (first | exact Rho.here | exact Rho.nil | (refine Rho.there ?_ ?_; exact rfl) | exact RnL.nil | apply RnL.cons | exact RoL.nil | exact Lent.nil | exact Apd.nil | apply Apd.cons | (refine Lent.cons ?_ ?_ ?_ ?_ ?_) | (refine RoL.cons ?_ ?_ ?_) | (refine RnL.same ?_; exact rfl) | constructor | exact rfl)); done) (h := ?_))
    | (apply AO.kCall 36; refine AO.callM [(1000000, 41)] (hg := (r7)) (hc := by exact rfl) (ha := by (repeat constructor); done) (hl := by (repeat (first | exact LeL.nil | (refine LeL.cons (Le.refl _) ?_) | (refine LeL.cons Le.gr ?_) | (refine LeL.cons Le.nil ?_) | (refine LeL.cons Le.shc ?_))); done) (hi := by (repeat (first | exact Rho.here | exact Rho.nil | (refine Rho.there ?_ ?_; exact rfl) | exact RnL.nil | apply RnL.cons | exact RoL.nil | exact Lent.nil | exact Apd.nil | apply Apd.cons | (refine Lent.cons ?_ ?_ ?_ ?_ ?_) | (refine RoL.cons ?_ ?_ ?_) | (refine RnL.same ?_; exact rfl) | constructor | exact rfl)); done) (ht := by exact rfl) (hr := by (repeat (first | exact Rho.here | exact Rho.nil | (refine Rho.there ?_ ?_; exact rfl) | exact RnL.nil | apply RnL.cons | exact RoL.nil | exact Lent.nil | exact Apd.nil | apply Apd.cons | (refine Lent.cons ?_ ?_ ?_ ?_ ?_) | (refine RoL.cons ?_ ?_ ?_) | (refine RnL.same ?_; exact rfl) | constructor | exact rfl)); done) (ho := by (repeat (first | exact Rho.here | exact Rho.nil | (refine Rho.there ?_ ?_; exact rfl) | exact RnL.nil | apply RnL.cons | exact RoL.nil | exact Lent.nil | exact Apd.nil | apply Apd.cons | (refine Lent.cons ?_ ?_ ?_ ?_ ?_) | (refine RoL.cons ?_ ?_ ?_) | (refine RnL.same ?_; exact rfl) | constructor | exact rfl)); done) (hn := by exact rfl) (hB := by (repeat (first | exact Rho.here | exact Rho.nil | (refine Rho.there ?_ ?_; exact rfl) | exact RnL.nil | apply RnL.cons | exact RoL.nil | exact Lent.nil | exact Apd.nil | apply Apd.cons | (refine Lent.cons ?_ ?_ ?_ ?_ ?_) | (refine RoL.cons ?_ ?_ ?_) | (refine RnL.same ?_; exact rfl) | constructor | exact rfl)); done) (h := ?_))
    | (apply AO.kCall 18; refine AO.sCall (hg := gAwakeK) (h := ?_))
    | (apply AO.kSl; first | refine AO.sSl (h := ?_) | refine AO.sSlArr (h := ?_) | refine AO.sP (h := ?_))
    | (apply AO.kCv; first | refine AO.sBytes (h := ?_) | refine AO.sStr (h := ?_) | refine AO.sStrR (h := ?_))
    | (apply AO.kP; first | refine AO.sP (h := ?_) | refine AO.sPi (h := ?_))
    | apply AW.seq
    | (apply AW.kR; refine AW.sR (h := ?_))
    | apply AW.skip
    | apply AW.block
    | apply AW.out
    | (apply AW.kE; refine AW.sE (h := ?_))
    | apply AW.label
    | ((first | (apply AO.kG; first | refine AO.sgt (h1 := fun h => ?_) (h2 := fun h => ?_) | refine AO.sgf (h1 := fun h => ?_) (h2 := fun h => ?_) | refine AO.sgs (h := ?_)) | (apply AW.kC; refine AW.sC (h1 := fun h => ?_) (h2 := fun h => ?_))) <;> (try (first | exact Bool.noConfusion h | exact absurd h (by decide) | (simp at h; done) | (rw [h]; try simp only [nrm] at h; try rw [h]; try (exfalso; omega)) | skip))))
    exact AW.ret (hD rfl .refl)
  · refine Good.w tabOk mixed Try.func9 (N := 86) (by kernel_rfl) rfl (by (repeat (first | exact LE.nil | apply LE.cons)); done) (by (repeat (first | exact LE.nil | apply LE.cons)); done) fun D hD F => ?_
    repeat' (first
    | apply AO.nil
    | (apply AO.kCall 18; refine AO.sCall (hg := gAwakeK) (h := ?_))
    | (apply AO.kSl; first | refine AO.sSl (h := ?_) | refine AO.sSlArr (h := ?_) | refine AO.sP (h := ?_))
    | (apply AO.kCv; first | refine AO.sBytes (h := ?_) | refine AO.sStr (h := ?_) | refine AO.sStrR (h := ?_))
    | (apply AO.kP; first | refine AO.sP (h := ?_) | refine AO.sPi (h := ?_))
    | apply AW.seq
    | (apply AW.kR; refine AW.sR (h := ?_))
    | apply AW.skip
    | apply AW.block
    | apply AW.out
    | (apply AW.kE; refine AW.sE (h := ?_))
    | apply AW.label
    | ((first | (apply AO.kG; first | refine AO.sgt (h1 := fun h => ?_) (h2 := fun h => ?_) | refine AO.sgf (h1 := fun h => ?_) (h2 := fun h => ?_) | refine AO.sgs (h := ?_)) | (apply AW.kC; refine AW.sC (h1 := fun h => ?_) (h2 := fun h => ?_))) <;> (try (first | exact Bool.noConfusion h | exact absurd h (by decide) | (simp at h; done) | (rw [h]; try simp only [nrm] at h; try rw [h]; try (exfalso; omega)) | skip))))
    all_goals first
      | exact AW.ret (hD rfl .refl)
      | (exfalso; omega)
end Go.Proofs.Ytmgmeidfnapahaa.Mv

/- Another name for a tag. Under no condition. -/
namespace Go.Proofs.Ytmgmeidfnapahaa.Mv
open Go Go.Proofs
set_option linter.unusedSimpArgs false
set_option linter.unusedVariables false
/-- Two tags change places. -/
def sw (s d t : Nat) : Nat := if t = s then d else if t = d then s else t
theorem sw_sw (s d t : Nat) : sw s d (sw s d t) = t := by
  unfold sw; repeat' split
  all_goals omega
theorem sw_inj {s d a b : Nat} (h : sw s d a = sw s d b) : a = b := by rw [← sw_sw s d a, h, sw_sw]
theorem sw_big {s d t : Nat} (hs : s < 1000000) (hd : d < 1000000) (ht : 1000000 ≤ t) : sw s d t = t := by
  unfold sw; rw [if_neg (by omega), if_neg (by omega)]
def St.ren (ρ : Nat → Nat) (st : St) : St := ⟨st.T.map fun p => (p.1, p.2.ren ρ), st.B.map fun p => (ρ p.1, p.2.ren ρ)⟩
theorem look_renT (ρ : Nat → Nat) (t : Nat) : ∀ l : List (Nat × AV), look (l.map fun p => (p.1, p.2.ren ρ)) t = (look l t).map (AV.ren ρ)
  | [] => rfl
  | (j, c) :: l => by
    simp only [List.map_cons, look]
    split
    · rfl
    · exact look_renT ρ t l
theorem look_renB {s d : Nat} (t : Nat) : ∀ l : List (Nat × Ob), look (l.map fun p => (sw s d p.1, p.2.ren (sw s d))) (sw s d t) = (look l t).map (Ob.ren (sw s d))
  | [] => rfl
  | (j, c) :: l => by
    simp only [List.map_cons, look]
    by_cases e : j = t
    · rw [if_pos e, if_pos (by rw [e])]; rfl
    · rw [if_neg e, if_neg (fun h => e (sw_inj h))]
      exact look_renB t l
theorem St.ren_get (ρ : Nat → Nat) (st : St) (t : Nat) : (st.ren ρ).get t = (st.get t).ren ρ := by
  simp only [St.get, St.ren, look_renT]
  cases look st.T t <;> rfl
theorem St.ren_ob {s d : Nat} (st : St) (t : Nat) : (st.ren (sw s d)).ob (sw s d t) = (st.ob t).ren (sw s d) := by
  simp only [St.ob, St.ren, look_renB]
  cases look st.B t <;> rfl
theorem RRW.swap {c Γ m st a w} {s d : Nat} (hs : s < 1000000) (hd : d < 1000000) (h : RRW c Γ m (St.ren (sw s d) st) a w) : RRW c Γ (m.pull (sw s d)) st a w :=
  have blk : ∀ t g, (st.ob t).blk (m.pull (sw s d)) t = some g → ((St.ren (sw s d) st).ob (sw s d t)).blk m (sw s d t) = some g := fun t g hg => by
    rw [St.ren_ob, blk_ren]; exact hg
  ⟨h.defers, h.size, h.gok, fun t ht => ren_rep (h.tmps t ht) (St.ren_get _ _ _),
    fun t => by have := h.obs (sw s d t); rw [St.ren_ob] at this; exact ob_ren.1 this,
    fun t g hg => h.own _ g (blk t g hg),
    fun t t' g hg hg' => sw_inj (h.inj _ _ g (blk t g hg) (blk t' g hg')), h.frame, h.sub, h.fresh, fun p hp => by
      have := h.ext p hp
      have e := sw_big hs hd (c.big p hp)
      exact ⟨fun g hg => by show m.th (sw s d p) = _; rw [e]; exact this.1 g hg, fun k x hk => by show m.ka (sw s d p) k = _; rw [e]; exact this.2 k x hk⟩⟩
section
variable {P : Program} {tab : Tab} {N : Nat} {D : St → Prop} {F : Fx P tab N D} {k : List It} {st : St}
/-- A tag by another name, in a weaker state. -/
theorem AW.swap {st' : St} (s d : Nat) (hs : s < 1000000) (hd : d < 1000000) (hl : StLe Tr st (St.ren (sw s d) st')) (h : AW F k st') : AW F k st := fun a w ⟨Γ, m, hw⟩ =>
  h a w ⟨Γ, m.pull (sw s d), (hw.less trivial hl).swap hs hd⟩
end
end Go.Proofs.Ytmgmeidfnapahaa.Mv
