/- What the statement CodecBegins needs, part 11. Under no condition. -/
import Derived.Shelf.RegionOpenPlain
import Derived.WalkKit
import Derived.Lib.Walk
import Derived.Lib.SliceRun
import Derived.Lib.AppendZerosOnto
import Derived.Test.YtmfonbehcfjjgaaMCodecBegins10
/- slices.Grow on bytes. Under no condition. -/
namespace Go.Proofs.Ytmfonbehcfjjgaa.Mv
open Go Go.Proofs Go.Shelf Go.RowKit Go.Lib
set_option linter.unusedSimpArgs false
set_option linter.unusedVariables false

set_option maxHeartbeats 2000000 in
set_option maxRecDepth 100000 in
theorem growRoom (base : Option Addr) (l c n : Nat) (w : World) (hlc : l ≤ c) (hc63 : c ≤ 9223372036854775807) (hn63 : n ≤ 9223372036854775807) (hroom : l + n ≤ c) :
    Calls Try.prog 130 #[.slice base l c, .int .i64 n] w fun e w' => e = .returned (.slice base l c) ∧ w' = w := by
  have h1 : ¬ ((n : Int) < 0) := by omega
  have h2 : Go.RowKit.wrap64 ((c : Int) - (l : Int)) = (c : Int) - (l : Int) := by unfold Go.RowKit.wrap64; omega
  have h3 : Go.RowKit.wrap64 ((n : Int) - ((c : Int) - (l : Int))) = (n : Int) - ((c : Int) - (l : Int)) := by unfold Go.RowKit.wrap64; omega
  have h4 : ¬ ((n : Int) - ((c : Int) - (l : Int)) > 0) := by omega
  go_enter Try.func130, Try.ntmps130
  go_wp2
  go_ret
  exact ⟨rfl, rfl⟩
set_option maxHeartbeats 4000000 in
set_option maxRecDepth 100000 in
theorem growGrow (i0 : TypeInfo) (z : Value) (hi0 : Try.prog.info? 5 = some i0) (hz0 : i0.zero = some z) (hs0 : i0.size = 1) (hb0 : i0.bytes = 1)
    (base : Option Addr) (l c n : Nat) (cs : List Value) (w : World) (hlc : l ≤ c) (hroom : c < l + n) (hbig : l + n ≤ 140737488355328)
    (hcl : cs.length = c) (hnil : base = none → c = 0) (hcs : ∀ a, base = some a → ∀ j v, cs[j]? = some v → w.cell? (a.add j) = some v) :
    Calls Try.prog 130 #[.slice base l c, .int .i64 n] w fun e w' =>
      e = .returned (.slice (some ⟨w.heap.size, 0, none⟩) l (grownCap w (l + n) c 5)) ∧
      w' = w.drew.alloc (.cells (cs.toArray ++ Builtin.zeroCells z.cells (l + n - c) ++ Builtin.zeroCells z.cells (grownCap w (l + n) c 5 - (l + n))) 5) := by
  have h1 : ¬ ((n : Int) < 0) := by omega
  have h2 : Go.RowKit.wrap64 ((c : Int) - (l : Int)) = (c : Int) - (l : Int) := by unfold Go.RowKit.wrap64; omega
  have h3 : Go.RowKit.wrap64 ((n : Int) - ((c : Int) - (l : Int))) = (n : Int) - ((c : Int) - (l : Int)) := by unfold Go.RowKit.wrap64; omega
  have h4 : (n : Int) - ((c : Int) - (l : Int)) > 0 := by omega
  have hck : c + (l + n - c) = l + n := by omega
  have hold : (Builtin.firstCells i0.size c (.slice base c c)).run Try.prog w.drew = .ok cs.toArray w.drew := by
    cases base with
    | none =>
      have h0 := hnil rfl
      subst h0
      have hc0 : cs = [] := List.length_eq_zero_iff.1 hcl
      rw [hc0]
      exact run_firstCells_none w.drew i0.size 0 0 0
    | some a => exact run_firstCells_some w.drew i0.size c a c c cs (by rw [hcl, hs0, Nat.mul_one]) (fun j v hj => hcs a rfl j v hj)
  have hrz : ∀ ty, (Builtin.append_ #[53, 3] ty #[.slice base c c, .int .i64 ((n : Int) - ((c : Int) - (l : Int)))]).run Try.prog w =
      .ok (.slice (some ⟨w.heap.size, 0, none⟩) (l + n) (grownCap w (l + n) c 5)) (w.drew.alloc (.cells (cs.toArray ++ Builtin.zeroCells z.cells (l + n - c) ++ Builtin.zeroCells z.cells (grownCap w (l + n) c 5 - (l + n))) 5)) := fun ty => by
    have h := Lib.run_append_grow_zeros w 53 3 ty 5 i0 z .i64 .i64 Try.underlying53 Try.underlying3 hi0 hz0 base c c cs hold (l + n - c) (by omega) (by omega) (by omega) (by omega)
      (by rw [hb0]; omega)
      (by rw [hck]; exact growslice_fits hroom (by rw [hb0]; omega))
    rw [hck] at h
    rw [show (n : Int) - ((c : Int) - (l : Int)) = ((l + n - c : Nat) : Int) by omega]
    exact h
  have hGn : l + n ≤ grownCap w (l + n) c 5 := grownCap_ge w _ _ _
  obtain ⟨G, hG⟩ : ∃ G, G = grownCap w (l + n) c 5 := ⟨_, rfl⟩
  rw [← hG] at hrz hGn ⊢
  have hG63 : G ≤ 9223372036854775807 := by
    have := grownCap_le_maxLen w (l + n) c 5 (by unfold maxLen; omega)
    rw [← hG] at this
    unfold maxLen at this
    omega
  clear hold hck hG hcs hcl
  go_enter Try.func130, Try.ntmps130
  cases base with
  | none =>
    have h0 := hnil rfl
    subst h0
    obtain rfl : l = 0 := by omega
    go_wp2_with (at_builtin; refine Lib.wpList_append_run _ rfl _ _ _ _ rfl _ _ rfl rfl _ _ (hrz _) ?_)
    all_goals (go_ret; exact ⟨rfl, rfl⟩)
  | some a =>
    obtain ⟨ab, ao, asp⟩ := a
    go_wp2_with (at_builtin; refine Lib.wpList_append_run _ rfl _ _ _ _ rfl _ _ rfl rfl _ _ (hrz _) ?_)
    all_goals (go_ret; exact ⟨rfl, rfl⟩)
theorem BS_flen : (l : L) → (BS l).flatten.length = l.length
  | [] => rfl
  | x :: l => by have := BS_flen l; simp only [BS, List.map_cons, List.flatten_cons, List.length_append, List.length_cons, List.length_nil] at this ⊢; omega
theorem growcap_le (w : World) (n c : Nat) (h : n ≤ 137438953472) : grownCap w n c 5 ≤ maxLen := grownCap_le_maxLen w n c 5 (by unfold maxLen; omega)
/-- A slice with more room: the same bytes, under a new name. -/
theorem gGrow (l : L) (n : Nat) (hl : l.length ≤ 1000000) (hn : n ≤ 1000000) :
    Good Try.prog 130 [.gr 1000000 5 1 (BS l), .i .i64 n] [(1000000, .gw l.length)] (.gr 1000001 5 1 (BS l)) [(1000000, .dead), (1000001, .gw l.length)] :=
  ⟨⟨_, Try.func130, rfl, rfl⟩, fun w Γ m vals gok hv hobs hinj => by
    obtain ⟨v1, hv1, r1⟩ := hv.get (j := 0) rfl
    obtain ⟨v2, hv2, r2⟩ := hv.get (j := 1) rfl
    obtain rfl : vals = [v1, v2] := by
      have hl := hv.1
      match vals, hl with
      | [a, b], _ => simp at hv1 hv2; rw [hv1, hv2]
    have hlb : (BS l).length = l.length := BS_len l
    cases r2
    cases r1 with
    | gr hr hk =>
    rw [hlb] at hk
    obtain ⟨v0, e0, sz0, xs, k1, k2, k3, k4⟩ := hobs (1000000, .gw l.length) (by simp)
    rw [hk] at k1
    simp only [Option.some.injEq, Prod.mk.injEq] at k1
    obtain ⟨rfl, rfl, rfl⟩ := k1
    let ka' : Nat → Nat → Option (Value × TypeId × Nat) := fun t k => if t = 1000001 then m.ka 1000000 k else m.ka t k
    have hka : ∀ k, ka' 1000001 k = m.ka 1000000 k := fun k => by simp [ka']
    have hka0 : ∀ t k, t ≠ 1000001 → ka' t k = m.ka t k := fun t k h => by simp [ka', h]
    have ownIn : ∀ g, v1.ownBlock = some g → Owns m [(1000000, Ob.gw l.length)] g := fun g hg => ⟨_, List.mem_singleton.2 rfl, by simp [Ob.blk, hk, hg]⟩
    -- there is room
    have room : ∀ base c, v1 = .slice base l.length c → l.length + n ≤ c → c ≤ maxLen → Calls Try.prog 130 [v1, .int .i64 n].toArray w fun e w' => ∃ v Γ' m', e = .returned v ∧ Post [(1000000, .gw l.length)] (.gr 1000001 5 1 (BS l)) [(1000000, .dead), (1000001, .gw l.length)] w Γ m v w' Γ' m' := by
      intro base c e1 hroom hc
      subst e1
      refine (growRoom base l.length c n w (by omega) (by unfold maxLen at hc; omega) (by omega) hroom).mono fun e w' ⟨he, hw⟩ => ?_
      subst hw
      refine ⟨_, Γ, ⟨m.th, ka'⟩, he, Sub.refl _, gok, .gr (hr.mono (Sub.refl _) fun t ht => by simp [AV.refs] at ht) (by rw [hlb]; simp only [hka]; exact hk), fun p hp => ?_, ?_, ?_, fun p hp => ?_, Fr.refl _ _, fun ad h0 h1 => absurd h0 h1⟩
      · simp only [List.mem_cons, List.not_mem_nil, or_false] at hp
        rcases hp with rfl | rfl
        · trivial
        · exact ⟨_, _, _, xs, by simp only [hka]; exact hk, fun k y hy => k2 k y (by simpa only [hka] using hy), k3, k4⟩
      · intro p hp q hq g h1 h2
        simp only [List.mem_cons, List.not_mem_nil, or_false] at hp hq
        rcases hp with rfl | rfl <;> rcases hq with rfl | rfl <;> first | rfl | (cases h1) | (cases h2)
      · rintro g ⟨p, hp, hg⟩
        simp only [List.mem_cons, List.not_mem_nil, or_false] at hp
        rcases hp with rfl | rfl
        · cases hg
        · right
          simp only [Ob.blk, hka, hk] at hg
          exact ownIn g (by simpa using hg)
      · simp only [List.mem_singleton] at hp
        subst hp
        exact ⟨fun g h => h, fun k x h => by simp only [hka0 1000000 k (by decide)]; exact h⟩
    -- there is none
    have grow : ∀ base c (cs : List Value), v1 = .slice base l.length c → l.length ≤ c → c < l.length + n → cs.length = c → (base = none → c = 0) → (∀ a, base = some a → ∀ j v, cs[j]? = some v → w.cell? (a.add j) = some v) → cs.take l.length = xs →
        (∀ (j : Nat) v, xs[j]? = some v → v.oneCell' = true) → (∀ (j : Nat) v c, xs[j]? = some v → (BS l).flatten[j]? = some c → Rep Γ Nm.e v c) →
        Calls Try.prog 130 [v1, .int .i64 n].toArray w fun e w' => ∃ v Γ' m', e = .returned v ∧ Post [(1000000, .gw l.length)] (.gr 1000001 5 1 (BS l)) [(1000000, .dead), (1000001, .gw l.length)] w Γ m v w' Γ' m' := by
      intro base c cs e1 hlc hroom hcl hnil hcs htake hone hrep
      subst e1
      obtain ⟨i0, hi0, hs0, hb0, z, hz0, hzc⟩ := (tabOk.at (show look tab 5 = some ty5 from rfl)).info
      have hz1 : z.cells.size = 1 := by
        have : z.cells.size = ty5.zero.length := by simpa using congrArg List.length hzc
        exact this
      refine (growGrow i0 z hi0 hz0 hs0 hb0 base l.length c n cs w hlc hroom (by omega) hcl hnil hcs).mono fun e w' ⟨he, hw⟩ => ?_
      have hGn : l.length + n ≤ grownCap w (l.length + n) c 5 := grownCap_ge w _ _ _
      have hGm := growcap_le w (l.length + n) c (by omega)
      generalize grownCap w (l.length + n) c 5 = G at *
      generalize hcur : cs.toArray ++ Builtin.zeroCells z.cells (l.length + n - c) ++ Builtin.zeroCells z.cells (G - (l.length + n)) = cur at *
      have hcs : cur.size = G := by
        rw [← hcur]
        simp only [Array.size_append, size_zeroCells, hz1, List.size_toArray]; omega
      have hct : cur.toList.take l.length = xs := by
        rw [← hcur, ← htake]
        simp only [Array.toList_append, List.append_assoc]
        rw [List.take_append_of_le_length (by omega)]
      have hxl : xs.length = l.length := by rw [← htake, List.length_take]; omega
      have hnew : w'.heap[w.heap.size]? = some (.cells cur 5 (0, 0)) := by rw [hw]; show (w.heap.push _)[w.heap.size]? = _; simp
      have hold : ∀ k, k < w.heap.size → w'.heap[k]? = w.heap[k]? := fun k hk => by rw [hw]; exact Below.heap_alloc w.drew _ k hk
      let Γ' : Gam := fun ad => if ad.block = w.heap.size then (if ad.spot = none then xs[ad.off]? else none) else Γ ad
      have hin : ∀ j, Γ' ⟨w.heap.size, j, none⟩ = xs[j]? := fun j => by simp [Γ']
      have hout : ∀ ad : Addr, ad.block ≠ w.heap.size → Γ' ad = Γ ad := fun ad h => by simp [Γ', h]
      have hlow : ∀ ad v, Γ ad = some v → ad.block < w.heap.size := fun ad v h => by
        have := gok ad v h
        unfold World.cell? at this
        cases hb : w.heap[ad.block]? with
        | none => rw [hb] at this; simp at this
        | some o => exact (Array.getElem?_eq_some_iff.1 hb).1
      have hsub : Sub Γ Γ' := fun ad v h => by rw [hout ad (by have := hlow ad v h; omega)]; exact h
      have hcell : ∀ j v, xs[j]? = some v → w'.cell? ⟨w.heap.size, j, none⟩ = some v := fun j v h => by
        rw [cell_of_row w' _ _ cur 5 (0, 0) hnew]
        rw [← hct, List.getElem?_take] at h
        split at h
        · simpa using h
        · cases h
      let ka2 : Nat → Nat → Option (Value × TypeId × Nat) := fun t k => if t = 1000001 then (if k = l.length then some (.slice (some ⟨w.heap.size, 0, none⟩) l.length G, 5, 1) else none) else m.ka t k
      have hk2 : ka2 1000001 l.length = some (.slice (some ⟨w.heap.size, 0, none⟩) l.length G, 5, 1) := by simp [ka2]
      have hk3 : ∀ t k, t ≠ 1000001 → ka2 t k = m.ka t k := fun t k h => by simp [ka2, h]
      refine ⟨_, Γ', ⟨m.th, ka2⟩, he, hsub, fun ad v h => ?_, .gr (.sh xs (by omega) hGm hlb (fun r hr => by simp [BS] at hr; obtain ⟨x, _, rfl⟩ := hr; rfl) (by rw [hxl, BS_flen]) (fun j v h => by rw [add_lit]; simp only [Nat.zero_add]; rw [hin]; exact h) (fun v h => by obtain ⟨j, hj⟩ := List.getElem?_of_mem h; exact hone j v hj) fun j v c h1 h2 => (hrep j v c h1 h2).sub hsub) (by rw [hlb]; exact hk2), fun p hp => ?_, ?_, ?_, fun p hp => ?_, ?_, fun ad h0 h1 => ?_⟩
      · by_cases e : ad.block = w.heap.size
        · simp only [Γ', if_pos e] at h
          split at h
          · rename_i es
            obtain ⟨ab, ao, asp⟩ := ad
            simp only at e es h; subst e; subst es
            exact hcell ao v h
          · cases h
        · rw [hout ad e] at h
          have := gok ad v h
          unfold World.cell? at this ⊢
          rw [hold _ (hlow ad v h)]; exact this
      · simp only [List.mem_cons, List.not_mem_nil, or_false] at hp
        rcases hp with rfl | rfl
        · trivial
        · refine ⟨_, _, _, xs, hk2, fun k y hy => ?_, ⟨by rw [hxl, Nat.mul_one], .inr ⟨w.heap.size, G, cur, rfl, Nat.zero_le _, hnew, by omega, hGm, by rw [hcs, Nat.mul_one], by rw [Nat.mul_one]; exact hct⟩⟩, fun g hg => ?_⟩
          · simp only [ka2, if_true] at hy
            split at hy
            · omega
            · cases hy
          · simp only [Value.ownBlock, Option.some.injEq] at hg
            subst hg
            refine ⟨fun j _ => hin j, fun a ha hs => ?_⟩
            simp only [Γ', if_pos ha]
            split
            · rename_i es
              rcases hs with hs | hs
              · exact absurd es hs
              · exact List.getElem?_eq_none (by omega)
            · rfl
      · intro p hp q hq g h1 h2
        simp only [List.mem_cons, List.not_mem_nil, or_false] at hp hq
        rcases hp with rfl | rfl <;> rcases hq with rfl | rfl <;> first | rfl | (cases h1) | (cases h2)
      · rintro g ⟨p, hp, hg⟩
        simp only [List.mem_cons, List.not_mem_nil, or_false] at hp
        rcases hp with rfl | rfl
        · cases hg
        · left
          simp only [Ob.blk, hk2, Option.bind_some, Value.ownBlock, Option.some.injEq] at hg
          omega
      · simp only [List.mem_singleton] at hp
        subst hp
        exact ⟨fun g h => h, fun k x h => by rw [show (⟨m.th, ka2⟩ : Nm).ka 1000000 k = m.ka 1000000 k from hk3 1000000 k (by decide)]; exact h⟩
      · exact ⟨by rw [hw]; rfl, by rw [hw]; rfl, by rw [hw]; rfl, by rw [hw]; show w.heap.size ≤ (w.heap.push _).size; simp, fun k hk _ => hold k hk⟩
      · left
        by_cases e : ad.block = w.heap.size
        · omega
        · rw [hout ad e] at h1; exact absurd h0 h1
    obtain ⟨kl, kr⟩ := k3
    rcases kr with ⟨rfl, h0⟩ | ⟨g, cap, cur, rfl, _, hg, hle, hcm, hcs, hct⟩
    · have l0 : l = [] := List.eq_nil_of_length_eq_zero h0
      subst l0
      have x0 : xs = [] := List.eq_nil_of_length_eq_zero (by simpa using kl)
      subst x0
      by_cases c : n = 0
      · exact room none 0 rfl (by simp; omega) (by unfold maxLen; omega)
      · exact grow none 0 [] rfl (by simp) (by simp; omega) rfl (fun _ => rfl) (fun a h => by cases h) rfl (fun j v h => by simp at h) (fun j v c h => by simp at h)
    · by_cases c : l.length + n ≤ cap
      · exact room _ cap rfl c hcm
      · obtain ⟨k5, _⟩ := k4 g rfl
        rw [Nat.mul_one] at hct hcs kl k5
        have cells : ∀ j v, xs[j]? = some v → w.cell? ⟨g, j, none⟩ = some v := fun j v h => by
          rw [cell_of_row w g _ cur 5 (0, 0) hg]
          rw [← hct, List.getElem?_take] at h
          split at h
          · simpa using h
          · cases h
        have same : ∀ (vs : List Value), vs.length = (BS l).flatten.length → (∀ (j : Nat) v, vs[j]? = some v → Γ ((⟨g, 0, none⟩ : Addr).add j) = some v) → vs = xs := fun vs h1 h2 => by
          have hfl : (BS l).flatten.length = l.length := BS_flen l
          refine List.ext_getElem (by omega) fun j a b => ?_
          have := h2 j _ (List.getElem?_eq_getElem a)
          rw [add_lit, Nat.zero_add, k5 j (by omega), List.getElem?_eq_getElem b] at this
          exact (Option.some.inj this).symm
        refine grow _ cap cur.toList rfl hle (by omega) (by simpa using hcs) (fun h => by cases h) (fun a ha j v h => ?_) hct ?_ ?_
        · cases ha
          rw [add_lit, Nat.zero_add, cell_of_row w g _ cur 5 (0, 0) hg]; simpa using h
        · intro j v h
          rcases hr.sh_inv with ⟨a, e1, e2⟩ | ⟨a, cp, vs, e1, h1, h2, h3, h4, h5, h6, h7⟩
          · have : l = [] := by simpa [BS] using e2
            subst this
            rw [List.eq_nil_of_length_eq_zero kl] at h; simp at h
          · injection e1 with e3 e4 e5
            cases e3
            rw [← same vs h6 h4] at h
            exact h5 v (List.mem_of_getElem? h)
        · intro j v c h hc
          rcases hr.sh_inv with ⟨a, e1, e2⟩ | ⟨a, cp, vs, e1, h1, h2, h3, h4, h5, h6, h7⟩
          · have : l = [] := by simpa [BS] using e2
            subst this
            rw [List.eq_nil_of_length_eq_zero kl] at h; simp at h
          · injection e1 with e3 e4 e5
            cases e3
            rw [← same vs h6 h4] at h
            exact h7 j v c h hc⟩
end Go.Proofs.Ytmfonbehcfjjgaa.Mv

/- Calls that lead to a new object. Under no condition. -/
namespace Go.Proofs.Ytmfonbehcfjjgaa.Mv
open Go Go.Proofs
set_option linter.unusedSimpArgs false
set_option linter.unusedVariables false
section
variable {P : Program} {tab : Tab} {N : Nat} {D : St → Prop} {F : Fx P tab N D} {ops : Array Oper} {k : List It} {l : List Oper} {T : List (Nat × AV)} {B : List (Nat × Ob)} {acc : List Rec} {d : Nat} {ty : TypeId} {tg : List Nat}
theorem AO.callG {pos} {after} {fx : Operand} {xs : Array Operand} {ts : Array TypeId} {f : FuncId} {caps args asL : List AV} {ins outs : List (Nat × Ob)} {res res' : AV} {B' B2 : List (Nat × Ob)} (τ : List (Nat × Nat)) (hg : Good P f args ins res outs)
    (hc : (⟨T, B⟩ : St).val fx = .clo f caps) (ha : Wf (xs.toList.map (⟨T, B⟩ : St).val ++ caps) asL) (hl : LeL asL (args.map (AV.ren (rho τ))))
    (hi : Lent ⟨T, B⟩ (tagsAt ⟨T, B⟩ ⟨some d, .call { callee := .value fx, args := xs, argTypes := ts }, ty, pos, after, none⟩) τ ins) (ht : tagsB τ (ins.map (·.1)) (outs.map (·.1)) res.refs outs = true)
    (hr : Rn τ res res') (ho : RoL τ outs B') (hn : (outs.map (·.1)).filterMap (fun t => if (ins.map (·.1)).contains t then none else some (rho τ t)) = [d]) (hf : (⟨T, B⟩ : St).freeB d = true)
    (hB : Apd B' B B2) (h : AO F ops k l ⟨(d, res') :: T, B2⟩) : AO F ops k (⟨some d, .call { callee := .value fx, args := xs, argTypes := ts }, ty, pos, after, none⟩ :: l) ⟨T, B⟩ :=
  AO.step (e := ⟨[(d, res')], B', [d]⟩) rfl (.call (call_multi τ hc ha hg hl hi ht hr ho hn)) (fun e he => by simp at he; subst he; exact St.freeB_ok hf) (by rw [← hB.eq] at h; exact h)
theorem AR.callG {pos} {after} {fx : Operand} {xs : Array Operand} {ts : Array TypeId} {f : FuncId} {caps args asL : List AV} {ins outs : List (Nat × Ob)} {res res' : AV} {B' B2 : List (Nat × Ob)} (τ : List (Nat × Nat)) (hg : Good P f args ins res outs)
    (hc : (⟨T, B⟩ : St).val fx = .clo f caps) (ha : Wf (xs.toList.map (⟨T, B⟩ : St).val ++ caps) asL) (hl : LeL asL (args.map (AV.ren (rho τ))))
    (hi : Lent ⟨T, B⟩ (tagsAt ⟨T, B⟩ ⟨some d, .call { callee := .value fx, args := xs, argTypes := ts }, ty, pos, after, none⟩) τ ins) (ht : tagsB τ (ins.map (·.1)) (outs.map (·.1)) res.refs outs = true)
    (hr : Rn τ res res') (ho : RoL τ outs B') (hn : (outs.map (·.1)).filterMap (fun t => if (ins.map (·.1)).contains t then none else some (rho τ t)) = [d]) (hf : (⟨T, B⟩ : St).freeB d = true)
    (htg : LE (tagsAt ⟨T, B⟩ ⟨some d, .call { callee := .value fx, args := xs, argTypes := ts }, ty, pos, after, none⟩) tg)
    (hB : Apd B' B B2) (h : AR F ops k l ⟨(d, res') :: T, B2⟩ (⟨tg, ⟨[(d, res')], B', [d]⟩⟩ :: acc)) : AR F ops k (⟨some d, .call { callee := .value fx, args := xs, argTypes := ts }, ty, pos, after, none⟩ :: l) ⟨T, B⟩ acc :=
  AR.st (e := ⟨[(d, res')], B', [d]⟩) rfl (.call (call_multi τ hc ha hg hl hi ht hr ho hn)) (fun e he => by simp at he; subst he; exact St.freeB_ok hf) htg (by rw [← hB.eq] at h; exact h)
/-- What a call's first argument is: told ahead of a contract that asks for it. -/
theorem AO.isPtr {pos} {after} {fx : Operand} {xs : Array Operand} {ts : Array TypeId} {g o : Nat} (hx : (xs.toList.map (⟨T, B⟩ : St).val).head? = some (.ptr g o)) (h : AO F ops k (⟨some d, .call { callee := .value fx, args := xs, argTypes := ts }, ty, pos, after, none⟩ :: l) ⟨T, B⟩) : AO F ops k (⟨some d, .call { callee := .value fx, args := xs, argTypes := ts }, ty, pos, after, none⟩ :: l) ⟨T, B⟩ := h
theorem AO.isX {pos} {after} {fx : Operand} {xs : Array Operand} {ts : Array TypeId} {v : Value} (hx : (xs.toList.map (⟨T, B⟩ : St).val).head? = some (.x v)) (h : AO F ops k (⟨some d, .call { callee := .value fx, args := xs, argTypes := ts }, ty, pos, after, none⟩ :: l) ⟨T, B⟩) : AO F ops k (⟨some d, .call { callee := .value fx, args := xs, argTypes := ts }, ty, pos, after, none⟩ :: l) ⟨T, B⟩ := h
end
/-- A function that only reads, and answers a box of its own, may be lent a box. -/
theorem Good.lendB {P : Program} {f : FuncId} {args args' : List AV} {t n sz : Nat} {cs ds : List AV} (hg : Good P f args [] (.bsl t 0 n sz) [(t, .bx ds)]) (ht : t ≠ 1000000) (hfl : cs.all AV.flat = true) (hfd : ds.all AV.flat = true) (hl : LxL (FzG 1000000 cs) args' args) : Good P f args' [(1000000, .bx cs)] (.bsl t 0 n sz) [(1000000, .bx cs), (t, .bx ds)] :=
  ⟨hg.fn, fun w Γ m vals gok hv hobs hinj => by
    obtain ⟨g, cc, E, q1, q2, q3, q4, q5, q6⟩ := hobs (1000000, .bx cs) (by simp)
    let Γ' : Gam := fun ad => if ad.block = g ∧ ad.spot = none ∧ ad.off < cs.length then cc[ad.off]? else Γ ad
    have hin : ∀ j, j < cs.length → Γ' ⟨g, j, none⟩ = cc[j]? := fun j hj => by simp [Γ', hj]
    have hout : ∀ ad : Addr, ad.block ≠ g → Γ' ad = Γ ad := fun ad had => by simp [Γ', had]
    have hsub : Sub Γ Γ' := fun ad v hv => by
      by_cases e : ad.block = g
      · rw [q6 ad e] at hv; cases hv
      · rw [hout ad e]; exact hv
    have hgok : ∀ ad v, Γ' ad = some v → w.cell? ad = some v := fun ad v hv => by
      by_cases e : ad.block = g ∧ ad.spot = none ∧ ad.off < cs.length
      · obtain ⟨e1, e2, e3⟩ := e
        obtain ⟨ab, ao, asL⟩ := ad
        simp only at e1 e2 e3; subst e1; subst e2
        rw [hin ao e3] at hv
        rw [cell_of_row w ab _ cc E.1 E.2 q2]; exact hv
      · simp only [Γ', if_neg e] at hv
        exact gok ad v hv
    have hr : RepL Γ' Nm.e (cc.toList.take cs.length) (cs.map AV.close) := by
      refine ⟨by have := q3.2; simp; omega, fun j v x hv hx => ?_⟩
      rw [List.getElem?_take] at hv
      split at hv
      · rw [List.getElem?_map] at hx
        obtain ⟨y, hy, rfl⟩ := Option.map_eq_some_iff.1 hx
        exact ((q4 j v y (by simpa using hv) hy).sub hsub).close (List.all_eq_true.1 (flat_shut hfl) _ (List.mem_of_getElem? hy))
      · cases hv
    have hF : FzG 1000000 cs Γ' m := fun g' hg' off => by
      rw [q1] at hg'; cases hg'
      have hr' := hr.drop off
      refine .pel _ hr'.1 (fun j v hv => ?_) (fun v hv => ?_) hr'.2
      · rw [List.getElem?_drop, List.getElem?_take] at hv
        split at hv
        · rename_i hlt
          rw [add_lit, hin _ hlt]; simpa using hv
        · cases hv
      · obtain ⟨j, hj⟩ := List.getElem?_of_mem hv
        rw [List.getElem?_drop, List.getElem?_take] at hj
        split at hj
        · rename_i hlt; exact q5 _ v hlt (by simpa using hj)
        · cases hj
    have hv' : RepL Γ' m vals args := by
      refine ⟨by rw [hv.1, hl.len], fun j v c hvj hc => ?_⟩
      have hj : j < args'.length := by rw [hl.len]; exact (List.getElem?_eq_some_iff.1 hc).1
      exact hl.at j _ c (List.getElem?_eq_getElem hj) hc _ _ _ hF ((hv.2 j v _ hvj (List.getElem?_eq_getElem hj)).sub hsub)
    refine (hg.calls w Γ' m vals hgok hv' (fun p hp => by simp at hp) (fun p hp => by simp at hp)).mono fun e' w' ⟨v, Γ1, m1, q, hp⟩ => ?_
    have hgs : g < w.heap.size := (Array.getElem?_eq_some_iff.1 q2).1
    have hheap : w'.heap[g]? = some (.cells cc E.1 E.2) := by
      rw [hp.frame.block g hgs (fun ⟨p, hp', _⟩ => by simp at hp')]; exact q2
    obtain ⟨gb, c2, E2, b1, b2, b3, b4, b5, b6⟩ := hp.obs (t, .bx ds) (by simp)
    have hnew : w.heap.size ≤ gb := by
      rcases hp.own gb ⟨(t, .bx ds), by simp, b1⟩ with h | ⟨p, hp', _⟩
      · exact h
      · simp at hp'
    let Γ2 : Gam := fun ad => if ad.block = g then none else Γ1 ad
    let m2 : Nm := ⟨fun x => if x = t then some gb else m.th x, m.ka⟩
    have n1 : m2.th t = some gb := by simp [m2]
    have n2 : m2.th 1000000 = some g := by simp only [m2]; rw [if_neg (fun e => ht e.symm)]; exact q1
    have hrep := hp.rep
    cases hrep with
    | bsl hth hn =>
    have e1 := hth
    rw [b1] at e1; cases e1
    refine ⟨_, Γ2, m2, q, fun ad y hy => ?_, fun ad y hy => ?_, .bsl n1 hn, fun p hp' => ?_, fun p hp' q' hq' g' h1 h2 => ?_, fun g' hg' => ?_, fun p hp' => ?_, ⟨hp.frame.os, hp.frame.tape, hp.frame.output, hp.frame.size, fun k hk _ => hp.frame.block k hk (fun ⟨p, hp', _⟩ => by simp at hp')⟩, fun ad h0 h1 => ?_⟩
    · have e : ad.block ≠ g := fun e => by rw [q6 ad e] at hy; cases hy
      simp only [Γ2, if_neg e]
      exact hp.sub ad y (hsub ad y hy)
    · simp only [Γ2] at hy
      split at hy
      · cases hy
      · exact hp.gok ad y hy
    · simp only [List.mem_cons, List.not_mem_nil, or_false] at hp'
      rcases hp' with rfl | rfl
      · exact ⟨g, cc, E, n2, hheap, q3, fun j y d hy hd => (q4 j y d hy hd).flat (List.all_eq_true.1 hfl d (List.mem_of_getElem? hd)), q5, fun ad had => by simp [Γ2, had]⟩
      · refine ⟨gb, c2, E2, n1, b2, b3, fun j y d hy hd => (b4 j y d hy hd).flat (List.all_eq_true.1 hfd d (List.mem_of_getElem? hd)), b5, fun ad had => ?_⟩
        simp only [Γ2]
        split
        · rfl
        · exact b6 ad had
    · simp only [List.mem_cons, List.not_mem_nil, or_false] at hp' hq'
      rcases hp' with rfl | rfl <;> rcases hq' with rfl | rfl
      · rfl
      · simp only [Ob.blk, n1, n2] at h1 h2
        cases h1; cases h2; omega
      · simp only [Ob.blk, n1, n2] at h1 h2
        cases h1; cases h2; omega
      · rfl
    · obtain ⟨p, hp', hg'⟩ := hg'
      simp only [List.mem_cons, List.not_mem_nil, or_false] at hp'
      rcases hp' with rfl | rfl
      · right
        simp only [Ob.blk, n2] at hg'
        cases hg'
        exact ⟨(1000000, .bx cs), by simp, q1⟩
      · left
        simp only [Ob.blk, n1] at hg'
        cases hg'; exact hnew
    · simp only [List.mem_singleton] at hp'
      subst hp'
      exact ⟨fun x h => by rw [q1] at h; cases h; exact n2, fun _ _ h => h⟩
    · simp only [Γ2] at h1
      split at h1
      · exact absurd rfl h1
      · rename_i e
        have h0' : Γ' ad = none := by rw [hout ad e]; exact h0
        exact (hp.fresh ad h0' h1).imp id fun ⟨p, hp', _⟩ => by simp at hp'⟩
section
variable {P : Program} {tab : Tab} {N : Nat} {D : St → Prop} {F : Fx P tab N D} {k : List It}
/-- What comes behind code that ends in several ways is walked once, for each state of a family. -/
theorem AW.joinF {X : Code} {id : Nat} {st : St} {k : List It} {α : Type} (I : α → Prop) (E : α → St) (h : ∀ k' : List It, (∀ (x : α) (st' : St), I x → StLe Tr st' (E x) → AW F k' st') → AW F (.c X :: .b id :: k') st) (hk : ∀ x, I x → AW F k (E x)) : AW F (.c X :: .b id :: k) st :=
  h k fun x st' hx hl => AW.less hl (hk x hx)
end
end Go.Proofs.Ytmfonbehcfjjgaa.Mv

/- Packing: what is put. Under no condition. -/
namespace Go.Proofs.Ytmfonbehcfjjgaa.Mv
open Go Go.Proofs
set_option linter.unusedSimpArgs false
set_option linter.unusedVariables false
set_option maxRecDepth 10000
set_option maxHeartbeats 4000000
attribute [local irreducible] AW AO AR

theorem gGrowB (l : L) (n : Nat) (hl : l.length ≤ 1000000) (hn : n ≤ 1000000) :
    Good Try.prog 130 [.gr 1000000 5 1 (BS l), .i .i64 n] [(1000000, .gw (BS l).length)] (.gr 1000001 5 1 (BS l)) [(1000000, .dead), (1000001, .gw (BS l).length)] := by
  rw [BS_len]; exact gGrow l n hl hn
theorem gCloneG (l : L) (t : Nat) (hl : l.length ≤ 1000000) : Good Try.prog 110 [.sh 1 (BS l)] [] (.gr t 5 1 (BS l)) [(t, .gw (BS l).length)] := by
  have ll : (BS l).length = l.length := BS_len l
  refine Good.w2 tabOk mixed Try.func110 (N := 8) (by kernel_rfl) rfl (by (repeat (first | exact LE.nil | apply LE.cons)); done) (by (repeat (first | exact LE.nil | apply LE.cons)); done) fun D hD F => ?_
  repeat' (first
    | apply AO.nil
    | (apply AO.kBuildS; first | refine AO.sBuildT (h := ?_) | refine AO.sBuildS (h := ?_))
    | (apply AO.kApp; first | refine AO.sGrowT (h := ?_) | refine AO.sNewT (h := ?_) | refine AO.sGrowBT (h := ?_) | refine AO.sGrow (h := ?_) | refine AO.sNewr (h := ?_))
    | (apply AO.kP; first | refine AO.sP (h := ?_) | refine AO.sPi (h := ?_) | refine AO.sSameB (h := ?_))
    | (apply AO.kP; refine AO.eqNil (h1 := fun h => ?_) (h2 := ?_))
    | apply AW.seq
    | (apply AW.kR; refine AW.sR (h := ?_))
    | apply AW.skip
    | apply AW.block
    | apply AW.out
    | (apply AW.kE; refine AW.sE (h := ?_))
    | apply AW.label
    | ((first | (apply AW.kC; refine AW.sC (h1 := fun h => ?_) (h2 := fun h => ?_))) <;> (try (first | exact Bool.noConfusion h | exact absurd h (by decide) | (simp at h; done) | (rw [h]; try simp only [nrm] at h; try rw [h]; try (exfalso; omega)) | skip))))
  · have h0 : BS l = [] := by assumption
    have l0 : l.length = 0 := by rw [h0] at ll; exact ll.symm
    rw [h0] at hD
    refine AW.nilrow 900 5 1 (St.freeB_ok rfl) (st' := ⟨[(2, .gr 900 5 1 [])], [(900, .gw 0)]⟩) ⟨by ((repeat' (first | exact LeT.nil | apply LeT.cons | exact Lx.nilG | apply Lx.s | apply Lx.b | apply Lx.i | exact Lx.refl)) <;> (first | rfl | assumption | omega | (simp only [List.length_map, BS_len]; done) | skip)), by ((repeat' (first | exact LeB.nil | apply LeB.cons | exact Ol.refl)) <;> (first | rfl | skip))⟩ ?_
    exact AW.ret (hD 900 rfl .refl (Ol.eq rfl))
  · exact AW.ret (hD 5 rfl .refl .refl)
/-- A number's writing. -/
def be (n : Nat) : Nat → L
  | 0 => []
  | s + 1 => UInt8.ofNat (n / 256 ^ s) :: be n s
theorem be_len (n : Nat) : ∀ s, (be n s).length = s
  | 0 => rfl
  | s + 1 => by rw [be, List.length_cons, be_len n s]
theorem u8_nat (n : Nat) : u8 (n : Int) = UInt8.ofNat n := by
  apply UInt8.toNat_inj.1
  simp only [u8, UInt8.toNat_ofNat']
  omega
theorem byteOf (n i : Nat) : u8 ((n : Int) / 2 ^ ((8 * i : Nat) : Int).toNat) = UInt8.ofNat (n / 256 ^ i) := by
  have e : (2 : Int) ^ (8 * i) = ((256 ^ i : Nat) : Int) := by
    rw [show 256 = 2 ^ 8 from rfl, ← Nat.pow_mul]
    exact (Int.natCast_pow 2 (8 * i)).symm
  rw [show ((8 * i : Nat) : Int).toNat = 8 * i from rfl, e, ← Int.natCast_ediv]
  exact u8_nat _
theorem gNumber8 (l : L) (n t : Nat) (hl : l.length ≤ 900000) (hn : n < 256) : Good Try.prog 109 [.sh 1 (BS l), .i .u8 n, .i .i64 (1 : Nat)] [] (.gr t 5 1 (BS (l ++ be n 1))) [(t, .gw (BS (l ++ be n 1)).length)] := by
  have ll : (BS l).length = l.length := BS_len l
  have w : IntKind.wrap .u64 (n : Int) = n := wrap64n (by omega)
  refine Good.w2 tabOk mixed Try.func109 (N := 31) (by kernel_rfl) rfl (by (repeat (first | exact LE.nil | apply LE.cons)); done) (by (repeat (first | exact LE.nil | apply LE.cons)); done) fun D hD F => ?_
  repeat' (first
    | apply AO.nil
    | (apply AO.kCall 110; refine AO.sCall1 (hg := ( gCloneG l _ sd)) (h := ?_))
    | (apply AO.kCall 130; refine AO.callG [(1000000, 11), (1000001, 13)] (hg := (gGrowB l 1 sd sd)) (hc := by exact rfl) (ha := by (repeat constructor); done) (hl := by (repeat (first | exact LeL.nil | (refine LeL.cons (Le.refl _) ?_) | (refine LeL.cons Le.gr ?_) | (refine LeL.cons Le.nil ?_))); done) (hi := by (repeat (first | exact Rho.here | exact Rho.nil | (refine Rho.there ?_ ?_; exact rfl) | exact RnL.nil | apply RnL.cons | exact RoL.nil | exact Lent.nil | exact Apd.nil | apply Apd.cons | (refine Lent.cons ?_ ?_ ?_ ?_ ?_) | (refine RoL.cons ?_ ?_ ?_) | (refine RnL.same ?_; exact rfl) | constructor | exact rfl)); done) (ht := by exact rfl) (hr := by (repeat (first | exact Rho.here | exact Rho.nil | (refine Rho.there ?_ ?_; exact rfl) | exact RnL.nil | apply RnL.cons | exact RoL.nil | exact Lent.nil | exact Apd.nil | apply Apd.cons | (refine Lent.cons ?_ ?_ ?_ ?_ ?_) | (refine RoL.cons ?_ ?_ ?_) | (refine RnL.same ?_; exact rfl) | constructor | exact rfl)); done) (ho := by (repeat (first | exact Rho.here | exact Rho.nil | (refine Rho.there ?_ ?_; exact rfl) | exact RnL.nil | apply RnL.cons | exact RoL.nil | exact Lent.nil | exact Apd.nil | apply Apd.cons | (refine Lent.cons ?_ ?_ ?_ ?_ ?_) | (refine RoL.cons ?_ ?_ ?_) | (refine RnL.same ?_; exact rfl) | constructor | exact rfl)); done) (hn := by exact rfl) (hf := by exact rfl) (hB := by (repeat (first | exact Rho.here | exact Rho.nil | (refine Rho.there ?_ ?_; exact rfl) | exact RnL.nil | apply RnL.cons | exact RoL.nil | exact Lent.nil | exact Apd.nil | apply Apd.cons | (refine Lent.cons ?_ ?_ ?_ ?_ ?_) | (refine RoL.cons ?_ ?_ ?_) | (refine RnL.same ?_; exact rfl) | constructor | exact rfl)); done) (h := ?_))
    | (apply AO.kBuildS; first | refine AO.sBuildT (h := ?_) | refine AO.sBuildS (h := ?_))
    | (apply AO.kApp; first | refine AO.sGrowT (h := ?_) | refine AO.sNewT (h := ?_) | refine AO.sGrowBT (h := ?_) | refine AO.sGrow (h := ?_) | refine AO.sNewr (h := ?_))
    | (apply AO.kSub; refine AO.sSub (h := ?_))
    | (apply AO.kCv; first | refine AO.sBytes (h := ?_) | refine AO.sStr (h := ?_) | refine AO.sStrR (h := ?_))
    | (apply AO.kP; first | refine AO.sP (h := ?_) | refine AO.sPi (h := ?_) | refine AO.sSameB (h := ?_))
    | (apply AO.kP; refine AO.eqNil (h1 := fun h => ?_) (h2 := ?_))
    | apply AW.seq
    | (apply AW.kR; refine AW.sR (h := ?_))
    | apply AW.skip
    | apply AW.block
    | apply AW.out
    | (apply AW.kE; refine AW.sE (h := ?_))
    | apply AW.label
    | ((first | (apply AW.kC; refine AW.sC (h1 := fun h => ?_) (h2 := fun h => ?_))) <;> (try (first | exact Bool.noConfusion h | exact absurd h (by decide) | (simp at h; done) | (rw [h]; try simp only [nrm] at h; try rw [h]; try (exfalso; omega)) | skip))))
  try simp only [w]
  refine AW.loopI (fun x : Nat × L => x.1 ≤ 1 ∧ x.2 ++ be n x.1 = l ++ be n 1) (fun x => ⟨[(7, .gr 13 5 1 (BS x.2)), (8, .i .u64 n), (9, .i .i64 ((x.1 : Int) - 1))], [(13, .gw (BS x.2).length)]⟩) (fun x => x.1) (1, l) ⟨by simp, rfl⟩ (by (constructor <;> (repeat' (first | exact LeT.nil | exact LeB.nil | apply LeT.cons | apply LeB.cons | exact Ol.refl | apply Lx.s | apply Lx.b | apply Lx.i | exact Lx.refl)) <;> (first | rfl | assumption | omega | (simp only [List.length_map, BS_len]; done) | skip))) fun m x hx ih => ?_
  obtain ⟨q, a⟩ := x
  obtain ⟨h1, h2⟩ := hx
  dsimp only at h1 h2 ih ⊢
  have hal : a.length + q = l.length + 1 := by have := congrArg List.length h2; simpa [be_len] using this
  match q, h1, h2, hal, ih with
  | 0, h1, h2, hal, ih =>
    rw [be, List.append_nil] at h2
    subst h2
    repeat' (first
    | apply AO.nil
    | (apply AO.kBuildS; first | refine AO.sBuildT (h := ?_) | refine AO.sBuildS (h := ?_))
    | (apply AO.kApp; first | refine AO.sGrowT (h := ?_) | refine AO.sNewT (h := ?_) | refine AO.sGrowBT (h := ?_) | refine AO.sGrow (h := ?_) | refine AO.sNewr (h := ?_))
    | (apply AO.kSub; refine AO.sSub (h := ?_))
    | (apply AO.kCv; first | refine AO.sBytes (h := ?_) | refine AO.sStr (h := ?_) | refine AO.sStrR (h := ?_))
    | (apply AO.kP; first | refine AO.sP (h := ?_) | refine AO.sPi (h := ?_) | refine AO.sSameB (h := ?_))
    | (apply AO.kP; refine AO.eqNil (h1 := fun h => ?_) (h2 := ?_))
    | apply AW.seq
    | (apply AW.kR; refine AW.sR (h := ?_))
    | apply AW.skip
    | apply AW.block
    | apply AW.out
    | (apply AW.kE; refine AW.sE (h := ?_))
    | apply AW.label
    | ((first | (apply AW.kC; refine AW.sC (h1 := fun h => ?_) (h2 := fun h => ?_))) <;> (try (first | exact Bool.noConfusion h | exact absurd h (by decide) | (simp at h; done) | (rw [h]; try simp only [nrm] at h; try rw [h]; try (exfalso; omega)) | skip))))
    exact AW.ret (hD 13 rfl .refl .refl)
  | q + 1, h1, h2, hal, ih =>
    have hm : IntKind.wrap .i64 (8 * (((q + 1 : Nat) : Int) - 1)) = ((8 * q : Nat) : Int) := by
      rw [show (8 * (((q + 1 : Nat) : Int) - 1)) = ((8 * q : Nat) : Int) by omega]
      exact wrap64 (by omega)
    have la : (BS a).length = a.length := BS_len a
    repeat' (first
    | apply AO.nil
    | (apply AO.kBuildS; first | refine AO.sBuildT (h := ?_) | refine AO.sBuildS (h := ?_))
    | (apply AO.kApp; first | refine AO.sGrowT (h := ?_) | refine AO.sNewT (h := ?_) | refine AO.sGrowBT (h := ?_) | refine AO.sGrow (h := ?_) | refine AO.sNewr (h := ?_))
    | (apply AO.kSub; refine AO.sSub (h := ?_))
    | (apply AO.kCv; first | refine AO.sBytes (h := ?_) | refine AO.sStr (h := ?_) | refine AO.sStrR (h := ?_))
    | (apply AO.kP; first | refine AO.sP (h := ?_) | refine AO.sPi (h := ?_) | refine AO.sSameB (h := ?_))
    | (apply AO.kP; refine AO.eqNil (h1 := fun h => ?_) (h2 := ?_))
    | apply AW.seq
    | (apply AW.kR; refine AW.sR (h := ?_))
    | apply AW.skip
    | apply AW.block
    | apply AW.out
    | (apply AW.kE; refine AW.sE (h := ?_))
    | apply AW.label
    | ((first | (apply AW.kC; refine AW.sC (h1 := fun h => ?_) (h2 := fun h => ?_))) <;> (try (first | exact Bool.noConfusion h | exact absurd h (by decide) | (simp at h; done) | (rw [h]; try simp only [nrm] at h; try rw [h]; try (exfalso; omega)) | skip))))
    simp only [hm]
    repeat' (first
    | apply AO.nil
    | (apply AO.kBuildS; first | refine AO.sBuildT (h := ?_) | refine AO.sBuildS (h := ?_))
    | (apply AO.kApp; first | refine AO.sGrowT (h := ?_) | refine AO.sNewT (h := ?_) | refine AO.sGrowBT (h := ?_) | refine AO.sGrow (h := ?_) | refine AO.sNewr (h := ?_))
    | (apply AO.kSub; refine AO.sSub (hr := by first | decide | omega | assumption | (simp only [BS_len, List.length_append, List.length_cons, List.length_nil]; omega) | exact ⟨by omega, by show _ ≤ (64 : Int); omega⟩) (h := ?_))
    | (apply AO.kCv; first | refine AO.sBytes (h := ?_) | refine AO.sStr (h := ?_) | refine AO.sStrR (h := ?_))
    | (apply AO.kP; first | refine AO.sP (h := ?_) | refine AO.sPi (hq := by first | decide | omega | assumption | (simp only [BS_len, List.length_append, List.length_cons, List.length_nil]; omega) | exact ⟨by omega, by show _ ≤ (64 : Int); omega⟩) (h := ?_) | refine AO.sSameB (h := ?_))
    | (apply AO.kP; refine AO.eqNil (h1 := fun h => ?_) (h2 := ?_))
    | apply AW.seq
    | (apply AW.kR; refine AW.sR (h := ?_))
    | apply AW.skip
    | apply AW.block
    | apply AW.out
    | (apply AW.kE; refine AW.sE (h := ?_))
    | apply AW.label
    | ((first | (apply AW.kC; refine AW.sC (h1 := fun h => ?_) (h2 := fun h => ?_))) <;> (try (first | exact Bool.noConfusion h | exact absurd h (by decide) | (simp at h; done) | (rw [h]; try simp only [nrm] at h; try rw [h]; try (exfalso; omega)) | skip))))
    simp only [byteOf n q]
    have e2 : (a ++ [UInt8.ofNat (n / 256 ^ q)]) ++ be n q = l ++ be n 1 := by rw [← h2, be, List.append_assoc]; rfl
    refine ih (q, a ++ [UInt8.ofNat (n / 256 ^ q)]) _ ⟨by omega, e2⟩ (by omega) ?_
    (constructor <;> (repeat' (first | exact LeT.nil | exact LeB.nil | apply LeT.cons | apply LeB.cons | exact Ol.refl | apply Lx.s | apply Lx.b | apply Lx.i | exact Lx.refl)) <;> (first | rfl | assumption | omega | (simp only [List.length_map, BS_len]; done) | skip))
theorem gNumber16 (l : L) (n t : Nat) (hl : l.length ≤ 900000) (hn : n < 65536) : Good Try.prog 128 [.sh 1 (BS l), .i .u16 n, .i .i64 (2 : Nat)] [] (.gr t 5 1 (BS (l ++ be n 2))) [(t, .gw (BS (l ++ be n 2)).length)] := by
  have ll : (BS l).length = l.length := BS_len l
  have w : IntKind.wrap .u64 (n : Int) = n := wrap64n (by omega)
  refine Good.w2 tabOk mixed Try.func128 (N := 31) (by kernel_rfl) rfl (by (repeat (first | exact LE.nil | apply LE.cons)); done) (by (repeat (first | exact LE.nil | apply LE.cons)); done) fun D hD F => ?_
  repeat' (first
    | apply AO.nil
    | (apply AO.kCall 110; refine AO.sCall1 (hg := ( gCloneG l _ sd)) (h := ?_))
    | (apply AO.kCall 130; refine AO.callG [(1000000, 11), (1000001, 13)] (hg := (gGrowB l 2 sd sd)) (hc := by exact rfl) (ha := by (repeat constructor); done) (hl := by (repeat (first | exact LeL.nil | (refine LeL.cons (Le.refl _) ?_) | (refine LeL.cons Le.gr ?_) | (refine LeL.cons Le.nil ?_))); done) (hi := by (repeat (first | exact Rho.here | exact Rho.nil | (refine Rho.there ?_ ?_; exact rfl) | exact RnL.nil | apply RnL.cons | exact RoL.nil | exact Lent.nil | exact Apd.nil | apply Apd.cons | (refine Lent.cons ?_ ?_ ?_ ?_ ?_) | (refine RoL.cons ?_ ?_ ?_) | (refine RnL.same ?_; exact rfl) | constructor | exact rfl)); done) (ht := by exact rfl) (hr := by (repeat (first | exact Rho.here | exact Rho.nil | (refine Rho.there ?_ ?_; exact rfl) | exact RnL.nil | apply RnL.cons | exact RoL.nil | exact Lent.nil | exact Apd.nil | apply Apd.cons | (refine Lent.cons ?_ ?_ ?_ ?_ ?_) | (refine RoL.cons ?_ ?_ ?_) | (refine RnL.same ?_; exact rfl) | constructor | exact rfl)); done) (ho := by (repeat (first | exact Rho.here | exact Rho.nil | (refine Rho.there ?_ ?_; exact rfl) | exact RnL.nil | apply RnL.cons | exact RoL.nil | exact Lent.nil | exact Apd.nil | apply Apd.cons | (refine Lent.cons ?_ ?_ ?_ ?_ ?_) | (refine RoL.cons ?_ ?_ ?_) | (refine RnL.same ?_; exact rfl) | constructor | exact rfl)); done) (hn := by exact rfl) (hf := by exact rfl) (hB := by (repeat (first | exact Rho.here | exact Rho.nil | (refine Rho.there ?_ ?_; exact rfl) | exact RnL.nil | apply RnL.cons | exact RoL.nil | exact Lent.nil | exact Apd.nil | apply Apd.cons | (refine Lent.cons ?_ ?_ ?_ ?_ ?_) | (refine RoL.cons ?_ ?_ ?_) | (refine RnL.same ?_; exact rfl) | constructor | exact rfl)); done) (h := ?_))
    | (apply AO.kBuildS; first | refine AO.sBuildT (h := ?_) | refine AO.sBuildS (h := ?_))
    | (apply AO.kApp; first | refine AO.sGrowT (h := ?_) | refine AO.sNewT (h := ?_) | refine AO.sGrowBT (h := ?_) | refine AO.sGrow (h := ?_) | refine AO.sNewr (h := ?_))
    | (apply AO.kSub; refine AO.sSub (h := ?_))
    | (apply AO.kCv; first | refine AO.sBytes (h := ?_) | refine AO.sStr (h := ?_) | refine AO.sStrR (h := ?_))
    | (apply AO.kP; first | refine AO.sP (h := ?_) | refine AO.sPi (h := ?_) | refine AO.sSameB (h := ?_))
    | (apply AO.kP; refine AO.eqNil (h1 := fun h => ?_) (h2 := ?_))
    | apply AW.seq
    | (apply AW.kR; refine AW.sR (h := ?_))
    | apply AW.skip
    | apply AW.block
    | apply AW.out
    | (apply AW.kE; refine AW.sE (h := ?_))
    | apply AW.label
    | ((first | (apply AW.kC; refine AW.sC (h1 := fun h => ?_) (h2 := fun h => ?_))) <;> (try (first | exact Bool.noConfusion h | exact absurd h (by decide) | (simp at h; done) | (rw [h]; try simp only [nrm] at h; try rw [h]; try (exfalso; omega)) | skip))))
  try simp only [w]
  refine AW.loopI (fun x : Nat × L => x.1 ≤ 2 ∧ x.2 ++ be n x.1 = l ++ be n 2) (fun x => ⟨[(7, .gr 13 5 1 (BS x.2)), (8, .i .u64 n), (9, .i .i64 ((x.1 : Int) - 1))], [(13, .gw (BS x.2).length)]⟩) (fun x => x.1) (2, l) ⟨by simp, rfl⟩ (by (constructor <;> (repeat' (first | exact LeT.nil | exact LeB.nil | apply LeT.cons | apply LeB.cons | exact Ol.refl | apply Lx.s | apply Lx.b | apply Lx.i | exact Lx.refl)) <;> (first | rfl | assumption | omega | (simp only [List.length_map, BS_len]; done) | skip))) fun m x hx ih => ?_
  obtain ⟨q, a⟩ := x
  obtain ⟨h1, h2⟩ := hx
  dsimp only at h1 h2 ih ⊢
  have hal : a.length + q = l.length + 2 := by have := congrArg List.length h2; simpa [be_len] using this
  match q, h1, h2, hal, ih with
  | 0, h1, h2, hal, ih =>
    rw [be, List.append_nil] at h2
    subst h2
    repeat' (first
    | apply AO.nil
    | (apply AO.kBuildS; first | refine AO.sBuildT (h := ?_) | refine AO.sBuildS (h := ?_))
    | (apply AO.kApp; first | refine AO.sGrowT (h := ?_) | refine AO.sNewT (h := ?_) | refine AO.sGrowBT (h := ?_) | refine AO.sGrow (h := ?_) | refine AO.sNewr (h := ?_))
    | (apply AO.kSub; refine AO.sSub (h := ?_))
    | (apply AO.kCv; first | refine AO.sBytes (h := ?_) | refine AO.sStr (h := ?_) | refine AO.sStrR (h := ?_))
    | (apply AO.kP; first | refine AO.sP (h := ?_) | refine AO.sPi (h := ?_) | refine AO.sSameB (h := ?_))
    | (apply AO.kP; refine AO.eqNil (h1 := fun h => ?_) (h2 := ?_))
    | apply AW.seq
    | (apply AW.kR; refine AW.sR (h := ?_))
    | apply AW.skip
    | apply AW.block
    | apply AW.out
    | (apply AW.kE; refine AW.sE (h := ?_))
    | apply AW.label
    | ((first | (apply AW.kC; refine AW.sC (h1 := fun h => ?_) (h2 := fun h => ?_))) <;> (try (first | exact Bool.noConfusion h | exact absurd h (by decide) | (simp at h; done) | (rw [h]; try simp only [nrm] at h; try rw [h]; try (exfalso; omega)) | skip))))
    exact AW.ret (hD 13 rfl .refl .refl)
  | q + 1, h1, h2, hal, ih =>
    have hm : IntKind.wrap .i64 (8 * (((q + 1 : Nat) : Int) - 1)) = ((8 * q : Nat) : Int) := by
      rw [show (8 * (((q + 1 : Nat) : Int) - 1)) = ((8 * q : Nat) : Int) by omega]
      exact wrap64 (by omega)
    have la : (BS a).length = a.length := BS_len a
    repeat' (first
    | apply AO.nil
    | (apply AO.kBuildS; first | refine AO.sBuildT (h := ?_) | refine AO.sBuildS (h := ?_))
    | (apply AO.kApp; first | refine AO.sGrowT (h := ?_) | refine AO.sNewT (h := ?_) | refine AO.sGrowBT (h := ?_) | refine AO.sGrow (h := ?_) | refine AO.sNewr (h := ?_))
    | (apply AO.kSub; refine AO.sSub (h := ?_))
    | (apply AO.kCv; first | refine AO.sBytes (h := ?_) | refine AO.sStr (h := ?_) | refine AO.sStrR (h := ?_))
    | (apply AO.kP; first | refine AO.sP (h := ?_) | refine AO.sPi (h := ?_) | refine AO.sSameB (h := ?_))
    | (apply AO.kP; refine AO.eqNil (h1 := fun h => ?_) (h2 := ?_))
    | apply AW.seq
    | (apply AW.kR; refine AW.sR (h := ?_))
    | apply AW.skip
    | apply AW.block
    | apply AW.out
    | (apply AW.kE; refine AW.sE (h := ?_))
    | apply AW.label
    | ((first | (apply AW.kC; refine AW.sC (h1 := fun h => ?_) (h2 := fun h => ?_))) <;> (try (first | exact Bool.noConfusion h | exact absurd h (by decide) | (simp at h; done) | (rw [h]; try simp only [nrm] at h; try rw [h]; try (exfalso; omega)) | skip))))
    simp only [hm]
    repeat' (first
    | apply AO.nil
    | (apply AO.kBuildS; first | refine AO.sBuildT (h := ?_) | refine AO.sBuildS (h := ?_))
    | (apply AO.kApp; first | refine AO.sGrowT (h := ?_) | refine AO.sNewT (h := ?_) | refine AO.sGrowBT (h := ?_) | refine AO.sGrow (h := ?_) | refine AO.sNewr (h := ?_))
    | (apply AO.kSub; refine AO.sSub (hr := by first | decide | omega | assumption | (simp only [BS_len, List.length_append, List.length_cons, List.length_nil]; omega) | exact ⟨by omega, by show _ ≤ (64 : Int); omega⟩) (h := ?_))
    | (apply AO.kCv; first | refine AO.sBytes (h := ?_) | refine AO.sStr (h := ?_) | refine AO.sStrR (h := ?_))
    | (apply AO.kP; first | refine AO.sP (h := ?_) | refine AO.sPi (hq := by first | decide | omega | assumption | (simp only [BS_len, List.length_append, List.length_cons, List.length_nil]; omega) | exact ⟨by omega, by show _ ≤ (64 : Int); omega⟩) (h := ?_) | refine AO.sSameB (h := ?_))
    | (apply AO.kP; refine AO.eqNil (h1 := fun h => ?_) (h2 := ?_))
    | apply AW.seq
    | (apply AW.kR; refine AW.sR (h := ?_))
    | apply AW.skip
    | apply AW.block
    | apply AW.out
    | (apply AW.kE; refine AW.sE (h := ?_))
    | apply AW.label
    | ((first | (apply AW.kC; refine AW.sC (h1 := fun h => ?_) (h2 := fun h => ?_))) <;> (try (first | exact Bool.noConfusion h | exact absurd h (by decide) | (simp at h; done) | (rw [h]; try simp only [nrm] at h; try rw [h]; try (exfalso; omega)) | skip))))
    simp only [byteOf n q]
    have e2 : (a ++ [UInt8.ofNat (n / 256 ^ q)]) ++ be n q = l ++ be n 2 := by rw [← h2, be, List.append_assoc]; rfl
    refine ih (q, a ++ [UInt8.ofNat (n / 256 ^ q)]) _ ⟨by omega, e2⟩ (by omega) ?_
    (constructor <;> (repeat' (first | exact LeT.nil | exact LeB.nil | apply LeT.cons | apply LeB.cons | exact Ol.refl | apply Lx.s | apply Lx.b | apply Lx.i | exact Lx.refl)) <;> (first | rfl | assumption | omega | (simp only [List.length_map, BS_len]; done) | skip))
theorem gNumber32 (l : L) (n t : Nat) (hl : l.length ≤ 900000) (hn : n < 4294967296) : Good Try.prog 129 [.sh 1 (BS l), .i .u32 n, .i .i64 (4 : Nat)] [] (.gr t 5 1 (BS (l ++ be n 4))) [(t, .gw (BS (l ++ be n 4)).length)] := by
  have ll : (BS l).length = l.length := BS_len l
  have w : IntKind.wrap .u64 (n : Int) = n := wrap64n (by omega)
  refine Good.w2 tabOk mixed Try.func129 (N := 31) (by kernel_rfl) rfl (by (repeat (first | exact LE.nil | apply LE.cons)); done) (by (repeat (first | exact LE.nil | apply LE.cons)); done) fun D hD F => ?_
  repeat' (first
    | apply AO.nil
    | (apply AO.kCall 110; refine AO.sCall1 (hg := ( gCloneG l _ sd)) (h := ?_))
    | (apply AO.kCall 130; refine AO.callG [(1000000, 11), (1000001, 13)] (hg := (gGrowB l 4 sd sd)) (hc := by exact rfl) (ha := by (repeat constructor); done) (hl := by (repeat (first | exact LeL.nil | (refine LeL.cons (Le.refl _) ?_) | (refine LeL.cons Le.gr ?_) | (refine LeL.cons Le.nil ?_))); done) (hi := by (repeat (first | exact Rho.here | exact Rho.nil | (refine Rho.there ?_ ?_; exact rfl) | exact RnL.nil | apply RnL.cons | exact RoL.nil | exact Lent.nil | exact Apd.nil | apply Apd.cons | (refine Lent.cons ?_ ?_ ?_ ?_ ?_) | (refine RoL.cons ?_ ?_ ?_) | (refine RnL.same ?_; exact rfl) | constructor | exact rfl)); done) (ht := by exact rfl) (hr := by (repeat (first | exact Rho.here | exact Rho.nil | (refine Rho.there ?_ ?_; exact rfl) | exact RnL.nil | apply RnL.cons | exact RoL.nil | exact Lent.nil | exact Apd.nil | apply Apd.cons | (refine Lent.cons ?_ ?_ ?_ ?_ ?_) | (refine RoL.cons ?_ ?_ ?_) | (refine RnL.same ?_; exact rfl) | constructor | exact rfl)); done) (ho := by (repeat (first | exact Rho.here | exact Rho.nil | (refine Rho.there ?_ ?_; exact rfl) | exact RnL.nil | apply RnL.cons | exact RoL.nil | exact Lent.nil | exact Apd.nil | apply Apd.cons | (refine Lent.cons ?_ ?_ ?_ ?_ ?_) | (refine RoL.cons ?_ ?_ ?_) | (refine RnL.same ?_; exact rfl) | constructor | exact rfl)); done) (hn := by exact rfl) (hf := by exact rfl) (hB := by (repeat (first | exact Rho.here | exact Rho.nil | (refine Rho.there ?_ ?_; exact rfl) | exact RnL.nil | apply RnL.cons | exact RoL.nil | exact Lent.nil | exact Apd.nil | apply Apd.cons | (refine Lent.cons ?_ ?_ ?_ ?_ ?_) | (refine RoL.cons ?_ ?_ ?_) | (refine RnL.same ?_; exact rfl) | constructor | exact rfl)); done) (h := ?_))
    | (apply AO.kBuildS; first | refine AO.sBuildT (h := ?_) | refine AO.sBuildS (h := ?_))
    | (apply AO.kApp; first | refine AO.sGrowT (h := ?_) | refine AO.sNewT (h := ?_) | refine AO.sGrowBT (h := ?_) | refine AO.sGrow (h := ?_) | refine AO.sNewr (h := ?_))
    | (apply AO.kSub; refine AO.sSub (h := ?_))
    | (apply AO.kCv; first | refine AO.sBytes (h := ?_) | refine AO.sStr (h := ?_) | refine AO.sStrR (h := ?_))
    | (apply AO.kP; first | refine AO.sP (h := ?_) | refine AO.sPi (h := ?_) | refine AO.sSameB (h := ?_))
    | (apply AO.kP; refine AO.eqNil (h1 := fun h => ?_) (h2 := ?_))
    | apply AW.seq
    | (apply AW.kR; refine AW.sR (h := ?_))
    | apply AW.skip
    | apply AW.block
    | apply AW.out
    | (apply AW.kE; refine AW.sE (h := ?_))
    | apply AW.label
    | ((first | (apply AW.kC; refine AW.sC (h1 := fun h => ?_) (h2 := fun h => ?_))) <;> (try (first | exact Bool.noConfusion h | exact absurd h (by decide) | (simp at h; done) | (rw [h]; try simp only [nrm] at h; try rw [h]; try (exfalso; omega)) | skip))))
  try simp only [w]
  refine AW.loopI (fun x : Nat × L => x.1 ≤ 4 ∧ x.2 ++ be n x.1 = l ++ be n 4) (fun x => ⟨[(7, .gr 13 5 1 (BS x.2)), (8, .i .u64 n), (9, .i .i64 ((x.1 : Int) - 1))], [(13, .gw (BS x.2).length)]⟩) (fun x => x.1) (4, l) ⟨by simp, rfl⟩ (by (constructor <;> (repeat' (first | exact LeT.nil | exact LeB.nil | apply LeT.cons | apply LeB.cons | exact Ol.refl | apply Lx.s | apply Lx.b | apply Lx.i | exact Lx.refl)) <;> (first | rfl | assumption | omega | (simp only [List.length_map, BS_len]; done) | skip))) fun m x hx ih => ?_
  obtain ⟨q, a⟩ := x
  obtain ⟨h1, h2⟩ := hx
  dsimp only at h1 h2 ih ⊢
  have hal : a.length + q = l.length + 4 := by have := congrArg List.length h2; simpa [be_len] using this
  match q, h1, h2, hal, ih with
  | 0, h1, h2, hal, ih =>
    rw [be, List.append_nil] at h2
    subst h2
    repeat' (first
    | apply AO.nil
    | (apply AO.kBuildS; first | refine AO.sBuildT (h := ?_) | refine AO.sBuildS (h := ?_))
    | (apply AO.kApp; first | refine AO.sGrowT (h := ?_) | refine AO.sNewT (h := ?_) | refine AO.sGrowBT (h := ?_) | refine AO.sGrow (h := ?_) | refine AO.sNewr (h := ?_))
    | (apply AO.kSub; refine AO.sSub (h := ?_))
    | (apply AO.kCv; first | refine AO.sBytes (h := ?_) | refine AO.sStr (h := ?_) | refine AO.sStrR (h := ?_))
    | (apply AO.kP; first | refine AO.sP (h := ?_) | refine AO.sPi (h := ?_) | refine AO.sSameB (h := ?_))
    | (apply AO.kP; refine AO.eqNil (h1 := fun h => ?_) (h2 := ?_))
    | apply AW.seq
    | (apply AW.kR; refine AW.sR (h := ?_))
    | apply AW.skip
    | apply AW.block
    | apply AW.out
    | (apply AW.kE; refine AW.sE (h := ?_))
    | apply AW.label
    | ((first | (apply AW.kC; refine AW.sC (h1 := fun h => ?_) (h2 := fun h => ?_))) <;> (try (first | exact Bool.noConfusion h | exact absurd h (by decide) | (simp at h; done) | (rw [h]; try simp only [nrm] at h; try rw [h]; try (exfalso; omega)) | skip))))
    exact AW.ret (hD 13 rfl .refl .refl)
  | q + 1, h1, h2, hal, ih =>
    have hm : IntKind.wrap .i64 (8 * (((q + 1 : Nat) : Int) - 1)) = ((8 * q : Nat) : Int) := by
      rw [show (8 * (((q + 1 : Nat) : Int) - 1)) = ((8 * q : Nat) : Int) by omega]
      exact wrap64 (by omega)
    have la : (BS a).length = a.length := BS_len a
    repeat' (first
    | apply AO.nil
    | (apply AO.kBuildS; first | refine AO.sBuildT (h := ?_) | refine AO.sBuildS (h := ?_))
    | (apply AO.kApp; first | refine AO.sGrowT (h := ?_) | refine AO.sNewT (h := ?_) | refine AO.sGrowBT (h := ?_) | refine AO.sGrow (h := ?_) | refine AO.sNewr (h := ?_))
    | (apply AO.kSub; refine AO.sSub (h := ?_))
    | (apply AO.kCv; first | refine AO.sBytes (h := ?_) | refine AO.sStr (h := ?_) | refine AO.sStrR (h := ?_))
    | (apply AO.kP; first | refine AO.sP (h := ?_) | refine AO.sPi (h := ?_) | refine AO.sSameB (h := ?_))
    | (apply AO.kP; refine AO.eqNil (h1 := fun h => ?_) (h2 := ?_))
    | apply AW.seq
    | (apply AW.kR; refine AW.sR (h := ?_))
    | apply AW.skip
    | apply AW.block
    | apply AW.out
    | (apply AW.kE; refine AW.sE (h := ?_))
    | apply AW.label
    | ((first | (apply AW.kC; refine AW.sC (h1 := fun h => ?_) (h2 := fun h => ?_))) <;> (try (first | exact Bool.noConfusion h | exact absurd h (by decide) | (simp at h; done) | (rw [h]; try simp only [nrm] at h; try rw [h]; try (exfalso; omega)) | skip))))
    simp only [hm]
    repeat' (first
    | apply AO.nil
    | (apply AO.kBuildS; first | refine AO.sBuildT (h := ?_) | refine AO.sBuildS (h := ?_))
    | (apply AO.kApp; first | refine AO.sGrowT (h := ?_) | refine AO.sNewT (h := ?_) | refine AO.sGrowBT (h := ?_) | refine AO.sGrow (h := ?_) | refine AO.sNewr (h := ?_))
    | (apply AO.kSub; refine AO.sSub (hr := by first | decide | omega | assumption | (simp only [BS_len, List.length_append, List.length_cons, List.length_nil]; omega) | exact ⟨by omega, by show _ ≤ (64 : Int); omega⟩) (h := ?_))
    | (apply AO.kCv; first | refine AO.sBytes (h := ?_) | refine AO.sStr (h := ?_) | refine AO.sStrR (h := ?_))
    | (apply AO.kP; first | refine AO.sP (h := ?_) | refine AO.sPi (hq := by first | decide | omega | assumption | (simp only [BS_len, List.length_append, List.length_cons, List.length_nil]; omega) | exact ⟨by omega, by show _ ≤ (64 : Int); omega⟩) (h := ?_) | refine AO.sSameB (h := ?_))
    | (apply AO.kP; refine AO.eqNil (h1 := fun h => ?_) (h2 := ?_))
    | apply AW.seq
    | (apply AW.kR; refine AW.sR (h := ?_))
    | apply AW.skip
    | apply AW.block
    | apply AW.out
    | (apply AW.kE; refine AW.sE (h := ?_))
    | apply AW.label
    | ((first | (apply AW.kC; refine AW.sC (h1 := fun h => ?_) (h2 := fun h => ?_))) <;> (try (first | exact Bool.noConfusion h | exact absurd h (by decide) | (simp at h; done) | (rw [h]; try simp only [nrm] at h; try rw [h]; try (exfalso; omega)) | skip))))
    simp only [byteOf n q]
    have e2 : (a ++ [UInt8.ofNat (n / 256 ^ q)]) ++ be n q = l ++ be n 4 := by rw [← h2, be, List.append_assoc]; rfl
    refine ih (q, a ++ [UInt8.ofNat (n / 256 ^ q)]) _ ⟨by omega, e2⟩ (by omega) ?_
    (constructor <;> (repeat' (first | exact LeT.nil | exact LeB.nil | apply LeT.cons | apply LeB.cons | exact Ol.refl | apply Lx.s | apply Lx.b | apply Lx.i | exact Lx.refl)) <;> (first | rfl | assumption | omega | (simp only [List.length_map, BS_len]; done) | skip))
theorem gPut8 (l : L) (n t : Nat) (hl : l.length ≤ 900000) (hn : n < 256) : Good Try.prog 72 [.sh 1 (BS l), .i .u8 n] [] (.gr t 5 1 (BS (l ++ be n 1))) [(t, .gw (BS (l ++ be n 1)).length)] := by
  refine Good.w2 tabOk mixed Try.func72 (N := 8) (by kernel_rfl) rfl (by (repeat (first | exact LE.nil | apply LE.cons)); done) (by (repeat (first | exact LE.nil | apply LE.cons)); done) fun D hD F => ?_
  repeat' (first
    | apply AO.nil
    | (apply AO.kCall 109; refine AO.sCall1 (hg := ( gNumber8 l n _ hl hn)) (h := ?_))
    | (apply AO.kP; first | refine AO.sP (h := ?_) | refine AO.sPi (h := ?_))
    | (apply AO.kP; refine AO.eqNil (h1 := fun h => ?_) (h2 := ?_))
    | apply AW.seq
    | (apply AW.kR; refine AW.sR (h := ?_))
    | apply AW.skip
    | apply AW.block
    | apply AW.out
    | (apply AW.kE; refine AW.sE (h := ?_))
    | apply AW.label)
  exact AW.ret (hD 7 rfl .refl .refl)
theorem gPut16 (l : L) (n t : Nat) (hl : l.length ≤ 900000) (hn : n < 65536) : Good Try.prog 107 [.sh 1 (BS l), .i .u16 n] [] (.gr t 5 1 (BS (l ++ be n 2))) [(t, .gw (BS (l ++ be n 2)).length)] := by
  refine Good.w2 tabOk mixed Try.func107 (N := 8) (by kernel_rfl) rfl (by (repeat (first | exact LE.nil | apply LE.cons)); done) (by (repeat (first | exact LE.nil | apply LE.cons)); done) fun D hD F => ?_
  repeat' (first
    | apply AO.nil
    | (apply AO.kCall 128; refine AO.sCall1 (hg := ( gNumber16 l n _ hl hn)) (h := ?_))
    | (apply AO.kP; first | refine AO.sP (h := ?_) | refine AO.sPi (h := ?_))
    | (apply AO.kP; refine AO.eqNil (h1 := fun h => ?_) (h2 := ?_))
    | apply AW.seq
    | (apply AW.kR; refine AW.sR (h := ?_))
    | apply AW.skip
    | apply AW.block
    | apply AW.out
    | (apply AW.kE; refine AW.sE (h := ?_))
    | apply AW.label)
  exact AW.ret (hD 7 rfl .refl .refl)
theorem gPut32 (l : L) (n t : Nat) (hl : l.length ≤ 900000) (hn : n < 4294967296) : Good Try.prog 108 [.sh 1 (BS l), .i .u32 n] [] (.gr t 5 1 (BS (l ++ be n 4))) [(t, .gw (BS (l ++ be n 4)).length)] := by
  refine Good.w2 tabOk mixed Try.func108 (N := 8) (by kernel_rfl) rfl (by (repeat (first | exact LE.nil | apply LE.cons)); done) (by (repeat (first | exact LE.nil | apply LE.cons)); done) fun D hD F => ?_
  repeat' (first
    | apply AO.nil
    | (apply AO.kCall 129; refine AO.sCall1 (hg := ( gNumber32 l n _ hl hn)) (h := ?_))
    | (apply AO.kP; first | refine AO.sP (h := ?_) | refine AO.sPi (h := ?_))
    | (apply AO.kP; refine AO.eqNil (h1 := fun h => ?_) (h2 := ?_))
    | apply AW.seq
    | (apply AW.kR; refine AW.sR (h := ?_))
    | apply AW.skip
    | apply AW.block
    | apply AW.out
    | (apply AW.kE; refine AW.sE (h := ?_))
    | apply AW.label)
  exact AW.ret (hD 7 rfl .refl .refl)
def cut255 (x : L) : L := x.take 255
theorem gPutText (l x : L) (t : Nat) (hl : l.length ≤ 900000) (hx : x.length ≤ 1000000) : Good Try.prog 70 [.sh 1 (BS l), .s x] [] (.gr t 5 1 (BS (l ++ be (cut255 x).length 1 ++ cut255 x))) [(t, .gw (BS (l ++ be (cut255 x).length 1 ++ cut255 x)).length)] := by
  have e1 : (if (255 : Int) < (x.length : Int) then (255 : Int) else (x.length : Int)).toNat = min 255 x.length := by split <;> omega
  have e2 : x.take (min 255 x.length) = cut255 x := by
    unfold cut255
    by_cases c : x.length ≤ 255
    · rw [List.take_of_length_le (by omega), List.take_of_length_le c]
    · rw [show min 255 x.length = 255 by omega]
  have e3 : (cut255 x).length ≤ 255 := by unfold cut255; rw [List.length_take]; omega
  have e4 : IntKind.wrap .u8 ((cut255 x).length : Int) = (cut255 x).length := wrapN (.inl ⟨rfl, by omega⟩)
  have e5 := be_len (cut255 x).length 1
  refine Good.w2 tabOk mixed Try.func70 (N := 17) (by kernel_rfl) rfl (by (repeat (first | exact LE.nil | apply LE.cons)); done) (by (repeat (first | exact LE.nil | apply LE.cons)); done) fun D hD F => ?_
  repeat' (first
    | apply AO.nil
    | (apply AO.kApp; first | refine AO.sGrowT (h := ?_) | refine AO.sNewT (h := ?_) | refine AO.sGrowBT (h := ?_) | refine AO.sGrow (h := ?_) | refine AO.sNewr (h := ?_))
    | (apply AO.kSl; first | refine AO.sSl (h := ?_) | refine AO.sSlArr (h := ?_) | refine AO.sP (h := ?_))
    | (apply AO.kCv; first | refine AO.sBytes (h := ?_) | refine AO.sStr (h := ?_) | refine AO.sStrR (h := ?_))
    | (apply AO.kP; first | refine AO.sP (h := ?_) | refine AO.sPi (h := ?_) | refine AO.sSameB (h := ?_))
    | (apply AO.kP; refine AO.eqNil (h1 := fun h => ?_) (h2 := ?_))
    | apply AW.seq
    | (apply AW.kR; refine AW.sR (h := ?_))
    | apply AW.skip
    | apply AW.block
    | apply AW.out
    | (apply AW.kE; refine AW.sE (h := ?_))
    | apply AW.label)
  simp only [e1, e2, e4]
  repeat' (first
    | apply AO.nil
    | (apply AO.kCall 72; refine AO.sCall1 (hg := ( gPut8 l (cut255 x).length _ hl sd)) (h := ?_))
    | (apply AO.kApp; first | refine AO.sGrowT (h := ?_) | refine AO.sNewT (h := ?_) | refine AO.sGrowBT (h := ?_) | refine AO.sGrow (h := ?_) | refine AO.sNewr (h := ?_))
    | (apply AO.kSl; first | refine AO.sSl (h := ?_) | refine AO.sSlArr (h := ?_) | refine AO.sP (h := ?_))
    | (apply AO.kCv; first | refine AO.sBytes (h := ?_) | refine AO.sStr (h := ?_) | refine AO.sStrR (h := ?_))
    | (apply AO.kP; first | refine AO.sP (h := ?_) | refine AO.sPi (h := ?_) | refine AO.sSameB (h := ?_))
    | (apply AO.kP; refine AO.eqNil (h1 := fun h => ?_) (h2 := ?_))
    | apply AW.seq
    | (apply AW.kR; refine AW.sR (h := ?_))
    | apply AW.skip
    | apply AW.block
    | apply AW.out
    | (apply AW.kE; refine AW.sE (h := ?_))
    | apply AW.label)
  exact AW.ret (hD 14 rfl .refl .refl)
/-! ### the document's -/
theorem be_drop (n k : Nat) : ∀ s, s ≤ k → (be n k).drop (k - s) = be n s := by
  induction k with
  | zero => intro s hs; obtain rfl : s = 0 := by omega
            rfl
  | succ k ih =>
    intro s hs
    by_cases c : s = k + 1
    · subst c; simp
    · rw [show k + 1 - s = (k - s) + 1 by omega, be, List.drop_succ_cons]
      exact ih s (by omega)
theorem u8_mod (m : Nat) : u8 (((m : Nat) : Int).tmod 256) = UInt8.ofNat m := by
  rw [show (((m : Nat) : Int).tmod 256) = ((m % 256 : Nat) : Int) from rfl, u8_nat]
  apply UInt8.toNat_inj.1
  simp only [UInt8.toNat_ofNat']
  omega
theorem quo256 (n j : Nat) (hn : n < 18446744073709551616) : IntKind.wrap .u64 (((n / 256 ^ j : Nat) : Int).tdiv 256) = ((n / 256 ^ (j + 1) : Nat) : Int) := by
  rw [show (((n / 256 ^ j : Nat) : Int).tdiv 256) = ((n / 256 ^ j / 256 : Nat) : Int) from rfl, Nat.div_div_eq_div_mul, ← Nat.pow_succ]
  exact wrap64n (Nat.lt_of_le_of_lt (Nat.div_le_self _ _) hn)
theorem gRPut (l : L) (n s t : Nat) (hl : l.length ≤ 900000) (hn : n < 18446744073709551616) (hs : s ≤ 8) : Good Try.prog 75 [.sh 1 (BS l), .i .u64 n, .i .i64 s] [] (.gr t 5 1 (BS (l ++ be n s))) [(t, .gw (BS (l ++ be n s)).length)] := by
  have ll : (BS l).length = l.length := BS_len l
  refine Good.w2 tabOk mixed Try.func75 (N := 35) (by kernel_rfl) rfl (by (repeat (first | exact LE.nil | apply LE.cons)); done) (by (repeat (first | exact LE.nil | apply LE.cons)); done) fun D hD F => ?_
  repeat' (first
    | apply AO.nil
    | (apply AO.kBuildS; first | refine AO.sBuildT (h := ?_) | refine AO.sBuildS (h := ?_))
    | (apply AO.kApp; first | refine AO.sGrowT (h := ?_) | refine AO.sNewT (h := ?_) | refine AO.sGrowBT (h := ?_) | refine AO.sGrow (h := ?_) | refine AO.sNewr (h := ?_))
    | (apply AO.kSl; first | refine AO.sSl (h := ?_) | refine AO.sSlArr (h := ?_) | refine AO.sP (h := ?_))
    | (apply AO.kAdd; refine AO.sAdd (h := ?_))
    | (apply AO.kSub; refine AO.sSub (h := ?_))
    | (apply AO.kCv; first | refine AO.sBytes (h := ?_) | refine AO.sStr (h := ?_) | refine AO.sStrR (h := ?_))
    | (apply AO.kP; first | refine AO.sP (h := ?_) | refine AO.sPi (h := ?_) | refine AO.sSameB (h := ?_))
    | (apply AO.kP; refine AO.eqNil (h1 := fun h => ?_) (h2 := ?_))
    | apply AW.seq
    | (apply AW.kR; refine AW.sR (h := ?_))
    | apply AW.skip
    | apply AW.block
    | apply AW.out
    | (apply AW.kE; refine AW.sE (h := ?_))
    | apply AW.label
    | ((first | (apply AW.kC; refine AW.sC (h1 := fun h => ?_) (h2 := fun h => ?_))) <;> (try (first | exact Bool.noConfusion h | exact absurd h (by decide) | (simp at h; done) | (rw [h]; try simp only [nrm] at h; try rw [h]; try (exfalso; omega)) | skip))))
  refine AW.loopI (fun j : Nat => j ≤ 8) (fun j => ⟨[(0, .sh 1 (BS l)), (1, .i .u64 ((n / 256 ^ j : Nat) : Int)), (2, .i .i64 s), (7, .sh 1 (BS (be n j))), (8, .i .i64 j)], []⟩) (fun j => 8 - j) 0 (by decide) (by (constructor <;> (repeat' (first | exact LeT.nil | exact LeB.nil | apply LeT.cons | apply LeB.cons | exact Ol.refl | apply Lx.s | apply Lx.b | apply Lx.i | exact Lx.refl)) <;> (first | rfl | assumption | omega | (simp only [List.length_map, BS_len]; done) | skip)); exact Lx.gr) fun m j hj ih => ?_
  by_cases hj8 : j < 8
  · have lj : (BS (be n j)).length = j := by rw [BS_len, be_len]
    repeat' (first
    | apply AO.nil
    | (apply AO.kBuildS; first | refine AO.sBuildT (h := ?_) | refine AO.sBuildS (h := ?_))
    | (apply AO.kApp; first | refine AO.sGrowT (h := ?_) | refine AO.sNewT (h := ?_) | refine AO.sGrowBT (h := ?_) | refine AO.sGrow (h := ?_) | refine AO.sNewr (h := ?_))
    | (apply AO.kSl; first | refine AO.sSl (h := ?_) | refine AO.sSlArr (h := ?_) | refine AO.sP (h := ?_))
    | (apply AO.kAdd; refine AO.sAdd (h := ?_))
    | (apply AO.kSub; refine AO.sSub (h := ?_))
    | (apply AO.kCv; first | refine AO.sBytes (h := ?_) | refine AO.sStr (h := ?_) | refine AO.sStrR (h := ?_))
    | (apply AO.kP; first | refine AO.sP (h := ?_) | refine AO.sPi (h := ?_) | refine AO.sSameB (h := ?_))
    | (apply AO.kP; refine AO.eqNil (h1 := fun h => ?_) (h2 := ?_))
    | apply AW.seq
    | (apply AW.kR; refine AW.sR (h := ?_))
    | apply AW.skip
    | apply AW.block
    | apply AW.out
    | (apply AW.kE; refine AW.sE (h := ?_))
    | apply AW.label
    | ((first | (apply AW.kC; refine AW.sC (h1 := fun h => ?_) (h2 := fun h => ?_))) <;> (try (first | exact Bool.noConfusion h | exact absurd h (by decide) | (simp at h; done) | (rw [h]; try simp only [nrm] at h; try rw [h]; try (exfalso; omega)) | skip))))
    all_goals first
      | (exfalso; omega)
      | (simp only [u8_mod, quo256 n j hn]
         refine ih (j + 1) _ (by omega) (by omega) ?_
         (constructor <;> (repeat' (first | exact LeT.nil | exact LeB.nil | apply LeT.cons | apply LeB.cons | exact Ol.refl | apply Lx.s | apply Lx.b | apply Lx.i | exact Lx.refl)) <;> (first | rfl | assumption | omega | (simp only [List.length_map, BS_len]; done) | skip))
         exact Lx.gr)
  · obtain rfl : j = 8 := by omega
    have lj : (BS (be n 8)).length = 8 := by rw [BS_len, be_len]
    have ed : (be n 8).drop (8 - (s : Int)).toNat = be n s := by rw [show (8 - (s : Int)).toNat = 8 - s by omega]; exact be_drop n 8 s hs
    repeat' (first
    | apply AO.nil
    | (apply AO.kBuildS; first | refine AO.sBuildT (h := ?_) | refine AO.sBuildS (h := ?_))
    | (apply AO.kApp; first | refine AO.sGrowT (h := ?_) | refine AO.sNewT (h := ?_) | refine AO.sGrowBT (h := ?_) | refine AO.sGrow (h := ?_) | refine AO.sNewr (h := ?_))
    | (apply AO.kSl; first | refine AO.sSl (h := ?_) | refine AO.sSlArr (h := ?_) | refine AO.sP (h := ?_))
    | (apply AO.kAdd; refine AO.sAdd (h := ?_))
    | (apply AO.kSub; refine AO.sSub (h := ?_))
    | (apply AO.kCv; first | refine AO.sBytes (h := ?_) | refine AO.sStr (h := ?_) | refine AO.sStrR (h := ?_))
    | (apply AO.kP; first | refine AO.sP (h := ?_) | refine AO.sPi (h := ?_) | refine AO.sSameB (h := ?_))
    | (apply AO.kP; refine AO.eqNil (h1 := fun h => ?_) (h2 := ?_))
    | apply AW.seq
    | (apply AW.kR; refine AW.sR (h := ?_))
    | apply AW.skip
    | apply AW.block
    | apply AW.out
    | (apply AW.kE; refine AW.sE (h := ?_))
    | apply AW.label
    | ((first | (apply AW.kC; refine AW.sC (h1 := fun h => ?_) (h2 := fun h => ?_))) <;> (try (first | exact Bool.noConfusion h | exact absurd h (by decide) | (simp at h; done) | (rw [h]; try simp only [nrm] at h; try rw [h]; try (exfalso; omega)) | skip))))
    simp only [ed]
    exact AW.ret (hD 25 rfl .refl .refl)
theorem gRPutText (l x : L) (t : Nat) (hl : l.length ≤ 900000) (hx : x.length ≤ 1000000) : Good Try.prog 74 [.sh 1 (BS l), .s x] [] (.gr t 5 1 (BS (l ++ be (cut255 x).length 1 ++ cut255 x))) [(t, .gw (BS (l ++ be (cut255 x).length 1 ++ cut255 x)).length)] := by
  have e5 := be_len (cut255 x).length 1
  have e3 : (cut255 x).length ≤ 255 := by unfold cut255; rw [List.length_take]; omega
  have e4 : IntKind.wrap .u64 ((cut255 x).length : Int) = (cut255 x).length := wrap64n (by omega)
  refine Good.w2 tabOk mixed Try.func74 (N := 19) (by kernel_rfl) rfl (by (repeat (first | exact LE.nil | apply LE.cons)); done) (by (repeat (first | exact LE.nil | apply LE.cons)); done) fun D hD F => ?_
  repeat' (first
    | apply AO.nil
    | (apply AO.kApp; first | refine AO.sGrowT (h := ?_) | refine AO.sNewT (h := ?_) | refine AO.sGrowBT (h := ?_) | refine AO.sGrow (h := ?_) | refine AO.sNewr (h := ?_))
    | (apply AO.kSl; first | refine AO.sSl (h := ?_) | refine AO.sSlArr (h := ?_) | refine AO.sP (h := ?_))
    | (apply AO.kCv; first | refine AO.sBytes (h := ?_) | refine AO.sStr (h := ?_) | refine AO.sStrR (h := ?_))
    | (apply AO.kP; first | refine AO.sP (h := ?_) | refine AO.sPi (h := ?_) | refine AO.sSameB (h := ?_))
    | (apply AO.kP; refine AO.eqNil (h1 := fun h => ?_) (h2 := ?_))
    | apply AW.seq
    | (apply AW.kR; refine AW.sR (h := ?_))
    | apply AW.skip
    | apply AW.block
    | apply AW.out
    | (apply AW.kE; refine AW.sE (h := ?_))
    | apply AW.label
    | ((first | (apply AW.kC; refine AW.sC (h1 := fun h => ?_) (h2 := fun h => ?_))) <;> (try (first | exact Bool.noConfusion h | exact absurd h (by decide) | (simp at h; done) | (rw [h]; try simp only [nrm] at h; try rw [h]; try (exfalso; omega)) | skip))))
  · simp only [show x.take (Int.toNat 255) = cut255 x from rfl, e4]
    repeat' (first
    | apply AO.nil
    | (apply AO.kCall 75; refine AO.sCall1 (hg := ( gRPut l (cut255 x).length 1 _ hl sd sd)) (h := ?_))
    | (apply AO.kApp; first | refine AO.sGrowT (h := ?_) | refine AO.sNewT (h := ?_) | refine AO.sGrowBT (h := ?_) | refine AO.sGrow (h := ?_) | refine AO.sNewr (h := ?_))
    | (apply AO.kSl; first | refine AO.sSl (h := ?_) | refine AO.sSlArr (h := ?_) | refine AO.sP (h := ?_))
    | (apply AO.kCv; first | refine AO.sBytes (h := ?_) | refine AO.sStr (h := ?_) | refine AO.sStrR (h := ?_))
    | (apply AO.kP; first | refine AO.sP (h := ?_) | refine AO.sPi (h := ?_) | refine AO.sSameB (h := ?_))
    | (apply AO.kP; refine AO.eqNil (h1 := fun h => ?_) (h2 := ?_))
    | apply AW.seq
    | (apply AW.kR; refine AW.sR (h := ?_))
    | apply AW.skip
    | apply AW.block
    | apply AW.out
    | (apply AW.kE; refine AW.sE (h := ?_))
    | apply AW.label
    | ((first | (apply AW.kC; refine AW.sC (h1 := fun h => ?_) (h2 := fun h => ?_))) <;> (try (first | exact Bool.noConfusion h | exact absurd h (by decide) | (simp at h; done) | (rw [h]; try simp only [nrm] at h; try rw [h]; try (exfalso; omega)) | skip))))
    exact AW.ret (hD 15 rfl .refl .refl)
  · have ec : cut255 x = x := List.take_of_length_le (by omega)
    rw [ec] at hD e3 e4 e5
    simp only [e4]
    repeat' (first
    | apply AO.nil
    | (apply AO.kCall 75; refine AO.sCall1 (hg := ( gRPut l x.length 1 _ hl sd sd)) (h := ?_))
    | (apply AO.kApp; first | refine AO.sGrowT (h := ?_) | refine AO.sNewT (h := ?_) | refine AO.sGrowBT (h := ?_) | refine AO.sGrow (h := ?_) | refine AO.sNewr (h := ?_))
    | (apply AO.kSl; first | refine AO.sSl (h := ?_) | refine AO.sSlArr (h := ?_) | refine AO.sP (h := ?_))
    | (apply AO.kCv; first | refine AO.sBytes (h := ?_) | refine AO.sStr (h := ?_) | refine AO.sStrR (h := ?_))
    | (apply AO.kP; first | refine AO.sP (h := ?_) | refine AO.sPi (h := ?_) | refine AO.sSameB (h := ?_))
    | (apply AO.kP; refine AO.eqNil (h1 := fun h => ?_) (h2 := ?_))
    | apply AW.seq
    | (apply AW.kR; refine AW.sR (h := ?_))
    | apply AW.skip
    | apply AW.block
    | apply AW.out
    | (apply AW.kE; refine AW.sE (h := ?_))
    | apply AW.label
    | ((first | (apply AW.kC; refine AW.sC (h1 := fun h => ?_) (h2 := fun h => ?_))) <;> (try (first | exact Bool.noConfusion h | exact absurd h (by decide) | (simp at h; done) | (rw [h]; try simp only [nrm] at h; try rw [h]; try (exfalso; omega)) | skip))))
    exact AW.ret (hD 15 rfl .refl .refl)
end Go.Proofs.Ytmfonbehcfjjgaa.Mv

/- Packing: the document's reader. Under no condition. -/
namespace Go.Proofs.Ytmfonbehcfjjgaa.Mv
open Go Go.Proofs
set_option linter.unusedSimpArgs false
set_option linter.unusedVariables false
set_option maxRecDepth 10000
set_option maxHeartbeats 4000000
attribute [local irreducible] AW AO AR

/-! ### the document's reader -/
theorem gRGet (r : Rd) (s : Nat) (hs : s ≤ 8) (hb : r.b.length ≤ 1000000) (hp : r.p ≤ r.b.length) :
    Good Try.prog 82 [.agg r.av, .i .i64 s] [] (.tup [.i .u64 (takeV r s), .agg (takeR r s).av]) [] := by
  have lb : (BS r.b).length = r.b.length := BS_len r.b
  refine Good.w tabOk mixed Try.func82 (N := 46) (by kernel_rfl) rfl (by (repeat (first | exact LE.nil | apply LE.cons)); done) (by (repeat (first | exact LE.nil | apply LE.cons)); done) fun D hD F => ?_
  repeat' (first
    | apply AO.nil
    | (apply AO.kIx; first | refine AO.sIxN (h := ?_) | refine AO.sIx (h := ?_) | refine AO.sP (h := ?_) | refine AO.sPi (h := ?_))
    | (apply AO.kBox; refine AO.sBox (h := ?_))
    | (apply AO.kAlloc; refine AO.sAlloc (h := ?_))
    | (apply AO.kStore; first | refine AO.sStore (h := ?_) | refine AO.sStB (h := ?_))
    | (apply AO.kAdd; refine AO.sAdd (h := ?_))
    | (apply AO.kSub; refine AO.sSub (h := ?_))
    | (apply AO.kCv; first | refine AO.sBytes (h := ?_) | refine AO.sStr (h := ?_) | refine AO.sStrR (h := ?_))
    | (apply AO.kP; first | refine AO.sP (h := ?_) | refine AO.sPi (h := ?_) | refine AO.sLoadB (h := ?_))
    | apply AW.seq
    | (apply AW.kR; refine AW.sR (h := ?_))
    | apply AW.skip
    | apply AW.block
    | apply AW.out
    | (apply AW.kE; refine AW.sE (h := ?_))
    | apply AW.label
    | (apply AW.kRd; refine AW.sRd (h := ?_))
    | ((first | (apply AW.kC; refine AW.sC (h1 := fun h => ?_) (h2 := fun h => ?_))) <;> (try (first | exact Bool.noConfusion h | exact absurd h (by decide) | (simp at h; done) | (rw [h]; try simp only [nrm] at h; try rw [h]; try (exfalso; omega)) | skip)))
    | (apply AR.kAny; first | (apply AR.kIx; first | refine AR.sIxN (h := ?_) | refine AR.sIx (h := ?_) | refine AR.sP (h := ?_) | refine AR.sPi (h := ?_)) | (apply AR.kBox; refine AR.sBox (h := ?_)) | (apply AR.kAlloc; refine AR.sAlloc (h := ?_)) | (apply AR.kStore; refine AR.sStore (h := ?_)) | (apply AR.kAdd; refine AR.sAdd (h := ?_)) | (apply AR.kSub; refine AR.sSub (h := ?_)) | (apply AR.kCv; refine AR.sStrR (h := ?_)) | (apply AR.kP; first | refine AR.sP (h := ?_) | refine AR.sPi (h := ?_)))
    | (apply AR.kNil; refine AR.sNil (h := ?_)))
  · have e : r.e ≠ 0 := by simpa using h
    rw [(take_e e).1, (take_e e).2] at hD
    exact AW.ret (hD rfl .refl)
  all_goals have e0 : r.e = 0 := by simpa using ‹(r.e != 0) = false›
  · have t := take_s (s := s) e0 (by omega)
    rw [t.1, t.2] at hD
    exact AW.ret (hD rfl .refl)
  · have hle : r.p + s ≤ r.b.length := by omega
    have t := take_v e0 hle
    have pl : ((r.b.drop r.p).take s).length = s := by rw [List.length_take, List.length_drop]; omega
    have pg : ∀ q, q < s → r.b.getD (r.p + q) default = ((r.b.drop r.p).take s).getD q default := fun q hq => by
      rw [List.getD_eq_getElem?_getD, List.getD_eq_getElem?_getD, List.getElem?_take, if_pos hq, List.getElem?_drop]
    generalize hP : (r.b.drop r.p).take s = pc at *
    refine AW.loopI (fun q : Nat => q ≤ s) (fun q => ⟨[(1, .i .i64 s), (2, .ptr 2 0), (5, .ptr 5 0), (6, .i .u64 (num (pc.take q))), (7, .i .i64 q)], [(2, .bx r.av), (5, .bx [.nil, .i .i64 0, .i .i64 0])]⟩) (fun q => s - q) 0 (by simp) (by (constructor <;> (repeat' (first | exact LeT.nil | exact LeB.nil | apply LeT.cons | apply LeB.cons | exact Ol.refl | apply Lx.s | apply Lx.b | apply Lx.i | exact Lx.refl)) <;> (first | rfl | assumption | omega | (simp only [List.length_map, BS_len]; done) | skip))) fun m q hq ih => ?_
    by_cases hq2 : q < s
    · have nt := num_take (l := pc) q (by omega)
      have n56 : num (pc.take q) < 72057594037927936 := Nat.lt_of_lt_of_le nt (Nat.le_trans (Nat.pow_le_pow_right (by decide) (show q ≤ 7 by omega)) (by decide))
      have es := takeB (l := pc) (q := q) (by omega)
      have pq := pg q hq2
      have hc := (pc.getD q default).toNat_lt
      have ei : ((r.p : Int) + (q : Int)).toNat = r.p + q := by omega
      have os : IntKind.wrap .u64 (IntKind.wrap .u64 (256 * (num (pc.take q) : Int)) + IntKind.wrap .u64 ((pc.getD q default).toNat : Int)) = ((num (pc.take (q + 1)) : Nat) : Int) := by
        rw [es, num_snoc, show (256 * (num (pc.take q) : Int)) = ((num (pc.take q) * 256 : Nat) : Int) by omega, wrap64n (by omega), wrap64n (by omega), show (((num (pc.take q) * 256 : Nat) : Int) + ((pc.getD q default).toNat : Int)) = ((num (pc.take q) * 256 + (pc.getD q default).toNat : Nat) : Int) by omega, wrap64n (by omega)]
      repeat' (first
    | apply AO.nil
    | (apply AO.kIx; first | refine AO.sIxN (h := ?_) | refine AO.sIx (h := ?_) | refine AO.sP (h := ?_) | refine AO.sPi (h := ?_))
    | (apply AO.kBox; refine AO.sBox (h := ?_))
    | (apply AO.kAlloc; refine AO.sAlloc (h := ?_))
    | (apply AO.kStore; first | refine AO.sStore (h := ?_) | refine AO.sStB (h := ?_))
    | (apply AO.kAdd; refine AO.sAdd (h := ?_))
    | (apply AO.kSub; refine AO.sSub (h := ?_))
    | (apply AO.kCv; first | refine AO.sBytes (h := ?_) | refine AO.sStr (h := ?_) | refine AO.sStrR (h := ?_))
    | (apply AO.kP; first | refine AO.sP (h := ?_) | refine AO.sPi (h := ?_) | refine AO.sLoadB (h := ?_))
    | apply AW.seq
    | (apply AW.kR; refine AW.sR (h := ?_))
    | apply AW.skip
    | apply AW.block
    | apply AW.out
    | (apply AW.kE; refine AW.sE (h := ?_))
    | apply AW.label
    | (apply AW.kRd; refine AW.sRd (h := ?_))
    | ((first | (apply AW.kC; refine AW.sC (h1 := fun h => ?_) (h2 := fun h => ?_))) <;> (try (first | exact Bool.noConfusion h | exact absurd h (by decide) | (simp at h; done) | (rw [h]; try simp only [nrm] at h; try rw [h]; try (exfalso; omega)) | skip)))
    | (apply AR.kAny; first | (apply AR.kIx; first | refine AR.sIxN (h := ?_) | refine AR.sIx (h := ?_) | refine AR.sP (h := ?_) | refine AR.sPi (h := ?_)) | (apply AR.kBox; refine AR.sBox (h := ?_)) | (apply AR.kAlloc; refine AR.sAlloc (h := ?_)) | (apply AR.kStore; refine AR.sStore (h := ?_)) | (apply AR.kAdd; refine AR.sAdd (h := ?_)) | (apply AR.kSub; refine AR.sSub (h := ?_)) | (apply AR.kCv; refine AR.sStrR (h := ?_)) | (apply AR.kP; first | refine AR.sP (h := ?_) | refine AR.sPi (h := ?_)))
    | (apply AR.kNil; refine AR.sNil (h := ?_)))
      all_goals first
        | (exfalso; omega)
        | (simp only [ei, pq, os]
           refine ih (q + 1) _ (by omega) (by omega) ?_
           (constructor <;> (repeat' (first | exact LeT.nil | exact LeB.nil | apply LeT.cons | apply LeB.cons | exact Ol.refl | apply Lx.s | apply Lx.b | apply Lx.i | exact Lx.refl)) <;> (first | rfl | assumption | omega | (simp only [List.length_map, BS_len]; done) | skip)))
    · obtain rfl : q = s := by omega
      have e1 : pc.take q = pc := List.take_of_length_le (by omega)
      rw [e1]
      rw [t.1, t.2] at hD
      repeat' (first
    | apply AO.nil
    | (apply AO.kIx; first | refine AO.sIxN (h := ?_) | refine AO.sIx (h := ?_) | refine AO.sP (h := ?_) | refine AO.sPi (h := ?_))
    | (apply AO.kBox; refine AO.sBox (h := ?_))
    | (apply AO.kAlloc; refine AO.sAlloc (h := ?_))
    | (apply AO.kStore; first | refine AO.sStore (h := ?_) | refine AO.sStB (h := ?_))
    | (apply AO.kAdd; refine AO.sAdd (h := ?_))
    | (apply AO.kSub; refine AO.sSub (h := ?_))
    | (apply AO.kCv; first | refine AO.sBytes (h := ?_) | refine AO.sStr (h := ?_) | refine AO.sStrR (h := ?_))
    | (apply AO.kP; first | refine AO.sP (h := ?_) | refine AO.sPi (h := ?_) | refine AO.sLoadB (h := ?_))
    | apply AW.seq
    | (apply AW.kR; refine AW.sR (h := ?_))
    | apply AW.skip
    | apply AW.block
    | apply AW.out
    | (apply AW.kE; refine AW.sE (h := ?_))
    | apply AW.label
    | (apply AW.kRd; refine AW.sRd (h := ?_))
    | ((first | (apply AW.kC; refine AW.sC (h1 := fun h => ?_) (h2 := fun h => ?_))) <;> (try (first | exact Bool.noConfusion h | exact absurd h (by decide) | (simp at h; done) | (rw [h]; try simp only [nrm] at h; try rw [h]; try (exfalso; omega)) | skip)))
    | (apply AR.kAny; first | (apply AR.kIx; first | refine AR.sIxN (h := ?_) | refine AR.sIx (h := ?_) | refine AR.sP (h := ?_) | refine AR.sPi (h := ?_)) | (apply AR.kBox; refine AR.sBox (h := ?_)) | (apply AR.kAlloc; refine AR.sAlloc (h := ?_)) | (apply AR.kStore; refine AR.sStore (h := ?_)) | (apply AR.kAdd; refine AR.sAdd (h := ?_)) | (apply AR.kSub; refine AR.sSub (h := ?_)) | (apply AR.kCv; refine AR.sStrR (h := ?_)) | (apply AR.kP; first | refine AR.sP (h := ?_) | refine AR.sPi (h := ?_)))
    | (apply AR.kNil; refine AR.sNil (h := ?_)))
      all_goals exact AW.ret (hD rfl (.tup (.cons .refl (.cons (.agg (.cons .refl (.cons (Lx.i (by simp)) (.cons (Lx.i e0) .nil)))) .nil))))
theorem gRGetText (r : Rd) (most : Int) (hb : r.b.length ≤ 1000000) (hp : r.p ≤ r.b.length) :
    Good Try.prog 84 [.agg r.av, .i .i64 most] [] (.tup [.s (textP r most).1, .agg (textP r most).2.av]) [] := by
  have g := gRGet r 1 (by decide) hb hp
  have v256 : takeV r 1 < 256 := takeV_lt r 1
  have w : IntKind.wrap .i64 (takeV r 1 : Int) = takeV r 1 := wrap64 (by omega)
  obtain ⟨p1, p2⟩ := takeR_p (s := 1) hp
  have eb := takeR_b r 1
  unfold textP
  generalize takeR r 1 = r1 at *
  generalize takeV r 1 = n at *
  obtain ⟨b1, q1, e1⟩ := r1
  dsimp only at eb p1 p2 ⊢
  subst eb
  have lb : (BS r.b).length = r.b.length := BS_len r.b
  refine Good.w tabOk mixed Try.func84 (N := 55) (by kernel_rfl) rfl (by (repeat (first | exact LE.nil | apply LE.cons)); done) (by (repeat (first | exact LE.nil | apply LE.cons)); done) fun D hD F => ?_
  repeat' (first
    | apply AO.nil
    | (apply AO.kCall 82; refine AO.sCall (hg := g) (h := ?_))
    | (apply AO.kSl; first | refine AO.sSl (h := ?_) | refine AO.sSlArr (h := ?_) | refine AO.sP (h := ?_))
    | (apply AO.kBox; refine AO.sBox (h := ?_))
    | (apply AO.kAlloc; refine AO.sAlloc (h := ?_))
    | (apply AO.kStore; first | refine AO.sStore (h := ?_) | refine AO.sStB (h := ?_))
    | (apply AO.kAdd; refine AO.sAdd (h := ?_))
    | (apply AO.kSub; refine AO.sSub (h := ?_))
    | (apply AO.kCv; first | refine AO.sBytes (h := ?_) | refine AO.sStr (h := ?_) | refine AO.sStrR (h := ?_))
    | (apply AO.kP; first | refine AO.sP (h := ?_) | refine AO.sPi (h := ?_) | refine AO.sLoadB (h := ?_))
    | apply AW.seq
    | (apply AW.kR; refine AW.sR (h := ?_))
    | apply AW.skip
    | apply AW.block
    | apply AW.out
    | (apply AW.kE; refine AW.sE (h := ?_))
    | apply AW.label
    | (apply AW.kRd; refine AW.sRd (h := ?_))
    | ((first | (apply AW.kC; refine AW.sC (h1 := fun h => ?_) (h2 := fun h => ?_))) <;> (try (first | exact Bool.noConfusion h | exact absurd h (by decide) | (simp at h; done) | (rw [h]; try simp only [nrm] at h; try rw [h]; try (exfalso; omega)) | skip)))
    | (apply AR.kAny; first | (apply AR.kCall 82; refine AR.sCall (hg := g) (h := ?_)) | (apply AR.kSl; first | refine AR.sSl (h := ?_) | refine AR.sSlArr (h := ?_) | refine AR.sP (h := ?_)) | (apply AR.kBox; refine AR.sBox (h := ?_)) | (apply AR.kAlloc; refine AR.sAlloc (h := ?_)) | (apply AR.kStore; refine AR.sStore (h := ?_)) | (apply AR.kAdd; refine AR.sAdd (h := ?_)) | (apply AR.kSub; refine AR.sSub (h := ?_)) | (apply AR.kCv; refine AR.sStrR (h := ?_)) | (apply AR.kP; first | refine AR.sP (h := ?_) | refine AR.sPi (h := ?_)))
    | (apply AR.kNil; refine AR.sNil (h := ?_)))
  · have e : e1 ≠ 0 := by simpa using h
    rw [if_pos e] at hD
    exact AW.ret (hD rfl .refl)
  · rename_i h1; have h2 := h
    have e : ¬ e1 ≠ 0 := by simpa using h1
    rw [w] at h2
    rw [if_neg e, if_pos (show mx0 most < (n : Int) from h2)] at hD
    exact AW.ret (hD rfl .refl)
  · rename_i h1 h2; have h3 := h
    have e : ¬ e1 ≠ 0 := by simpa using h1
    rw [w] at h2 h3
    have h4 : ¬ mx0 most < (n : Int) := by have : (n : Int) ≤ mx0 most := h2; omega
    rw [if_neg e, if_neg h4, if_pos (by omega)] at hD
    exact AW.ret (hD rfl .refl)
  · rename_i h1 h2; have h3 := h
    have e : e1 = 0 := by simpa using h1
    subst e
    rw [w] at h2 h3
    have h4 : ¬ mx0 most < (n : Int) := by have : (n : Int) ≤ mx0 most := h2; omega
    have h5 : q1 + n ≤ r.b.length := by omega
    rw [if_neg (by simp), if_neg h4, if_neg (by omega)] at hD
    simp only [w]
    refine AW.ret (hD rfl (.tup (.cons (Lx.s ?_) (.cons (.agg (.cons .refl (.cons (Lx.i (by simp)) (.cons .refl .nil)))) .nil))))
    dsimp only
    rw [show (q1 : Int).toNat = q1 from rfl, show ((q1 : Int) + (n : Int)).toNat = q1 + n by omega, List.drop_take]
    congr 1; omega
theorem gREnd (r : Rd) (hb : r.b.length ≤ 1000000) : Good Try.prog 88 [.agg r.av] [] (.i .i64 (endR r)) [] := by
  have lb : (BS r.b).length = r.b.length := BS_len r.b
  refine Good.w tabOk mixed Try.func88 (N := 16) (by kernel_rfl) rfl (by (repeat (first | exact LE.nil | apply LE.cons)); done) (by (repeat (first | exact LE.nil | apply LE.cons)); done) fun D hD F => ?_
  repeat' (first
    | apply AO.nil
    | (apply AO.kBox; refine AO.sBox (h := ?_))
    | (apply AO.kP; first | refine AO.sP (h := ?_) | refine AO.sPi (h := ?_) | refine AO.sLoadB (h := ?_))
    | apply AW.seq
    | (apply AW.kR; refine AW.sR (h := ?_))
    | apply AW.skip
    | apply AW.block
    | apply AW.out
    | (apply AW.kE; refine AW.sE (h := ?_))
    | apply AW.label
    | ((first | (apply AO.kG; first | refine AO.sgt (h1 := fun h => ?_) (h2 := fun h => ?_) | refine AO.sgf (h1 := fun h => ?_) (h2 := fun h => ?_) | refine AO.sgs (h := ?_)) | (apply AW.kC; refine AW.sC (h1 := fun h => ?_) (h2 := fun h => ?_))) <;> (try (first | exact Bool.noConfusion h | exact absurd h (by decide) | (simp at h; done) | (rw [h]; try simp only [nrm] at h; try rw [h]; try (exfalso; omega)) | skip))))
  · exact AW.ret (hD rfl (Lx.i (by rw [endR, if_pos ⟨by assumption, by omega⟩])))
  · exact AW.ret (hD rfl (Lx.i (by rw [endR, if_neg (by rintro ⟨_, a⟩; omega)]; omega)))
  · exact AW.ret (hD rfl (Lx.i (by rw [endR, if_neg (by rintro ⟨a, _⟩; exact absurd a (by assumption))])))
end Go.Proofs.Ytmfonbehcfjjgaa.Mv

/- Keys, ranges, lifts: what the functions answer. Under no condition. -/
namespace Go.Proofs.Ytmfonbehcfjjgaa.Mv
open Go Go.Proofs
set_option linter.unusedSimpArgs false
set_option linter.unusedVariables false
set_option maxRecDepth 10000
set_option maxHeartbeats 4000000
attribute [local irreducible] AW AO AR
theorem gHasPrefix' (k p : L) : Good Try.prog 133 [.s k, .s p] [] (.b (hp k p)) [] := by
  refine Good.w tabOk mixed Try.func133 (N := 18) (by kernel_rfl) rfl (by (repeat (first | exact LE.nil | apply LE.cons)); done) (by (repeat (first | exact LE.nil | apply LE.cons)); done) fun D hD F => ?_
  repeat' (first
    | apply AO.nil
    | (apply AO.kSl; first | refine AO.sSl (h := ?_) | refine AO.sSlArr (h := ?_) | refine AO.sP (h := ?_))
    | (apply AO.kP; first | refine AO.sP (h := ?_) | refine AO.sPi (h := ?_))
    | apply AW.seq
    | (apply AW.kR; refine AW.sR (h := ?_))
    | apply AW.skip
    | apply AW.block
    | apply AW.out
    | (apply AW.kE; refine AW.sE (h := ?_))
    | apply AW.label
    | ((first | (apply AO.kG; first | refine AO.sgt (h1 := fun h => ?_) (h2 := fun h => ?_) | refine AO.sgf (h1 := fun h => ?_) (h2 := fun h => ?_) | refine AO.sgs (h := ?_))) <;> (try (first | exact Bool.noConfusion h | exact absurd h (by decide) | (simp at h; done) | (rw [h]; try simp only [nrm] at h; try rw [h]; try (exfalso; omega)) | skip))))
  all_goals refine AW.ret (hD rfl (Lx.b ?_))
  all_goals (rw [Bool.eq_iff_iff]; simp [hp_iff])
  intro e
  have := congrArg List.length e
  simp at this
  omega
theorem gCutPrefix' (k p : L) : Good Try.prog 131 [.s k, .s p] [] (.tup [.s (cutS k p), .b (hp k p)]) [] := by
  refine Good.w tabOk mixed Try.func131 (N := 15) (by kernel_rfl) rfl (by (repeat (first | exact LE.nil | apply LE.cons)); done) (by (repeat (first | exact LE.nil | apply LE.cons)); done) fun D hD F => ?_
  repeat' (first
    | apply AO.nil
    | (apply AO.kCall 133; refine AO.sCall (hg := (gHasPrefix' _ _)) (h := ?_))
    | (apply AO.kSl; first | refine AO.sSl (h := ?_) | refine AO.sSlArr (h := ?_) | refine AO.sP (h := ?_))
    | (apply AO.kP; first | refine AO.sP (h := ?_) | refine AO.sPi (h := ?_))
    | apply AW.seq
    | (apply AW.kR; refine AW.sR (h := ?_))
    | apply AW.skip
    | apply AW.block
    | apply AW.out
    | (apply AW.kE; refine AW.sE (h := ?_))
    | apply AW.label
    | ((first | (apply AW.kC; refine AW.sC (h1 := fun h => ?_) (h2 := fun h => ?_))) <;> (try (first | exact Bool.noConfusion h | exact absurd h (by decide) | (simp at h; done) | (rw [h]; try simp only [nrm] at h; try rw [h]; try (exfalso; omega)) | skip))))
  · exact AW.ret (hD rfl (Lx.tup (.cons (Lx.s (by simp [cutS, h])) (.cons (Lx.b h.symm) .nil))))
  · have h2 := hp_len h
    repeat' (first
    | apply AO.nil
    | (apply AO.kSl; first | refine AO.sSl (h := ?_) | refine AO.sSlArr (h := ?_) | refine AO.sP (h := ?_))
    | (apply AO.kP; first | refine AO.sP (h := ?_) | refine AO.sPi (h := ?_))
    | apply AW.seq
    | (apply AW.kR; refine AW.sR (h := ?_))
    | apply AW.skip
    | apply AW.block
    | apply AW.out
    | (apply AW.kE; refine AW.sE (h := ?_))
    | apply AW.label
    | ((first | (apply AW.kC; refine AW.sC (h1 := fun h => ?_) (h2 := fun h => ?_))) <;> (try (first | exact Bool.noConfusion h | exact absurd h (by decide) | (simp at h; done) | (rw [h]; try simp only [nrm] at h; try rw [h]; try (exfalso; omega)) | skip))))
    exact AW.ret (hD rfl (Lx.tup (.cons (Lx.s (by simp [cutS, h])) (.cons (Lx.b h.symm) .nil))))
theorem gCutPrefix (k p : L) : Good Try.prog 125 [.s k, .s p] [] (.tup [.s (cutS k p), .b (hp k p)]) [] := by
  refine Good.w tabOk mixed Try.func125 (N := 11) (by kernel_rfl) rfl (by (repeat (first | exact LE.nil | apply LE.cons)); done) (by (repeat (first | exact LE.nil | apply LE.cons)); done) fun D hD F => ?_
  repeat' (first
    | apply AO.nil
    | (apply AO.kCall 131; refine AO.sCall (hg := (gCutPrefix' _ _)) (h := ?_))
    | (apply AO.kP; first | refine AO.sP (h := ?_) | refine AO.sPi (h := ?_))
    | apply AW.seq
    | (apply AW.kR; refine AW.sR (h := ?_))
    | apply AW.skip
    | apply AW.block
    | apply AW.out
    | (apply AW.kE; refine AW.sE (h := ?_))
    | apply AW.label)
  all_goals exact AW.ret (hD rfl (Lx.tup (.cons .refl (.cons .refl .nil))))
theorem gUp (s a k : L) (h1 : a.length + k.length ≤ 137438953472) : Good Try.prog 102 [.agg [.s s, .s a], .s k] [] (.tup [.s (upS s a k), .b (hp k s)]) [] := by
  have h2 := cutS_len k s
  refine Good.w tabOk mixed Try.func102 (N := 21) (by kernel_rfl) rfl (by (repeat (first | exact LE.nil | apply LE.cons)); done) (by (repeat (first | exact LE.nil | apply LE.cons)); done) fun D hD F => ?_
  repeat' (first
    | apply AO.nil
    | (apply AO.kCall 125; refine AO.sCall (hg := (gCutPrefix _ _)) (h := ?_))
    | (apply AO.kBox; refine AO.sBox (h := ?_))
    | (apply AO.kAdd; refine AO.sAdd (h := ?_))
    | (apply AO.kP; first | refine AO.sP (h := ?_) | refine AO.sPi (h := ?_) | refine AO.sLoadB (h := ?_))
    | apply AW.seq
    | (apply AW.kR; refine AW.sR (h := ?_))
    | apply AW.skip
    | apply AW.block
    | apply AW.out
    | (apply AW.kE; refine AW.sE (h := ?_))
    | apply AW.label
    | ((first | (apply AW.kC; refine AW.sC (h1 := fun h => ?_) (h2 := fun h => ?_))) <;> (try (first | exact Bool.noConfusion h | exact absurd h (by decide) | (simp at h; done) | (rw [h]; try simp only [nrm] at h; try rw [h]; try (exfalso; omega)) | skip))))
  all_goals exact AW.ret (hD rfl (Lx.tup (.cons (Lx.s (by simp [upS, cutS, h])) (.cons (Lx.b h.symm) .nil))))
theorem gHas' (k p : L) : Good Try.prog 132 [.s k, .s p] [] (.b (hp k p)) [] := by
  refine Good.w tabOk mixed Try.func132 (N := 18) (by kernel_rfl) rfl (by (repeat (first | exact LE.nil | apply LE.cons)); done) (by (repeat (first | exact LE.nil | apply LE.cons)); done) fun D hD F => ?_
  repeat' (first
    | apply AO.nil
    | (apply AO.kSl; first | refine AO.sSl (h := ?_) | refine AO.sSlArr (h := ?_) | refine AO.sP (h := ?_))
    | (apply AO.kP; first | refine AO.sP (h := ?_) | refine AO.sPi (h := ?_))
    | apply AW.seq
    | (apply AW.kR; refine AW.sR (h := ?_))
    | apply AW.skip
    | apply AW.block
    | apply AW.out
    | (apply AW.kE; refine AW.sE (h := ?_))
    | apply AW.label
    | ((first | (apply AO.kG; first | refine AO.sgt (h1 := fun h => ?_) (h2 := fun h => ?_) | refine AO.sgf (h1 := fun h => ?_) (h2 := fun h => ?_) | refine AO.sgs (h := ?_))) <;> (try (first | exact Bool.noConfusion h | exact absurd h (by decide) | (simp at h; done) | (rw [h]; try simp only [nrm] at h; try rw [h]; try (exfalso; omega)) | skip))))
  all_goals (refine AW.ret (hD rfl ?_); (repeat' (first | apply Lx.s | apply Lx.b | apply Lx.i | apply LxL.cons | exact LxL.nil | apply Lx.tup | apply Lx.agg | apply Lx.refl)) <;> (try with_reducible rfl))
  all_goals (rw [Bool.eq_iff_iff]; simp [hp_iff])
  intro e
  have := congrArg List.length e
  simp at this
  omega
theorem gNext (k : L) (h : k.length < 137438953472) : Good Try.prog 95 [.s k] [] (.s (k ++ [0])) [] := by
  refine Good.w tabOk mixed Try.func95 (N := 5) (by kernel_rfl) rfl (by (repeat (first | exact LE.nil | apply LE.cons)); done) (by (repeat (first | exact LE.nil | apply LE.cons)); done) fun D hD F => ?_
  repeat' (first
    | apply AO.nil
    | (apply AO.kAdd; refine AO.sAdd (h := ?_))
    | (apply AO.kP; first | refine AO.sP (h := ?_) | refine AO.sPi (h := ?_))
    | apply AW.seq
    | (apply AW.kR; refine AW.sR (h := ?_))
    | apply AW.skip
    | apply AW.block
    | apply AW.out
    | (apply AW.kE; refine AW.sE (h := ?_))
    | apply AW.label)
  all_goals (refine AW.ret (hD rfl ?_); (repeat' (first | apply Lx.s | apply Lx.b | apply Lx.i | apply LxL.cons | exact LxL.nil | apply Lx.tup | apply Lx.agg | apply Lx.refl)) <;> (try with_reducible rfl))

theorem gSucc (p : L) (hlen : p.length ≤ 137438953472) : Good Try.prog 122 [.s p] [] (.tup [.s (succS p), .b (succOk p)]) [] := by
  refine Good.w tabOk mixed Try.func122 (N := 34) (by kernel_rfl) rfl (by (repeat (first | exact LE.nil | apply LE.cons)); done) (by (repeat (first | exact LE.nil | apply LE.cons)); done) fun D hD F => ?_
  repeat' (first
    | apply AO.nil
    | (apply AO.kIx; first | refine AO.sIxN (h := ?_) | refine AO.sIx (h := ?_) | refine AO.sP (h := ?_) | refine AO.sPi (h := ?_))
    | (apply AO.kSl; first | refine AO.sSl (h := ?_) | refine AO.sSlArr (h := ?_) | refine AO.sP (h := ?_))
    | (apply AO.kStore; first | refine AO.sStore (h := ?_) | refine AO.sStB (h := ?_))
    | (apply AO.kAdd; refine AO.sAdd (h := ?_))
    | (apply AO.kSub; refine AO.sSub (h := ?_))
    | (apply AO.kCv; first | refine AO.sBytes (h := ?_) | refine AO.sStr (h := ?_) | refine AO.sStrR (h := ?_))
    | (apply AO.kP; first | refine AO.sP (h := ?_) | refine AO.sPi (h := ?_) | refine AO.sLoadB (h := ?_))
    | apply AW.seq
    | (apply AW.kR; refine AW.sR (h := ?_))
    | apply AW.skip
    | apply AW.block
    | apply AW.out
    | (apply AW.kE; refine AW.sE (h := ?_))
    | apply AW.label
    | ((first | (apply AO.kG; first | refine AO.sgt (h1 := fun h => ?_) (h2 := fun h => ?_) | refine AO.sgf (h1 := fun h => ?_) (h2 := fun h => ?_) | refine AO.sgs (h := ?_)) | (apply AW.kC; refine AW.sC (h1 := fun h => ?_) (h2 := fun h => ?_))) <;> (try (first | exact Bool.noConfusion h | exact absurd h (by decide) | (simp at h; done) | (rw [h]; try simp only [nrm] at h; try rw [h]; try (exfalso; omega)) | skip))))
  refine AW.loopI (fun n : Nat => n ≤ p.length ∧ core (p.take n) = core p) (fun n => ⟨[(0, .s p), (4, .i .i64 n)], []⟩) (fun n => n) p.length (by simp) (by (constructor <;> (repeat' (first | exact LeT.nil | exact LeB.nil | apply LeT.cons | apply LeB.cons | exact Ol.refl | apply Lx.s | apply Lx.b | apply Lx.i | exact Lx.refl)) <;> (first | rfl | assumption | omega | (simp only [List.length_map, BS_len]; done) | skip))) fun m n ⟨hn, hc⟩ ih => ?_
  repeat' (first
    | apply AO.nil
    | (apply AO.kIx; first | refine AO.sIxN (h := ?_) | refine AO.sIx (h := ?_) | refine AO.sP (h := ?_) | refine AO.sPi (h := ?_))
    | (apply AO.kSl; first | refine AO.sSl (h := ?_) | refine AO.sSlArr (h := ?_) | refine AO.sP (h := ?_))
    | (apply AO.kStore; first | refine AO.sStore (h := ?_) | refine AO.sStB (h := ?_))
    | (apply AO.kAdd; refine AO.sAdd (h := ?_))
    | (apply AO.kSub; refine AO.sSub (h := ?_))
    | (apply AO.kCv; first | refine AO.sBytes (h := ?_) | refine AO.sStr (h := ?_) | refine AO.sStrR (h := ?_))
    | (apply AO.kP; first | refine AO.sP (h := ?_) | refine AO.sPi (h := ?_) | refine AO.sLoadB (h := ?_))
    | apply AW.seq
    | (apply AW.kR; refine AW.sR (h := ?_))
    | apply AW.skip
    | apply AW.block
    | apply AW.out
    | (apply AW.kE; refine AW.sE (h := ?_))
    | apply AW.label
    | ((first | (apply AO.kG; first | refine AO.sgt (h1 := fun h => ?_) (h2 := fun h => ?_) | refine AO.sgf (h1 := fun h => ?_) (h2 := fun h => ?_) | refine AO.sgs (h := ?_)) | (apply AW.kC; refine AW.sC (h1 := fun h => ?_) (h2 := fun h => ?_))) <;> (try (first | exact Bool.noConfusion h | exact absurd h (by decide) | (simp at h; done) | (rw [h]; try simp only [nrm] at h; try rw [h]; try (exfalso; omega)) | skip))))
  all_goals (try (exfalso; omega))
  · rename_i h1 _ _ _ _
    have e : ((n : Int) - 1).toNat = n - 1 := by omega
    rw [e] at h
    exact ih (n - 1) _ ⟨by omega, by rw [← succ_less hn (by omega) h]; exact hc⟩ (by omega) (by (constructor <;> (repeat' (first | exact LeT.nil | exact LeB.nil | apply LeT.cons | apply LeB.cons | exact Ol.refl | apply Lx.s | apply Lx.b | apply Lx.i | exact Lx.refl)) <;> (first | rfl | assumption | omega | (simp only [List.length_map, BS_len]; done) | skip)))
  · rename_i h2 _ h3 _
    have e : ((n : Int) - 1).toNat = n - 1 := by omega
    have h4 : ¬ ((p.getD (n - 1) 0).toNat : Int) = 255 := by rw [← e]; assumption
    have hs := succ_set hn (by omega) (hc.symm.trans (succ_last hn (by omega) h4))
    refine AW.ret (hD rfl (Lx.tup (.cons (Lx.s ?_) (.cons (Lx.b hs.2.symm) .nil))))
    rw [hs.1, u8_succ]
    simp [e]
    exact List.take_of_length_le (by simp)
  · have : n = 0 := by omega
    subst this
    have h5 : core p = [] := by rw [← hc]; rfl
    refine AW.ret (hD rfl (Lx.tup (.cons (Lx.s ?_) (.cons (Lx.b ?_) .nil))))
    · simp [succS, h5]
    · simp [succOk, h5]

theorem gIn (lo hi : L) (e : Bool) (k : L) : Good Try.prog 124 [.agg [.s lo, .s hi, .b e], .s k] [] (.b (inR lo hi e k)) [] := by
  refine Good.w tabOk mixed Try.func124 (N := 20) (by kernel_rfl) rfl (by (repeat (first | exact LE.nil | apply LE.cons)); done) (by (repeat (first | exact LE.nil | apply LE.cons)); done) fun D hD F => ?_
  repeat' (first
    | apply AO.nil
    | (apply AO.kBox; refine AO.sBox (h := ?_))
    | (apply AO.kP; first | refine AO.sP (h := ?_) | refine AO.sPi (h := ?_) | refine AO.sLoadB (h := ?_))
    | apply AW.seq
    | (apply AW.kR; refine AW.sR (h := ?_))
    | apply AW.skip
    | apply AW.block
    | apply AW.out
    | (apply AW.kE; refine AW.sE (h := ?_))
    | apply AW.label
    | ((first | (apply AO.kG; first | refine AO.sgt (h1 := fun h => ?_) (h2 := fun h => ?_) | refine AO.sgf (h1 := fun h => ?_) (h2 := fun h => ?_) | refine AO.sgs (h := ?_))) <;> (try (first | exact Bool.noConfusion h | exact absurd h (by decide) | (simp at h; done) | (rw [h]; try simp only [nrm] at h; try rw [h]; try (exfalso; omega)) | skip))))
  all_goals (refine AW.ret (hD rfl ?_); (repeat' (first | apply Lx.s | apply Lx.b | apply Lx.i | apply LxL.cons | exact LxL.nil | apply Lx.tup | apply Lx.agg | apply Lx.refl)) <;> (try with_reducible rfl))
  all_goals simp_all [inR, lt, blt]
theorem gIn' (lo hi : L) (e : Bool) (k : L) : Good Try.prog 29 [.agg [.s lo, .s hi, .b e], .s k] [] (.b (inR lo hi e k)) [] := by
  refine Good.w tabOk mixed Try.func29 (N := 18) (by kernel_rfl) rfl (by (repeat (first | exact LE.nil | apply LE.cons)); done) (by (repeat (first | exact LE.nil | apply LE.cons)); done) fun D hD F => ?_
  repeat' (first
    | apply AO.nil
    | (apply AO.kBox; refine AO.sBox (h := ?_))
    | (apply AO.kP; first | refine AO.sP (h := ?_) | refine AO.sPi (h := ?_) | refine AO.sLoadB (h := ?_))
    | apply AW.seq
    | (apply AW.kR; refine AW.sR (h := ?_))
    | apply AW.skip
    | apply AW.block
    | apply AW.out
    | (apply AW.kE; refine AW.sE (h := ?_))
    | apply AW.label
    | ((first | (apply AO.kG; first | refine AO.sgt (h1 := fun h => ?_) (h2 := fun h => ?_) | refine AO.sgf (h1 := fun h => ?_) (h2 := fun h => ?_) | refine AO.sgs (h := ?_)) | (apply AW.kC; refine AW.sC (h1 := fun h => ?_) (h2 := fun h => ?_))) <;> (try (first | exact Bool.noConfusion h | exact absurd h (by decide) | (simp at h; done) | (rw [h]; try simp only [nrm] at h; try rw [h]; try (exfalso; omega)) | skip))))
  all_goals (refine AW.ret (hD rfl ?_); (repeat' (first | apply Lx.s | apply Lx.b | apply Lx.i | apply LxL.cons | exact LxL.nil | apply Lx.tup | apply Lx.agg | apply Lx.refl)) <;> (try with_reducible rfl))
  all_goals simp_all [inR, lt, blt]
theorem gEmpty (lo hi : L) (e : Bool) : Good Try.prog 45 [.agg [.s lo, .s hi, .b e]] [] (.b (emR lo hi e)) [] := by
  refine Good.w tabOk mixed Try.func45 (N := 12) (by kernel_rfl) rfl (by (repeat (first | exact LE.nil | apply LE.cons)); done) (by (repeat (first | exact LE.nil | apply LE.cons)); done) fun D hD F => ?_
  repeat' (first
    | apply AO.nil
    | (apply AO.kBox; refine AO.sBox (h := ?_))
    | (apply AO.kP; first | refine AO.sP (h := ?_) | refine AO.sPi (h := ?_) | refine AO.sLoadB (h := ?_))
    | apply AW.seq
    | (apply AW.kR; refine AW.sR (h := ?_))
    | apply AW.skip
    | apply AW.block
    | apply AW.out
    | (apply AW.kE; refine AW.sE (h := ?_))
    | apply AW.label
    | ((first | (apply AO.kG; first | refine AO.sgt (h1 := fun h => ?_) (h2 := fun h => ?_) | refine AO.sgf (h1 := fun h => ?_) (h2 := fun h => ?_) | refine AO.sgs (h := ?_))) <;> (try (first | exact Bool.noConfusion h | exact absurd h (by decide) | (simp at h; done) | (rw [h]; try simp only [nrm] at h; try rw [h]; try (exfalso; omega)) | skip))))
  all_goals (refine AW.ret (hD rfl ?_); (repeat' (first | apply Lx.s | apply Lx.b | apply Lx.i | apply LxL.cons | exact LxL.nil | apply Lx.tup | apply Lx.agg | apply Lx.refl)) <;> (try with_reducible rfl))
  all_goals simp_all [emR, blt, le_iff]
theorem gEmpty' (lo hi : L) (e : Bool) : Good Try.prog 98 [.agg [.s lo, .s hi, .b e]] [] (.b (emR lo hi e)) [] := by
  refine Good.w tabOk mixed Try.func98 (N := 8) (by kernel_rfl) rfl (by (repeat (first | exact LE.nil | apply LE.cons)); done) (by (repeat (first | exact LE.nil | apply LE.cons)); done) fun D hD F => ?_
  repeat' (first
    | apply AO.nil
    | (apply AO.kCall 29; refine AO.sCall (hg := (gIn' _ _ _ _)) (h := ?_))
    | (apply AO.kBox; refine AO.sBox (h := ?_))
    | (apply AO.kP; first | refine AO.sP (h := ?_) | refine AO.sPi (h := ?_) | refine AO.sLoadB (h := ?_))
    | apply AW.seq
    | (apply AW.kR; refine AW.sR (h := ?_))
    | apply AW.skip
    | apply AW.block
    | apply AW.out
    | (apply AW.kE; refine AW.sE (h := ?_))
    | apply AW.label)
  all_goals (refine AW.ret (hD rfl ?_); (repeat' (first | apply Lx.s | apply Lx.b | apply Lx.i | apply LxL.cons | exact LxL.nil | apply Lx.tup | apply Lx.agg | apply Lx.refl)) <;> (try with_reducible rfl))
  all_goals simp_all [emR, inR, lt_irrefl]
theorem gOf (p : L) (h : p.length ≤ 137438953472) : Good Try.prog 96 [.s p] [] (.agg [.s p, .s (succS p), .b (succOk p)]) [] := by
  refine Good.w tabOk mixed Try.func96 (N := 14) (by kernel_rfl) rfl (by (repeat (first | exact LE.nil | apply LE.cons)); done) (by (repeat (first | exact LE.nil | apply LE.cons)); done) fun D hD F => ?_
  repeat' (first
    | apply AO.nil
    | (apply AO.kCall 122; refine AO.sCall (hg := (gSucc _ sd)) (h := ?_))
    | (apply AO.kAlloc; refine AO.sAlloc (h := ?_))
    | (apply AO.kStore; first | refine AO.sStore (h := ?_) | refine AO.sStB (h := ?_))
    | (apply AO.kP; first | refine AO.sP (h := ?_) | refine AO.sPi (h := ?_))
    | apply AW.seq
    | (apply AW.kR; refine AW.sR (h := ?_))
    | apply AW.skip
    | apply AW.block
    | apply AW.out
    | (apply AW.kE; refine AW.sE (h := ?_))
    | apply AW.label)
  all_goals (refine AW.ret (hD rfl ?_); (repeat' (first | apply Lx.s | apply Lx.b | apply Lx.i | apply LxL.cons | exact LxL.nil | apply Lx.tup | apply Lx.agg | apply Lx.refl)) <;> (try with_reducible rfl))
theorem gNone : Good Try.prog 97 [] [] (.agg [.s [], .s [], .b true]) [] := by
  refine Good.w tabOk mixed Try.func97 (N := 2) (by kernel_rfl) rfl (by (repeat (first | exact LE.nil | apply LE.cons)); done) (by (repeat (first | exact LE.nil | apply LE.cons)); done) fun D hD F => ?_
  repeat' (first
    | apply AO.nil
    | (apply AO.kAlloc; refine AO.sAlloc (h := ?_))
    | (apply AO.kStore; first | refine AO.sStore (h := ?_) | refine AO.sStB (h := ?_))
    | (apply AO.kP; first | refine AO.sP (h := ?_) | refine AO.sPi (h := ?_))
    | apply AW.seq
    | (apply AW.kR; refine AW.sR (h := ?_))
    | apply AW.skip
    | apply AW.block
    | apply AW.out
    | (apply AW.kE; refine AW.sE (h := ?_))
    | apply AW.label)
  all_goals (refine AW.ret (hD rfl ?_); (repeat' (first | apply Lx.s | apply Lx.b | apply Lx.i | apply LxL.cons | exact LxL.nil | apply Lx.tup | apply Lx.agg | apply Lx.refl)) <;> (try with_reducible rfl))
theorem gCut (l1 h1 : L) (e1 : Bool) (l2 h2 : L) (e2 : Bool) : Good Try.prog 46 [.agg [.s l1, .s h1, .b e1], .agg [.s l2, .s h2, .b e2]] []
    (.agg [.s (if cutEm l1 h1 e1 l2 h2 e2 = true then [] else mxS l1 l2), .s (if cutEm l1 h1 e1 l2 h2 e2 = true then [] else cutHi l1 h1 e1 l2 h2 e2), .b (if cutEm l1 h1 e1 l2 h2 e2 = true then true else e1 || e2)]) [] := by
  refine Good.w tabOk mixed Try.func46 (N := 47) (by kernel_rfl) rfl (by (repeat (first | exact LE.nil | apply LE.cons)); done) (by (repeat (first | exact LE.nil | apply LE.cons)); done) fun D hD F => ?_
  repeat' (first
    | apply AO.nil
    | (apply AO.kCall 45; refine AO.sCall (hg := (gEmpty _ _ _)) (h := ?_))
    | (apply AO.kCall 97; refine AO.sCall (hg := gNone) (h := ?_))
    | (apply AO.kBox; refine AO.sBox (h := ?_))
    | (apply AO.kAlloc; refine AO.sAlloc (h := ?_))
    | (apply AO.kStore; first | refine AO.sStore (h := ?_) | refine AO.sStB (h := ?_))
    | (apply AO.kP; first | refine AO.sP (h := ?_) | refine AO.sPi (h := ?_) | refine AO.sLoadB (h := ?_))
    | apply AW.seq
    | (apply AW.kR; refine AW.sR (h := ?_))
    | apply AW.skip
    | apply AW.block
    | apply AW.out
    | (apply AW.kE; refine AW.sE (h := ?_))
    | apply AW.label
    | ((first | (apply AO.kG; first | refine AO.sgt (h1 := fun h => ?_) (h2 := fun h => ?_) | refine AO.sgf (h1 := fun h => ?_) (h2 := fun h => ?_) | refine AO.sgs (h := ?_)) | (apply AW.kC; refine AW.sC (h1 := fun h => ?_) (h2 := fun h => ?_))) <;> (try (first | exact Bool.noConfusion h | exact absurd h (by decide) | (simp at h; done) | (rw [h]; try simp only [nrm] at h; try rw [h]; try (exfalso; omega)) | skip))))
  all_goals (refine AW.ret (hD rfl ?_); (repeat' (first | apply Lx.s | apply Lx.b | apply Lx.i | apply LxL.cons | exact LxL.nil | apply Lx.tup | apply Lx.agg | apply Lx.refl)) <;> (try with_reducible rfl))
  all_goals (rcases Bool.eq_false_or_eq_true (Op.bytesLess l1 l2) with h9 | h9 <;> rcases Bool.eq_false_or_eq_true (Op.bytesLess h2 h1) with h8 | h8 <;> simp_all [cutEm, mxS, mnS, cutHi, blt, le_iff, lt])
theorem gCutS (l1 h1 : L) (e1 : Bool) (l2 h2 : L) (e2 : Bool) : Good Try.prog 46 [.agg [.s l1, .s h1, .b e1], .agg [.s l2, .s h2, .b e2]] []
    (.agg [.s (cS l1 h1 e1 l2 h2 e2).1, .s (cS l1 h1 e1 l2 h2 e2).2.1, .b (cS l1 h1 e1 l2 h2 e2).2.2]) [] := by
  have := gCut l1 h1 e1 l2 h2 e2
  cases h : cutEm l1 h1 e1 l2 h2 e2 <;> simpa [cS, h] using this
theorem gSucc' (p : L) (hlen : p.length ≤ 137438953470) : Good Try.prog 49 [.s p] [] (.tup [.s (succS p), .b (succOk p)]) [] := by
  have key : ∀ n (p : L), p.length = n → n ≤ 137438953470 → Good Try.prog 49 [.s p] [] (.tup [.s (succS p), .b (succOk p)]) [] := by
    intro n
    induction n with
    | zero =>
      intro p hp _
      obtain rfl := List.eq_nil_of_length_eq_zero hp
      refine Good.w tabOk mixed Try.func49 (N := 35) (by kernel_rfl) rfl (by (repeat (first | exact LE.nil | apply LE.cons)); done) (by (repeat (first | exact LE.nil | apply LE.cons)); done) fun D hD F => ?_
      repeat' (first
    | apply AO.nil
    | (apply AO.kBuildS; first | refine AO.sBuildT (h := ?_) | refine AO.sBuildS (h := ?_))
    | (apply AO.kApp; first | refine AO.sGrowT (h := ?_) | refine AO.sNewT (h := ?_) | refine AO.sGrowBT (h := ?_) | refine AO.sGrow (h := ?_) | refine AO.sNewr (h := ?_))
    | (apply AO.kSl; first | refine AO.sSl (h := ?_) | refine AO.sSlArr (h := ?_) | refine AO.sP (h := ?_))
    | (apply AO.kAdd; refine AO.sAdd (h := ?_))
    | (apply AO.kSub; refine AO.sSub (h := ?_))
    | (apply AO.kCv; first | refine AO.sBytes (h := ?_) | refine AO.sStr (h := ?_) | refine AO.sStrR (h := ?_))
    | (apply AO.kP; first | refine AO.sP (h := ?_) | refine AO.sPi (h := ?_) | refine AO.sSameB (h := ?_))
    | apply AW.seq
    | (apply AW.kR; refine AW.sR (h := ?_))
    | apply AW.skip
    | apply AW.block
    | apply AW.out
    | (apply AW.kE; refine AW.sE (h := ?_))
    | apply AW.label
    | ((first | (apply AW.kC; refine AW.sC (h1 := fun h => ?_) (h2 := fun h => ?_))) <;> (try (first | exact Bool.noConfusion h | exact absurd h (by decide) | (simp at h; done) | (rw [h]; try simp only [nrm] at h; try rw [h]; try (exfalso; omega)) | skip))))
      (refine AW.ret (hD rfl ?_); (repeat' (first | apply Lx.s | apply Lx.b | apply Lx.i | apply LxL.cons | exact LxL.nil | apply Lx.tup | apply Lx.agg | apply Lx.refl)) <;> (try with_reducible rfl))
      · rfl
      · rfl
    | succ n ih =>
      intro p hp hn
      refine Good.w tabOk mixed Try.func49 (N := 35) (by kernel_rfl) rfl (by (repeat (first | exact LE.nil | apply LE.cons)); done) (by (repeat (first | exact LE.nil | apply LE.cons)); done) fun D hD F => ?_
      repeat' (first
    | apply AO.nil
    | (apply AO.kCall 49; refine AO.sCall (hg := (ih _ sd sd)) (h := ?_))
    | (apply AO.kBuildS; first | refine AO.sBuildT (h := ?_) | refine AO.sBuildS (h := ?_))
    | (apply AO.kApp; first | refine AO.sGrowT (h := ?_) | refine AO.sNewT (h := ?_) | refine AO.sGrowBT (h := ?_) | refine AO.sGrow (h := ?_) | refine AO.sNewr (h := ?_))
    | (apply AO.kSl; first | refine AO.sSl (h := ?_) | refine AO.sSlArr (h := ?_) | refine AO.sP (h := ?_))
    | (apply AO.kAdd; refine AO.sAdd (h := ?_))
    | (apply AO.kSub; refine AO.sSub (h := ?_))
    | (apply AO.kCv; first | refine AO.sBytes (h := ?_) | refine AO.sStr (h := ?_) | refine AO.sStrR (h := ?_))
    | (apply AO.kP; first | refine AO.sP (h := ?_) | refine AO.sPi (h := ?_) | refine AO.sSameB (h := ?_))
    | apply AW.seq
    | (apply AW.kR; refine AW.sR (h := ?_))
    | apply AW.skip
    | apply AW.block
    | apply AW.out
    | (apply AW.kE; refine AW.sE (h := ?_))
    | apply AW.label
    | ((first | (apply AW.kC; refine AW.sC (h1 := fun h => ?_) (h2 := fun h => ?_))) <;> (try (first | exact Bool.noConfusion h | exact absurd h (by decide) | (simp at h; done) | (rw [h]; try simp only [nrm] at h; try rw [h]; try (exfalso; omega)) | skip))))
      · exfalso; subst h; simp at hp
      · have e : (((p.length : Nat) : Int) - 1).toNat = p.length - 1 := by omega
        (refine AW.ret (hD rfl ?_); (repeat' (first | apply Lx.s | apply Lx.b | apply Lx.i | apply LxL.cons | exact LxL.nil | apply Lx.tup | apply Lx.agg | apply Lx.refl)) <;> (try with_reducible rfl))
        all_goals (have h9 := h; rw [e] at h9; try rw [e])
        all_goals (have hc := succ_split (p := p) (by omega))
        all_goals (obtain ⟨q, c, hq, h1, h2⟩ := hc; rw [h2] at h9; (try rw [h1]); (try rw [h2]); subst hq)
        all_goals (have h3 := (succ_snoc q c).1 (UInt8.toNat_inj.1 (by have : (255 : UInt8).toNat = 255 := rfl; omega)))
        · exact h3.1.symm
        · exact h3.2.symm
      · have e : (((p.length : Nat) : Int) - 1).toNat = p.length - 1 := by omega
        (refine AW.ret (hD rfl ?_); (repeat' (first | apply Lx.s | apply Lx.b | apply Lx.i | apply LxL.cons | exact LxL.nil | apply Lx.tup | apply Lx.agg | apply Lx.refl)) <;> (try with_reducible rfl))
        all_goals (have h9 := h; rw [e] at h9; try rw [e])
        all_goals (have hc := succ_split (p := p) (by omega))
        all_goals (obtain ⟨q, c, hq, h1, h2⟩ := hc; rw [h2] at h9; (try rw [h1]); (try rw [h2]); subst hq)
        all_goals (have h3 := (succ_snoc q c).2 (fun e => h9 (by subst e; rfl)))
        · rw [h3.1, u8_succ]; rfl
        · exact h3.2.symm
  exact key _ p rfl hlen
theorem gOf' (p : L) (h : p.length ≤ 137438953470) : Good Try.prog 99 [.s p] [] (.agg [.s p, .s (succS p), .b (succOk p)]) [] := by
  refine Good.w tabOk mixed Try.func99 (N := 14) (by kernel_rfl) rfl (by (repeat (first | exact LE.nil | apply LE.cons)); done) (by (repeat (first | exact LE.nil | apply LE.cons)); done) fun D hD F => ?_
  repeat' (first
    | apply AO.nil
    | (apply AO.kCall 49; refine AO.sCall (hg := (gSucc' _ sd)) (h := ?_))
    | (apply AO.kAlloc; refine AO.sAlloc (h := ?_))
    | (apply AO.kStore; first | refine AO.sStore (h := ?_) | refine AO.sStB (h := ?_))
    | (apply AO.kP; first | refine AO.sP (h := ?_) | refine AO.sPi (h := ?_))
    | apply AW.seq
    | (apply AW.kR; refine AW.sR (h := ?_))
    | apply AW.skip
    | apply AW.block
    | apply AW.out
    | (apply AW.kE; refine AW.sE (h := ?_))
    | apply AW.label)
  all_goals (refine AW.ret (hD rfl ?_); (repeat' (first | apply Lx.s | apply Lx.b | apply Lx.i | apply LxL.cons | exact LxL.nil | apply Lx.tup | apply Lx.agg | apply Lx.refl)) <;> (try with_reducible rfl))
theorem gInside (l1 h1 : L) (e1 : Bool) (l2 h2 : L) (e2 : Bool) : Good Try.prog 50 [.agg [.s l1, .s h1, .b e1], .agg [.s l2, .s h2, .b e2]] [] (.b (insS l1 h1 e1 l2 h2 e2)) [] := by
  refine Good.w tabOk mixed Try.func50 (N := 28) (by kernel_rfl) rfl (by (repeat (first | exact LE.nil | apply LE.cons)); done) (by (repeat (first | exact LE.nil | apply LE.cons)); done) fun D hD F => ?_
  repeat' (first
    | apply AO.nil
    | (apply AO.kCall 98; refine AO.sCall (hg := (gEmpty' _ _ _)) (h := ?_))
    | (apply AO.kBox; refine AO.sBox (h := ?_))
    | (apply AO.kP; first | refine AO.sP (h := ?_) | refine AO.sPi (h := ?_) | refine AO.sLoadB (h := ?_))
    | apply AW.seq
    | (apply AW.kR; refine AW.sR (h := ?_))
    | apply AW.skip
    | apply AW.block
    | apply AW.out
    | (apply AW.kE; refine AW.sE (h := ?_))
    | apply AW.label
    | ((first | (apply AO.kG; first | refine AO.sgt (h1 := fun h => ?_) (h2 := fun h => ?_) | refine AO.sgf (h1 := fun h => ?_) (h2 := fun h => ?_) | refine AO.sgs (h := ?_)) | (apply AW.kC; refine AW.sC (h1 := fun h => ?_) (h2 := fun h => ?_))) <;> (try (first | exact Bool.noConfusion h | exact absurd h (by decide) | (simp at h; done) | (rw [h]; try simp only [nrm] at h; try rw [h]; try (exfalso; omega)) | skip))))
  all_goals (refine AW.ret (hD rfl ?_); (repeat' (first | apply Lx.s | apply Lx.b | apply Lx.i | apply LxL.cons | exact LxL.nil | apply Lx.tup | apply Lx.agg | apply Lx.refl)) <;> (try with_reducible rfl))
  all_goals simp_all [insS, blt, le_iff, lt]
theorem gUp' (s a k : L) (h1 : a.length + k.length ≤ 137438953472) : Good Try.prog 127 [.agg [.s s, .s a], .s k] [] (.tup [.s (upS s a k), .b (hp k s)]) [] := by
  have h2 := @hp_len k s
  refine Good.w tabOk mixed Try.func127 (N := 19) (by kernel_rfl) rfl (by (repeat (first | exact LE.nil | apply LE.cons)); done) (by (repeat (first | exact LE.nil | apply LE.cons)); done) fun D hD F => ?_
  repeat' (first
    | apply AO.nil
    | (apply AO.kCall 132; refine AO.sCall (hg := (gHas' _ _)) (h := ?_))
    | (apply AO.kSl; first | refine AO.sSl (hq := by first | decide | omega | assumption | (simp only [List.length_drop]; omega) | (have q := h2 ‹_›; (try refine ⟨?_, ?_⟩) <;> omega)) (h := ?_) | refine AO.sSlArr (h := ?_) | refine AO.sP (h := ?_))
    | (apply AO.kBox; refine AO.sBox (h := ?_))
    | (apply AO.kAdd; refine AO.sAdd (hr := by first | decide | omega | assumption | (simp only [List.length_drop]; omega) | (have q := h2 ‹_›; (try refine ⟨?_, ?_⟩) <;> omega)) (h := ?_))
    | (apply AO.kP; first | refine AO.sP (h := ?_) | refine AO.sPi (hq := by first | decide | omega | assumption | (simp only [List.length_drop]; omega) | (have q := h2 ‹_›; (try refine ⟨?_, ?_⟩) <;> omega)) (h := ?_) | refine AO.sLoadB (ho := by first | decide | omega | assumption | (simp only [List.length_drop]; omega) | (have q := h2 ‹_›; (try refine ⟨?_, ?_⟩) <;> omega)) (h := ?_))
    | apply AW.seq
    | (apply AW.kR; refine AW.sR (h := ?_))
    | apply AW.skip
    | apply AW.block
    | apply AW.out
    | (apply AW.kE; refine AW.sE (h := ?_))
    | apply AW.label
    | (apply AW.kRd; refine AW.sRd (h := ?_))
    | ((first | (apply AW.kC; refine AW.sC (h1 := fun h => ?_) (h2 := fun h => ?_))) <;> (try (first | exact Bool.noConfusion h | exact absurd h (by decide) | (simp at h; done) | (rw [h]; try simp only [nrm] at h; try rw [h]; try (exfalso; omega)) | skip)))
    | (apply AR.kAny; first | (apply AR.kCall 132; refine AR.sCall (hg := (gHas' _ _)) (h := ?_)) | (apply AR.kSl; first | refine AR.sSl (hq := by first | decide | omega | assumption | (simp only [List.length_drop]; omega) | (have q := h2 ‹_›; (try refine ⟨?_, ?_⟩) <;> omega)) (h := ?_) | refine AR.sSlArr (h := ?_) | refine AR.sP (h := ?_)) | (apply AR.kBox; refine AR.sBox (h := ?_)) | (apply AR.kAdd; refine AR.sAdd (hr := by first | decide | omega | assumption | (simp only [List.length_drop]; omega) | (have q := h2 ‹_›; (try refine ⟨?_, ?_⟩) <;> omega)) (h := ?_)) | (apply AR.kP; first | refine AR.sP (h := ?_) | refine AR.sPi (hq := by first | decide | omega | assumption | (simp only [List.length_drop]; omega) | (have q := h2 ‹_›; (try refine ⟨?_, ?_⟩) <;> omega)) (h := ?_)))
    | (apply AR.kNil; refine AR.sNil (h := ?_)))
  all_goals (refine AW.ret (hD rfl ?_); (repeat' (first | apply Lx.s | apply Lx.b | apply Lx.i | apply LxL.cons | exact LxL.nil | apply Lx.tup | apply Lx.agg | apply Lx.refl)) <;> (try with_reducible rfl))
  all_goals simp_all [upS]
end Go.Proofs.Ytmfonbehcfjjgaa.Mv

/- Nodes: what they are made of, and whether one may be. Under no condition. -/
namespace Go.Proofs.Ytmfonbehcfjjgaa.Mv
open Go Go.Proofs
set_option linter.unusedSimpArgs false
set_option linter.unusedVariables false
set_option maxRecDepth 10000
set_option maxHeartbeats 4000000

abbrev W16 := BitVec 16
abbrev B32 := BitVec 32
/-- A pair, a kid, a message, a node. -/
structure Pr where
  k : L
  v : L
  deriving DecidableEq, Inhabited
structure Ed where
  block : B32
  deep : W16
  strip : L
  add : L
  deriving DecidableEq, Inhabited
structure Ms where
  kind : UInt8
  key : L
  val : L
  block : B32
  deep : W16
  add : L
  deriving DecidableEq, Inhabited
structure Nd where
  leaf : Bool
  pairs : List Pr
  pivots : List L
  kids : List Ed
  buf : List Ms
  deriving DecidableEq, Inhabited
def Pr.av (p : Pr) : List AV := [.s p.k, .s p.v]
def Ed.av (e : Ed) : List AV := [.i .u32 (e.block.toNat : Int), .i .u16 (e.deep.toNat : Int), .s e.strip, .s e.add]
def Ms.av (m : Ms) : List AV := [.i .u8 (m.kind.toNat : Int), .s m.key, .s m.val, .i .u32 (m.block.toNat : Int), .i .u16 (m.deep.toNat : Int), .s m.add]
def sav (p : L) : List AV := [.s p]
def Nd.av (n : Nd) : List AV := [.b n.leaf, .sh 2 (n.pairs.map Pr.av), .sh 1 (n.pivots.map sav), .sh 4 (n.kids.map Ed.av), .sh 6 (n.buf.map Ms.av)]
/-- No lists that a machine could not hold. -/
structure Nd.small (n : Nd) : Prop where
  pairs : n.pairs.length ≤ 1000000
  pivots : n.pivots.length ≤ 1000000
  kids : n.kids.length ≤ 1000000
  buf : n.buf.length ≤ 1000000

/-- Lists that a machine can hold. -/
structure Nd.fits (n : Nd) : Prop where
  pairs : n.pairs.length ≤ 9223372036854775807
  pivots : n.pivots.length ≤ 9223372036854775807
  kids : n.kids.length ≤ 9223372036854775807
  buf : n.buf.length ≤ 9223372036854775807

theorem dropD {α : Type} [Inhabited α] {b : List α} {n : Nat} (h : n < b.length) : b.drop n = b.getD n default :: b.drop (n + 1) := by
  rw [List.getD_eq_getElem?_getD, List.getElem?_eq_getElem h, Option.getD_some, ← List.drop_eq_getElem_cons h]
theorem takeD {α : Type} [Inhabited α] {b : List α} {n : Nat} (h : n < b.length) : b.take (n + 1) = b.take n ++ [b.getD n default] := by
  rw [List.take_add_one, List.getD_eq_getElem?_getD, List.getElem?_eq_getElem h]; rfl
theorem getD_map {α β : Type} [Inhabited α] [Inhabited β] (f : α → β) {l : List α} {n : Nat} (h : n < l.length) : (l.map f).getD n default = f (l.getD n default) := by
  rw [List.getD_eq_getElem?_getD, List.getD_eq_getElem?_getD, List.getElem?_map, List.getElem?_eq_getElem h]; rfl

/-! ### may it be? -/
def msMay (m : Ms) : Bool :=
  decide (m.key.length ≤ 16) && (
    if m.kind = 1 then decide (m.val.length ≤ 32) && (m.block == 0) && (m.deep == 0) && (m.add == [])
    else if m.kind = 2 then (m.val == []) && (m.block == 0) && (m.deep == 0) && (m.add == [])
    else if m.kind = 3 then decide (m.add.length ≤ 16) && decide (1 ≤ m.deep.toNat) && (m.val == [])
    else false)
/-- Keys that rise. -/
def rise : List L → Bool
  | a :: b :: r => lt a b && rise (b :: r)
  | _ => true
def prLen (p : Pr) : Bool := decide (p.k.length ≤ 16) && decide (p.v.length ≤ 32)
def edOk (e : Ed) : Bool := !(e.deep == 0) && decide (e.strip.length ≤ 16) && decide (e.add.length ≤ 16)
def leafOk (n : Nd) : Bool := n.pivots.isEmpty && n.kids.isEmpty && n.buf.isEmpty && rise (n.pairs.map Pr.k) && n.pairs.all prLen
def innerOk (n : Nd) : Bool := n.pairs.isEmpty && !n.kids.isEmpty && decide (n.pivots.length + 1 = n.kids.length) && n.kids.all edOk && (rise ([] :: n.pivots) && n.pivots.all fun p => decide (p.length ≤ 16)) && n.buf.all msMay
/-- The error's number. -/
def mayN (n : Nd) : Nat :=
  if 16 < n.pairs.length ∨ 8 < n.kids.length ∨ 16 < n.buf.length then 13
  else if n.leaf then (if leafOk n then 0 else 3) else (if innerOk n then 0 else 3)
def may (n : Nd) : Bool := mayN n == 0
theorem rise_cons (a b : L) (r : List L) : rise (a :: b :: r) = (lt a b && rise (b :: r)) := rfl
theorem rise_tail {a : L} {r : List L} (h : rise (a :: r) = true) : rise r = true := by
  cases r with
  | nil => rfl
  | cons b r => rw [rise_cons, Bool.and_eq_true] at h; exact h.2
/-- The rest of a list whose keys rise. -/
theorem rise_drop {ks : List L} {n : Nat} (h0 : 0 < n) (h : n < ks.length) : rise (ks.drop (n - 1)) = (lt (ks.getD (n - 1) default) (ks.getD n default) && rise (ks.drop n)) := by
  rw [dropD (by omega : n - 1 < ks.length), show n - 1 + 1 = n by omega, dropD h, rise_cons]

/-! ### numbers -/
theorem k_eq (a b : UInt8) : ((a.toNat : Int) = (b.toNat : Int)) = (a = b) := propext ⟨fun h => UInt8.toNat_inj.1 (by omega), fun h => by rw [h]⟩
theorem k1 (a : UInt8) : ((a.toNat : Int) = 1) = (a = 1) := k_eq a 1
theorem k2 (a : UInt8) : ((a.toNat : Int) = 2) = (a = 2) := k_eq a 2
theorem k3 (a : UInt8) : ((a.toNat : Int) = 3) = (a = 3) := k_eq a 3
theorem kb (a b : UInt8) : (((a.toNat : Int) == (b.toNat : Int)) : Bool) = (a == b) := by rw [Bool.eq_iff_iff]; simp only [beq_iff_eq, k_eq]
theorem bv_eq {w : Nat} (a b : BitVec w) : ((a.toNat : Int) = (b.toNat : Int)) = (a = b) := propext ⟨fun h => BitVec.eq_of_toNat_eq (by omega), fun h => by rw [h]⟩
theorem bvb {w : Nat} (a b : BitVec w) : (((a.toNat : Int) == (b.toNat : Int)) : Bool) = (a == b) := by rw [Bool.eq_iff_iff]; simp only [beq_iff_eq, bv_eq]
theorem bv0 {w : Nat} (a : BitVec w) : ((a.toNat : Int) = 0) = (a = 0) := by
  have := bv_eq a 0
  simpa using this
theorem bvn0 {w : Nat} (a : BitVec w) : (a.toNat = 0) = (a = 0) := by
  have := bv0 a
  rw [← this]; exact propext ⟨fun h => by omega, fun h => by omega⟩
theorem bvb0 {w : Nat} (a : BitVec w) : (((a.toNat : Int) == 0) : Bool) = (a == 0) := by rw [Bool.eq_iff_iff]; simp only [beq_iff_eq, bv0]
theorem le_lit (a n : Nat) : ((a : Int) ≤ no_index (OfNat.ofNat n)) = (a ≤ OfNat.ofNat n) := propext ⟨fun h => Int.ofNat_le.1 h, fun h => Int.ofNat_le.2 h⟩
theorem lt_lit (a n : Nat) : ((a : Int) < no_index (OfNat.ofNat n)) = (a < OfNat.ofNat n) := propext ⟨fun h => Int.ofNat_lt.1 h, fun h => Int.ofNat_lt.2 h⟩
theorem lit_le (a n : Nat) : ((no_index (OfNat.ofNat n) : Int) ≤ (a : Int)) = (OfNat.ofNat n ≤ a) := propext ⟨fun h => Int.ofNat_le.1 h, fun h => Int.ofNat_le.2 h⟩
theorem lit_lt (a n : Nat) : ((no_index (OfNat.ofNat n) : Int) < (a : Int)) = (OfNat.ofNat n < a) := propext ⟨fun h => Int.ofNat_lt.1 h, fun h => Int.ofNat_lt.2 h⟩
theorem eq_lit (a n : Nat) : ((a : Int) = no_index (OfNat.ofNat n)) = (a = OfNat.ofNat n) := propext ⟨fun h => Int.ofNat_inj.1 h, fun h => Int.ofNat_inj.2 h⟩
theorem lenI (l : L) (n : Nat) : decide (((l.length : Nat) : Int) ≤ (n : Int)) = decide (l.length ≤ n) := by simp

/-! ### lists that are gone through -/
theorem all_step {α : Type} [Inhabited α] {l : List α} {p : α → Bool} {n : Nat} (h : n < l.length) (ha : (l.take n).all p = true) (hp : p (l.getD n default) = true) : (l.take (n + 1)).all p = true := by
  rw [takeD h, List.all_append, ha]; simp only [List.all_cons, List.all_nil, hp, Bool.and_true]
theorem all_fail {α : Type} [Inhabited α] {l : List α} {p : α → Bool} {n : Nat} (h : n < l.length) (hp : p (l.getD n default) = false) : l.all p = false := by
  have : l = l.take n ++ l.getD n default :: l.drop (n + 1) := by rw [← dropD h, List.take_append_drop]
  rw [this, List.all_append, List.all_cons, hp]; simp
theorem all_done {α : Type} {l : List α} {p : α → Bool} {n : Nat} (hn : l.length ≤ n) (ha : (l.take n).all p = true) : l.all p = true := by
  rwa [List.take_of_length_le hn] at ha

/-! ### more than is gone through -/
def prG (p : Pr) : Bool := !decide (100 < p.k.length) && !decide (100 < p.v.length)
def msG (m : Ms) : Bool := !decide (100 < m.key.length) && !decide (100 < m.val.length) && !decide (100 < m.add.length)
def edG (e : Ed) : Bool := !decide (100 < e.strip.length) && !decide (100 < e.add.length)
def svG (p : L) : Bool := !decide (100 < p.length)
def greatP (l : List Pr) : Bool := decide (60 < l.length) || !l.all prG
def greatM (l : List Ms) : Bool := decide (60 < l.length) || !l.all msG
def great (n : Nd) : Bool := decide (60 < n.pivots.length) || decide (60 < n.kids.length) || greatP n.pairs || greatM n.buf || !n.pivots.all svG || !n.kids.all edG

/-- The first place at which it holds. -/
def findI {α : Type} (p : α → Bool) : List α → Nat → Int
  | [], _ => -1
  | a :: l, i => if p a = true then (i : Int) else findI p l (i + 1)
theorem findI_none {α : Type} {p : α → Bool} {l : List α} {i : Nat} (h : l.all (fun a => !p a) = true) : findI p l i = -1 := by
  induction l generalizing i with
  | nil => rfl
  | cons a l ih =>
    simp only [List.all_cons, Bool.and_eq_true, Bool.not_eq_true'] at h
    simp only [findI, h.1, Bool.false_eq_true, if_false]
    exact ih h.2
theorem findI_at {α : Type} [Inhabited α] {p : α → Bool} {l : List α} {i n : Nat} (hn : n < l.length) (h : (l.take n).all (fun a => !p a) = true) (hp : p (l.getD n default) = true) : findI p l i = ((i + n : Nat) : Int) := by
  induction l generalizing i n with
  | nil => simp at hn
  | cons a l ih =>
    cases n with
    | zero =>
      have hp' : p a = true := by simpa using hp
      simp [findI, hp']
    | succ n =>
      simp only [List.take_succ_cons, List.all_cons, Bool.and_eq_true, Bool.not_eq_true'] at h
      simp only [findI, h.1, Bool.false_eq_true, if_false]
      rw [ih (by simpa using hn) h.2 (by simpa using hp)]
      omega
theorem findI_ge {α : Type} {p : α → Bool} {l : List α} {i : Nat} : decide (findI p l i ≥ 0) = !l.all (fun a => !p a) := by
  induction l generalizing i with
  | nil => simp [findI]
  | cons a l ih =>
    simp only [findI, List.all_cons]
    split
    · rename_i h
      simp [h]
    · rename_i h
      rw [ih]; simp [h]
theorem rise_next {ks : List L} {q : Nat} (h : q + 1 < ks.length) : rise (ks.drop q) = (lt (ks.getD q default) (ks.getD (q + 1) default) && rise (ks.drop (q + 1))) := by
  have := rise_drop (ks := ks) (n := q + 1) (by omega) h
  simpa only [Nat.add_sub_cancel] using this
theorem rise_end {ks : List L} {q : Nat} (h : ks.length ≤ q + 1) : rise (ks.drop q) = true := by
  have : (ks.drop q).length ≤ 1 := by rw [List.length_drop]; omega
  match hd : ks.drop q, this with
  | [], _ => rfl
  | [a], _ => rfl
theorem edOk_iff (e : Ed) : edOk e = (!(e.deep == 0) && decide (e.strip.length ≤ 16) && decide (e.add.length ≤ 16)) := rfl
theorem lt_nil_iff (p : L) : lt [] p = !(p == []) := by cases p <;> rfl
theorem cons_getD (a : L) (l : List L) {q : Nat} (h : 0 < q) : (a :: l).getD q default = l.getD (q - 1) default := by
  obtain ⟨k, rfl⟩ : ∃ k, q = k + 1 := ⟨q - 1, by omega⟩
  rfl
theorem great_small {n : Nd} (h : great n = false) : n.small := by
  simp only [great, greatP, greatM, Bool.or_eq_false_iff, decide_eq_false_iff_not] at h
  obtain ⟨⟨⟨⟨⟨h1, h2⟩, h3, _⟩, h4, _⟩, _⟩, _⟩ := h
  exact ⟨by omega, by omega, by omega, by omega⟩
end Go.Proofs.Ytmfonbehcfjjgaa.Mv

/- Nodes: what the small functions answer. Under no condition. -/
namespace Go.Proofs.Ytmfonbehcfjjgaa.Mv
open Go Go.Proofs
set_option linter.unusedSimpArgs false
set_option linter.unusedVariables false
set_option maxRecDepth 10000
set_option maxHeartbeats 4000000
attribute [local irreducible] AW AO AR

theorem gMsMay (m : Ms) : Good Try.prog 121 [.agg m.av] [] (.b (msMay m)) [] := by
  refine Good.w tabOk mixed Try.func121 (N := 47) (by kernel_rfl) rfl (by (repeat (first | exact LE.nil | apply LE.cons)); done) (by (repeat (first | exact LE.nil | apply LE.cons)); done) fun D hD F => ?_
  repeat' (first
    | apply AO.nil
    | (apply AO.kBox; refine AO.sBox (h := ?_))
    | (apply AO.kP; first | refine AO.sP (h := ?_) | refine AO.sPi (h := ?_) | refine AO.sLoadB (h := ?_))
    | apply AW.seq
    | (apply AW.kR; refine AW.sR (h := ?_))
    | apply AW.skip
    | apply AW.block
    | apply AW.out
    | (apply AW.kE; refine AW.sE (h := ?_))
    | apply AW.label
    | ((first | (apply AO.kG; first | refine AO.sgt (h1 := fun h => ?_) (h2 := fun h => ?_) | refine AO.sgf (h1 := fun h => ?_) (h2 := fun h => ?_) | refine AO.sgs (h := ?_)) | (apply AW.kC; refine AW.sC (h1 := fun h => ?_) (h2 := fun h => ?_))) <;> (try (first | exact Bool.noConfusion h | exact absurd h (by decide) | (simp at h; done) | (rw [h]; try simp only [nrm] at h; try rw [h]; try (exfalso; omega)) | skip))))
  all_goals (refine AW.ret (hD rfl ?_); (repeat' (first | apply Lx.s | apply Lx.b | apply Lx.i | apply LxL.cons | exact LxL.nil | apply Lx.tup | apply Lx.agg | apply Lx.refl)) <;> (try with_reducible rfl))
  all_goals simp only [le_lit, lt_lit, lit_le, lit_lt, k1, k2, k3, kb, bvb, bvb0, bv0, bvn0] at *
  all_goals simp_all [msMay, bv_eq, bvn0]
  all_goals (try (rw [Bool.eq_iff_iff]; simp_all [and_assoc, bvn0]))
  all_goals (try omega)
  all_goals (try (repeat' split))
  all_goals (try (intros; simp_all; done))
  all_goals (try (intros; intro e; have := congrArg List.length e; simp only [List.length_nil] at this; omega))
  all_goals (try (intros; exfalso; omega))
theorem gMsMay' (m : Ms) : Good Try.prog 57 [.agg m.av] [] (.b (msMay m)) [] := by
  refine Good.w tabOk mixed Try.func57 (N := 58) (by kernel_rfl) rfl (by (repeat (first | exact LE.nil | apply LE.cons)); done) (by (repeat (first | exact LE.nil | apply LE.cons)); done) fun D hD F => ?_
  repeat' (first
    | apply AO.nil
    | (apply AO.kBox; refine AO.sBox (h := ?_))
    | (apply AO.kP; first | refine AO.sP (h := ?_) | refine AO.sPi (h := ?_) | refine AO.sLoadB (h := ?_))
    | apply AW.seq
    | (apply AW.kR; refine AW.sR (h := ?_))
    | apply AW.skip
    | apply AW.block
    | apply AW.out
    | (apply AW.kE; refine AW.sE (h := ?_))
    | apply AW.label
    | ((first | (apply AO.kG; first | refine AO.sgt (h1 := fun h => ?_) (h2 := fun h => ?_) | refine AO.sgf (h1 := fun h => ?_) (h2 := fun h => ?_) | refine AO.sgs (h := ?_)) | (apply AW.kC; refine AW.sC (h1 := fun h => ?_) (h2 := fun h => ?_))) <;> (try (first | exact Bool.noConfusion h | exact absurd h (by decide) | (simp at h; done) | (rw [h]; try simp only [nrm] at h; try rw [h]; try (exfalso; omega)) | skip))))
  all_goals (refine AW.ret (hD rfl ?_); (repeat' (first | apply Lx.s | apply Lx.b | apply Lx.i | apply LxL.cons | exact LxL.nil | apply Lx.tup | apply Lx.agg | apply Lx.refl)) <;> (try with_reducible rfl))
  all_goals simp only [le_lit, lt_lit, lit_le, lit_lt, k1, k2, k3, kb, bvb, bvb0, bv0, bvn0] at *
  all_goals simp_all [msMay, bv_eq, bvn0]
  all_goals (try (rw [Bool.eq_iff_iff]; simp_all [and_assoc, bvn0]))
  all_goals (try omega)
  all_goals (try (repeat' split))
  all_goals (try (intros; simp_all; done))
  all_goals (try (intros; intro e; have := congrArg List.length e; simp only [List.length_nil] at this; omega))
  all_goals (try (intros; exfalso; omega))
theorem gShort (s : L) : Good Try.prog 118 [.s s] [] (.b (decide (s.length ≤ 16))) [] := by
  refine Good.w tabOk mixed Try.func118 (N := 6) (by kernel_rfl) rfl (by (repeat (first | exact LE.nil | apply LE.cons)); done) (by (repeat (first | exact LE.nil | apply LE.cons)); done) fun D hD F => ?_
  repeat' (first
    | apply AO.nil
    | (apply AO.kP; first | refine AO.sP (h := ?_) | refine AO.sPi (h := ?_))
    | apply AW.seq
    | (apply AW.kR; refine AW.sR (h := ?_))
    | apply AW.skip
    | apply AW.block
    | apply AW.out
    | (apply AW.kE; refine AW.sE (h := ?_))
    | apply AW.label)
  all_goals (refine AW.ret (hD rfl ?_); (repeat' (first | apply Lx.s | apply Lx.b | apply Lx.i | apply LxL.cons | exact LxL.nil | apply Lx.tup | apply Lx.agg | apply Lx.refl)) <;> (try with_reducible rfl))
  all_goals simp only [le_lit]
  repeat' (first
    | apply AO.nil
    | (apply AO.kP; first | refine AO.sP (h := ?_) | refine AO.sPi (h := ?_))
    | apply AW.seq
    | (apply AW.kR; refine AW.sR (h := ?_))
    | apply AW.skip
    | apply AW.block
    | apply AW.out
    | (apply AW.kE; refine AW.sE (h := ?_))
    | apply AW.label)
  all_goals (refine AW.ret (hD rfl ?_); (repeat' (first | apply Lx.s | apply Lx.b | apply Lx.i | apply LxL.cons | exact LxL.nil | apply Lx.tup | apply Lx.agg | apply Lx.refl)) <;> (try with_reducible rfl))
  all_goals simp
theorem gBad (m : Ms) : Good Try.prog 120 [.agg m.av] [] (.b (!msMay m)) [] := by
  refine Good.w tabOk mixed Try.func120 (N := 6) (by kernel_rfl) rfl (by (repeat (first | exact LE.nil | apply LE.cons)); done) (by (repeat (first | exact LE.nil | apply LE.cons)); done) fun D hD F => ?_
  repeat' (first
    | apply AO.nil
    | (apply AO.kCall 121; refine AO.sCall (hg := (gMsMay _)) (h := ?_))
    | (apply AO.kBox; refine AO.sBox (h := ?_))
    | (apply AO.kP; first | refine AO.sP (h := ?_) | refine AO.sPi (h := ?_) | refine AO.sLoadB (h := ?_))
    | apply AW.seq
    | (apply AW.kR; refine AW.sR (h := ?_))
    | apply AW.skip
    | apply AW.block
    | apply AW.out
    | (apply AW.kE; refine AW.sE (h := ?_))
    | apply AW.label)
  all_goals (refine AW.ret (hD rfl ?_); (repeat' (first | apply Lx.s | apply Lx.b | apply Lx.i | apply LxL.cons | exact LxL.nil | apply Lx.tup | apply Lx.agg | apply Lx.refl)) <;> (try with_reducible rfl))
/-- Where the first one is that may not be. -/
theorem gIdxBad (l : List Ms) (hl : l.length ≤ 1000000) : Good Try.prog 54 [.sh 6 (l.map Ms.av), .clo 120 []] [] (.i .i64 (findI (fun m => !msMay m) l 0)) [] := by
  refine Good.w tabOk mixed Try.func54 (N := 19) (by kernel_rfl) rfl (by (repeat (first | exact LE.nil | apply LE.cons)); done) (by (repeat (first | exact LE.nil | apply LE.cons)); done) fun D hD F => ?_
  repeat' (first
    | apply AO.nil
    | (apply AO.kIx; first | refine AO.sIxN (h := ?_) | refine AO.sIx (h := ?_) | refine AO.sP (h := ?_) | refine AO.sPi (h := ?_))
    | (apply AO.kAdd; refine AO.sAdd (h := ?_))
    | (apply AO.kP; first | refine AO.sP (h := ?_) | refine AO.sPi (h := ?_) | refine AO.sLoadB (h := ?_))
    | apply AW.seq
    | (apply AW.kR; refine AW.sR (h := ?_))
    | apply AW.skip
    | apply AW.block
    | apply AW.out
    | (apply AW.kE; refine AW.sE (h := ?_))
    | apply AW.label
    | ((first | (apply AW.kC; refine AW.sC (h1 := fun h => ?_) (h2 := fun h => ?_))) <;> (try (first | exact Bool.noConfusion h | exact absurd h (by decide) | (simp at h; done) | (rw [h]; try simp only [nrm] at h; try rw [h]; try (exfalso; omega)) | skip))))
  refine AW.loopI (fun n : Nat => n ≤ l.length ∧ (l.take n).all (fun m => !!msMay m) = true) (fun n => ⟨[(0, .sh 6 (l.map Ms.av)), (1, .clo 120 []), (7, .i .i64 l.length), (8, .i .i64 n)], []⟩) (fun n => l.length - n) 0 (by simp) (by (constructor <;> (repeat' (first | exact LeT.nil | exact LeB.nil | apply LeT.cons | apply LeB.cons | exact Ol.refl | apply Lx.s | apply Lx.b | apply Lx.i | exact Lx.refl)) <;> (first | rfl | assumption | omega | (simp only [List.length_map, BS_len]; done) | skip))) fun m n ⟨hn, hc⟩ ih => ?_
  repeat' (first
    | apply AO.nil
    | (apply AO.kCallV; refine AO.sCall (hg := (gBad _)) (h := ?_))
    | (apply AO.kIx; first | refine AO.sIxN (h := ?_) | refine AO.sIx (h := ?_) | refine AO.sP (h := ?_) | refine AO.sPi (h := ?_))
    | (apply AO.kAdd; refine AO.sAdd (h := ?_))
    | (apply AO.kP; first | refine AO.sP (h := ?_) | refine AO.sPi (h := ?_) | refine AO.sLoadB (h := ?_))
    | apply AW.seq
    | (apply AW.kR; refine AW.sR (h := ?_))
    | apply AW.skip
    | apply AW.block
    | apply AW.out
    | (apply AW.kE; refine AW.sE (h := ?_))
    | apply AW.label
    | ((first | (apply AW.kC; refine AW.sC (h1 := fun h => ?_) (h2 := fun h => ?_))) <;> (try (first | exact Bool.noConfusion h | exact absurd h (by decide) | (simp at h; done) | (rw [h]; try simp only [nrm] at h; try rw [h]; try (exfalso; omega)) | skip))))
  · refine AW.ret (hD rfl (Lx.i ?_))
    rw [findI_at (by omega) hc (by rename_i h; simpa using h)]
    simp
  · exact ih (n + 1) _ ⟨by omega, all_step (by omega) hc (by rename_i h; simpa using h)⟩ (by omega) (by (constructor <;> (repeat' (first | exact LeT.nil | exact LeB.nil | apply LeT.cons | apply LeB.cons | exact Ol.refl | apply Lx.s | apply Lx.b | apply Lx.i | exact Lx.refl)) <;> (first | rfl | assumption | omega | (simp only [List.length_map, BS_len]; done) | skip)))
  · refine AW.ret (hD rfl (Lx.i ?_))
    exact (findI_none (all_done (by omega) hc)).symm
end Go.Proofs.Ytmfonbehcfjjgaa.Mv

/- Nodes: may one be? Under no condition. -/
namespace Go.Proofs.Ytmfonbehcfjjgaa.Mv
open Go Go.Proofs
set_option linter.unusedSimpArgs false
set_option linter.unusedVariables false
set_option maxRecDepth 10000
set_option maxHeartbeats 4000000
attribute [local irreducible] AW AO AR

theorem gConBad (l : List Ms) (hl : l.length ≤ 1000000) : Good Try.prog 119 [.sh 6 (l.map Ms.av), .clo 120 []] [] (.b (!l.all msMay)) [] := by
  have h := @findI_ge Ms (fun m => !msMay m) l 0
  simp only [Bool.not_not] at h
  refine Good.w tabOk mixed Try.func119 (N := 9) (by kernel_rfl) rfl (by (repeat (first | exact LE.nil | apply LE.cons)); done) (by (repeat (first | exact LE.nil | apply LE.cons)); done) fun D hD F => ?_
  repeat' (first
    | apply AO.nil
    | (apply AO.kCall 54; refine AO.sCall (hg := (gIdxBad _ sd)) (h := ?_))
    | (apply AO.kP; first | refine AO.sP (h := ?_) | refine AO.sPi (h := ?_))
    | apply AW.seq
    | (apply AW.kR; refine AW.sR (h := ?_))
    | apply AW.skip
    | apply AW.block
    | apply AW.out
    | (apply AW.kE; refine AW.sE (h := ?_))
    | apply AW.label)
  all_goals (refine AW.ret (hD rfl ?_); (repeat' (first | apply Lx.s | apply Lx.b | apply Lx.i | apply LxL.cons | exact LxL.nil | apply Lx.tup | apply Lx.agg | apply Lx.refl)) <;> (try with_reducible rfl))
  all_goals exact h
/-- So far, the keys rise and are short. -/
theorem gLeafForm (n : Nd) (hs : n.small) : Good Try.prog 93 [.agg n.av] [] (.b (leafOk n)) [] := by
  have hs1 := hs.pairs; have hs2 := hs.pivots; have hs3 := hs.kids; have hs4 := hs.buf
  refine Good.w tabOk mixed Try.func93 (N := 52) (by kernel_rfl) rfl (by (repeat (first | exact LE.nil | apply LE.cons)); done) (by (repeat (first | exact LE.nil | apply LE.cons)); done) fun D hD F => ?_
  repeat' (first
    | apply AO.nil
    | (apply AO.kIx; first | refine AO.sIxN (h := ?_) | refine AO.sIx (h := ?_) | refine AO.sP (h := ?_) | refine AO.sPi (h := ?_))
    | (apply AO.kBox; refine AO.sBox (h := ?_))
    | (apply AO.kAlloc; refine AO.sAlloc (h := ?_))
    | (apply AO.kStore; first | refine AO.sStore (h := ?_) | refine AO.sStB (h := ?_))
    | (apply AO.kAdd; refine AO.sAdd (h := ?_))
    | (apply AO.kSub; refine AO.sSub (h := ?_))
    | (apply AO.kP; first | refine AO.sP (h := ?_) | refine AO.sPi (h := ?_) | refine AO.sLoadB (h := ?_))
    | apply AW.seq
    | (apply AW.kR; refine AW.sR (h := ?_))
    | apply AW.skip
    | apply AW.block
    | apply AW.out
    | (apply AW.kE; refine AW.sE (h := ?_))
    | apply AW.label
    | (apply AW.kRd; refine AW.sRd (h := ?_))
    | ((first | (apply AO.kG; first | refine AO.sgt (h1 := fun h => ?_) (h2 := fun h => ?_) | refine AO.sgf (h1 := fun h => ?_) (h2 := fun h => ?_) | refine AO.sgs (h := ?_)) | (apply AW.kC; refine AW.sC (h1 := fun h => ?_) (h2 := fun h => ?_)) | (apply AR.kAny; apply AR.kG; first | refine AR.sgt (h1 := fun h => ?_) (h2 := fun h => ?_) | refine AR.sgf (h1 := fun h => ?_) (h2 := fun h => ?_) | refine AR.sgs (h := ?_))) <;> (try (first | exact Bool.noConfusion h | exact absurd h (by decide) | (simp at h; done) | (rw [h]; try simp only [nrm] at h; try rw [h]; try (exfalso; omega)) | skip)))
    | (apply AR.kAny; first | (apply AR.kIx; first | refine AR.sIxN (h := ?_) | refine AR.sIx (h := ?_) | refine AR.sP (h := ?_) | refine AR.sPi (h := ?_)) | (apply AR.kBox; refine AR.sBox (h := ?_)) | (apply AR.kAlloc; refine AR.sAlloc (h := ?_)) | (apply AR.kStore; refine AR.sStore (h := ?_)) | (apply AR.kAdd; refine AR.sAdd (h := ?_)) | (apply AR.kSub; refine AR.sSub (h := ?_)) | (apply AR.kP; first | refine AR.sP (h := ?_) | refine AR.sPi (h := ?_)))
    | (apply AR.kNil; refine AR.sNil (h := ?_)))
  · (refine AW.ret (hD rfl ?_); (repeat' (first | apply Lx.s | apply Lx.b | apply Lx.i | apply LxL.cons | exact LxL.nil | apply Lx.tup | apply Lx.agg | apply Lx.refl)) <;> (try with_reducible rfl))
    have h : ¬ ((n.pivots.map sav).length : Int) + ((n.kids.map Ed.av).length : Int) + ((n.buf.map Ms.av).length : Int) ≤ 0 := by omega
    simp only [List.length_map] at h
    cases h1 : n.pivots with
    | cons a r => simp [leafOk, h1]
    | nil => cases h2 : n.kids with
      | cons a r => simp [leafOk, h1, h2]
      | nil => cases h3 : n.buf with
        | cons a r => simp [leafOk, h1, h2, h3]
        | nil => rw [h1, h2, h3] at h; simp at h
  · have h0 : leafOk n = (rise (n.pairs.map Pr.k) && n.pairs.all prLen) := by
      have h : ((n.pivots.map sav).length : Int) + ((n.kids.map Ed.av).length : Int) + ((n.buf.map Ms.av).length : Int) ≤ 0 := by assumption
      simp only [List.length_map] at h
      have e1 : n.pivots = [] := List.eq_nil_of_length_eq_zero (by omega)
      have e2 : n.kids = [] := List.eq_nil_of_length_eq_zero (by omega)
      have e3 : n.buf = [] := List.eq_nil_of_length_eq_zero (by omega)
      simp [leafOk, e1, e2, e3]
    refine AW.loopI (fun q : Nat => q ≤ n.pairs.length ∧ (n.pairs.take q).all prLen = true ∧ (0 < q → rise (n.pairs.map Pr.k) = rise ((n.pairs.map Pr.k).drop (q - 1)))) (fun q => ⟨[(1, .ptr 1 0), (18, .sh 2 (n.pairs.map Pr.av)), (19, .i .i64 n.pairs.length), (20, .i .i64 q)], [(1, .bx n.av)]⟩) (fun q => n.pairs.length - q) 0 (by simp) (by (constructor <;> (repeat' (first | exact LeT.nil | exact LeB.nil | apply LeT.cons | apply LeB.cons | exact Ol.refl | apply Lx.s | apply Lx.b | apply Lx.i | exact Lx.refl)) <;> (first | rfl | assumption | omega | (simp only [List.length_map, BS_len]; done) | skip))) fun m q ⟨hn, hc, hr⟩ ih => ?_
    have hl : (n.pairs.map Pr.k).length = n.pairs.length := by simp
    repeat' (first
    | apply AO.nil
    | (apply AO.kIx; first | refine AO.sIxN (h := ?_) | refine AO.sIx (h := ?_) | refine AO.sP (h := ?_) | refine AO.sPi (h := ?_))
    | (apply AO.kBox; refine AO.sBox (h := ?_))
    | (apply AO.kAlloc; refine AO.sAlloc (h := ?_))
    | (apply AO.kStore; first | refine AO.sStore (h := ?_) | refine AO.sStB (h := ?_))
    | (apply AO.kAdd; refine AO.sAdd (h := ?_))
    | (apply AO.kSub; refine AO.sSub (h := ?_))
    | (apply AO.kP; first | refine AO.sP (h := ?_) | refine AO.sPi (h := ?_) | refine AO.sLoadB (h := ?_))
    | apply AW.seq
    | (apply AW.kR; refine AW.sR (h := ?_))
    | apply AW.skip
    | apply AW.block
    | apply AW.out
    | (apply AW.kE; refine AW.sE (h := ?_))
    | apply AW.label
    | (apply AW.kRd; refine AW.sRd (h := ?_))
    | ((first | (apply AO.kG; first | refine AO.sgt (h1 := fun h => ?_) (h2 := fun h => ?_) | refine AO.sgf (h1 := fun h => ?_) (h2 := fun h => ?_) | refine AO.sgs (h := ?_)) | (apply AW.kC; refine AW.sC (h1 := fun h => ?_) (h2 := fun h => ?_)) | (apply AR.kAny; apply AR.kG; first | refine AR.sgt (h1 := fun h => ?_) (h2 := fun h => ?_) | refine AR.sgf (h1 := fun h => ?_) (h2 := fun h => ?_) | refine AR.sgs (h := ?_))) <;> (try (first | exact Bool.noConfusion h | exact absurd h (by decide) | (simp at h; done) | (rw [h]; try simp only [nrm] at h; try rw [h]; try (exfalso; omega)) | skip)))
    | (apply AR.kAny; first | (apply AR.kIx; first | refine AR.sIxN (h := ?_) | refine AR.sIx (h := ?_) | refine AR.sP (h := ?_) | refine AR.sPi (h := ?_)) | (apply AR.kBox; refine AR.sBox (h := ?_)) | (apply AR.kAlloc; refine AR.sAlloc (h := ?_)) | (apply AR.kStore; refine AR.sStore (h := ?_)) | (apply AR.kAdd; refine AR.sAdd (h := ?_)) | (apply AR.kSub; refine AR.sSub (h := ?_)) | (apply AR.kP; first | refine AR.sP (h := ?_) | refine AR.sPi (h := ?_)))
    | (apply AR.kNil; refine AR.sNil (h := ?_)))
    · (refine AW.ret (hD rfl ?_); (repeat' (first | apply Lx.s | apply Lx.b | apply Lx.i | apply LxL.cons | exact LxL.nil | apply Lx.tup | apply Lx.agg | apply Lx.refl)) <;> (try with_reducible rfl))
      have hq : 0 < q := by omega
      rw [h0, hr hq, rise_drop hq (by omega), getD_map Pr.k (by omega), getD_map Pr.k (by omega)]
      have h : lt (n.pairs.getD (q - 1) default).k (n.pairs.getD q default).k = false := by
        rename_i h
        rw [show (((q : Nat) : Int) - 1).toNat = q - 1 by omega] at h
        simp only [blt, le_iff] at h
        simpa using h
      rw [h]; simp
    · have hp : prLen (n.pairs.getD q default) = true := by simp only [prLen, Bool.and_eq_true, decide_eq_true_eq]; omega
      refine ih (q + 1) _ ⟨by omega, all_step (by omega) hc hp, fun _ => ?_⟩ (by omega) (by (constructor <;> (repeat' (first | exact LeT.nil | exact LeB.nil | apply LeT.cons | apply LeB.cons | exact Ol.refl | apply Lx.s | apply Lx.b | apply Lx.i | exact Lx.refl)) <;> (first | rfl | assumption | omega | (simp only [List.length_map, BS_len]; done) | skip)))
      have hq : 0 < q := by omega
      rw [hr hq, rise_drop hq (by omega), getD_map Pr.k (by omega), getD_map Pr.k (by omega)]
      have h : lt (n.pairs.getD (q - 1) default).k (n.pairs.getD q default).k = true := by
        have h : (blt (n.pairs.getD q default).k (n.pairs.getD (((q : Nat) : Int) - 1).toNat default).k || (n.pairs.getD q default).k == (n.pairs.getD (((q : Nat) : Int) - 1).toNat default).k) = false := by assumption
        rw [show (((q : Nat) : Int) - 1).toNat = q - 1 by omega] at h
        simp only [blt, le_iff] at h
        simpa using h
      rw [h]; simp
    · have hp : prLen (n.pairs.getD q default) = true := by simp only [prLen, Bool.and_eq_true, decide_eq_true_eq]; omega
      refine ih (q + 1) _ ⟨by omega, all_step (by omega) hc hp, fun _ => ?_⟩ (by omega) (by (constructor <;> (repeat' (first | exact LeT.nil | exact LeB.nil | apply LeT.cons | apply LeB.cons | exact Ol.refl | apply Lx.s | apply Lx.b | apply Lx.i | exact Lx.refl)) <;> (first | rfl | assumption | omega | (simp only [List.length_map, BS_len]; done) | skip)))
      have : q = 0 := by omega
      subst this; simp
    · (refine AW.ret (hD rfl ?_); (repeat' (first | apply Lx.s | apply Lx.b | apply Lx.i | apply LxL.cons | exact LxL.nil | apply Lx.tup | apply Lx.agg | apply Lx.refl)) <;> (try with_reducible rfl))
      rw [h0, all_fail (by omega : q < n.pairs.length) (by simp only [prLen, Bool.and_eq_false_iff, decide_eq_false_iff_not]; omega)]
      simp
    · (refine AW.ret (hD rfl ?_); (repeat' (first | apply Lx.s | apply Lx.b | apply Lx.i | apply LxL.cons | exact LxL.nil | apply Lx.tup | apply Lx.agg | apply Lx.refl)) <;> (try with_reducible rfl))
      rw [h0, all_fail (by omega : q < n.pairs.length) (by simp only [prLen, Bool.and_eq_false_iff, decide_eq_false_iff_not]; omega)]
      simp
    · (refine AW.ret (hD rfl ?_); (repeat' (first | apply Lx.s | apply Lx.b | apply Lx.i | apply LxL.cons | exact LxL.nil | apply Lx.tup | apply Lx.agg | apply Lx.refl)) <;> (try with_reducible rfl))
      have hq : q = n.pairs.length := by omega
      rw [h0, all_done (by omega) hc]
      rcases Nat.eq_zero_or_pos q with hz | hz
      · have : n.pairs = [] := List.eq_nil_of_length_eq_zero (by omega)
        rw [this]; rfl
      · rw [hr hz]
        have : (List.map Pr.k n.pairs).drop (q - 1) = [(n.pairs.map Pr.k).getD (q - 1) default] := by
          rw [dropD (by omega : q - 1 < (n.pairs.map Pr.k).length), show q - 1 + 1 = q by omega, List.drop_eq_nil_of_le (by omega)]
        rw [this]; rfl
theorem gForm (n : Nd) (hs : n.small) : Good Try.prog 94 [.agg n.av] [] (.b (innerOk n)) [] := by
  have hs1 := hs.pairs; have hs2 := hs.pivots; have hs3 := hs.kids; have hs4 := hs.buf
  refine Good.w tabOk mixed Try.func94 (N := 74) (by kernel_rfl) rfl (by (repeat (first | exact LE.nil | apply LE.cons)); done) (by (repeat (first | exact LE.nil | apply LE.cons)); done) fun D hD F => ?_
  repeat' (first
    | apply AO.nil
    | (apply AO.kIx; first | refine AO.sIxN (h := ?_) | refine AO.sIx (h := ?_) | refine AO.sP (h := ?_) | refine AO.sPi (h := ?_))
    | (apply AO.kBox; refine AO.sBox (h := ?_))
    | (apply AO.kAlloc; refine AO.sAlloc (h := ?_))
    | (apply AO.kStore; first | refine AO.sStore (h := ?_) | refine AO.sStB (h := ?_))
    | (apply AO.kAdd; refine AO.sAdd (h := ?_))
    | (apply AO.kSub; refine AO.sSub (h := ?_))
    | (apply AO.kP; first | refine AO.sP (h := ?_) | refine AO.sPi (h := ?_) | refine AO.sLoadB (h := ?_))
    | apply AW.seq
    | (apply AW.kR; refine AW.sR (h := ?_))
    | apply AW.skip
    | apply AW.block
    | apply AW.out
    | (apply AW.kE; refine AW.sE (h := ?_))
    | apply AW.label
    | ((first | (apply AO.kG; first | refine AO.sgt (h1 := fun h => ?_) (h2 := fun h => ?_) | refine AO.sgf (h1 := fun h => ?_) (h2 := fun h => ?_) | refine AO.sgs (h := ?_)) | (apply AW.kC; refine AW.sC (h1 := fun h => ?_) (h2 := fun h => ?_))) <;> (try (first | exact Bool.noConfusion h | exact absurd h (by decide) | (simp at h; done) | (rw [h]; try simp only [nrm] at h; try rw [h]; try (exfalso; omega)) | skip))))
  · (refine AW.ret (hD rfl ?_); (repeat' (first | apply Lx.s | apply Lx.b | apply Lx.i | apply LxL.cons | exact LxL.nil | apply Lx.tup | apply Lx.agg | apply Lx.refl)) <;> (try with_reducible rfl))
    have h : ((((n.pivots.map sav).length : Nat) : Int) != ((n.kids.map Ed.av).length : Int) - 1) = true := by assumption
    have h2 : ¬ (((n.kids.map Ed.av).length : Nat) : Int) = 0 := by assumption
    simp only [List.length_map, bne_iff_ne] at h h2
    have : ¬ n.pivots.length + 1 = n.kids.length := by omega
    simp [innerOk, this]
  · have h : ((((n.pivots.map sav).length : Nat) : Int) != ((n.kids.map Ed.av).length : Int) - 1) = false := by assumption
    have h2 : ¬ (((n.kids.map Ed.av).length : Nat) : Int) = 0 := by assumption
    have h3 : (((n.pairs.map Pr.av).length : Nat) : Int) ≤ 0 := by assumption
    simp only [List.length_map, bne_eq_false_iff_eq] at h h2 h3
    have e1 : n.pairs = [] := List.eq_nil_of_length_eq_zero (by omega)
    have e2 : n.kids.isEmpty = false := by
      cases hk : n.kids with
      | nil => rw [hk] at h2; simp at h2
      | cons a r => rfl
    have e3 : n.pivots.length + 1 = n.kids.length := by omega
    have h0 : innerOk n = (n.kids.all edOk && (rise ([] :: n.pivots) && n.pivots.all fun p => decide (p.length ≤ 16)) && n.buf.all msMay) := by
      simp [innerOk, e1, e2, e3]
    refine AW.loopI (fun q : Nat => q ≤ n.kids.length ∧ (n.kids.take q).all edOk = true) (fun q => ⟨[(1, .ptr 1 0), (29, .sh 4 (n.kids.map Ed.av)), (30, .i .i64 n.kids.length), (31, .i .i64 q)], [(1, .bx n.av)]⟩) (fun q => n.kids.length - q) 0 (by simp) (by (constructor <;> (repeat' (first | exact LeT.nil | exact LeB.nil | apply LeT.cons | apply LeB.cons | exact Ol.refl | apply Lx.s | apply Lx.b | apply Lx.i | exact Lx.refl)) <;> (first | rfl | assumption | omega | (simp only [List.length_map, BS_len]; done) | skip))) fun m q ⟨hn, hc⟩ ih => ?_
    repeat' (first
    | apply AO.nil
    | (apply AO.kCall 118; refine AO.sCall (hg := (gShort _)) (h := ?_))
    | (apply AO.kIx; first | refine AO.sIxN (h := ?_) | refine AO.sIx (h := ?_) | refine AO.sP (h := ?_) | refine AO.sPi (h := ?_))
    | (apply AO.kBox; refine AO.sBox (h := ?_))
    | (apply AO.kAlloc; refine AO.sAlloc (h := ?_))
    | (apply AO.kStore; first | refine AO.sStore (h := ?_) | refine AO.sStB (h := ?_))
    | (apply AO.kAdd; refine AO.sAdd (h := ?_))
    | (apply AO.kSub; refine AO.sSub (h := ?_))
    | (apply AO.kP; first | refine AO.sP (h := ?_) | refine AO.sPi (h := ?_) | refine AO.sLoadB (h := ?_))
    | apply AW.seq
    | (apply AW.kR; refine AW.sR (h := ?_))
    | apply AW.skip
    | apply AW.block
    | apply AW.out
    | (apply AW.kE; refine AW.sE (h := ?_))
    | apply AW.label
    | ((first | (apply AO.kG; first | refine AO.sgt (h1 := fun h => ?_) (h2 := fun h => ?_) | refine AO.sgf (h1 := fun h => ?_) (h2 := fun h => ?_) | refine AO.sgs (h := ?_)) | (apply AW.kC; refine AW.sC (h1 := fun h => ?_) (h2 := fun h => ?_))) <;> (try (first | exact Bool.noConfusion h | exact absurd h (by decide) | (simp at h; done) | (rw [h]; try simp only [nrm] at h; try rw [h]; try (exfalso; omega)) | skip))))
    · (refine AW.ret (hD rfl ?_); (repeat' (first | apply Lx.s | apply Lx.b | apply Lx.i | apply LxL.cons | exact LxL.nil | apply Lx.tup | apply Lx.agg | apply Lx.refl)) <;> (try with_reducible rfl))
      have h : ¬ (n.kids.getD q default).add.length ≤ 16 := by assumption
      rw [h0, all_fail (by omega : q < n.kids.length) (by rw [edOk_iff, decide_eq_false h]; simp)]
      simp
    · refine ih (q + 1) _ ⟨by omega, all_step (by omega) hc (by simp_all [edOk, bv0, bvn0])⟩ (by omega) (by (constructor <;> (repeat' (first | exact LeT.nil | exact LeB.nil | apply LeT.cons | apply LeB.cons | exact Ol.refl | apply Lx.s | apply Lx.b | apply Lx.i | exact Lx.refl)) <;> (first | rfl | assumption | omega | (simp only [List.length_map, BS_len]; done) | skip)))
    · (refine AW.ret (hD rfl ?_); (repeat' (first | apply Lx.s | apply Lx.b | apply Lx.i | apply LxL.cons | exact LxL.nil | apply Lx.tup | apply Lx.agg | apply Lx.refl)) <;> (try with_reducible rfl))
      have h : ¬ (n.kids.getD q default).strip.length ≤ 16 := by assumption
      rw [h0, all_fail (by omega : q < n.kids.length) (by rw [edOk_iff, decide_eq_false h]; simp)]
      simp
    · (refine AW.ret (hD rfl ?_); (repeat' (first | apply Lx.s | apply Lx.b | apply Lx.i | apply LxL.cons | exact LxL.nil | apply Lx.tup | apply Lx.agg | apply Lx.refl)) <;> (try with_reducible rfl))
      have h : (((n.kids.getD q default).deep.toNat : Nat) : Int) = 0 := by assumption
      rw [bv0] at h
      rw [h0, all_fail (by omega : q < n.kids.length) (by rw [edOk_iff, h]; simp)]
      simp
    · have h1 : n.kids.all edOk = true := all_done (by omega) hc
      refine AW.loopI (fun q : Nat => q ≤ n.pivots.length ∧ (n.pivots.take q).all (fun p => decide (p.length ≤ 16)) = true ∧ rise ([] :: n.pivots) = rise (([] :: n.pivots).drop q)) (fun q => ⟨[(1, .ptr 1 0), (5, .s (([] :: n.pivots).getD q default)), (54, .sh 1 (n.pivots.map sav)), (55, .i .i64 n.pivots.length), (56, .i .i64 q)], [(1, .bx n.av)]⟩) (fun q => n.pivots.length - q) 0 (by simp) (by (constructor <;> (repeat' (first | exact LeT.nil | exact LeB.nil | apply LeT.cons | apply LeB.cons | exact Ol.refl | apply Lx.s | apply Lx.b | apply Lx.i | exact Lx.refl)) <;> (first | rfl | assumption | omega | (simp only [List.length_map, BS_len]; done) | skip))) fun m2 q2 ⟨hn2, hc2, hr2⟩ ih2 => ?_
      have hgs : ([] :: n.pivots).getD (q2 + 1) default = n.pivots.getD q2 default := rfl
      repeat' (first
    | apply AO.nil
    | (apply AO.kCall 118; refine AO.sCall (hg := (gShort _)) (h := ?_))
    | (apply AO.kCall 119; refine AO.sCall (hg := (gConBad _ sd)) (h := ?_))
    | (apply AO.kIx; first | refine AO.sIxN (h := ?_) | refine AO.sIx (h := ?_) | refine AO.sP (h := ?_) | refine AO.sPi (h := ?_))
    | (apply AO.kBox; refine AO.sBox (h := ?_))
    | (apply AO.kAlloc; refine AO.sAlloc (h := ?_))
    | (apply AO.kStore; first | refine AO.sStore (h := ?_) | refine AO.sStB (h := ?_))
    | (apply AO.kAdd; refine AO.sAdd (h := ?_))
    | (apply AO.kSub; refine AO.sSub (h := ?_))
    | (apply AO.kP; first | refine AO.sP (h := ?_) | refine AO.sPi (h := ?_) | refine AO.sLoadB (h := ?_))
    | apply AW.seq
    | (apply AW.kR; refine AW.sR (h := ?_))
    | apply AW.skip
    | apply AW.block
    | apply AW.out
    | (apply AW.kE; refine AW.sE (h := ?_))
    | apply AW.label
    | ((first | (apply AO.kG; first | refine AO.sgt (h1 := fun h => ?_) (h2 := fun h => ?_) | refine AO.sgf (h1 := fun h => ?_) (h2 := fun h => ?_) | refine AO.sgs (h := ?_)) | (apply AW.kC; refine AW.sC (h1 := fun h => ?_) (h2 := fun h => ?_))) <;> (try (first | exact Bool.noConfusion h | exact absurd h (by decide) | (simp at h; done) | (rw [h]; try simp only [nrm] at h; try rw [h]; try (exfalso; omega)) | skip))))
      all_goals (try (have hlt : q2 < n.pivots.length := by omega))
      · (refine AW.ret (hD rfl ?_); (repeat' (first | apply Lx.s | apply Lx.b | apply Lx.i | apply LxL.cons | exact LxL.nil | apply Lx.tup | apply Lx.agg | apply Lx.refl)) <;> (try with_reducible rfl))
        have h : ¬ (n.pivots.getD q2 default).length ≤ 16 := by assumption
        rw [h0, all_fail (l := n.pivots) hlt (decide_eq_false h)]
        simp
      · have h5 : lt (([] :: n.pivots).getD q2 default) (n.pivots.getD q2 default) = true := by
          have h5 : (blt (n.pivots.getD q2 default) (([] :: n.pivots).getD q2 default) || n.pivots.getD q2 default == ([] :: n.pivots).getD q2 default) = false := by assumption
          simp only [blt, le_iff] at h5
          simpa using h5
        have h : (n.pivots.getD q2 default).length ≤ 16 := by assumption
        refine ih2 (q2 + 1) _ ⟨by omega, all_step hlt hc2 (decide_eq_true h), ?_⟩ (by omega) (by (constructor <;> (repeat' (first | exact LeT.nil | exact LeB.nil | apply LeT.cons | apply LeB.cons | exact Ol.refl | apply Lx.s | apply Lx.b | apply Lx.i | exact Lx.refl)) <;> (first | rfl | assumption | omega | (simp only [List.length_map, BS_len]; done) | skip)))
        rw [hr2, rise_next (by simp only [List.length_cons]; omega), hgs, h5, Bool.true_and]
      · (refine AW.ret (hD rfl ?_); (repeat' (first | apply Lx.s | apply Lx.b | apply Lx.i | apply LxL.cons | exact LxL.nil | apply Lx.tup | apply Lx.agg | apply Lx.refl)) <;> (try with_reducible rfl))
        have h5 : lt (([] :: n.pivots).getD q2 default) (n.pivots.getD q2 default) = false := by
          have h5 : (blt (n.pivots.getD q2 default) (([] :: n.pivots).getD q2 default) || n.pivots.getD q2 default == ([] :: n.pivots).getD q2 default) = true := by assumption
          simp only [blt, le_iff] at h5
          simpa using h5
        rw [h0, hr2, rise_next (by simp only [List.length_cons]; omega), hgs, h5]
        simp
      · (refine AW.ret (hD rfl ?_); (repeat' (first | apply Lx.s | apply Lx.b | apply Lx.i | apply LxL.cons | exact LxL.nil | apply Lx.tup | apply Lx.agg | apply Lx.refl)) <;> (try with_reducible rfl))
        rw [h0, h1, all_done (by omega) hc2, hr2, rise_end (by simp only [List.length_cons]; omega)]
        simp
  · (refine AW.ret (hD rfl ?_); (repeat' (first | apply Lx.s | apply Lx.b | apply Lx.i | apply LxL.cons | exact LxL.nil | apply Lx.tup | apply Lx.agg | apply Lx.refl)) <;> (try with_reducible rfl))
    have h2 : (((n.kids.map Ed.av).length : Nat) : Int) = 0 := by assumption
    simp only [List.length_map] at h2
    have : n.kids = [] := List.eq_nil_of_length_eq_zero (by omega)
    simp [innerOk, this]
  · (refine AW.ret (hD rfl ?_); (repeat' (first | apply Lx.s | apply Lx.b | apply Lx.i | apply LxL.cons | exact LxL.nil | apply Lx.tup | apply Lx.agg | apply Lx.refl)) <;> (try with_reducible rfl))
    have h2 : 0 < (((n.pairs.map Pr.av).length : Nat) : Int) := by assumption
    simp only [List.length_map] at h2
    cases hk : n.pairs with
    | nil => rw [hk] at h2; simp at h2
    | cons a r => simp [innerOk, hk]
theorem gMay (n : Nd) (hs : n.small) : Good Try.prog 39 [.agg n.av] [] (.i .i64 (mayN n)) [] := by
  obtain ⟨leaf, pairs, pivots, kids, buf⟩ := n
  have hs1 : pairs.length ≤ 1000000 := hs.pairs
  have hs2 : pivots.length ≤ 1000000 := hs.pivots
  have hs3 : kids.length ≤ 1000000 := hs.kids
  have hs4 : buf.length ≤ 1000000 := hs.buf
  clear hs
  refine Good.w tabOk mixed Try.func39 (N := 36) (by kernel_rfl) rfl (by (repeat (first | exact LE.nil | apply LE.cons)); done) (by (repeat (first | exact LE.nil | apply LE.cons)); done) fun D hD F => ?_
  repeat' (first
    | apply AO.nil
    | (apply AO.kCall 93; refine AO.sCall (hg := (gLeafForm ⟨_, _, _, _, _⟩ ⟨hs1, hs2, hs3, hs4⟩)) (h := ?_))
    | (apply AO.kCall 94; refine AO.sCall (hg := (gForm ⟨_, _, _, _, _⟩ ⟨hs1, hs2, hs3, hs4⟩)) (h := ?_))
    | (apply AO.kBox; refine AO.sBox (h := ?_))
    | (apply AO.kP; first | refine AO.sP (h := ?_) | refine AO.sPi (h := ?_) | refine AO.sLoadB (h := ?_))
    | apply AW.seq
    | (apply AW.kR; refine AW.sR (h := ?_))
    | apply AW.skip
    | apply AW.block
    | apply AW.out
    | (apply AW.kE; refine AW.sE (h := ?_))
    | apply AW.label
    | ((first | (apply AO.kG; first | refine AO.sgt (h1 := fun h => ?_) (h2 := fun h => ?_) | refine AO.sgf (h1 := fun h => ?_) (h2 := fun h => ?_) | refine AO.sgs (h := ?_)) | (apply AW.kC; refine AW.sC (h1 := fun h => ?_) (h2 := fun h => ?_))) <;> (try (first | exact Bool.noConfusion h | exact absurd h (by decide) | (simp at h; done) | (rw [h]; try simp only [nrm] at h; try rw [h]; try (exfalso; omega)) | skip))))
  all_goals (refine AW.ret (hD rfl ?_); (repeat' (first | apply Lx.s | apply Lx.b | apply Lx.i | apply LxL.cons | exact LxL.nil | apply Lx.tup | apply Lx.agg | apply Lx.refl)) <;> (try with_reducible rfl))
  all_goals simp only [List.length_map, le_lit, lit_lt] at *
  all_goals (try subst leaf)
  all_goals simp only [mayN]
  all_goals (first | rw [if_pos (by omega)]; rfl | rw [if_neg (by omega)]; simp_all)
theorem gRise (l : List Pr) (hl : l.length ≤ 1000000) : Good Try.prog 56 [.sh 2 (l.map Pr.av)] [] (.b (rise (l.map Pr.k))) [] := by
  have hlm : (l.map Pr.k).length = l.length := by simp
  refine Good.w tabOk mixed Try.func56 (N := 22) (by kernel_rfl) rfl (by (repeat (first | exact LE.nil | apply LE.cons)); done) (by (repeat (first | exact LE.nil | apply LE.cons)); done) fun D hD F => ?_
  repeat' (first
    | apply AO.nil
    | (apply AO.kIx; first | refine AO.sIxN (h := ?_) | refine AO.sIx (h := ?_) | refine AO.sP (h := ?_) | refine AO.sPi (h := ?_))
    | (apply AO.kAdd; refine AO.sAdd (h := ?_))
    | (apply AO.kSub; refine AO.sSub (h := ?_))
    | (apply AO.kP; first | refine AO.sP (h := ?_) | refine AO.sPi (h := ?_) | refine AO.sLoadB (h := ?_))
    | apply AW.seq
    | (apply AW.kR; refine AW.sR (h := ?_))
    | apply AW.skip
    | apply AW.block
    | apply AW.out
    | (apply AW.kE; refine AW.sE (h := ?_))
    | apply AW.label
    | (apply AW.kRd; refine AW.sRd (h := ?_))
    | ((first | (apply AW.kC; refine AW.sC (h1 := fun h => ?_) (h2 := fun h => ?_))) <;> (try (first | exact Bool.noConfusion h | exact absurd h (by decide) | (simp at h; done) | (rw [h]; try simp only [nrm] at h; try rw [h]; try (exfalso; omega)) | skip)))
    | (apply AR.kAny; first | (apply AR.kIx; first | refine AR.sIxN (h := ?_) | refine AR.sIx (h := ?_) | refine AR.sP (h := ?_) | refine AR.sPi (h := ?_)) | (apply AR.kAdd; refine AR.sAdd (h := ?_)) | (apply AR.kSub; refine AR.sSub (h := ?_)) | (apply AR.kP; first | refine AR.sP (h := ?_) | refine AR.sPi (h := ?_)))
    | (apply AR.kNil; refine AR.sNil (h := ?_)))
  refine AW.loopI (fun q : Nat => rise (l.map Pr.k) = rise ((l.map Pr.k).drop q)) (fun q => ⟨[(0, .sh 2 (l.map Pr.av)), (3, .i .i64 ((q : Int) + 1))], []⟩) (fun q => l.length - q) 0 (by simp) (by (constructor <;> (repeat' (first | exact LeT.nil | exact LeB.nil | apply LeT.cons | apply LeB.cons | exact Ol.refl | apply Lx.s | apply Lx.b | apply Lx.i | exact Lx.refl)) <;> (first | rfl | assumption | omega | (simp only [List.length_map, BS_len]; done) | skip))) fun m q hr ih => ?_
  repeat' (first
    | apply AO.nil
    | (apply AO.kIx; first | refine AO.sIxN (h := ?_) | refine AO.sIx (h := ?_) | refine AO.sP (h := ?_) | refine AO.sPi (h := ?_))
    | (apply AO.kAdd; refine AO.sAdd (h := ?_))
    | (apply AO.kSub; refine AO.sSub (h := ?_))
    | (apply AO.kP; first | refine AO.sP (h := ?_) | refine AO.sPi (h := ?_) | refine AO.sLoadB (h := ?_))
    | apply AW.seq
    | (apply AW.kR; refine AW.sR (h := ?_))
    | apply AW.skip
    | apply AW.block
    | apply AW.out
    | (apply AW.kE; refine AW.sE (h := ?_))
    | apply AW.label
    | (apply AW.kRd; refine AW.sRd (h := ?_))
    | ((first | (apply AW.kC; refine AW.sC (h1 := fun h => ?_) (h2 := fun h => ?_))) <;> (try (first | exact Bool.noConfusion h | exact absurd h (by decide) | (simp at h; done) | (rw [h]; try simp only [nrm] at h; try rw [h]; try (exfalso; omega)) | skip)))
    | (apply AR.kAny; first | (apply AR.kIx; first | refine AR.sIxN (h := ?_) | refine AR.sIx (h := ?_) | refine AR.sP (h := ?_) | refine AR.sPi (h := ?_)) | (apply AR.kAdd; refine AR.sAdd (h := ?_)) | (apply AR.kSub; refine AR.sSub (h := ?_)) | (apply AR.kP; first | refine AR.sP (h := ?_) | refine AR.sPi (h := ?_)))
    | (apply AR.kNil; refine AR.sNil (h := ?_)))
  · (refine AW.ret (hD rfl ?_); (repeat' (first | apply Lx.s | apply Lx.b | apply Lx.i | apply LxL.cons | exact LxL.nil | apply Lx.tup | apply Lx.agg | apply Lx.refl)) <;> (try with_reducible rfl))
    have h : (blt (l.getD ((q : Int) + 1).toNat default).k (l.getD ((q : Int) + 1 - 1).toNat default).k || (l.getD ((q : Int) + 1).toNat default).k == (l.getD ((q : Int) + 1 - 1).toNat default).k) = true := by assumption
    rw [show ((q : Int) + 1 - 1).toNat = q by omega, show ((q : Int) + 1).toNat = q + 1 by omega] at h
    simp only [blt, le_iff] at h
    rw [hr, rise_next (by rw [hlm]; simp only [List.length_map] at *; omega), getD_map Pr.k (by simp only [List.length_map] at *; omega), getD_map Pr.k (by simp only [List.length_map] at *; omega)]
    simp_all
  · have h : (blt (l.getD ((q : Int) + 1).toNat default).k (l.getD ((q : Int) + 1 - 1).toNat default).k || (l.getD ((q : Int) + 1).toNat default).k == (l.getD ((q : Int) + 1 - 1).toNat default).k) = false := by assumption
    rw [show ((q : Int) + 1 - 1).toNat = q by omega, show ((q : Int) + 1).toNat = q + 1 by omega] at h
    simp only [blt, le_iff] at h
    refine ih (q + 1) _ ?_ (by simp only [List.length_map] at *; omega) (by (constructor <;> (repeat' (first | exact LeT.nil | exact LeB.nil | apply LeT.cons | apply LeB.cons | exact Ol.refl | apply Lx.s | apply Lx.b | apply Lx.i | exact Lx.refl)) <;> (first | rfl | assumption | omega | (simp only [List.length_map, BS_len]; done) | skip)))
    rw [hr, rise_next (by rw [hlm]; simp only [List.length_map] at *; omega), getD_map Pr.k (by simp only [List.length_map] at *; omega), getD_map Pr.k (by simp only [List.length_map] at *; omega)]
    simp_all
  · (refine AW.ret (hD rfl ?_); (repeat' (first | apply Lx.s | apply Lx.b | apply Lx.i | apply LxL.cons | exact LxL.nil | apply Lx.tup | apply Lx.agg | apply Lx.refl)) <;> (try with_reducible rfl))
    rw [hr, rise_end (by rw [hlm]; simp only [List.length_map] at *; omega)]
/-- A message of a list, gone through by the document's test. -/
theorem gMay' (n : Nd) (hs : n.small) : Good Try.prog 21 [.agg n.av] [] (.i .i64 (mayN n)) [] := by
  obtain ⟨leaf, pairs, pivots, kids, buf⟩ := n
  have hs1 : pairs.length ≤ 1000000 := hs.pairs
  have hs2 : pivots.length ≤ 1000000 := hs.pivots
  have hs3 : kids.length ≤ 1000000 := hs.kids
  have hs4 : buf.length ≤ 1000000 := hs.buf
  have l1 : (pairs.map Pr.av).length = pairs.length := by simp
  have l2 : (pivots.map sav).length = pivots.length := by simp
  have l3 : (kids.map Ed.av).length = kids.length := by simp
  have l4 : (buf.map Ms.av).length = buf.length := by simp
  clear hs
  have t13 : (16 < pairs.length ∨ 8 < kids.length ∨ 16 < buf.length) → mayN ⟨leaf, pairs, pivots, kids, buf⟩ = 13 := fun h => by simp only [mayN]; rw [if_pos h]
  have tL : ¬ (16 < pairs.length ∨ 8 < kids.length ∨ 16 < buf.length) → mayN ⟨true, pairs, pivots, kids, buf⟩ = if leafOk ⟨true, pairs, pivots, kids, buf⟩ = true then 0 else 3 := fun h => by simp only [mayN]; rw [if_neg h]; rfl
  have tI : ¬ (16 < pairs.length ∨ 8 < kids.length ∨ 16 < buf.length) → mayN ⟨false, pairs, pivots, kids, buf⟩ = if innerOk ⟨false, pairs, pivots, kids, buf⟩ = true then 0 else 3 := fun h => by simp only [mayN]; rw [if_neg h]; rfl
  have z : ∀ {α : Type} (l : List α), ¬ l.length ≤ 0 → l.isEmpty = false := fun l h => by cases l <;> simp_all
  have z' : ∀ {α : Type} (l : List α), l.length ≤ 0 → l = [] := fun l h => List.eq_nil_of_length_eq_zero (by omega)
  refine Good.w tabOk mixed Try.func21 (N := 182) (by kernel_rfl) rfl (by (repeat (first | exact LE.nil | apply LE.cons)); done) (by (repeat (first | exact LE.nil | apply LE.cons)); done) fun D hD F => ?_
  repeat' (first
    | apply AO.nil
    | (apply AO.kCall 56; refine AO.sCall (hg := (gRise _ sd)) (h := ?_))
    | (apply AO.kIx; first | refine AO.sIxN (h := ?_) | refine AO.sIx (h := ?_) | refine AO.sP (h := ?_) | refine AO.sPi (h := ?_))
    | (apply AO.kBox; refine AO.sBox (h := ?_))
    | (apply AO.kAdd; refine AO.sAdd (h := ?_))
    | (apply AO.kSub; refine AO.sSub (h := ?_))
    | (apply AO.kP; first | refine AO.sP (h := ?_) | refine AO.sPi (h := ?_) | refine AO.sLoadB (h := ?_))
    | apply AW.seq
    | (apply AW.kR; refine AW.sR (h := ?_))
    | apply AW.skip
    | apply AW.block
    | apply AW.out
    | (apply AW.kE; refine AW.sE (h := ?_))
    | apply AW.label
    | (apply AW.kRd; refine AW.sRd (h := ?_))
    | ((first | (apply AO.kG; first | refine AO.sgt (h1 := fun h => ?_) (h2 := fun h => ?_) | refine AO.sgf (h1 := fun h => ?_) (h2 := fun h => ?_) | refine AO.sgs (h := ?_)) | (apply AW.kC; refine AW.sC (h1 := fun h => ?_) (h2 := fun h => ?_)) | (apply AR.kAny; apply AR.kG; first | refine AR.sgt (h1 := fun h => ?_) (h2 := fun h => ?_) | refine AR.sgf (h1 := fun h => ?_) (h2 := fun h => ?_) | refine AR.sgs (h := ?_))) <;> (try (first | exact Bool.noConfusion h | exact absurd h (by decide) | (simp at h; done) | (rw [h]; try simp only [nrm] at h; try rw [h]; try (exfalso; omega)) | skip)))
    | (apply AR.kAny; first | (apply AR.kCall 56; refine AR.sCall (hg := (gRise _ sd)) (h := ?_)) | (apply AR.kIx; first | refine AR.sIxN (h := ?_) | refine AR.sIx (h := ?_) | refine AR.sP (h := ?_) | refine AR.sPi (h := ?_)) | (apply AR.kBox; refine AR.sBox (h := ?_)) | (apply AR.kAdd; refine AR.sAdd (h := ?_)) | (apply AR.kSub; refine AR.sSub (h := ?_)) | (apply AR.kP; first | refine AR.sP (h := ?_) | refine AR.sPi (h := ?_)))
    | (apply AR.kNil; refine AR.sNil (h := ?_)))
  · refine AW.ret (hD rfl (Lx.i ?_)); rw [t13 (by omega)]; rfl
  · refine AW.ret (hD rfl (Lx.i ?_))
    subst leaf
    have h : rise (pairs.map Pr.k) = false := by assumption
    rw [tL (by omega), if_neg (by simp [leafOk, h])]; rfl
  · subst leaf
    have hri : rise (pairs.map Pr.k) = true := by assumption
    obtain rfl := z' pivots (by omega)
    obtain rfl := z' kids (by omega)
    obtain rfl := z' buf (by omega)
    have h0 : leafOk ⟨true, pairs, [], [], []⟩ = pairs.all prLen := by simp [leafOk, hri]
    refine AW.loopI (fun q : Nat => q ≤ pairs.length ∧ (pairs.take q).all prLen = true) (fun q => ⟨[(1, .ptr 1 0), (49, .i .i64 pairs.length), (50, .i .i64 q)], [(1, .bx (Nd.av ⟨true, pairs, [], [], []⟩))]⟩) (fun q => pairs.length - q) 0 (by simp) (by (constructor <;> (repeat' (first | exact LeT.nil | exact LeB.nil | apply LeT.cons | apply LeB.cons | exact Ol.refl | apply Lx.s | apply Lx.b | apply Lx.i | exact Lx.refl)) <;> (first | rfl | assumption | omega | (simp only [List.length_map, BS_len]; done) | skip))) fun m q ⟨hn, hc⟩ ih => ?_
    repeat' (first
    | apply AO.nil
    | (apply AO.kIx; first | refine AO.sIxN (h := ?_) | refine AO.sIx (h := ?_) | refine AO.sP (h := ?_) | refine AO.sPi (h := ?_))
    | (apply AO.kBox; refine AO.sBox (h := ?_))
    | (apply AO.kAdd; refine AO.sAdd (h := ?_))
    | (apply AO.kSub; refine AO.sSub (h := ?_))
    | (apply AO.kP; first | refine AO.sP (h := ?_) | refine AO.sPi (h := ?_) | refine AO.sLoadB (h := ?_))
    | apply AW.seq
    | (apply AW.kR; refine AW.sR (h := ?_))
    | apply AW.skip
    | apply AW.block
    | apply AW.out
    | (apply AW.kE; refine AW.sE (h := ?_))
    | apply AW.label
    | (apply AW.kRd; refine AW.sRd (h := ?_))
    | ((first | (apply AO.kG; first | refine AO.sgt (h1 := fun h => ?_) (h2 := fun h => ?_) | refine AO.sgf (h1 := fun h => ?_) (h2 := fun h => ?_) | refine AO.sgs (h := ?_)) | (apply AW.kC; refine AW.sC (h1 := fun h => ?_) (h2 := fun h => ?_)) | (apply AR.kAny; apply AR.kG; first | refine AR.sgt (h1 := fun h => ?_) (h2 := fun h => ?_) | refine AR.sgf (h1 := fun h => ?_) (h2 := fun h => ?_) | refine AR.sgs (h := ?_))) <;> (try (first | exact Bool.noConfusion h | exact absurd h (by decide) | (simp at h; done) | (rw [h]; try simp only [nrm] at h; try rw [h]; try (exfalso; omega)) | skip)))
    | (apply AR.kAny; first | (apply AR.kIx; first | refine AR.sIxN (h := ?_) | refine AR.sIx (h := ?_) | refine AR.sP (h := ?_) | refine AR.sPi (h := ?_)) | (apply AR.kBox; refine AR.sBox (h := ?_)) | (apply AR.kAdd; refine AR.sAdd (h := ?_)) | (apply AR.kSub; refine AR.sSub (h := ?_)) | (apply AR.kP; first | refine AR.sP (h := ?_) | refine AR.sPi (h := ?_)))
    | (apply AR.kNil; refine AR.sNil (h := ?_)))
    · refine AW.ret (hD rfl (Lx.i ?_))
      have hp : prLen (pairs.getD q default) = false := by simp only [prLen, Bool.and_eq_false_iff, decide_eq_false_iff_not]; omega
      rw [tL (by omega), h0, all_fail (by omega : q < pairs.length) hp]; rfl
    · exact ih (q + 1) _ ⟨by omega, all_step (by omega) hc (by simp only [prLen, Bool.and_eq_true, decide_eq_true_eq]; omega)⟩ (by omega) (by (constructor <;> (repeat' (first | exact LeT.nil | exact LeB.nil | apply LeT.cons | apply LeB.cons | exact Ol.refl | apply Lx.s | apply Lx.b | apply Lx.i | exact Lx.refl)) <;> (first | rfl | assumption | omega | (simp only [List.length_map, BS_len]; done) | skip)))
    · refine AW.ret (hD rfl (Lx.i ?_))
      have hp : prLen (pairs.getD q default) = false := by simp only [prLen, Bool.and_eq_false_iff, decide_eq_false_iff_not]; omega
      rw [tL (by omega), h0, all_fail (by omega : q < pairs.length) hp]; rfl
    · refine AW.ret (hD rfl (Lx.i ?_))
      rw [tL (by omega), h0, all_done (by omega) hc]; rfl
  · refine AW.ret (hD rfl (Lx.i ?_))
    subst leaf
    rw [tL (by omega), if_neg (by simp [leafOk, z buf (by omega)])]; rfl
  · refine AW.ret (hD rfl (Lx.i ?_))
    subst leaf
    rw [tL (by omega), if_neg (by simp [leafOk, z kids (by omega)])]; rfl
  · refine AW.ret (hD rfl (Lx.i ?_))
    subst leaf
    rw [tL (by omega), if_neg (by simp [leafOk, z pivots (by omega)])]; rfl
  · refine AW.ret (hD rfl (Lx.i ?_))
    subst leaf
    have h : ((((pivots.map sav).length : Nat) : Int) + 1 != ((kids.map Ed.av).length : Int)) = true := by assumption
    rw [bne_iff_ne] at h
    rw [tI (by omega), if_neg (by simp [innerOk, show ¬ pivots.length + 1 = kids.length by omega])]; rfl
  · subst leaf
    have h : ((((pivots.map sav).length : Nat) : Int) + 1 != ((kids.map Ed.av).length : Int)) = false := by assumption
    rw [bne_eq_false_iff_eq] at h
    have hpk : pivots.length + 1 = kids.length := by omega
    obtain rfl := z' pairs (by omega)
    have h0 : innerOk ⟨false, [], pivots, kids, buf⟩ = (kids.all edOk && (rise ([] :: pivots) && pivots.all fun p => decide (p.length ≤ 16)) && buf.all msMay) := by
      simp [innerOk, hpk, z kids (by omega)]
    refine AW.loopI (fun q : Nat => q ≤ kids.length ∧ (kids.take q).all edOk = true) (fun q => ⟨[(1, .ptr 1 0), (94, .i .i64 kids.length), (95, .i .i64 q)], [(1, .bx (Nd.av ⟨false, [], pivots, kids, buf⟩))]⟩) (fun q => kids.length - q) 0 (by simp) (by (constructor <;> (repeat' (first | exact LeT.nil | exact LeB.nil | apply LeT.cons | apply LeB.cons | exact Ol.refl | apply Lx.s | apply Lx.b | apply Lx.i | exact Lx.refl)) <;> (first | rfl | assumption | omega | (simp only [List.length_map, BS_len]; done) | skip))) fun m q ⟨hn, hc⟩ ih => ?_
    repeat' (first
    | apply AO.nil
    | (apply AO.kIx; first | refine AO.sIxN (h := ?_) | refine AO.sIx (h := ?_) | refine AO.sP (h := ?_) | refine AO.sPi (h := ?_))
    | (apply AO.kBox; refine AO.sBox (h := ?_))
    | (apply AO.kAdd; refine AO.sAdd (h := ?_))
    | (apply AO.kSub; refine AO.sSub (h := ?_))
    | (apply AO.kP; first | refine AO.sP (h := ?_) | refine AO.sPi (h := ?_) | refine AO.sLoadB (h := ?_))
    | apply AW.seq
    | (apply AW.kR; refine AW.sR (h := ?_))
    | apply AW.skip
    | apply AW.block
    | apply AW.out
    | (apply AW.kE; refine AW.sE (h := ?_))
    | apply AW.label
    | (apply AW.kRd; refine AW.sRd (h := ?_))
    | ((first | (apply AO.kG; first | refine AO.sgt (h1 := fun h => ?_) (h2 := fun h => ?_) | refine AO.sgf (h1 := fun h => ?_) (h2 := fun h => ?_) | refine AO.sgs (h := ?_)) | (apply AW.kC; refine AW.sC (h1 := fun h => ?_) (h2 := fun h => ?_)) | (apply AR.kAny; apply AR.kG; first | refine AR.sgt (h1 := fun h => ?_) (h2 := fun h => ?_) | refine AR.sgf (h1 := fun h => ?_) (h2 := fun h => ?_) | refine AR.sgs (h := ?_))) <;> (try (first | exact Bool.noConfusion h | exact absurd h (by decide) | (simp at h; done) | (rw [h]; try simp only [nrm] at h; try rw [h]; try (exfalso; omega)) | skip)))
    | (apply AR.kAny; first | (apply AR.kIx; first | refine AR.sIxN (h := ?_) | refine AR.sIx (h := ?_) | refine AR.sP (h := ?_) | refine AR.sPi (h := ?_)) | (apply AR.kBox; refine AR.sBox (h := ?_)) | (apply AR.kAdd; refine AR.sAdd (h := ?_)) | (apply AR.kSub; refine AR.sSub (h := ?_)) | (apply AR.kP; first | refine AR.sP (h := ?_) | refine AR.sPi (h := ?_)))
    | (apply AR.kNil; refine AR.sNil (h := ?_)))
    · refine AW.ret (hD rfl (Lx.i ?_))
      have h : ¬ (kids.getD q default).add.length ≤ 16 := by omega
      rw [tI (by omega), h0, all_fail (by omega : q < kids.length) (by rw [edOk_iff, decide_eq_false h]; simp)]; rfl
    · have h : 1 ≤ (((kids.getD q default).deep.toNat : Nat) : Int) := by assumption
      have h' : ((kids.getD q default).deep == 0) = false := by
        rw [beq_eq_false_iff_ne]
        intro e
        rw [e] at h; simp at h
      refine ih (q + 1) _ ⟨by omega, all_step (by omega) hc (by rw [edOk_iff, h', decide_eq_true (by omega), decide_eq_true (by omega)]; rfl)⟩ (by omega) (by (constructor <;> (repeat' (first | exact LeT.nil | exact LeB.nil | apply LeT.cons | apply LeB.cons | exact Ol.refl | apply Lx.s | apply Lx.b | apply Lx.i | exact Lx.refl)) <;> (first | rfl | assumption | omega | (simp only [List.length_map, BS_len]; done) | skip)))
    · refine AW.ret (hD rfl (Lx.i ?_))
      have h : ¬ (kids.getD q default).strip.length ≤ 16 := by omega
      rw [tI (by omega), h0, all_fail (by omega : q < kids.length) (by rw [edOk_iff, decide_eq_false h]; simp)]; rfl
    · refine AW.ret (hD rfl (Lx.i ?_))
      have h' : ((kids.getD q default).deep == 0) = true := by
        rw [beq_iff_eq, ← bvn0]; omega
      rw [tI (by omega), h0, all_fail (by omega : q < kids.length) (by rw [edOk_iff, h']; rfl)]; rfl
    · have hk : kids.all edOk = true := all_done (by omega) hc
      rw [hk, Bool.true_and] at h0
      refine AW.loopI (fun q : Nat => q ≤ pivots.length ∧ (pivots.take q).all (fun p => decide (p.length ≤ 16)) = true ∧ rise ([] :: pivots) = rise (([] :: pivots).drop q)) (fun q => ⟨[(1, .ptr 1 0), (130, .i .i64 pivots.length), (131, .i .i64 q)], [(1, .bx (Nd.av ⟨false, [], pivots, kids, buf⟩))]⟩) (fun q => pivots.length - q) 0 (by simp) (by (constructor <;> (repeat' (first | exact LeT.nil | exact LeB.nil | apply LeT.cons | apply LeB.cons | exact Ol.refl | apply Lx.s | apply Lx.b | apply Lx.i | exact Lx.refl)) <;> (first | rfl | assumption | omega | (simp only [List.length_map, BS_len]; done) | skip))) fun m2 q2 ⟨hn2, hc2, hr2⟩ ih2 => ?_
      have hgs : ([] :: pivots).getD (q2 + 1) default = pivots.getD q2 default := rfl
      repeat' (first
    | apply AO.nil
    | (apply AO.kIx; first | refine AO.sIxN (h := ?_) | refine AO.sIx (h := ?_) | refine AO.sP (h := ?_) | refine AO.sPi (h := ?_))
    | (apply AO.kBox; refine AO.sBox (h := ?_))
    | (apply AO.kAdd; refine AO.sAdd (h := ?_))
    | (apply AO.kSub; refine AO.sSub (h := ?_))
    | (apply AO.kP; first | refine AO.sP (h := ?_) | refine AO.sPi (h := ?_) | refine AO.sLoadB (h := ?_))
    | apply AW.seq
    | (apply AW.kR; refine AW.sR (h := ?_))
    | apply AW.skip
    | apply AW.block
    | apply AW.out
    | (apply AW.kE; refine AW.sE (h := ?_))
    | apply AW.label
    | (apply AW.kRd; refine AW.sRd (h := ?_))
    | ((first | (apply AO.kG; first | refine AO.sgt (h1 := fun h => ?_) (h2 := fun h => ?_) | refine AO.sgf (h1 := fun h => ?_) (h2 := fun h => ?_) | refine AO.sgs (h := ?_)) | (apply AW.kC; refine AW.sC (h1 := fun h => ?_) (h2 := fun h => ?_)) | (apply AR.kAny; apply AR.kG; first | refine AR.sgt (h1 := fun h => ?_) (h2 := fun h => ?_) | refine AR.sgf (h1 := fun h => ?_) (h2 := fun h => ?_) | refine AR.sgs (h := ?_))) <;> (try (first | exact Bool.noConfusion h | exact absurd h (by decide) | (simp at h; done) | (rw [h]; try simp only [nrm] at h; try rw [h]; try (exfalso; omega)) | skip)))
    | (apply AR.kAny; first | (apply AR.kIx; first | refine AR.sIxN (h := ?_) | refine AR.sIx (h := ?_) | refine AR.sP (h := ?_) | refine AR.sPi (h := ?_)) | (apply AR.kBox; refine AR.sBox (h := ?_)) | (apply AR.kAdd; refine AR.sAdd (h := ?_)) | (apply AR.kSub; refine AR.sSub (h := ?_)) | (apply AR.kP; first | refine AR.sP (h := ?_) | refine AR.sPi (h := ?_)))
    | (apply AR.kNil; refine AR.sNil (h := ?_)))
      all_goals (try (have hlt : q2 < pivots.length := by omega))
      · refine AW.ret (hD rfl (Lx.i ?_))
        have h : (blt (pivots.getD q2 default) (pivots.getD ((q2 : Int) - 1).toNat default) || pivots.getD q2 default == pivots.getD ((q2 : Int) - 1).toNat default) = true := by assumption
        simp only [blt, le_iff] at h
        have hr : rise ([] :: pivots) = false := by
          rw [hr2, rise_next (by simp only [List.length_cons]; omega), hgs, cons_getD _ _ (by omega), show q2 - 1 = ((q2 : Int) - 1).toNat by omega]
          simp_all
        rw [tI (by omega), h0, hr]; rfl
      · have h : (blt (pivots.getD q2 default) (pivots.getD ((q2 : Int) - 1).toNat default) || pivots.getD q2 default == pivots.getD ((q2 : Int) - 1).toNat default) = false := by assumption
        simp only [blt, le_iff] at h
        have h16 : (pivots.getD q2 default).length ≤ 16 := by omega
        refine ih2 (q2 + 1) _ ⟨by omega, all_step hlt hc2 (decide_eq_true h16), ?_⟩ (by omega) (by (constructor <;> (repeat' (first | exact LeT.nil | exact LeB.nil | apply LeT.cons | apply LeB.cons | exact Ol.refl | apply Lx.s | apply Lx.b | apply Lx.i | exact Lx.refl)) <;> (first | rfl | assumption | omega | (simp only [List.length_map, BS_len]; done) | skip)))
        rw [hr2, rise_next (by simp only [List.length_cons]; omega), hgs, cons_getD _ _ (by omega), show q2 - 1 = ((q2 : Int) - 1).toNat by omega]
        simp_all
      · have hz : q2 = 0 := by omega
        subst hz
        have hne : ¬ pivots.getD 0 default = [] := by assumption
        have h16 : (pivots.getD 0 default).length ≤ 16 := by omega
        refine ih2 1 _ ⟨by omega, all_step hlt hc2 (decide_eq_true h16), ?_⟩ (by omega) (by (constructor <;> (repeat' (first | exact LeT.nil | exact LeB.nil | apply LeT.cons | apply LeB.cons | exact Ol.refl | apply Lx.s | apply Lx.b | apply Lx.i | exact Lx.refl)) <;> (first | rfl | assumption | omega | (simp only [List.length_map, BS_len]; done) | skip)))
        rw [hr2, rise_next (by simp only [List.length_cons]; omega), hgs]
        have : lt (([] :: pivots).getD 0 default) (pivots.getD 0 default) = true := by
          show lt [] _ = true
          rw [lt_nil_iff]; simp only [Bool.not_eq_true', beq_eq_false_iff_ne]; exact hne
        rw [this, Bool.true_and]
      · refine AW.ret (hD rfl (Lx.i ?_))
        have h : ¬ (pivots.getD q2 default).length ≤ 16 := by omega
        rw [tI (by omega), h0, all_fail (l := pivots) hlt (decide_eq_false h), Bool.and_false]; rfl
      · refine AW.ret (hD rfl (Lx.i ?_))
        have h : pivots.getD q2 default = [] := by assumption
        have hr : rise ([] :: pivots) = false := by
          rw [hr2, rise_next (by simp only [List.length_cons]; omega), hgs, h, lt_nil]; rfl
        rw [tI (by omega), h0, hr]; rfl
      · have hr : rise ([] :: pivots) = true := by rw [hr2, rise_end (by simp only [List.length_cons]; omega)]
        rw [hr, all_done (by omega) hc2] at h0
        simp only [Bool.true_and, Bool.and_true] at h0
        refine AW.loopI (fun q : Nat => q ≤ buf.length ∧ (buf.take q).all msMay = true) (fun q => ⟨[(1, .ptr 1 0), (170, .i .i64 buf.length), (171, .i .i64 q)], [(1, .bx (Nd.av ⟨false, [], pivots, kids, buf⟩))]⟩) (fun q => buf.length - q) 0 (by simp) (by (constructor <;> (repeat' (first | exact LeT.nil | exact LeB.nil | apply LeT.cons | apply LeB.cons | exact Ol.refl | apply Lx.s | apply Lx.b | apply Lx.i | exact Lx.refl)) <;> (first | rfl | assumption | omega | (simp only [List.length_map, BS_len]; done) | skip))) fun m3 q3 ⟨hn3, hc3⟩ ih3 => ?_
        repeat' (first
    | apply AO.nil
    | (apply AO.kCall 57; refine AO.sCall (hg := (gMsMay' _)) (h := ?_))
    | (apply AO.kIx; first | refine AO.sIxN (h := ?_) | refine AO.sIx (h := ?_) | refine AO.sP (h := ?_) | refine AO.sPi (h := ?_))
    | (apply AO.kBox; refine AO.sBox (h := ?_))
    | (apply AO.kAdd; refine AO.sAdd (h := ?_))
    | (apply AO.kSub; refine AO.sSub (h := ?_))
    | (apply AO.kP; first | refine AO.sP (h := ?_) | refine AO.sPi (h := ?_) | refine AO.sLoadB (h := ?_))
    | apply AW.seq
    | (apply AW.kR; refine AW.sR (h := ?_))
    | apply AW.skip
    | apply AW.block
    | apply AW.out
    | (apply AW.kE; refine AW.sE (h := ?_))
    | apply AW.label
    | (apply AW.kRd; refine AW.sRd (h := ?_))
    | ((first | (apply AO.kG; first | refine AO.sgt (h1 := fun h => ?_) (h2 := fun h => ?_) | refine AO.sgf (h1 := fun h => ?_) (h2 := fun h => ?_) | refine AO.sgs (h := ?_)) | (apply AW.kC; refine AW.sC (h1 := fun h => ?_) (h2 := fun h => ?_)) | (apply AR.kAny; apply AR.kG; first | refine AR.sgt (h1 := fun h => ?_) (h2 := fun h => ?_) | refine AR.sgf (h1 := fun h => ?_) (h2 := fun h => ?_) | refine AR.sgs (h := ?_))) <;> (try (first | exact Bool.noConfusion h | exact absurd h (by decide) | (simp at h; done) | (rw [h]; try simp only [nrm] at h; try rw [h]; try (exfalso; omega)) | skip)))
    | (apply AR.kAny; first | (apply AR.kCall 57; refine AR.sCall (hg := (gMsMay' _)) (h := ?_)) | (apply AR.kIx; first | refine AR.sIxN (h := ?_) | refine AR.sIx (h := ?_) | refine AR.sP (h := ?_) | refine AR.sPi (h := ?_)) | (apply AR.kBox; refine AR.sBox (h := ?_)) | (apply AR.kAdd; refine AR.sAdd (h := ?_)) | (apply AR.kSub; refine AR.sSub (h := ?_)) | (apply AR.kP; first | refine AR.sP (h := ?_) | refine AR.sPi (h := ?_)))
    | (apply AR.kNil; refine AR.sNil (h := ?_)))
        · refine AW.ret (hD rfl (Lx.i ?_))
          rw [tI (by omega), h0, all_fail (by omega : q3 < buf.length) (by assumption)]; rfl
        · exact ih3 (q3 + 1) _ ⟨by omega, all_step (by omega) hc3 (by assumption)⟩ (by omega) (by (constructor <;> (repeat' (first | exact LeT.nil | exact LeB.nil | apply LeT.cons | apply LeB.cons | exact Ol.refl | apply Lx.s | apply Lx.b | apply Lx.i | exact Lx.refl)) <;> (first | rfl | assumption | omega | (simp only [List.length_map, BS_len]; done) | skip)))
        · refine AW.ret (hD rfl (Lx.i ?_))
          rw [tI (by omega), h0, all_done (by omega) hc3]; rfl
  · refine AW.ret (hD rfl (Lx.i ?_))
    subst leaf
    obtain rfl := z' kids (by omega)
    rw [tI (by omega), if_neg (by simp [innerOk])]; rfl
  · refine AW.ret (hD rfl (Lx.i ?_))
    subst leaf
    rw [tI (by omega), if_neg (by simp [innerOk, z pairs (by omega)])]; rfl
  · refine AW.ret (hD rfl (Lx.i ?_)); rw [t13 (by omega)]; rfl
  · refine AW.ret (hD rfl (Lx.i ?_)); rw [t13 (by omega)]; rfl
end Go.Proofs.Ytmfonbehcfjjgaa.Mv

/- Nodes: the same ones, and those that are not gone through. Under no condition. -/
namespace Go.Proofs.Ytmfonbehcfjjgaa.Mv
open Go Go.Proofs
set_option linter.unusedSimpArgs false
set_option linter.unusedVariables false
set_option maxRecDepth 10000
set_option maxHeartbeats 4000000
attribute [local irreducible] AW AO AR

theorem take_step {α : Type} [Inhabited α] {a b : List α} {q : Nat} (ha : q < a.length) (hb : q < b.length) (h : a.take q = b.take q) (he : a.getD q default = b.getD q default) : a.take (q + 1) = b.take (q + 1) := by
  rw [takeD ha, takeD hb, h, he]
theorem take_all {α : Type} {a b : List α} {q : Nat} (ha : a.length ≤ q) (hb : b.length ≤ q) (h : a.take q = b.take q) : a = b := by
  rwa [List.take_of_length_le ha, List.take_of_length_le hb] at h
theorem ne_at {α : Type} [Inhabited α] {a b : List α} {q : Nat} (h : a.getD q default ≠ b.getD q default) : a ≠ b := fun e => h (by rw [e])
theorem pr_eq (a b : Pr) : (a.k == b.k && (a.v == b.v && true)) = decide (a = b) := by
  cases a; cases b
  rw [Bool.eq_iff_iff]; simp
theorem ed_eq (a b : Ed) : (((a.block.toNat : Int) == (b.block.toNat : Int)) && (((a.deep.toNat : Int) == (b.deep.toNat : Int)) && ((a.strip == b.strip && (a.add == b.add && true)) && true))) = decide (a = b) := by
  rw [bvb, bvb]
  cases a; cases b
  rw [Bool.eq_iff_iff]; simp
theorem ms_eq (a b : Ms) : (((a.kind.toNat : Int) == (b.kind.toNat : Int)) && (a.key == b.key && (a.val == b.val && (((a.block.toNat : Int) == (b.block.toNat : Int)) && (((a.deep.toNat : Int) == (b.deep.toNat : Int)) && (a.add == b.add && true)))))) = decide (a = b) := by
  rw [bvb, bvb, kb]
  cases a; cases b
  rw [Bool.eq_iff_iff]; simp
theorem gAlikeP (a b : List Pr) (hl : a.length ≤ 1000000) (hl2 : b.length ≤ 1000000) : Good Try.prog 65 [.sh 2 (a.map Pr.av), .sh 2 (b.map Pr.av)] [] (.b (decide (a = b))) [] := by
  have la : (a.map Pr.av).length = a.length := by simp
  have lb : (b.map Pr.av).length = b.length := by simp
  refine Good.w tabOk mixed Try.func65 (N := 26) (by kernel_rfl) rfl (by (repeat (first | exact LE.nil | apply LE.cons)); done) (by (repeat (first | exact LE.nil | apply LE.cons)); done) fun D hD F => ?_
  repeat' (first
    | apply AO.nil
    | (apply AO.kIx; first | refine AO.sIxN (h := ?_) | refine AO.sIx (h := ?_) | refine AO.sP (h := ?_) | refine AO.sPi (h := ?_))
    | (apply AO.kAdd; refine AO.sAdd (h := ?_))
    | (apply AO.kP; first | refine AO.sP (h := ?_) | refine AO.sPi (h := ?_) | refine AO.sLoadB (h := ?_))
    | apply AW.seq
    | (apply AW.kR; refine AW.sR (h := ?_))
    | apply AW.skip
    | apply AW.block
    | apply AW.out
    | (apply AW.kE; refine AW.sE (h := ?_))
    | apply AW.label
    | (apply AW.kRd; refine AW.sRd (h := ?_))
    | ((first | (apply AW.kC; refine AW.sC (h1 := fun h => ?_) (h2 := fun h => ?_))) <;> (try (first | exact Bool.noConfusion h | exact absurd h (by decide) | (simp at h; done) | (rw [h]; try simp only [nrm] at h; try rw [h]; try (exfalso; omega)) | skip)))
    | (apply AR.kAny; first | (apply AR.kIx; first | refine AR.sIxN (h := ?_) | refine AR.sIx (h := ?_) | refine AR.sP (h := ?_) | refine AR.sPi (h := ?_)) | (apply AR.kAdd; refine AR.sAdd (h := ?_)) | (apply AR.kP; first | refine AR.sP (h := ?_) | refine AR.sPi (h := ?_)))
    | (apply AR.kNil; refine AR.sNil (h := ?_)))
  · (refine AW.ret (hD rfl ?_); (repeat' (first | apply Lx.s | apply Lx.b | apply Lx.i | apply LxL.cons | exact LxL.nil | apply Lx.tup | apply Lx.agg | apply Lx.refl)) <;> (try with_reducible rfl))
    have h : ((((a.map Pr.av).length : Nat) : Int) != (((b.map Pr.av).length : Nat) : Int)) = true := by assumption
    rw [bne_iff_ne] at h
    exact (decide_eq_false fun e => h (by rw [e])).symm
  · have h : ((((a.map Pr.av).length : Nat) : Int) != (((b.map Pr.av).length : Nat) : Int)) = false := by assumption
    rw [bne_eq_false_iff_eq] at h
    refine AW.loopI (fun q : Nat => q ≤ a.length ∧ a.take q = b.take q) (fun q => ⟨[(0, .sh 2 (a.map Pr.av)), (1, .sh 2 (b.map Pr.av)), (12, .i .i64 a.length), (13, .i .i64 q)], []⟩) (fun q => a.length - q) 0 (by simp) (by (constructor <;> (repeat' (first | exact LeT.nil | exact LeB.nil | apply LeT.cons | apply LeB.cons | exact Ol.refl | apply Lx.s | apply Lx.b | apply Lx.i | exact Lx.refl)) <;> (first | rfl | assumption | omega | (simp only [List.length_map, BS_len]; done) | skip))) fun m q ⟨hn, hc⟩ ih => ?_
    repeat' (first
    | apply AO.nil
    | (apply AO.kIx; first | refine AO.sIxN (h := ?_) | refine AO.sIx (h := ?_) | refine AO.sP (h := ?_) | refine AO.sPi (h := ?_))
    | (apply AO.kAdd; refine AO.sAdd (h := ?_))
    | (apply AO.kP; first | refine AO.sP (h := ?_) | refine AO.sPi (h := ?_) | refine AO.sLoadB (h := ?_))
    | apply AW.seq
    | (apply AW.kR; refine AW.sR (h := ?_))
    | apply AW.skip
    | apply AW.block
    | apply AW.out
    | (apply AW.kE; refine AW.sE (h := ?_))
    | apply AW.label
    | (apply AW.kRd; refine AW.sRd (h := ?_))
    | ((first | (apply AW.kC; refine AW.sC (h1 := fun h => ?_) (h2 := fun h => ?_))) <;> (try (first | exact Bool.noConfusion h | exact absurd h (by decide) | (simp at h; done) | (rw [h]; try simp only [nrm] at h; try rw [h]; try (exfalso; omega)) | skip)))
    | (apply AR.kAny; first | (apply AR.kIx; first | refine AR.sIxN (h := ?_) | refine AR.sIx (h := ?_) | refine AR.sP (h := ?_) | refine AR.sPi (h := ?_)) | (apply AR.kAdd; refine AR.sAdd (h := ?_)) | (apply AR.kP; first | refine AR.sP (h := ?_) | refine AR.sPi (h := ?_)))
    | (apply AR.kNil; refine AR.sNil (h := ?_)))
    · (refine AW.ret (hD rfl ?_); (repeat' (first | apply Lx.s | apply Lx.b | apply Lx.i | apply LxL.cons | exact LxL.nil | apply Lx.tup | apply Lx.agg | apply Lx.refl)) <;> (try with_reducible rfl))
      exact (decide_eq_false (ne_at fun e => by rw [pr_eq, decide_eq_true e] at h; cases h)).symm
    · have e : a.getD q default = b.getD q default := by rw [pr_eq] at h; exact of_decide_eq_true h
      exact ih (q + 1) _ ⟨by omega, take_step (by omega) (by omega) hc e⟩ (by omega) (by (constructor <;> (repeat' (first | exact LeT.nil | exact LeB.nil | apply LeT.cons | apply LeB.cons | exact Ol.refl | apply Lx.s | apply Lx.b | apply Lx.i | exact Lx.refl)) <;> (first | rfl | assumption | omega | (simp only [List.length_map, BS_len]; done) | skip)))
    · (refine AW.ret (hD rfl ?_); (repeat' (first | apply Lx.s | apply Lx.b | apply Lx.i | apply LxL.cons | exact LxL.nil | apply Lx.tup | apply Lx.agg | apply Lx.refl)) <;> (try with_reducible rfl))
      exact (decide_eq_true (take_all (by omega) (by omega) hc)).symm
theorem gAlikeS (a b : List L) (hl : a.length ≤ 1000000) (hl2 : b.length ≤ 1000000) : Good Try.prog 66 [.sh 1 (a.map sav), .sh 1 (b.map sav)] [] (.b (decide (a = b))) [] := by
  have la : (a.map sav).length = a.length := by simp
  have lb : (b.map sav).length = b.length := by simp
  refine Good.w tabOk mixed Try.func66 (N := 26) (by kernel_rfl) rfl (by (repeat (first | exact LE.nil | apply LE.cons)); done) (by (repeat (first | exact LE.nil | apply LE.cons)); done) fun D hD F => ?_
  repeat' (first
    | apply AO.nil
    | (apply AO.kIx; first | refine AO.sIxN (h := ?_) | refine AO.sIx (h := ?_) | refine AO.sP (h := ?_) | refine AO.sPi (h := ?_))
    | (apply AO.kAdd; refine AO.sAdd (h := ?_))
    | (apply AO.kP; first | refine AO.sP (h := ?_) | refine AO.sPi (h := ?_) | refine AO.sLoadB (h := ?_))
    | apply AW.seq
    | (apply AW.kR; refine AW.sR (h := ?_))
    | apply AW.skip
    | apply AW.block
    | apply AW.out
    | (apply AW.kE; refine AW.sE (h := ?_))
    | apply AW.label
    | (apply AW.kRd; refine AW.sRd (h := ?_))
    | ((first | (apply AW.kC; refine AW.sC (h1 := fun h => ?_) (h2 := fun h => ?_))) <;> (try (first | exact Bool.noConfusion h | exact absurd h (by decide) | (simp at h; done) | (rw [h]; try simp only [nrm] at h; try rw [h]; try (exfalso; omega)) | skip)))
    | (apply AR.kAny; first | (apply AR.kIx; first | refine AR.sIxN (h := ?_) | refine AR.sIx (h := ?_) | refine AR.sP (h := ?_) | refine AR.sPi (h := ?_)) | (apply AR.kAdd; refine AR.sAdd (h := ?_)) | (apply AR.kP; first | refine AR.sP (h := ?_) | refine AR.sPi (h := ?_)))
    | (apply AR.kNil; refine AR.sNil (h := ?_)))
  · (refine AW.ret (hD rfl ?_); (repeat' (first | apply Lx.s | apply Lx.b | apply Lx.i | apply LxL.cons | exact LxL.nil | apply Lx.tup | apply Lx.agg | apply Lx.refl)) <;> (try with_reducible rfl))
    have h : ((((a.map sav).length : Nat) : Int) != (((b.map sav).length : Nat) : Int)) = true := by assumption
    rw [bne_iff_ne] at h
    exact (decide_eq_false fun e => h (by rw [e])).symm
  · have h : ((((a.map sav).length : Nat) : Int) != (((b.map sav).length : Nat) : Int)) = false := by assumption
    rw [bne_eq_false_iff_eq] at h
    refine AW.loopI (fun q : Nat => q ≤ a.length ∧ a.take q = b.take q) (fun q => ⟨[(0, .sh 1 (a.map sav)), (1, .sh 1 (b.map sav)), (12, .i .i64 a.length), (13, .i .i64 q)], []⟩) (fun q => a.length - q) 0 (by simp) (by (constructor <;> (repeat' (first | exact LeT.nil | exact LeB.nil | apply LeT.cons | apply LeB.cons | exact Ol.refl | apply Lx.s | apply Lx.b | apply Lx.i | exact Lx.refl)) <;> (first | rfl | assumption | omega | (simp only [List.length_map, BS_len]; done) | skip))) fun m q ⟨hn, hc⟩ ih => ?_
    repeat' (first
    | apply AO.nil
    | (apply AO.kIx; first | refine AO.sIxN (h := ?_) | refine AO.sIx (h := ?_) | refine AO.sP (h := ?_) | refine AO.sPi (h := ?_))
    | (apply AO.kAdd; refine AO.sAdd (h := ?_))
    | (apply AO.kP; first | refine AO.sP (h := ?_) | refine AO.sPi (h := ?_) | refine AO.sLoadB (h := ?_))
    | apply AW.seq
    | (apply AW.kR; refine AW.sR (h := ?_))
    | apply AW.skip
    | apply AW.block
    | apply AW.out
    | (apply AW.kE; refine AW.sE (h := ?_))
    | apply AW.label
    | (apply AW.kRd; refine AW.sRd (h := ?_))
    | ((first | (apply AW.kC; refine AW.sC (h1 := fun h => ?_) (h2 := fun h => ?_))) <;> (try (first | exact Bool.noConfusion h | exact absurd h (by decide) | (simp at h; done) | (rw [h]; try simp only [nrm] at h; try rw [h]; try (exfalso; omega)) | skip)))
    | (apply AR.kAny; first | (apply AR.kIx; first | refine AR.sIxN (h := ?_) | refine AR.sIx (h := ?_) | refine AR.sP (h := ?_) | refine AR.sPi (h := ?_)) | (apply AR.kAdd; refine AR.sAdd (h := ?_)) | (apply AR.kP; first | refine AR.sP (h := ?_) | refine AR.sPi (h := ?_)))
    | (apply AR.kNil; refine AR.sNil (h := ?_)))
    · (refine AW.ret (hD rfl ?_); (repeat' (first | apply Lx.s | apply Lx.b | apply Lx.i | apply LxL.cons | exact LxL.nil | apply Lx.tup | apply Lx.agg | apply Lx.refl)) <;> (try with_reducible rfl))
      exact (decide_eq_false (ne_at h)).symm
    · exact ih (q + 1) _ ⟨by omega, take_step (by omega) (by omega) hc h⟩ (by omega) (by (constructor <;> (repeat' (first | exact LeT.nil | exact LeB.nil | apply LeT.cons | apply LeB.cons | exact Ol.refl | apply Lx.s | apply Lx.b | apply Lx.i | exact Lx.refl)) <;> (first | rfl | assumption | omega | (simp only [List.length_map, BS_len]; done) | skip)))
    · (refine AW.ret (hD rfl ?_); (repeat' (first | apply Lx.s | apply Lx.b | apply Lx.i | apply LxL.cons | exact LxL.nil | apply Lx.tup | apply Lx.agg | apply Lx.refl)) <;> (try with_reducible rfl))
      exact (decide_eq_true (take_all (by omega) (by omega) hc)).symm
theorem gAlikeE (a b : List Ed) (hl : a.length ≤ 1000000) (hl2 : b.length ≤ 1000000) : Good Try.prog 67 [.sh 4 (a.map Ed.av), .sh 4 (b.map Ed.av)] [] (.b (decide (a = b))) [] := by
  have la : (a.map Ed.av).length = a.length := by simp
  have lb : (b.map Ed.av).length = b.length := by simp
  refine Good.w tabOk mixed Try.func67 (N := 26) (by kernel_rfl) rfl (by (repeat (first | exact LE.nil | apply LE.cons)); done) (by (repeat (first | exact LE.nil | apply LE.cons)); done) fun D hD F => ?_
  repeat' (first
    | apply AO.nil
    | (apply AO.kIx; first | refine AO.sIxN (h := ?_) | refine AO.sIx (h := ?_) | refine AO.sP (h := ?_) | refine AO.sPi (h := ?_))
    | (apply AO.kAdd; refine AO.sAdd (h := ?_))
    | (apply AO.kP; first | refine AO.sP (h := ?_) | refine AO.sPi (h := ?_) | refine AO.sLoadB (h := ?_))
    | apply AW.seq
    | (apply AW.kR; refine AW.sR (h := ?_))
    | apply AW.skip
    | apply AW.block
    | apply AW.out
    | (apply AW.kE; refine AW.sE (h := ?_))
    | apply AW.label
    | (apply AW.kRd; refine AW.sRd (h := ?_))
    | ((first | (apply AW.kC; refine AW.sC (h1 := fun h => ?_) (h2 := fun h => ?_))) <;> (try (first | exact Bool.noConfusion h | exact absurd h (by decide) | (simp at h; done) | (rw [h]; try simp only [nrm] at h; try rw [h]; try (exfalso; omega)) | skip)))
    | (apply AR.kAny; first | (apply AR.kIx; first | refine AR.sIxN (h := ?_) | refine AR.sIx (h := ?_) | refine AR.sP (h := ?_) | refine AR.sPi (h := ?_)) | (apply AR.kAdd; refine AR.sAdd (h := ?_)) | (apply AR.kP; first | refine AR.sP (h := ?_) | refine AR.sPi (h := ?_)))
    | (apply AR.kNil; refine AR.sNil (h := ?_)))
  · (refine AW.ret (hD rfl ?_); (repeat' (first | apply Lx.s | apply Lx.b | apply Lx.i | apply LxL.cons | exact LxL.nil | apply Lx.tup | apply Lx.agg | apply Lx.refl)) <;> (try with_reducible rfl))
    have h : ((((a.map Ed.av).length : Nat) : Int) != (((b.map Ed.av).length : Nat) : Int)) = true := by assumption
    rw [bne_iff_ne] at h
    exact (decide_eq_false fun e => h (by rw [e])).symm
  · have h : ((((a.map Ed.av).length : Nat) : Int) != (((b.map Ed.av).length : Nat) : Int)) = false := by assumption
    rw [bne_eq_false_iff_eq] at h
    refine AW.loopI (fun q : Nat => q ≤ a.length ∧ a.take q = b.take q) (fun q => ⟨[(0, .sh 4 (a.map Ed.av)), (1, .sh 4 (b.map Ed.av)), (12, .i .i64 a.length), (13, .i .i64 q)], []⟩) (fun q => a.length - q) 0 (by simp) (by (constructor <;> (repeat' (first | exact LeT.nil | exact LeB.nil | apply LeT.cons | apply LeB.cons | exact Ol.refl | apply Lx.s | apply Lx.b | apply Lx.i | exact Lx.refl)) <;> (first | rfl | assumption | omega | (simp only [List.length_map, BS_len]; done) | skip))) fun m q ⟨hn, hc⟩ ih => ?_
    repeat' (first
    | apply AO.nil
    | (apply AO.kIx; first | refine AO.sIxN (h := ?_) | refine AO.sIx (h := ?_) | refine AO.sP (h := ?_) | refine AO.sPi (h := ?_))
    | (apply AO.kAdd; refine AO.sAdd (h := ?_))
    | (apply AO.kP; first | refine AO.sP (h := ?_) | refine AO.sPi (h := ?_) | refine AO.sLoadB (h := ?_))
    | apply AW.seq
    | (apply AW.kR; refine AW.sR (h := ?_))
    | apply AW.skip
    | apply AW.block
    | apply AW.out
    | (apply AW.kE; refine AW.sE (h := ?_))
    | apply AW.label
    | (apply AW.kRd; refine AW.sRd (h := ?_))
    | ((first | (apply AW.kC; refine AW.sC (h1 := fun h => ?_) (h2 := fun h => ?_))) <;> (try (first | exact Bool.noConfusion h | exact absurd h (by decide) | (simp at h; done) | (rw [h]; try simp only [nrm] at h; try rw [h]; try (exfalso; omega)) | skip)))
    | (apply AR.kAny; first | (apply AR.kIx; first | refine AR.sIxN (h := ?_) | refine AR.sIx (h := ?_) | refine AR.sP (h := ?_) | refine AR.sPi (h := ?_)) | (apply AR.kAdd; refine AR.sAdd (h := ?_)) | (apply AR.kP; first | refine AR.sP (h := ?_) | refine AR.sPi (h := ?_)))
    | (apply AR.kNil; refine AR.sNil (h := ?_)))
    · (refine AW.ret (hD rfl ?_); (repeat' (first | apply Lx.s | apply Lx.b | apply Lx.i | apply LxL.cons | exact LxL.nil | apply Lx.tup | apply Lx.agg | apply Lx.refl)) <;> (try with_reducible rfl))
      exact (decide_eq_false (ne_at fun e => by rw [ed_eq, decide_eq_true e] at h; cases h)).symm
    · have e : a.getD q default = b.getD q default := by rw [ed_eq] at h; exact of_decide_eq_true h
      exact ih (q + 1) _ ⟨by omega, take_step (by omega) (by omega) hc e⟩ (by omega) (by (constructor <;> (repeat' (first | exact LeT.nil | exact LeB.nil | apply LeT.cons | apply LeB.cons | exact Ol.refl | apply Lx.s | apply Lx.b | apply Lx.i | exact Lx.refl)) <;> (first | rfl | assumption | omega | (simp only [List.length_map, BS_len]; done) | skip)))
    · (refine AW.ret (hD rfl ?_); (repeat' (first | apply Lx.s | apply Lx.b | apply Lx.i | apply LxL.cons | exact LxL.nil | apply Lx.tup | apply Lx.agg | apply Lx.refl)) <;> (try with_reducible rfl))
      exact (decide_eq_true (take_all (by omega) (by omega) hc)).symm
theorem gAlikeM (a b : List Ms) (hl : a.length ≤ 1000000) (hl2 : b.length ≤ 1000000) : Good Try.prog 68 [.sh 6 (a.map Ms.av), .sh 6 (b.map Ms.av)] [] (.b (decide (a = b))) [] := by
  have la : (a.map Ms.av).length = a.length := by simp
  have lb : (b.map Ms.av).length = b.length := by simp
  refine Good.w tabOk mixed Try.func68 (N := 26) (by kernel_rfl) rfl (by (repeat (first | exact LE.nil | apply LE.cons)); done) (by (repeat (first | exact LE.nil | apply LE.cons)); done) fun D hD F => ?_
  repeat' (first
    | apply AO.nil
    | (apply AO.kIx; first | refine AO.sIxN (h := ?_) | refine AO.sIx (h := ?_) | refine AO.sP (h := ?_) | refine AO.sPi (h := ?_))
    | (apply AO.kAdd; refine AO.sAdd (h := ?_))
    | (apply AO.kP; first | refine AO.sP (h := ?_) | refine AO.sPi (h := ?_) | refine AO.sLoadB (h := ?_))
    | apply AW.seq
    | (apply AW.kR; refine AW.sR (h := ?_))
    | apply AW.skip
    | apply AW.block
    | apply AW.out
    | (apply AW.kE; refine AW.sE (h := ?_))
    | apply AW.label
    | (apply AW.kRd; refine AW.sRd (h := ?_))
    | ((first | (apply AW.kC; refine AW.sC (h1 := fun h => ?_) (h2 := fun h => ?_))) <;> (try (first | exact Bool.noConfusion h | exact absurd h (by decide) | (simp at h; done) | (rw [h]; try simp only [nrm] at h; try rw [h]; try (exfalso; omega)) | skip)))
    | (apply AR.kAny; first | (apply AR.kIx; first | refine AR.sIxN (h := ?_) | refine AR.sIx (h := ?_) | refine AR.sP (h := ?_) | refine AR.sPi (h := ?_)) | (apply AR.kAdd; refine AR.sAdd (h := ?_)) | (apply AR.kP; first | refine AR.sP (h := ?_) | refine AR.sPi (h := ?_)))
    | (apply AR.kNil; refine AR.sNil (h := ?_)))
  · (refine AW.ret (hD rfl ?_); (repeat' (first | apply Lx.s | apply Lx.b | apply Lx.i | apply LxL.cons | exact LxL.nil | apply Lx.tup | apply Lx.agg | apply Lx.refl)) <;> (try with_reducible rfl))
    have h : ((((a.map Ms.av).length : Nat) : Int) != (((b.map Ms.av).length : Nat) : Int)) = true := by assumption
    rw [bne_iff_ne] at h
    exact (decide_eq_false fun e => h (by rw [e])).symm
  · have h : ((((a.map Ms.av).length : Nat) : Int) != (((b.map Ms.av).length : Nat) : Int)) = false := by assumption
    rw [bne_eq_false_iff_eq] at h
    refine AW.loopI (fun q : Nat => q ≤ a.length ∧ a.take q = b.take q) (fun q => ⟨[(0, .sh 6 (a.map Ms.av)), (1, .sh 6 (b.map Ms.av)), (12, .i .i64 a.length), (13, .i .i64 q)], []⟩) (fun q => a.length - q) 0 (by simp) (by (constructor <;> (repeat' (first | exact LeT.nil | exact LeB.nil | apply LeT.cons | apply LeB.cons | exact Ol.refl | apply Lx.s | apply Lx.b | apply Lx.i | exact Lx.refl)) <;> (first | rfl | assumption | omega | (simp only [List.length_map, BS_len]; done) | skip))) fun m q ⟨hn, hc⟩ ih => ?_
    repeat' (first
    | apply AO.nil
    | (apply AO.kIx; first | refine AO.sIxN (h := ?_) | refine AO.sIx (h := ?_) | refine AO.sP (h := ?_) | refine AO.sPi (h := ?_))
    | (apply AO.kAdd; refine AO.sAdd (h := ?_))
    | (apply AO.kP; first | refine AO.sP (h := ?_) | refine AO.sPi (h := ?_) | refine AO.sLoadB (h := ?_))
    | apply AW.seq
    | (apply AW.kR; refine AW.sR (h := ?_))
    | apply AW.skip
    | apply AW.block
    | apply AW.out
    | (apply AW.kE; refine AW.sE (h := ?_))
    | apply AW.label
    | (apply AW.kRd; refine AW.sRd (h := ?_))
    | ((first | (apply AW.kC; refine AW.sC (h1 := fun h => ?_) (h2 := fun h => ?_))) <;> (try (first | exact Bool.noConfusion h | exact absurd h (by decide) | (simp at h; done) | (rw [h]; try simp only [nrm] at h; try rw [h]; try (exfalso; omega)) | skip)))
    | (apply AR.kAny; first | (apply AR.kIx; first | refine AR.sIxN (h := ?_) | refine AR.sIx (h := ?_) | refine AR.sP (h := ?_) | refine AR.sPi (h := ?_)) | (apply AR.kAdd; refine AR.sAdd (h := ?_)) | (apply AR.kP; first | refine AR.sP (h := ?_) | refine AR.sPi (h := ?_)))
    | (apply AR.kNil; refine AR.sNil (h := ?_)))
    · (refine AW.ret (hD rfl ?_); (repeat' (first | apply Lx.s | apply Lx.b | apply Lx.i | apply LxL.cons | exact LxL.nil | apply Lx.tup | apply Lx.agg | apply Lx.refl)) <;> (try with_reducible rfl))
      exact (decide_eq_false (ne_at fun e => by rw [ms_eq, decide_eq_true e] at h; cases h)).symm
    · have e : a.getD q default = b.getD q default := by rw [ms_eq] at h; exact of_decide_eq_true h
      exact ih (q + 1) _ ⟨by omega, take_step (by omega) (by omega) hc e⟩ (by omega) (by (constructor <;> (repeat' (first | exact LeT.nil | exact LeB.nil | apply LeT.cons | apply LeB.cons | exact Ol.refl | apply Lx.s | apply Lx.b | apply Lx.i | exact Lx.refl)) <;> (first | rfl | assumption | omega | (simp only [List.length_map, BS_len]; done) | skip)))
    · (refine AW.ret (hD rfl ?_); (repeat' (first | apply Lx.s | apply Lx.b | apply Lx.i | apply LxL.cons | exact LxL.nil | apply Lx.tup | apply Lx.agg | apply Lx.refl)) <;> (try with_reducible rfl))
      exact (decide_eq_true (take_all (by omega) (by omega) hc)).symm
theorem gSameP (a b : List Pr) (hl : a.length ≤ 1000000) (hl2 : b.length ≤ 1000000) : Good Try.prog 52 [.sh 2 (a.map Pr.av), .sh 2 (b.map Pr.av)] [] (.b (decide (a = b))) [] := by
  have la : (a.map Pr.av).length = a.length := by simp
  have lb : (b.map Pr.av).length = b.length := by simp
  refine Good.w tabOk mixed Try.func52 (N := 26) (by kernel_rfl) rfl (by (repeat (first | exact LE.nil | apply LE.cons)); done) (by (repeat (first | exact LE.nil | apply LE.cons)); done) fun D hD F => ?_
  repeat' (first
    | apply AO.nil
    | (apply AO.kIx; first | refine AO.sIxN (h := ?_) | refine AO.sIx (h := ?_) | refine AO.sP (h := ?_) | refine AO.sPi (h := ?_))
    | (apply AO.kAdd; refine AO.sAdd (h := ?_))
    | (apply AO.kP; first | refine AO.sP (h := ?_) | refine AO.sPi (h := ?_) | refine AO.sLoadB (h := ?_))
    | apply AW.seq
    | (apply AW.kR; refine AW.sR (h := ?_))
    | apply AW.skip
    | apply AW.block
    | apply AW.out
    | (apply AW.kE; refine AW.sE (h := ?_))
    | apply AW.label
    | (apply AW.kRd; refine AW.sRd (h := ?_))
    | ((first | (apply AW.kC; refine AW.sC (h1 := fun h => ?_) (h2 := fun h => ?_))) <;> (try (first | exact Bool.noConfusion h | exact absurd h (by decide) | (simp at h; done) | (rw [h]; try simp only [nrm] at h; try rw [h]; try (exfalso; omega)) | skip)))
    | (apply AR.kAny; first | (apply AR.kIx; first | refine AR.sIxN (h := ?_) | refine AR.sIx (h := ?_) | refine AR.sP (h := ?_) | refine AR.sPi (h := ?_)) | (apply AR.kAdd; refine AR.sAdd (h := ?_)) | (apply AR.kP; first | refine AR.sP (h := ?_) | refine AR.sPi (h := ?_)))
    | (apply AR.kNil; refine AR.sNil (h := ?_)))
  · (refine AW.ret (hD rfl ?_); (repeat' (first | apply Lx.s | apply Lx.b | apply Lx.i | apply LxL.cons | exact LxL.nil | apply Lx.tup | apply Lx.agg | apply Lx.refl)) <;> (try with_reducible rfl))
    have h : ((((a.map Pr.av).length : Nat) : Int) != (((b.map Pr.av).length : Nat) : Int)) = true := by assumption
    rw [bne_iff_ne] at h
    exact (decide_eq_false fun e => h (by rw [e])).symm
  · have h : ((((a.map Pr.av).length : Nat) : Int) != (((b.map Pr.av).length : Nat) : Int)) = false := by assumption
    rw [bne_eq_false_iff_eq] at h
    refine AW.loopI (fun q : Nat => q ≤ a.length ∧ a.take q = b.take q) (fun q => ⟨[(0, .sh 2 (a.map Pr.av)), (1, .sh 2 (b.map Pr.av)), (12, .i .i64 a.length), (13, .i .i64 q)], []⟩) (fun q => a.length - q) 0 (by simp) (by (constructor <;> (repeat' (first | exact LeT.nil | exact LeB.nil | apply LeT.cons | apply LeB.cons | exact Ol.refl | apply Lx.s | apply Lx.b | apply Lx.i | exact Lx.refl)) <;> (first | rfl | assumption | omega | (simp only [List.length_map, BS_len]; done) | skip))) fun m q ⟨hn, hc⟩ ih => ?_
    repeat' (first
    | apply AO.nil
    | (apply AO.kIx; first | refine AO.sIxN (h := ?_) | refine AO.sIx (h := ?_) | refine AO.sP (h := ?_) | refine AO.sPi (h := ?_))
    | (apply AO.kAdd; refine AO.sAdd (h := ?_))
    | (apply AO.kP; first | refine AO.sP (h := ?_) | refine AO.sPi (h := ?_) | refine AO.sLoadB (h := ?_))
    | apply AW.seq
    | (apply AW.kR; refine AW.sR (h := ?_))
    | apply AW.skip
    | apply AW.block
    | apply AW.out
    | (apply AW.kE; refine AW.sE (h := ?_))
    | apply AW.label
    | (apply AW.kRd; refine AW.sRd (h := ?_))
    | ((first | (apply AW.kC; refine AW.sC (h1 := fun h => ?_) (h2 := fun h => ?_))) <;> (try (first | exact Bool.noConfusion h | exact absurd h (by decide) | (simp at h; done) | (rw [h]; try simp only [nrm] at h; try rw [h]; try (exfalso; omega)) | skip)))
    | (apply AR.kAny; first | (apply AR.kIx; first | refine AR.sIxN (h := ?_) | refine AR.sIx (h := ?_) | refine AR.sP (h := ?_) | refine AR.sPi (h := ?_)) | (apply AR.kAdd; refine AR.sAdd (h := ?_)) | (apply AR.kP; first | refine AR.sP (h := ?_) | refine AR.sPi (h := ?_)))
    | (apply AR.kNil; refine AR.sNil (h := ?_)))
    · (refine AW.ret (hD rfl ?_); (repeat' (first | apply Lx.s | apply Lx.b | apply Lx.i | apply LxL.cons | exact LxL.nil | apply Lx.tup | apply Lx.agg | apply Lx.refl)) <;> (try with_reducible rfl))
      exact (decide_eq_false (ne_at fun e => by rw [pr_eq, decide_eq_true e] at h; cases h)).symm
    · have e : a.getD q default = b.getD q default := by rw [pr_eq] at h; exact of_decide_eq_true h
      exact ih (q + 1) _ ⟨by omega, take_step (by omega) (by omega) hc e⟩ (by omega) (by (constructor <;> (repeat' (first | exact LeT.nil | exact LeB.nil | apply LeT.cons | apply LeB.cons | exact Ol.refl | apply Lx.s | apply Lx.b | apply Lx.i | exact Lx.refl)) <;> (first | rfl | assumption | omega | (simp only [List.length_map, BS_len]; done) | skip)))
    · (refine AW.ret (hD rfl ?_); (repeat' (first | apply Lx.s | apply Lx.b | apply Lx.i | apply LxL.cons | exact LxL.nil | apply Lx.tup | apply Lx.agg | apply Lx.refl)) <;> (try with_reducible rfl))
      exact (decide_eq_true (take_all (by omega) (by omega) hc)).symm
theorem gSameM (a b : List Ms) (hl : a.length ≤ 1000000) (hl2 : b.length ≤ 1000000) : Good Try.prog 53 [.sh 6 (a.map Ms.av), .sh 6 (b.map Ms.av)] [] (.b (decide (a = b))) [] := by
  have la : (a.map Ms.av).length = a.length := by simp
  have lb : (b.map Ms.av).length = b.length := by simp
  refine Good.w tabOk mixed Try.func53 (N := 26) (by kernel_rfl) rfl (by (repeat (first | exact LE.nil | apply LE.cons)); done) (by (repeat (first | exact LE.nil | apply LE.cons)); done) fun D hD F => ?_
  repeat' (first
    | apply AO.nil
    | (apply AO.kIx; first | refine AO.sIxN (h := ?_) | refine AO.sIx (h := ?_) | refine AO.sP (h := ?_) | refine AO.sPi (h := ?_))
    | (apply AO.kAdd; refine AO.sAdd (h := ?_))
    | (apply AO.kP; first | refine AO.sP (h := ?_) | refine AO.sPi (h := ?_) | refine AO.sLoadB (h := ?_))
    | apply AW.seq
    | (apply AW.kR; refine AW.sR (h := ?_))
    | apply AW.skip
    | apply AW.block
    | apply AW.out
    | (apply AW.kE; refine AW.sE (h := ?_))
    | apply AW.label
    | (apply AW.kRd; refine AW.sRd (h := ?_))
    | ((first | (apply AW.kC; refine AW.sC (h1 := fun h => ?_) (h2 := fun h => ?_))) <;> (try (first | exact Bool.noConfusion h | exact absurd h (by decide) | (simp at h; done) | (rw [h]; try simp only [nrm] at h; try rw [h]; try (exfalso; omega)) | skip)))
    | (apply AR.kAny; first | (apply AR.kIx; first | refine AR.sIxN (h := ?_) | refine AR.sIx (h := ?_) | refine AR.sP (h := ?_) | refine AR.sPi (h := ?_)) | (apply AR.kAdd; refine AR.sAdd (h := ?_)) | (apply AR.kP; first | refine AR.sP (h := ?_) | refine AR.sPi (h := ?_)))
    | (apply AR.kNil; refine AR.sNil (h := ?_)))
  · (refine AW.ret (hD rfl ?_); (repeat' (first | apply Lx.s | apply Lx.b | apply Lx.i | apply LxL.cons | exact LxL.nil | apply Lx.tup | apply Lx.agg | apply Lx.refl)) <;> (try with_reducible rfl))
    have h : ((((a.map Ms.av).length : Nat) : Int) != (((b.map Ms.av).length : Nat) : Int)) = true := by assumption
    rw [bne_iff_ne] at h
    exact (decide_eq_false fun e => h (by rw [e])).symm
  · have h : ((((a.map Ms.av).length : Nat) : Int) != (((b.map Ms.av).length : Nat) : Int)) = false := by assumption
    rw [bne_eq_false_iff_eq] at h
    refine AW.loopI (fun q : Nat => q ≤ a.length ∧ a.take q = b.take q) (fun q => ⟨[(0, .sh 6 (a.map Ms.av)), (1, .sh 6 (b.map Ms.av)), (12, .i .i64 a.length), (13, .i .i64 q)], []⟩) (fun q => a.length - q) 0 (by simp) (by (constructor <;> (repeat' (first | exact LeT.nil | exact LeB.nil | apply LeT.cons | apply LeB.cons | exact Ol.refl | apply Lx.s | apply Lx.b | apply Lx.i | exact Lx.refl)) <;> (first | rfl | assumption | omega | (simp only [List.length_map, BS_len]; done) | skip))) fun m q ⟨hn, hc⟩ ih => ?_
    repeat' (first
    | apply AO.nil
    | (apply AO.kIx; first | refine AO.sIxN (h := ?_) | refine AO.sIx (h := ?_) | refine AO.sP (h := ?_) | refine AO.sPi (h := ?_))
    | (apply AO.kAdd; refine AO.sAdd (h := ?_))
    | (apply AO.kP; first | refine AO.sP (h := ?_) | refine AO.sPi (h := ?_) | refine AO.sLoadB (h := ?_))
    | apply AW.seq
    | (apply AW.kR; refine AW.sR (h := ?_))
    | apply AW.skip
    | apply AW.block
    | apply AW.out
    | (apply AW.kE; refine AW.sE (h := ?_))
    | apply AW.label
    | (apply AW.kRd; refine AW.sRd (h := ?_))
    | ((first | (apply AW.kC; refine AW.sC (h1 := fun h => ?_) (h2 := fun h => ?_))) <;> (try (first | exact Bool.noConfusion h | exact absurd h (by decide) | (simp at h; done) | (rw [h]; try simp only [nrm] at h; try rw [h]; try (exfalso; omega)) | skip)))
    | (apply AR.kAny; first | (apply AR.kIx; first | refine AR.sIxN (h := ?_) | refine AR.sIx (h := ?_) | refine AR.sP (h := ?_) | refine AR.sPi (h := ?_)) | (apply AR.kAdd; refine AR.sAdd (h := ?_)) | (apply AR.kP; first | refine AR.sP (h := ?_) | refine AR.sPi (h := ?_)))
    | (apply AR.kNil; refine AR.sNil (h := ?_)))
    · (refine AW.ret (hD rfl ?_); (repeat' (first | apply Lx.s | apply Lx.b | apply Lx.i | apply LxL.cons | exact LxL.nil | apply Lx.tup | apply Lx.agg | apply Lx.refl)) <;> (try with_reducible rfl))
      exact (decide_eq_false (ne_at fun e => by rw [ms_eq, decide_eq_true e] at h; cases h)).symm
    · have e : a.getD q default = b.getD q default := by rw [ms_eq] at h; exact of_decide_eq_true h
      exact ih (q + 1) _ ⟨by omega, take_step (by omega) (by omega) hc e⟩ (by omega) (by (constructor <;> (repeat' (first | exact LeT.nil | exact LeB.nil | apply LeT.cons | apply LeB.cons | exact Ol.refl | apply Lx.s | apply Lx.b | apply Lx.i | exact Lx.refl)) <;> (first | rfl | assumption | omega | (simp only [List.length_map, BS_len]; done) | skip)))
    · (refine AW.ret (hD rfl ?_); (repeat' (first | apply Lx.s | apply Lx.b | apply Lx.i | apply LxL.cons | exact LxL.nil | apply Lx.tup | apply Lx.agg | apply Lx.refl)) <;> (try with_reducible rfl))
      exact (decide_eq_true (take_all (by omega) (by omega) hc)).symm
theorem gGreatP (l : List Pr) (hl : l.length ≤ 9223372036854775807) : Good Try.prog 42 [.sh 2 (l.map Pr.av)] [] (.b (greatP l)) [] := by
  have ll : (l.map Pr.av).length = l.length := by simp
  refine Good.w tabOk mixed Try.func42 (N := 29) (by kernel_rfl) rfl (by (repeat (first | exact LE.nil | apply LE.cons)); done) (by (repeat (first | exact LE.nil | apply LE.cons)); done) fun D hD F => ?_
  repeat' (first
    | apply AO.nil
    | (apply AO.kIx; first | refine AO.sIxN (h := ?_) | refine AO.sIx (h := ?_) | refine AO.sP (h := ?_) | refine AO.sPi (h := ?_))
    | (apply AO.kAdd; refine AO.sAdd (h := ?_))
    | (apply AO.kP; first | refine AO.sP (h := ?_) | refine AO.sPi (h := ?_) | refine AO.sLoadB (h := ?_))
    | apply AW.seq
    | (apply AW.kR; refine AW.sR (h := ?_))
    | apply AW.skip
    | apply AW.block
    | apply AW.out
    | (apply AW.kE; refine AW.sE (h := ?_))
    | apply AW.label
    | ((first | (apply AO.kG; first | refine AO.sgt (h1 := fun h => ?_) (h2 := fun h => ?_) | refine AO.sgf (h1 := fun h => ?_) (h2 := fun h => ?_) | refine AO.sgs (h := ?_)) | (apply AW.kC; refine AW.sC (h1 := fun h => ?_) (h2 := fun h => ?_))) <;> (try (first | exact Bool.noConfusion h | exact absurd h (by decide) | (simp at h; done) | (rw [h]; try simp only [nrm] at h; try rw [h]; try (exfalso; omega)) | skip))))
  · (refine AW.ret (hD rfl ?_); (repeat' (first | apply Lx.s | apply Lx.b | apply Lx.i | apply LxL.cons | exact LxL.nil | apply Lx.tup | apply Lx.agg | apply Lx.refl)) <;> (try with_reducible rfl))
    simp [greatP, show 60 < l.length by omega]
  · have h0 : greatP l = !l.all prG := by simp [greatP, show ¬ 60 < l.length by omega]
    refine AW.loopI (fun q : Nat => q ≤ l.length ∧ (l.take q).all prG = true) (fun q => ⟨[(0, .sh 2 (l.map Pr.av)), (8, .i .i64 l.length), (9, .i .i64 q)], []⟩) (fun q => l.length - q) 0 (by simp) (by (constructor <;> (repeat' (first | exact LeT.nil | exact LeB.nil | apply LeT.cons | apply LeB.cons | exact Ol.refl | apply Lx.s | apply Lx.b | apply Lx.i | exact Lx.refl)) <;> (first | rfl | assumption | omega | (simp only [List.length_map, BS_len]; done) | skip))) fun m q ⟨hn, hc⟩ ih => ?_
    repeat' (first
    | apply AO.nil
    | (apply AO.kIx; first | refine AO.sIxN (h := ?_) | refine AO.sIx (h := ?_) | refine AO.sP (h := ?_) | refine AO.sPi (h := ?_))
    | (apply AO.kAdd; refine AO.sAdd (h := ?_))
    | (apply AO.kP; first | refine AO.sP (h := ?_) | refine AO.sPi (h := ?_) | refine AO.sLoadB (h := ?_))
    | apply AW.seq
    | (apply AW.kR; refine AW.sR (h := ?_))
    | apply AW.skip
    | apply AW.block
    | apply AW.out
    | (apply AW.kE; refine AW.sE (h := ?_))
    | apply AW.label
    | ((first | (apply AO.kG; first | refine AO.sgt (h1 := fun h => ?_) (h2 := fun h => ?_) | refine AO.sgf (h1 := fun h => ?_) (h2 := fun h => ?_) | refine AO.sgs (h := ?_)) | (apply AW.kC; refine AW.sC (h1 := fun h => ?_) (h2 := fun h => ?_))) <;> (try (first | exact Bool.noConfusion h | exact absurd h (by decide) | (simp at h; done) | (rw [h]; try simp only [nrm] at h; try rw [h]; try (exfalso; omega)) | skip))))
    · (refine AW.ret (hD rfl ?_); (repeat' (first | apply Lx.s | apply Lx.b | apply Lx.i | apply LxL.cons | exact LxL.nil | apply Lx.tup | apply Lx.agg | apply Lx.refl)) <;> (try with_reducible rfl))
      rw [h0, all_fail (by omega : q < l.length) (by simp only [prG, Bool.and_eq_false_iff, Bool.not_eq_false', decide_eq_true_eq]; omega)]; rfl
    · exact ih (q + 1) _ ⟨by omega, all_step (by omega) hc (by simp only [prG, Bool.and_eq_true, Bool.not_eq_true', decide_eq_false_iff_not]; omega)⟩ (by omega) (by (constructor <;> (repeat' (first | exact LeT.nil | exact LeB.nil | apply LeT.cons | apply LeB.cons | exact Ol.refl | apply Lx.s | apply Lx.b | apply Lx.i | exact Lx.refl)) <;> (first | rfl | assumption | omega | (simp only [List.length_map, BS_len]; done) | skip)))
    · (refine AW.ret (hD rfl ?_); (repeat' (first | apply Lx.s | apply Lx.b | apply Lx.i | apply LxL.cons | exact LxL.nil | apply Lx.tup | apply Lx.agg | apply Lx.refl)) <;> (try with_reducible rfl))
      rw [h0, all_fail (by omega : q < l.length) (by simp only [prG, Bool.and_eq_false_iff, Bool.not_eq_false', decide_eq_true_eq]; omega)]; rfl
    · (refine AW.ret (hD rfl ?_); (repeat' (first | apply Lx.s | apply Lx.b | apply Lx.i | apply LxL.cons | exact LxL.nil | apply Lx.tup | apply Lx.agg | apply Lx.refl)) <;> (try with_reducible rfl))
      rw [h0, all_done (by omega) hc]; rfl
theorem gGreatM (l : List Ms) (hl : l.length ≤ 9223372036854775807) : Good Try.prog 43 [.sh 6 (l.map Ms.av)] [] (.b (greatM l)) [] := by
  have ll : (l.map Ms.av).length = l.length := by simp
  refine Good.w tabOk mixed Try.func43 (N := 38) (by kernel_rfl) rfl (by (repeat (first | exact LE.nil | apply LE.cons)); done) (by (repeat (first | exact LE.nil | apply LE.cons)); done) fun D hD F => ?_
  repeat' (first
    | apply AO.nil
    | (apply AO.kIx; first | refine AO.sIxN (h := ?_) | refine AO.sIx (h := ?_) | refine AO.sP (h := ?_) | refine AO.sPi (h := ?_))
    | (apply AO.kAdd; refine AO.sAdd (h := ?_))
    | (apply AO.kP; first | refine AO.sP (h := ?_) | refine AO.sPi (h := ?_) | refine AO.sLoadB (h := ?_))
    | apply AW.seq
    | (apply AW.kR; refine AW.sR (h := ?_))
    | apply AW.skip
    | apply AW.block
    | apply AW.out
    | (apply AW.kE; refine AW.sE (h := ?_))
    | apply AW.label
    | ((first | (apply AO.kG; first | refine AO.sgt (h1 := fun h => ?_) (h2 := fun h => ?_) | refine AO.sgf (h1 := fun h => ?_) (h2 := fun h => ?_) | refine AO.sgs (h := ?_)) | (apply AW.kC; refine AW.sC (h1 := fun h => ?_) (h2 := fun h => ?_))) <;> (try (first | exact Bool.noConfusion h | exact absurd h (by decide) | (simp at h; done) | (rw [h]; try simp only [nrm] at h; try rw [h]; try (exfalso; omega)) | skip))))
  · (refine AW.ret (hD rfl ?_); (repeat' (first | apply Lx.s | apply Lx.b | apply Lx.i | apply LxL.cons | exact LxL.nil | apply Lx.tup | apply Lx.agg | apply Lx.refl)) <;> (try with_reducible rfl))
    simp [greatM, show 60 < l.length by omega]
  · have h0 : greatM l = !l.all msG := by simp [greatM, show ¬ 60 < l.length by omega]
    refine AW.loopI (fun q : Nat => q ≤ l.length ∧ (l.take q).all msG = true) (fun q => ⟨[(0, .sh 6 (l.map Ms.av)), (8, .i .i64 l.length), (9, .i .i64 q)], []⟩) (fun q => l.length - q) 0 (by simp) (by (constructor <;> (repeat' (first | exact LeT.nil | exact LeB.nil | apply LeT.cons | apply LeB.cons | exact Ol.refl | apply Lx.s | apply Lx.b | apply Lx.i | exact Lx.refl)) <;> (first | rfl | assumption | omega | (simp only [List.length_map, BS_len]; done) | skip))) fun m q ⟨hn, hc⟩ ih => ?_
    repeat' (first
    | apply AO.nil
    | (apply AO.kIx; first | refine AO.sIxN (h := ?_) | refine AO.sIx (h := ?_) | refine AO.sP (h := ?_) | refine AO.sPi (h := ?_))
    | (apply AO.kAdd; refine AO.sAdd (h := ?_))
    | (apply AO.kP; first | refine AO.sP (h := ?_) | refine AO.sPi (h := ?_) | refine AO.sLoadB (h := ?_))
    | apply AW.seq
    | (apply AW.kR; refine AW.sR (h := ?_))
    | apply AW.skip
    | apply AW.block
    | apply AW.out
    | (apply AW.kE; refine AW.sE (h := ?_))
    | apply AW.label
    | ((first | (apply AO.kG; first | refine AO.sgt (h1 := fun h => ?_) (h2 := fun h => ?_) | refine AO.sgf (h1 := fun h => ?_) (h2 := fun h => ?_) | refine AO.sgs (h := ?_)) | (apply AW.kC; refine AW.sC (h1 := fun h => ?_) (h2 := fun h => ?_))) <;> (try (first | exact Bool.noConfusion h | exact absurd h (by decide) | (simp at h; done) | (rw [h]; try simp only [nrm] at h; try rw [h]; try (exfalso; omega)) | skip))))
    · (refine AW.ret (hD rfl ?_); (repeat' (first | apply Lx.s | apply Lx.b | apply Lx.i | apply LxL.cons | exact LxL.nil | apply Lx.tup | apply Lx.agg | apply Lx.refl)) <;> (try with_reducible rfl))
      rw [h0, all_fail (by omega : q < l.length) (by simp only [msG, Bool.and_eq_false_iff, Bool.not_eq_false', decide_eq_true_eq]; omega)]; rfl
    · exact ih (q + 1) _ ⟨by omega, all_step (by omega) hc (by simp only [msG, Bool.and_eq_true, Bool.not_eq_true', decide_eq_false_iff_not]; omega)⟩ (by omega) (by (constructor <;> (repeat' (first | exact LeT.nil | exact LeB.nil | apply LeT.cons | apply LeB.cons | exact Ol.refl | apply Lx.s | apply Lx.b | apply Lx.i | exact Lx.refl)) <;> (first | rfl | assumption | omega | (simp only [List.length_map, BS_len]; done) | skip)))
    · (refine AW.ret (hD rfl ?_); (repeat' (first | apply Lx.s | apply Lx.b | apply Lx.i | apply LxL.cons | exact LxL.nil | apply Lx.tup | apply Lx.agg | apply Lx.refl)) <;> (try with_reducible rfl))
      rw [h0, all_fail (by omega : q < l.length) (by simp only [msG, Bool.and_eq_false_iff, Bool.not_eq_false', decide_eq_true_eq]; omega)]; rfl
    · (refine AW.ret (hD rfl ?_); (repeat' (first | apply Lx.s | apply Lx.b | apply Lx.i | apply LxL.cons | exact LxL.nil | apply Lx.tup | apply Lx.agg | apply Lx.refl)) <;> (try with_reducible rfl))
      rw [h0, all_fail (by omega : q < l.length) (by simp only [msG, Bool.and_eq_false_iff, Bool.not_eq_false', decide_eq_true_eq]; omega)]; rfl
    · (refine AW.ret (hD rfl ?_); (repeat' (first | apply Lx.s | apply Lx.b | apply Lx.i | apply LxL.cons | exact LxL.nil | apply Lx.tup | apply Lx.agg | apply Lx.refl)) <;> (try with_reducible rfl))
      rw [h0, all_done (by omega) hc]; rfl
theorem gGreat (n : Nd) (hs : n.fits) : Good Try.prog 14 [.agg n.av] [] (.b (great n)) [] := by
  obtain ⟨leaf, pairs, pivots, kids, buf⟩ := n
  have hs1 : pairs.length ≤ 9223372036854775807 := hs.pairs
  have hs2 : pivots.length ≤ 9223372036854775807 := hs.pivots
  have hs3 : kids.length ≤ 9223372036854775807 := hs.kids
  have hs4 : buf.length ≤ 9223372036854775807 := hs.buf
  have l1 : (pairs.map Pr.av).length = pairs.length := by simp
  have l2 : (pivots.map sav).length = pivots.length := by simp
  have l3 : (kids.map Ed.av).length = kids.length := by simp
  have l4 : (buf.map Ms.av).length = buf.length := by simp
  clear hs
  refine Good.w tabOk mixed Try.func14 (N := 66) (by kernel_rfl) rfl (by (repeat (first | exact LE.nil | apply LE.cons)); done) (by (repeat (first | exact LE.nil | apply LE.cons)); done) fun D hD F => ?_
  repeat' (first
    | apply AO.nil
    | (apply AO.kCall 42; refine AO.sCall (hg := (gGreatP _ sd)) (h := ?_))
    | (apply AO.kCall 43; refine AO.sCall (hg := (gGreatM _ sd)) (h := ?_))
    | (apply AO.kIx; first | refine AO.sIxN (h := ?_) | refine AO.sIx (h := ?_) | refine AO.sP (h := ?_) | refine AO.sPi (h := ?_))
    | (apply AO.kBox; refine AO.sBox (h := ?_))
    | (apply AO.kAdd; refine AO.sAdd (h := ?_))
    | (apply AO.kP; first | refine AO.sP (h := ?_) | refine AO.sPi (h := ?_) | refine AO.sLoadB (h := ?_))
    | apply AW.seq
    | (apply AW.kR; refine AW.sR (h := ?_))
    | apply AW.skip
    | apply AW.block
    | apply AW.out
    | (apply AW.kE; refine AW.sE (h := ?_))
    | apply AW.label
    | ((first | (apply AO.kG; first | refine AO.sgt (h1 := fun h => ?_) (h2 := fun h => ?_) | refine AO.sgf (h1 := fun h => ?_) (h2 := fun h => ?_) | refine AO.sgs (h := ?_)) | (apply AW.kC; refine AW.sC (h1 := fun h => ?_) (h2 := fun h => ?_))) <;> (try (first | exact Bool.noConfusion h | exact absurd h (by decide) | (simp at h; done) | (rw [h]; try simp only [nrm] at h; try rw [h]; try (exfalso; omega)) | skip))))
  · (refine AW.ret (hD rfl ?_); (repeat' (first | apply Lx.s | apply Lx.b | apply Lx.i | apply LxL.cons | exact LxL.nil | apply Lx.tup | apply Lx.agg | apply Lx.refl)) <;> (try with_reducible rfl))
    rename_i h
    simp [great, h]
  · have hg1 : greatP pairs = false := by assumption
    have hg2 : greatM buf = false := by assumption
    have h0 : great ⟨leaf, pairs, pivots, kids, buf⟩ = (!pivots.all svG || !kids.all edG) := by
      simp [great, hg1, hg2, show ¬ 60 < pivots.length by omega, show ¬ 60 < kids.length by omega]
    refine AW.loopI (fun q : Nat => q ≤ pivots.length ∧ (pivots.take q).all svG = true) (fun q => ⟨[(1, .ptr 1 0), (27, .i .i64 pivots.length), (28, .i .i64 q)], [(1, .bx (Nd.av ⟨leaf, pairs, pivots, kids, buf⟩))]⟩) (fun q => pivots.length - q) 0 (by simp) (by (constructor <;> (repeat' (first | exact LeT.nil | exact LeB.nil | apply LeT.cons | apply LeB.cons | exact Ol.refl | apply Lx.s | apply Lx.b | apply Lx.i | exact Lx.refl)) <;> (first | rfl | assumption | omega | (simp only [List.length_map, BS_len]; done) | skip))) fun m q ⟨hn, hc⟩ ih => ?_
    repeat' (first
    | apply AO.nil
    | (apply AO.kIx; first | refine AO.sIxN (h := ?_) | refine AO.sIx (h := ?_) | refine AO.sP (h := ?_) | refine AO.sPi (h := ?_))
    | (apply AO.kBox; refine AO.sBox (h := ?_))
    | (apply AO.kAdd; refine AO.sAdd (h := ?_))
    | (apply AO.kP; first | refine AO.sP (h := ?_) | refine AO.sPi (h := ?_) | refine AO.sLoadB (h := ?_))
    | apply AW.seq
    | (apply AW.kR; refine AW.sR (h := ?_))
    | apply AW.skip
    | apply AW.block
    | apply AW.out
    | (apply AW.kE; refine AW.sE (h := ?_))
    | apply AW.label
    | ((first | (apply AO.kG; first | refine AO.sgt (h1 := fun h => ?_) (h2 := fun h => ?_) | refine AO.sgf (h1 := fun h => ?_) (h2 := fun h => ?_) | refine AO.sgs (h := ?_)) | (apply AW.kC; refine AW.sC (h1 := fun h => ?_) (h2 := fun h => ?_))) <;> (try (first | exact Bool.noConfusion h | exact absurd h (by decide) | (simp at h; done) | (rw [h]; try simp only [nrm] at h; try rw [h]; try (exfalso; omega)) | skip))))
    · (refine AW.ret (hD rfl ?_); (repeat' (first | apply Lx.s | apply Lx.b | apply Lx.i | apply LxL.cons | exact LxL.nil | apply Lx.tup | apply Lx.agg | apply Lx.refl)) <;> (try with_reducible rfl))
      rw [h0, all_fail (by omega : q < pivots.length) (by simp only [svG, Bool.not_eq_false', decide_eq_true_eq]; omega)]; rfl
    · exact ih (q + 1) _ ⟨by omega, all_step (by omega) hc (by simp only [svG, Bool.not_eq_true', decide_eq_false_iff_not]; omega)⟩ (by omega) (by (constructor <;> (repeat' (first | exact LeT.nil | exact LeB.nil | apply LeT.cons | apply LeB.cons | exact Ol.refl | apply Lx.s | apply Lx.b | apply Lx.i | exact Lx.refl)) <;> (first | rfl | assumption | omega | (simp only [List.length_map, BS_len]; done) | skip)))
    · rw [all_done (by omega) hc] at h0
      refine AW.loopI (fun q : Nat => q ≤ kids.length ∧ (kids.take q).all edG = true) (fun q => ⟨[(1, .ptr 1 0), (41, .i .i64 kids.length), (42, .i .i64 q)], [(1, .bx (Nd.av ⟨leaf, pairs, pivots, kids, buf⟩))]⟩) (fun q => kids.length - q) 0 (by simp) (by (constructor <;> (repeat' (first | exact LeT.nil | exact LeB.nil | apply LeT.cons | apply LeB.cons | exact Ol.refl | apply Lx.s | apply Lx.b | apply Lx.i | exact Lx.refl)) <;> (first | rfl | assumption | omega | (simp only [List.length_map, BS_len]; done) | skip))) fun m2 q2 ⟨hn2, hc2⟩ ih2 => ?_
      repeat' (first
    | apply AO.nil
    | (apply AO.kIx; first | refine AO.sIxN (h := ?_) | refine AO.sIx (h := ?_) | refine AO.sP (h := ?_) | refine AO.sPi (h := ?_))
    | (apply AO.kBox; refine AO.sBox (h := ?_))
    | (apply AO.kAdd; refine AO.sAdd (h := ?_))
    | (apply AO.kP; first | refine AO.sP (h := ?_) | refine AO.sPi (h := ?_) | refine AO.sLoadB (h := ?_))
    | apply AW.seq
    | (apply AW.kR; refine AW.sR (h := ?_))
    | apply AW.skip
    | apply AW.block
    | apply AW.out
    | (apply AW.kE; refine AW.sE (h := ?_))
    | apply AW.label
    | ((first | (apply AO.kG; first | refine AO.sgt (h1 := fun h => ?_) (h2 := fun h => ?_) | refine AO.sgf (h1 := fun h => ?_) (h2 := fun h => ?_) | refine AO.sgs (h := ?_)) | (apply AW.kC; refine AW.sC (h1 := fun h => ?_) (h2 := fun h => ?_))) <;> (try (first | exact Bool.noConfusion h | exact absurd h (by decide) | (simp at h; done) | (rw [h]; try simp only [nrm] at h; try rw [h]; try (exfalso; omega)) | skip))))
      · (refine AW.ret (hD rfl ?_); (repeat' (first | apply Lx.s | apply Lx.b | apply Lx.i | apply LxL.cons | exact LxL.nil | apply Lx.tup | apply Lx.agg | apply Lx.refl)) <;> (try with_reducible rfl))
        rw [h0, all_fail (by omega : q2 < kids.length) (by simp only [edG, Bool.and_eq_false_iff, Bool.not_eq_false', decide_eq_true_eq]; omega)]; rfl
      · exact ih2 (q2 + 1) _ ⟨by omega, all_step (by omega) hc2 (by simp only [edG, Bool.and_eq_true, Bool.not_eq_true', decide_eq_false_iff_not]; omega)⟩ (by omega) (by (constructor <;> (repeat' (first | exact LeT.nil | exact LeB.nil | apply LeT.cons | apply LeB.cons | exact Ol.refl | apply Lx.s | apply Lx.b | apply Lx.i | exact Lx.refl)) <;> (first | rfl | assumption | omega | (simp only [List.length_map, BS_len]; done) | skip)))
      · (refine AW.ret (hD rfl ?_); (repeat' (first | apply Lx.s | apply Lx.b | apply Lx.i | apply LxL.cons | exact LxL.nil | apply Lx.tup | apply Lx.agg | apply Lx.refl)) <;> (try with_reducible rfl))
        rw [h0, all_fail (by omega : q2 < kids.length) (by simp only [edG, Bool.and_eq_false_iff, Bool.not_eq_false', decide_eq_true_eq]; omega)]; rfl
      · (refine AW.ret (hD rfl ?_); (repeat' (first | apply Lx.s | apply Lx.b | apply Lx.i | apply LxL.cons | exact LxL.nil | apply Lx.tup | apply Lx.agg | apply Lx.refl)) <;> (try with_reducible rfl))
        rw [h0, all_done (by omega) hc2]; rfl
  · (refine AW.ret (hD rfl ?_); (repeat' (first | apply Lx.s | apply Lx.b | apply Lx.i | apply LxL.cons | exact LxL.nil | apply Lx.tup | apply Lx.agg | apply Lx.refl)) <;> (try with_reducible rfl))
    have hg1 : greatP pairs = true := by assumption
    simp [great, hg1]
  · (refine AW.ret (hD rfl ?_); (repeat' (first | apply Lx.s | apply Lx.b | apply Lx.i | apply LxL.cons | exact LxL.nil | apply Lx.tup | apply Lx.agg | apply Lx.refl)) <;> (try with_reducible rfl))
    simp [great, show 60 < kids.length by omega]
  · (refine AW.ret (hD rfl ?_); (repeat' (first | apply Lx.s | apply Lx.b | apply Lx.i | apply LxL.cons | exact LxL.nil | apply Lx.tup | apply Lx.agg | apply Lx.refl)) <;> (try with_reducible rfl))
    simp [great, show 60 < pivots.length by omega]
theorem gSame (a b : Nd) (ha : a.small) (hb : b.small) : Good Try.prog 30 [.agg a.av, .agg b.av] [] (.b (decide (a = b))) [] := by
  have ha1 := ha.pairs; have ha2 := ha.pivots; have ha3 := ha.kids; have ha4 := ha.buf
  have hb1 := hb.pairs; have hb2 := hb.pivots; have hb3 := hb.kids; have hb4 := hb.buf
  refine Good.w tabOk mixed Try.func30 (N := 38) (by kernel_rfl) rfl (by (repeat (first | exact LE.nil | apply LE.cons)); done) (by (repeat (first | exact LE.nil | apply LE.cons)); done) fun D hD F => ?_
  repeat' (first
    | apply AO.nil
    | (apply AO.kCall 65; refine AO.sCall (hg := (gAlikeP _ _ sd sd)) (h := ?_))
    | (apply AO.kCall 66; refine AO.sCall (hg := (gAlikeS _ _ sd sd)) (h := ?_))
    | (apply AO.kCall 67; refine AO.sCall (hg := (gAlikeE _ _ sd sd)) (h := ?_))
    | (apply AO.kCall 68; refine AO.sCall (hg := (gAlikeM _ _ sd sd)) (h := ?_))
    | (apply AO.kBox; refine AO.sBox (h := ?_))
    | (apply AO.kP; first | refine AO.sP (h := ?_) | refine AO.sPi (h := ?_) | refine AO.sLoadB (h := ?_))
    | apply AW.seq
    | (apply AW.kR; refine AW.sR (h := ?_))
    | apply AW.skip
    | apply AW.block
    | apply AW.out
    | (apply AW.kE; refine AW.sE (h := ?_))
    | apply AW.label
    | ((first | (apply AO.kG; first | refine AO.sgt (h1 := fun h => ?_) (h2 := fun h => ?_) | refine AO.sgf (h1 := fun h => ?_) (h2 := fun h => ?_) | refine AO.sgs (h := ?_))) <;> (try (first | exact Bool.noConfusion h | exact absurd h (by decide) | (simp at h; done) | (rw [h]; try simp only [nrm] at h; try rw [h]; try (exfalso; omega)) | skip))))
  all_goals (refine AW.ret (hD rfl ?_); (repeat' (first | apply Lx.s | apply Lx.b | apply Lx.i | apply LxL.cons | exact LxL.nil | apply Lx.tup | apply Lx.agg | apply Lx.refl)) <;> (try with_reducible rfl))
  all_goals (cases a; cases b; simp_all)
theorem gSame' (a b : Nd) (ha : a.small) (hb : b.small) : Good Try.prog 18 [.agg a.av, .agg b.av] [] (.b (decide (a = b))) [] := by
  have ha1 := ha.pairs; have ha2 := ha.pivots; have ha3 := ha.kids; have ha4 := ha.buf
  have hb1 := hb.pairs; have hb2 := hb.pivots; have hb3 := hb.kids; have hb4 := hb.buf
  refine Good.w tabOk mixed Try.func18 (N := 78) (by kernel_rfl) rfl (by (repeat (first | exact LE.nil | apply LE.cons)); done) (by (repeat (first | exact LE.nil | apply LE.cons)); done) fun D hD F => ?_
  repeat' (first
    | apply AO.nil
    | (apply AO.kCall 52; refine AO.sCall (hg := (gSameP _ _ sd sd)) (h := ?_))
    | (apply AO.kCall 53; refine AO.sCall (hg := (gSameM _ _ sd sd)) (h := ?_))
    | (apply AO.kIx; first | refine AO.sIxN (h := ?_) | refine AO.sIx (h := ?_) | refine AO.sP (h := ?_) | refine AO.sPi (h := ?_))
    | (apply AO.kBox; refine AO.sBox (h := ?_))
    | (apply AO.kAdd; refine AO.sAdd (h := ?_))
    | (apply AO.kP; first | refine AO.sP (h := ?_) | refine AO.sPi (h := ?_) | refine AO.sLoadB (h := ?_))
    | apply AW.seq
    | (apply AW.kR; refine AW.sR (h := ?_))
    | apply AW.skip
    | apply AW.block
    | apply AW.out
    | (apply AW.kE; refine AW.sE (h := ?_))
    | apply AW.label
    | (apply AW.kRd; refine AW.sRd (h := ?_))
    | ((first | (apply AO.kG; first | refine AO.sgt (h1 := fun h => ?_) (h2 := fun h => ?_) | refine AO.sgf (h1 := fun h => ?_) (h2 := fun h => ?_) | refine AO.sgs (h := ?_)) | (apply AW.kC; refine AW.sC (h1 := fun h => ?_) (h2 := fun h => ?_)) | (apply AR.kAny; apply AR.kG; first | refine AR.sgt (h1 := fun h => ?_) (h2 := fun h => ?_) | refine AR.sgf (h1 := fun h => ?_) (h2 := fun h => ?_) | refine AR.sgs (h := ?_))) <;> (try (first | exact Bool.noConfusion h | exact absurd h (by decide) | (simp at h; done) | (rw [h]; try simp only [nrm] at h; try rw [h]; try (exfalso; omega)) | skip)))
    | (apply AR.kAny; first | (apply AR.kCall 52; refine AR.sCall (hg := (gSameP _ _ sd sd)) (h := ?_)) | (apply AR.kCall 53; refine AR.sCall (hg := (gSameM _ _ sd sd)) (h := ?_)) | (apply AR.kIx; first | refine AR.sIxN (h := ?_) | refine AR.sIx (h := ?_) | refine AR.sP (h := ?_) | refine AR.sPi (h := ?_)) | (apply AR.kBox; refine AR.sBox (h := ?_)) | (apply AR.kAdd; refine AR.sAdd (h := ?_)) | (apply AR.kP; first | refine AR.sP (h := ?_) | refine AR.sPi (h := ?_)))
    | (apply AR.kNil; refine AR.sNil (h := ?_)))
  · (refine AW.ret (hD rfl ?_); (repeat' (first | apply Lx.s | apply Lx.b | apply Lx.i | apply LxL.cons | exact LxL.nil | apply Lx.tup | apply Lx.agg | apply Lx.refl)) <;> (try with_reducible rfl))
    have h : ((((a.kids.map Ed.av).length : Nat) : Int) != (((b.kids.map Ed.av).length : Nat) : Int)) = true := by assumption
    rw [bne_iff_ne] at h
    exact (decide_eq_false fun e => h (by rw [e])).symm
  · have h1 : ((((a.pivots.map sav).length : Nat) : Int) != (((b.pivots.map sav).length : Nat) : Int)) = false := by assumption
    have h2 : ((((a.kids.map Ed.av).length : Nat) : Int) != (((b.kids.map Ed.av).length : Nat) : Int)) = false := by assumption
    have hlf : a.leaf = b.leaf := by assumption
    rw [bne_eq_false_iff_eq] at h1 h2
    have l1 : a.pivots.length = b.pivots.length := by simp only [List.length_map] at h1; omega
    have l2 : a.kids.length = b.kids.length := by simp only [List.length_map] at h2; omega
    obtain ⟨al, ap, av', ak, ab⟩ := a
    obtain ⟨bl, bp, bv, bk, bb⟩ := b
    simp only at *
    subst hlf
    refine AW.loopI (fun q : Nat => q ≤ av'.length ∧ av'.take q = bv.take q) (fun q => ⟨[(2, .ptr 2 0), (3, .ptr 3 0), (32, .i .i64 av'.length), (33, .i .i64 q)], [(2, .bx (Nd.av ⟨al, ap, av', ak, ab⟩)), (3, .bx (Nd.av ⟨al, bp, bv, bk, bb⟩))]⟩) (fun q => av'.length - q) 0 (by simp) (by (constructor <;> (repeat' (first | exact LeT.nil | exact LeB.nil | apply LeT.cons | apply LeB.cons | exact Ol.refl | apply Lx.s | apply Lx.b | apply Lx.i | exact Lx.refl)) <;> (first | rfl | assumption | omega | (simp only [List.length_map, BS_len]; done) | skip))) fun m q ⟨hn, hc⟩ ih => ?_
    repeat' (first
    | apply AO.nil
    | (apply AO.kIx; first | refine AO.sIxN (h := ?_) | refine AO.sIx (h := ?_) | refine AO.sP (h := ?_) | refine AO.sPi (h := ?_))
    | (apply AO.kBox; refine AO.sBox (h := ?_))
    | (apply AO.kAdd; refine AO.sAdd (h := ?_))
    | (apply AO.kP; first | refine AO.sP (h := ?_) | refine AO.sPi (h := ?_) | refine AO.sLoadB (h := ?_))
    | apply AW.seq
    | (apply AW.kR; refine AW.sR (h := ?_))
    | apply AW.skip
    | apply AW.block
    | apply AW.out
    | (apply AW.kE; refine AW.sE (h := ?_))
    | apply AW.label
    | (apply AW.kRd; refine AW.sRd (h := ?_))
    | ((first | (apply AO.kG; first | refine AO.sgt (h1 := fun h => ?_) (h2 := fun h => ?_) | refine AO.sgf (h1 := fun h => ?_) (h2 := fun h => ?_) | refine AO.sgs (h := ?_)) | (apply AW.kC; refine AW.sC (h1 := fun h => ?_) (h2 := fun h => ?_)) | (apply AR.kAny; apply AR.kG; first | refine AR.sgt (h1 := fun h => ?_) (h2 := fun h => ?_) | refine AR.sgf (h1 := fun h => ?_) (h2 := fun h => ?_) | refine AR.sgs (h := ?_))) <;> (try (first | exact Bool.noConfusion h | exact absurd h (by decide) | (simp at h; done) | (rw [h]; try simp only [nrm] at h; try rw [h]; try (exfalso; omega)) | skip)))
    | (apply AR.kAny; first | (apply AR.kIx; first | refine AR.sIxN (h := ?_) | refine AR.sIx (h := ?_) | refine AR.sP (h := ?_) | refine AR.sPi (h := ?_)) | (apply AR.kBox; refine AR.sBox (h := ?_)) | (apply AR.kAdd; refine AR.sAdd (h := ?_)) | (apply AR.kP; first | refine AR.sP (h := ?_) | refine AR.sPi (h := ?_)))
    | (apply AR.kNil; refine AR.sNil (h := ?_)))
    · (refine AW.ret (hD rfl ?_); (repeat' (first | apply Lx.s | apply Lx.b | apply Lx.i | apply LxL.cons | exact LxL.nil | apply Lx.tup | apply Lx.agg | apply Lx.refl)) <;> (try with_reducible rfl))
      rename_i h
      exact (decide_eq_false fun e => h (by injection e with e1 e2 e3 e4 e5; rw [e3])).symm
    · rename_i h
      exact ih (q + 1) _ ⟨by omega, take_step (by omega) (by omega) hc h⟩ (by omega) (by (constructor <;> (repeat' (first | exact LeT.nil | exact LeB.nil | apply LeT.cons | apply LeB.cons | exact Ol.refl | apply Lx.s | apply Lx.b | apply Lx.i | exact Lx.refl)) <;> (first | rfl | assumption | omega | (simp only [List.length_map, BS_len]; done) | skip)))
    · have hv : av' = bv := take_all (by omega) (by omega) hc
      subst hv
      refine AW.loopI (fun q : Nat => q ≤ ak.length ∧ ak.take q = bk.take q) (fun q => ⟨[(2, .ptr 2 0), (3, .ptr 3 0), (50, .i .i64 ak.length), (51, .i .i64 q)], [(2, .bx (Nd.av ⟨al, ap, av', ak, ab⟩)), (3, .bx (Nd.av ⟨al, bp, av', bk, bb⟩))]⟩) (fun q => ak.length - q) 0 (by simp) (by (constructor <;> (repeat' (first | exact LeT.nil | exact LeB.nil | apply LeT.cons | apply LeB.cons | exact Ol.refl | apply Lx.s | apply Lx.b | apply Lx.i | exact Lx.refl)) <;> (first | rfl | assumption | omega | (simp only [List.length_map, BS_len]; done) | skip))) fun m2 q2 ⟨hn2, hc2⟩ ih2 => ?_
      repeat' (first
    | apply AO.nil
    | (apply AO.kCall 52; refine AO.sCall (hg := (gSameP _ _ sd sd)) (h := ?_))
    | (apply AO.kCall 53; refine AO.sCall (hg := (gSameM _ _ sd sd)) (h := ?_))
    | (apply AO.kIx; first | refine AO.sIxN (h := ?_) | refine AO.sIx (h := ?_) | refine AO.sP (h := ?_) | refine AO.sPi (h := ?_))
    | (apply AO.kBox; refine AO.sBox (h := ?_))
    | (apply AO.kAdd; refine AO.sAdd (h := ?_))
    | (apply AO.kP; first | refine AO.sP (h := ?_) | refine AO.sPi (h := ?_) | refine AO.sLoadB (h := ?_))
    | apply AW.seq
    | (apply AW.kR; refine AW.sR (h := ?_))
    | apply AW.skip
    | apply AW.block
    | apply AW.out
    | (apply AW.kE; refine AW.sE (h := ?_))
    | apply AW.label
    | (apply AW.kRd; refine AW.sRd (h := ?_))
    | ((first | (apply AO.kG; first | refine AO.sgt (h1 := fun h => ?_) (h2 := fun h => ?_) | refine AO.sgf (h1 := fun h => ?_) (h2 := fun h => ?_) | refine AO.sgs (h := ?_)) | (apply AW.kC; refine AW.sC (h1 := fun h => ?_) (h2 := fun h => ?_)) | (apply AR.kAny; apply AR.kG; first | refine AR.sgt (h1 := fun h => ?_) (h2 := fun h => ?_) | refine AR.sgf (h1 := fun h => ?_) (h2 := fun h => ?_) | refine AR.sgs (h := ?_))) <;> (try (first | exact Bool.noConfusion h | exact absurd h (by decide) | (simp at h; done) | (rw [h]; try simp only [nrm] at h; try rw [h]; try (exfalso; omega)) | skip)))
    | (apply AR.kAny; first | (apply AR.kCall 52; refine AR.sCall (hg := (gSameP _ _ sd sd)) (h := ?_)) | (apply AR.kCall 53; refine AR.sCall (hg := (gSameM _ _ sd sd)) (h := ?_)) | (apply AR.kIx; first | refine AR.sIxN (h := ?_) | refine AR.sIx (h := ?_) | refine AR.sP (h := ?_) | refine AR.sPi (h := ?_)) | (apply AR.kBox; refine AR.sBox (h := ?_)) | (apply AR.kAdd; refine AR.sAdd (h := ?_)) | (apply AR.kP; first | refine AR.sP (h := ?_) | refine AR.sPi (h := ?_)))
    | (apply AR.kNil; refine AR.sNil (h := ?_)))
      · (refine AW.ret (hD rfl ?_); (repeat' (first | apply Lx.s | apply Lx.b | apply Lx.i | apply LxL.cons | exact LxL.nil | apply Lx.tup | apply Lx.agg | apply Lx.refl)) <;> (try with_reducible rfl))
        have h : (((((ak.getD q2 default).block.toNat : Nat) : Int) == (((bk.getD q2 default).block.toNat : Nat) : Int)) && (((((ak.getD q2 default).deep.toNat : Nat) : Int) == (((bk.getD q2 default).deep.toNat : Nat) : Int)) && (((ak.getD q2 default).strip == (bk.getD q2 default).strip && ((ak.getD q2 default).add == (bk.getD q2 default).add && true)) && true))) = false := by assumption
        rw [ed_eq] at h
        exact (decide_eq_false fun e => of_decide_eq_false h (by injection e with e1 e2 e3 e4 e5; rw [e4])).symm
      · have h : (((((ak.getD q2 default).block.toNat : Nat) : Int) == (((bk.getD q2 default).block.toNat : Nat) : Int)) && (((((ak.getD q2 default).deep.toNat : Nat) : Int) == (((bk.getD q2 default).deep.toNat : Nat) : Int)) && (((ak.getD q2 default).strip == (bk.getD q2 default).strip && ((ak.getD q2 default).add == (bk.getD q2 default).add && true)) && true))) = true := by assumption
        rw [ed_eq] at h
        exact ih2 (q2 + 1) _ ⟨by omega, take_step (by omega) (by omega) hc2 (of_decide_eq_true h)⟩ (by omega) (by (constructor <;> (repeat' (first | exact LeT.nil | exact LeB.nil | apply LeT.cons | apply LeB.cons | exact Ol.refl | apply Lx.s | apply Lx.b | apply Lx.i | exact Lx.refl)) <;> (first | rfl | assumption | omega | (simp only [List.length_map, BS_len]; done) | skip)))
      · have hk : ak = bk := take_all (by omega) (by omega) hc2
        subst hk
        have hp : ap = bp := by assumption
        subst hp
        (refine AW.ret (hD rfl ?_); (repeat' (first | apply Lx.s | apply Lx.b | apply Lx.i | apply LxL.cons | exact LxL.nil | apply Lx.tup | apply Lx.agg | apply Lx.refl)) <;> (try with_reducible rfl))
        simp
      · have hp : ¬ ap = bp := by assumption
        (refine AW.ret (hD rfl ?_); (repeat' (first | apply Lx.s | apply Lx.b | apply Lx.i | apply LxL.cons | exact LxL.nil | apply Lx.tup | apply Lx.agg | apply Lx.refl)) <;> (try with_reducible rfl))
        exact (decide_eq_false fun e => hp (by injection e)).symm
  · (refine AW.ret (hD rfl ?_); (repeat' (first | apply Lx.s | apply Lx.b | apply Lx.i | apply LxL.cons | exact LxL.nil | apply Lx.tup | apply Lx.agg | apply Lx.refl)) <;> (try with_reducible rfl))
    have h : ((((a.pivots.map sav).length : Nat) : Int) != (((b.pivots.map sav).length : Nat) : Int)) = true := by assumption
    rw [bne_iff_ne] at h
    exact (decide_eq_false fun e => h (by rw [e])).symm
  · (refine AW.ret (hD rfl ?_); (repeat' (first | apply Lx.s | apply Lx.b | apply Lx.i | apply LxL.cons | exact LxL.nil | apply Lx.tup | apply Lx.agg | apply Lx.refl)) <;> (try with_reducible rfl))
    have h : ¬ a.leaf = b.leaf := by assumption
    exact (decide_eq_false fun e => h (by rw [e])).symm
end Go.Proofs.Ytmfonbehcfjjgaa.Mv

