/- Messages trimmed, by the document. Under no condition. -/
import Derived.Test.YtocppeifkjdeiaaTrimA
namespace Go.Proofs.Ytocppeifkjdeiaa.Mv
open Go Go.Proofs
set_option linter.unusedSimpArgs false
set_option linter.unusedVariables false
set_option maxRecDepth 10000
set_option maxHeartbeats 4000000
attribute [local irreducible] AW AO AR

theorem cutS_hp {k p : L} (h : hp k p = true) : cutS k p = k.drop p.length := by rw [cutS, if_pos h]
theorem trMs_bad {l : List Ms} {r : L × L × Bool} {a : L} {q : Nat} (hq : q < l.length) (g : msKeep r (l.getD q default) = true) (h : (mvR (l.getD q default) a).2 = false) : trMsOk l r a = false := by
  refine List.all_eq_false.2 ⟨l.getD q default, ?_, by rw [h]; decide⟩
  rw [List.mem_filter]; refine ⟨?_, g⟩
  rw [List.getD_eq_getElem?_getD, List.getElem?_eq_getElem hq]; exact List.getElem_mem hq
theorem gTrimMs' (l : List Ms) (r : L × L × Bool) (a : L) (hl : l.length ≤ 1000000) (ha : a.length ≤ 1000000) (hm : l.all msSm = true) :
    Good Try.prog 74 [.sh 6 (l.map Ms.av), .agg [.s r.1, .s r.2.1, .b r.2.2], .s a] [] (.tup [.sh 6 ((if trMsOk l r a = true then trMsR l r a else []).map Ms.av), .i .i64 (if trMsOk l r a = true then 0 else 1)]) [] := by
  have ll : (l.map Ms.av).length = l.length := by simp
  refine Good.w tabOk mixed Try.func74 (N := 67) (by kernel_rfl) rfl (by (repeat (first | exact LE.nil | apply LE.cons)); done) (by (repeat (first | exact LE.nil | apply LE.cons)); done) fun D hD F => ?_
  repeat' (first
    | apply AO.nil
    | (apply AO.kBuildS; first | refine AO.sBuildT (h := ?_) | refine AO.sBuildS (h := ?_))
    | (apply AO.kApp; first | refine AO.sGrowT (h := ?_) | refine AO.sNewT (h := ?_) | refine AO.sGrowBT (h := ?_) | refine AO.sGrow (h := ?_) | refine AO.sNewr (h := ?_))
    | (apply AO.kIx; first | refine AO.sIxN (h := ?_) | refine AO.sIx (h := ?_) | refine AO.sP (h := ?_) | refine AO.sPi (h := ?_))
    | (apply AO.kSl; first | refine AO.sSl (h := ?_) | refine AO.sSlArr (h := ?_) | refine AO.sP (h := ?_))
    | (apply AO.kBox; refine AO.sBox (h := ?_))
    | (apply AO.kAlloc; refine AO.sAlloc (h := ?_))
    | (apply AO.kStore; first | refine AO.sStore (h := ?_) | refine AO.sStB (h := ?_))
    | (apply AO.kAdd; refine AO.sAdd (h := ?_))
    | (apply AO.kSub; refine AO.sSub (h := ?_))
    | (apply AO.kCv; first | refine AO.sBytes (h := ?_) | refine AO.sStr (h := ?_) | refine AO.sStrR (h := ?_))
    | (apply AO.kP; first | refine AO.sP (h := ?_) | refine AO.sPi (h := ?_) | refine AO.sLoadB (h := ?_) | refine AO.sSameB (h := ?_) | refine AO.sMk0 (h := ?_) | refine AO.sArrB (h := ?_) | refine AO.sLoadA (h := ?_) | refine AO.sEqArr (heg := eqgArr) (h := ?_))
    | (apply AO.kP; refine AO.eqNil (h1 := fun h => ?_) (h2 := ?_))
    | apply AW.seq
    | (apply AW.kR; refine AW.sR (h := ?_))
    | apply AW.skip
    | apply AW.block
    | apply AW.out
    | (apply AW.kE; refine AW.sE (h := ?_))
    | apply AW.label
    | (apply AW.kRd; refine AW.sRd (h := ?_))
    | ((first | (apply AO.kG; first | refine AO.sgt (h1 := fun h => ?_) (h2 := fun h => ?_) | refine AO.sgf (h1 := fun h => ?_) (h2 := fun h => ?_) | refine AO.sgs (h := ?_)) | (apply AW.kC; refine AW.sC (h1 := fun h => ?_) (h2 := fun h => ?_)) | (apply AR.kAny; apply AR.kG; first | refine AR.sgt (h1 := fun h => ?_) (h2 := fun h => ?_) | refine AR.sgf (h1 := fun h => ?_) (h2 := fun h => ?_) | refine AR.sgs (h := ?_))) <;> (try (first | exact Bool.noConfusion h | exact absurd h (by decide) | (simp at h; done) | (rw [h]; try simp only [decide_eq_true_eq, decide_eq_false_iff_not, Int.not_lt, Int.not_le, ge_iff_le, gt_iff_lt, Bool.not_eq_true', Bool.not_eq_false', beq_iff_eq, beq_eq_false_iff_ne, ne_eq] at h; try rw [h]; try (exfalso; omega)) | skip)))
    | (apply AR.kAny; first | (apply AR.kBuildS; first | refine AR.sBuildT (h := ?_) | refine AR.sBuildS (h := ?_)) | (apply AR.kApp; first | refine AR.sGrowT (h := ?_) | refine AR.sNewT (h := ?_) | refine AR.sGrowBT (h := ?_) | refine AR.sGrow (h := ?_) | refine AR.sNewr (h := ?_)) | (apply AR.kIx; first | refine AR.sIxN (h := ?_) | refine AR.sIx (h := ?_) | refine AR.sP (h := ?_) | refine AR.sPi (h := ?_)) | (apply AR.kSl; first | refine AR.sSl (h := ?_) | refine AR.sSlArr (h := ?_) | refine AR.sP (h := ?_)) | (apply AR.kBox; refine AR.sBox (h := ?_)) | (apply AR.kAlloc; refine AR.sAlloc (h := ?_)) | (apply AR.kStore; refine AR.sStore (h := ?_)) | (apply AR.kAdd; refine AR.sAdd (h := ?_)) | (apply AR.kSub; refine AR.sSub (h := ?_)) | (apply AR.kCv; refine AR.sStrR (h := ?_)) | (apply AR.kP; first | refine AR.sP (h := ?_) | refine AR.sPi (h := ?_) | refine AR.sArrB (h := ?_) | refine AR.sLoadA (h := ?_) | refine AR.sEqArr (heg := eqgArr) (h := ?_)))
    | (apply AR.kNil; refine AR.sNil (h := ?_)))
  refine AW.loopI (fun x : Nat × List Ms => x.1 ≤ l.length ∧ ((l.take x.1).filter (msKeep r)).all (fun m => (mvR m a).2) = true ∧ x.2 = trMsR (l.take x.1) r a) (fun x => ⟨[(0, .sh 6 (l.map Ms.av)), (2, .s a), (4, .ptr 4 0), (8, .gr 11 104 6 (x.2.map Ms.av)), (13, .i .i64 (l.length : Nat)), (14, .i .i64 x.1)], [(4, .bx [.s r.1, .s r.2.1, .b r.2.2]), (11, .gw (x.2.map Ms.av).length)]⟩) (fun x => l.length - x.1) (0, []) ⟨by simp, by simp, rfl⟩ (by (constructor <;> (repeat' (first | exact LeT.nil | exact LeB.nil | apply LeT.cons | apply LeB.cons | exact Ol.refl | apply Lx.s | apply Lx.b | apply Lx.i | exact Lx.refl)) <;> (first | rfl | assumption | omega | (simp only [List.length_map, BS_len]; done) | skip))) fun m ⟨q, o⟩ ⟨hn, hc, ho⟩ ih => ?_
  dsimp only at hn hc ho ih ⊢
  by_cases hq : q < l.length
  · obtain ⟨s1, s2⟩ := sm_at hm hq
    have lo : o.length ≤ q := by
      rw [ho]; exact Nat.le_trans (trMsR_len _ _ _) (by rw [List.length_take]; omega)
    have lo' : (o.map Ms.av).length = o.length := by simp
    have h5 := @hp_len (l.getD q default).key a
    have h6 := @hp_len a (l.getD q default).key
    repeat' (first
    | apply AO.nil
    | (apply AO.kCall 105; refine AO.sCall (hg := (gAbout' _ s1)) (h := ?_))
    | (apply AO.kCall 56; refine AO.sCall (hg := (gCut' _ _ _ _ _ _)) (h := ?_))
    | (apply AO.kCall 62; refine AO.sCall (hg := (gEmpty' _ _ _)) (h := ?_))
    | (apply AO.kCall 21; refine AO.sCall (hg := (gHas' _ _)) (h := ?_))
    | (apply AO.kBuildS; first | refine AO.sBuildT (h := ?_) | refine AO.sBuildS (h := ?_))
    | (apply AO.kApp; first | refine AO.sGrowT (h := ?_) | refine AO.sNewT (h := ?_) | refine AO.sGrowBT (h := ?_) | refine AO.sGrow (h := ?_) | refine AO.sNewr (h := ?_))
    | (apply AO.kIx; first | refine AO.sIxN (hm := by first | decide | omega | assumption | (simp only [List.length_drop]; omega) | (have q9 := h5 ‹_›; (try refine ⟨?_, ?_⟩) <;> omega) | (have q9 := h6 ‹_›; (try refine ⟨?_, ?_⟩) <;> omega)) (h := ?_) | refine AO.sIx (hm := by first | decide | omega | assumption | (simp only [List.length_drop]; omega) | (have q9 := h5 ‹_›; (try refine ⟨?_, ?_⟩) <;> omega) | (have q9 := h6 ‹_›; (try refine ⟨?_, ?_⟩) <;> omega)) (h := ?_) | refine AO.sP (h := ?_) | refine AO.sPi (hq := by first | decide | omega | assumption | (simp only [List.length_drop]; omega) | (have q9 := h5 ‹_›; (try refine ⟨?_, ?_⟩) <;> omega) | (have q9 := h6 ‹_›; (try refine ⟨?_, ?_⟩) <;> omega)) (h := ?_))
    | (apply AO.kSl; first | refine AO.sSl (hq := by first | decide | omega | assumption | (simp only [List.length_drop]; omega) | (have q9 := h5 ‹_›; (try refine ⟨?_, ?_⟩) <;> omega) | (have q9 := h6 ‹_›; (try refine ⟨?_, ?_⟩) <;> omega)) (h := ?_) | refine AO.sSlArr (h := ?_) | refine AO.sP (h := ?_))
    | (apply AO.kBox; refine AO.sBox (h := ?_))
    | (apply AO.kAlloc; refine AO.sAlloc (h := ?_))
    | (apply AO.kStore; first | refine AO.sStore (h := ?_) | refine AO.sStB (ho := by first | decide | omega | assumption | (simp only [List.length_drop]; omega) | (have q9 := h5 ‹_›; (try refine ⟨?_, ?_⟩) <;> omega) | (have q9 := h6 ‹_›; (try refine ⟨?_, ?_⟩) <;> omega)) (h := ?_))
    | (apply AO.kAdd; refine AO.sAdd (hr := by first | decide | omega | assumption | (simp only [List.length_drop]; omega) | (have q9 := h5 ‹_›; (try refine ⟨?_, ?_⟩) <;> omega) | (have q9 := h6 ‹_›; (try refine ⟨?_, ?_⟩) <;> omega)) (h := ?_))
    | (apply AO.kSub; refine AO.sSub (hr := by first | decide | omega | assumption | (simp only [List.length_drop]; omega) | (have q9 := h5 ‹_›; (try refine ⟨?_, ?_⟩) <;> omega) | (have q9 := h6 ‹_›; (try refine ⟨?_, ?_⟩) <;> omega)) (h := ?_))
    | (apply AO.kCv; first | refine AO.sBytes (h := ?_) | refine AO.sStr (h := ?_) | refine AO.sStrR (h := ?_))
    | (apply AO.kP; first | refine AO.sP (h := ?_) | refine AO.sPi (hq := by first | decide | omega | assumption | (simp only [List.length_drop]; omega) | (have q9 := h5 ‹_›; (try refine ⟨?_, ?_⟩) <;> omega) | (have q9 := h6 ‹_›; (try refine ⟨?_, ?_⟩) <;> omega)) (h := ?_) | refine AO.sLoadB (ho := by first | decide | omega | assumption | (simp only [List.length_drop]; omega) | (have q9 := h5 ‹_›; (try refine ⟨?_, ?_⟩) <;> omega) | (have q9 := h6 ‹_›; (try refine ⟨?_, ?_⟩) <;> omega)) (h := ?_) | refine AO.sSameB (h := ?_) | refine AO.sMk0 (h := ?_) | refine AO.sArrB (h := ?_) | refine AO.sLoadA (h := ?_) | refine AO.sEqArr (heg := eqgArr) (h := ?_))
    | (apply AO.kP; refine AO.eqNil (h1 := fun h => ?_) (h2 := ?_))
    | apply AW.seq
    | (apply AW.kR; refine AW.sR (h := ?_))
    | apply AW.skip
    | apply AW.block
    | apply AW.out
    | (apply AW.kE; refine AW.sE (h := ?_))
    | apply AW.label
    | (apply AW.kRd; refine AW.sRd (h := ?_))
    | ((first | (apply AO.kG; first | refine AO.sgt (h1 := fun h => ?_) (h2 := fun h => ?_) | refine AO.sgf (h1 := fun h => ?_) (h2 := fun h => ?_) | refine AO.sgs (h := ?_)) | (apply AW.kC; refine AW.sC (h1 := fun h => ?_) (h2 := fun h => ?_)) | (apply AR.kAny; apply AR.kG; first | refine AR.sgt (h1 := fun h => ?_) (h2 := fun h => ?_) | refine AR.sgf (h1 := fun h => ?_) (h2 := fun h => ?_) | refine AR.sgs (h := ?_))) <;> (try (first | exact Bool.noConfusion h | exact absurd h (by decide) | (simp at h; done) | (rw [h]; try simp only [decide_eq_true_eq, decide_eq_false_iff_not, Int.not_lt, Int.not_le, ge_iff_le, gt_iff_lt, Bool.not_eq_true', Bool.not_eq_false', beq_iff_eq, beq_eq_false_iff_ne, ne_eq] at h; try rw [h]; try (exfalso; omega)) | skip)))
    | (apply AR.kAny; first | (apply AR.kCall 105; refine AR.sCall (hg := (gAbout' _ s1)) (h := ?_)) | (apply AR.kCall 56; refine AR.sCall (hg := (gCut' _ _ _ _ _ _)) (h := ?_)) | (apply AR.kCall 62; refine AR.sCall (hg := (gEmpty' _ _ _)) (h := ?_)) | (apply AR.kCall 21; refine AR.sCall (hg := (gHas' _ _)) (h := ?_)) | (apply AR.kBuildS; first | refine AR.sBuildT (h := ?_) | refine AR.sBuildS (h := ?_)) | (apply AR.kApp; first | refine AR.sGrowT (h := ?_) | refine AR.sNewT (h := ?_) | refine AR.sGrowBT (h := ?_) | refine AR.sGrow (h := ?_) | refine AR.sNewr (h := ?_)) | (apply AR.kIx; first | refine AR.sIxN (hm := by first | decide | omega | assumption | (simp only [List.length_drop]; omega) | (have q9 := h5 ‹_›; (try refine ⟨?_, ?_⟩) <;> omega) | (have q9 := h6 ‹_›; (try refine ⟨?_, ?_⟩) <;> omega)) (h := ?_) | refine AR.sIx (hm := by first | decide | omega | assumption | (simp only [List.length_drop]; omega) | (have q9 := h5 ‹_›; (try refine ⟨?_, ?_⟩) <;> omega) | (have q9 := h6 ‹_›; (try refine ⟨?_, ?_⟩) <;> omega)) (h := ?_) | refine AR.sP (h := ?_) | refine AR.sPi (hq := by first | decide | omega | assumption | (simp only [List.length_drop]; omega) | (have q9 := h5 ‹_›; (try refine ⟨?_, ?_⟩) <;> omega) | (have q9 := h6 ‹_›; (try refine ⟨?_, ?_⟩) <;> omega)) (h := ?_)) | (apply AR.kSl; first | refine AR.sSl (hq := by first | decide | omega | assumption | (simp only [List.length_drop]; omega) | (have q9 := h5 ‹_›; (try refine ⟨?_, ?_⟩) <;> omega) | (have q9 := h6 ‹_›; (try refine ⟨?_, ?_⟩) <;> omega)) (h := ?_) | refine AR.sSlArr (h := ?_) | refine AR.sP (h := ?_)) | (apply AR.kBox; refine AR.sBox (h := ?_)) | (apply AR.kAlloc; refine AR.sAlloc (h := ?_)) | (apply AR.kStore; refine AR.sStore (h := ?_)) | (apply AR.kAdd; refine AR.sAdd (hr := by first | decide | omega | assumption | (simp only [List.length_drop]; omega) | (have q9 := h5 ‹_›; (try refine ⟨?_, ?_⟩) <;> omega) | (have q9 := h6 ‹_›; (try refine ⟨?_, ?_⟩) <;> omega)) (h := ?_)) | (apply AR.kSub; refine AR.sSub (hr := by first | decide | omega | assumption | (simp only [List.length_drop]; omega) | (have q9 := h5 ‹_›; (try refine ⟨?_, ?_⟩) <;> omega) | (have q9 := h6 ‹_›; (try refine ⟨?_, ?_⟩) <;> omega)) (h := ?_)) | (apply AR.kCv; refine AR.sStrR (h := ?_)) | (apply AR.kP; first | refine AR.sP (h := ?_) | refine AR.sPi (hq := by first | decide | omega | assumption | (simp only [List.length_drop]; omega) | (have q9 := h5 ‹_›; (try refine ⟨?_, ?_⟩) <;> omega) | (have q9 := h6 ‹_›; (try refine ⟨?_, ?_⟩) <;> omega)) (h := ?_) | refine AR.sArrB (h := ?_) | refine AR.sLoadA (h := ?_) | refine AR.sEqArr (heg := eqgArr) (h := ?_)))
    | (apply AR.kNil; refine AR.sNil (h := ?_)))
    · have g : msKeep r (l.getD q default) = false := by rw [msKeep, emC, h]; rfl
      exact ih (q + 1, o) _ ⟨by dsimp only; omega, by dsimp only; rw [filt_no hq g]; exact hc, by dsimp only; rw [ho, trMsR, trMsR, filt_no hq g]⟩ (by dsimp only; omega) (by (constructor <;> (repeat' (first | exact LeT.nil | exact LeB.nil | apply LeT.cons | apply LeB.cons | exact Ol.refl | apply Lx.s | apply Lx.b | apply Lx.i | exact Lx.refl)) <;> (first | rfl | assumption | omega | (simp only [List.length_map, BS_len]; done) | skip)))
    · have g : msKeep r (l.getD q default) = true := by rw [msKeep, emC, ‹emR _ _ _ = false›]; rfl
      have g2 := mv1 h
      rw [cutS_hp h] at g2
      exact ih (q + 1, o ++ [⟨(l.getD q default).kind, (l.getD q default).key.drop a.length, (l.getD q default).val, (l.getD q default).block, (l.getD q default).deep, (l.getD q default).add⟩]) _ ⟨by dsimp only; omega, by dsimp only; rw [filt_yes hq g, List.all_append, hc, List.all_cons, g2]; rfl, by dsimp only; rw [ho, trMsR, trMsR, filt_yes hq g, List.map_append, List.map_cons, g2]; rfl⟩ (by dsimp only; omega) (by ((constructor <;> (repeat' (first | exact LeT.nil | exact LeB.nil | apply LeT.cons | apply LeB.cons | exact Ol.refl | apply Lx.s | apply Lx.b | apply Lx.i | exact Lx.refl)) <;> (first | rfl | assumption | omega | (simp only [List.length_map, BS_len]; done) | skip)) <;> (first | (refine Lx.eq (congrArg (AV.gr _ _ _) ?_); simp only [List.map_append, List.map_cons, List.map_nil]; rfl) | (refine Ol.eq (congrArg Ob.gw ?_); simp only [List.map_append, List.map_cons, List.map_nil, List.length_append, List.length_map, List.length_cons, List.length_nil]; done) | (refine Ol.bx ?_; (repeat' (first | exact LxL.nil | apply LxL.cons | exact Lx.refl | (refine Lx.eq (congrArg (AV.gr _ _ _) ?_); simp only [List.map_append, List.map_cons, List.map_nil]; rfl)))) | skip)))
    · have g : msKeep r (l.getD q default) = true := by rw [msKeep, emC, ‹emR _ _ _ = false›]; rfl
      have g1 : hp (l.getD q default).key a = false := by assumption
      have g2 : hp a (l.getD q default).key = true := by assumption
      rw [List.length_append] at h
      have e := trMs_bad hq g (by rw [mv3 g1 (fun q => by rw [cutS_hp g2] at q; have := q.2.2; simp only [List.length_drop, Int.toNat_natCast] at *; omega)])
      rw [e] at hD
      exact AW.ret (hD rfl (Lx.tup (.cons Lx.gr (.cons (Lx.i rfl) .nil))))
    · have g : msKeep r (l.getD q default) = true := by rw [msKeep, emC, ‹emR _ _ _ = false›]; rfl
      have g1 : hp (l.getD q default).key a = false := by assumption
      have g2 : hp a (l.getD q default).key = true := by assumption
      have g3 : (l.getD q default).kind = 3 := by rw [← k3]; assumption
      have g4 := mv2 g1 g3 g2 (by rw [cutS_hp g2]; rw [List.length_append] at h; exact_mod_cast h)
      rw [cutS_hp g2, g3] at g4
      exact ih (q + 1, o ++ [⟨3, [], (l.getD q default).val, (l.getD q default).block, (l.getD q default).deep, (l.getD q default).add ++ a.drop (l.getD q default).key.length⟩]) _ ⟨by dsimp only; omega, by dsimp only; rw [filt_yes hq g, List.all_append, hc, List.all_cons, g4]; rfl, by dsimp only; rw [ho, trMsR, trMsR, filt_yes hq g, List.map_append, List.map_cons, g4]; rfl⟩ (by dsimp only; omega) (by ((constructor <;> (repeat' (first | exact LeT.nil | exact LeB.nil | apply LeT.cons | apply LeB.cons | exact Ol.refl | apply Lx.s | apply Lx.b | apply Lx.i | exact Lx.refl)) <;> (first | rfl | assumption | omega | (simp only [List.length_map, BS_len]; done) | skip)) <;> (first | (refine Lx.eq (congrArg (AV.gr _ _ _) ?_); simp only [List.map_append, List.map_cons, List.map_nil]; rfl) | (refine Ol.eq (congrArg Ob.gw ?_); simp only [List.map_append, List.map_cons, List.map_nil, List.length_append, List.length_map, List.length_cons, List.length_nil]; done) | (refine Ol.bx ?_; (repeat' (first | exact LxL.nil | apply LxL.cons | exact Lx.refl | (refine Lx.eq (congrArg (AV.gr _ _ _) ?_); simp only [List.map_append, List.map_cons, List.map_nil]; rfl)))) | skip)))
    · have g : msKeep r (l.getD q default) = true := by rw [msKeep, emC, ‹emR _ _ _ = false›]; rfl
      have g1 : hp (l.getD q default).key a = false := by assumption
      have e := trMs_bad hq g (by rw [mv3 g1 (fun q => by rw [h] at q; cases q.2.1)])
      rw [e] at hD
      exact AW.ret (hD rfl (Lx.tup (.cons Lx.gr (.cons (Lx.i rfl) .nil))))
    · have g : msKeep r (l.getD q default) = true := by rw [msKeep, emC, ‹emR _ _ _ = false›]; rfl
      have g1 : hp (l.getD q default).key a = false := by assumption
      have g3 : ¬ (l.getD q default).kind = 3 := by rw [← k3]; assumption
      have e := trMs_bad hq g (by rw [mv3 g1 (fun q => g3 q.1)])
      rw [e] at hD
      exact AW.ret (hD rfl (Lx.tup (.cons Lx.gr (.cons (Lx.i rfl) .nil))))
    · omega
  · repeat' (first
    | apply AO.nil
    | (apply AO.kBuildS; first | refine AO.sBuildT (h := ?_) | refine AO.sBuildS (h := ?_))
    | (apply AO.kApp; first | refine AO.sGrowT (h := ?_) | refine AO.sNewT (h := ?_) | refine AO.sGrowBT (h := ?_) | refine AO.sGrow (h := ?_) | refine AO.sNewr (h := ?_))
    | (apply AO.kIx; first | refine AO.sIxN (h := ?_) | refine AO.sIx (h := ?_) | refine AO.sP (h := ?_) | refine AO.sPi (h := ?_))
    | (apply AO.kSl; first | refine AO.sSl (h := ?_) | refine AO.sSlArr (h := ?_) | refine AO.sP (h := ?_))
    | (apply AO.kBox; refine AO.sBox (h := ?_))
    | (apply AO.kAlloc; refine AO.sAlloc (h := ?_))
    | (apply AO.kStore; first | refine AO.sStore (h := ?_) | refine AO.sStB (h := ?_))
    | (apply AO.kAdd; refine AO.sAdd (h := ?_))
    | (apply AO.kSub; refine AO.sSub (h := ?_))
    | (apply AO.kCv; first | refine AO.sBytes (h := ?_) | refine AO.sStr (h := ?_) | refine AO.sStrR (h := ?_))
    | (apply AO.kP; first | refine AO.sP (h := ?_) | refine AO.sPi (h := ?_) | refine AO.sLoadB (h := ?_) | refine AO.sSameB (h := ?_) | refine AO.sMk0 (h := ?_) | refine AO.sArrB (h := ?_) | refine AO.sLoadA (h := ?_) | refine AO.sEqArr (heg := eqgArr) (h := ?_))
    | (apply AO.kP; refine AO.eqNil (h1 := fun h => ?_) (h2 := ?_))
    | apply AW.seq
    | (apply AW.kR; refine AW.sR (h := ?_))
    | apply AW.skip
    | apply AW.block
    | apply AW.out
    | (apply AW.kE; refine AW.sE (h := ?_))
    | apply AW.label
    | (apply AW.kRd; refine AW.sRd (h := ?_))
    | ((first | (apply AO.kG; first | refine AO.sgt (h1 := fun h => ?_) (h2 := fun h => ?_) | refine AO.sgf (h1 := fun h => ?_) (h2 := fun h => ?_) | refine AO.sgs (h := ?_)) | (apply AW.kC; refine AW.sC (h1 := fun h => ?_) (h2 := fun h => ?_)) | (apply AR.kAny; apply AR.kG; first | refine AR.sgt (h1 := fun h => ?_) (h2 := fun h => ?_) | refine AR.sgf (h1 := fun h => ?_) (h2 := fun h => ?_) | refine AR.sgs (h := ?_))) <;> (try (first | exact Bool.noConfusion h | exact absurd h (by decide) | (simp at h; done) | (rw [h]; try simp only [decide_eq_true_eq, decide_eq_false_iff_not, Int.not_lt, Int.not_le, ge_iff_le, gt_iff_lt, Bool.not_eq_true', Bool.not_eq_false', beq_iff_eq, beq_eq_false_iff_ne, ne_eq] at h; try rw [h]; try (exfalso; omega)) | skip)))
    | (apply AR.kAny; first | (apply AR.kBuildS; first | refine AR.sBuildT (h := ?_) | refine AR.sBuildS (h := ?_)) | (apply AR.kApp; first | refine AR.sGrowT (h := ?_) | refine AR.sNewT (h := ?_) | refine AR.sGrowBT (h := ?_) | refine AR.sGrow (h := ?_) | refine AR.sNewr (h := ?_)) | (apply AR.kIx; first | refine AR.sIxN (h := ?_) | refine AR.sIx (h := ?_) | refine AR.sP (h := ?_) | refine AR.sPi (h := ?_)) | (apply AR.kSl; first | refine AR.sSl (h := ?_) | refine AR.sSlArr (h := ?_) | refine AR.sP (h := ?_)) | (apply AR.kBox; refine AR.sBox (h := ?_)) | (apply AR.kAlloc; refine AR.sAlloc (h := ?_)) | (apply AR.kStore; refine AR.sStore (h := ?_)) | (apply AR.kAdd; refine AR.sAdd (h := ?_)) | (apply AR.kSub; refine AR.sSub (h := ?_)) | (apply AR.kCv; refine AR.sStrR (h := ?_)) | (apply AR.kP; first | refine AR.sP (h := ?_) | refine AR.sPi (h := ?_) | refine AR.sArrB (h := ?_) | refine AR.sLoadA (h := ?_) | refine AR.sEqArr (heg := eqgArr) (h := ?_)))
    | (apply AR.kNil; refine AR.sNil (h := ?_)))
    · omega
    · have e : q = l.length := by omega
      subst e
      rw [List.take_length] at hc ho
      rw [show trMsOk l r a = true from hc] at hD
      refine AW.ret (hD rfl (Lx.tup (.cons ?_ (.cons (Lx.i rfl) .nil))))
      rw [if_pos rfl, ← ho]
      exact Lx.gr
end Go.Proofs.Ytocppeifkjdeiaa.Mv
