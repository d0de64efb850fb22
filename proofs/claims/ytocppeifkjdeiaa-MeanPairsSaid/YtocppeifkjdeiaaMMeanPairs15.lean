/- What the statement MeanPairs needs, part 15. Under no condition. -/
import Derived.Test.YtocppeifkjdeiaaMMeanPairs14
/- Graphs: Pairs. Under no condition. -/
namespace Go.Proofs.Ytocppeifkjdeiaa.Mv
open Go Go.Proofs
set_option linter.unusedSimpArgs false
set_option linter.unusedVariables false
set_option maxRecDepth 10000
set_option maxHeartbeats 4000000

/-- What is kept of what is told. -/
def takeR (n : Int) (rows : List (List AV)) : List (List AV) := if n < 0 then rows else rows.take n.toNat
/-- May more come? -/
def goR (n : Int) (rows : List (List AV)) : Bool := decide (n < 0 ∨ (rows.length : Int) ≤ n)
theorem goR_0 (n : Int) : goR n [] = true := decide_eq_true (by simp; omega)
theorem takeR_0 (n : Int) : takeR n [] = [] := by unfold takeR; split <;> simp
theorem takeR_len (n : Int) (rows : List (List AV)) : (takeR n rows).length ≤ rows.length := by
  unfold takeR
  split
  · omega
  · rw [List.length_take]; omega
theorem takeR_go {n : Int} {rows : List (List AV)} (h : goR n rows = true) : takeR n rows = rows := by
  have h := of_decide_eq_true h
  unfold takeR
  split
  · rfl
  · exact List.take_of_length_le (by omega)
/-- All has been told: nothing is kept. -/
theorem takeR_end {n : Int} {rows : List (List AV)} {x : List AV} (h : goR n rows = true) (e : (rows.length : Int) = n) : goR n (rows ++ [x]) = false ∧ takeR n (rows ++ [x]) = rows := by
  constructor
  · refine decide_eq_false ?_
    simp only [List.length_append, List.length_cons, List.length_nil]; omega
  · unfold takeR
    rw [if_neg (by omega)]
    exact List.take_left' (by omega)
theorem takeR_more {n : Int} {rows : List (List AV)} {x : List AV} (h : goR n rows = true) (e : ¬ (rows.length : Int) = n) : goR n (rows ++ [x]) = true ∧ takeR n (rows ++ [x]) = rows ++ [x] := by
  have h0 := of_decide_eq_true h
  have h1 : goR n (rows ++ [x]) = true := by
    refine decide_eq_true ?_
    simp only [List.length_append, List.length_cons, List.length_nil]; omega
  exact ⟨h1, takeR_go h1⟩
theorem run_take (n : Int) : ∀ (ps : List Pr) (rows : List (List AV)), goR n rows = true → takeR n (runL (goR n) rows ps).1 = takeR n (rows ++ ps.map Pr.av) ∧ (runL (goR n) rows ps).2 = goR n (runL (goR n) rows ps).1
  | [], rows, h => by rw [runL_nil]; exact ⟨by simp, h.symm⟩
  | p :: ps, rows, h => by
    rw [runL]
    by_cases e : goR n (rows ++ [p.av]) = true
    · rw [if_pos e]
      obtain ⟨h1, h2⟩ := run_take n ps (rows ++ [p.av]) e
      exact ⟨by rw [h1, List.append_assoc]; rfl, h2⟩
    · rw [if_neg e]
      refine ⟨?_, by simpa using e⟩
      have e1 : (rows.length : Int) = n := by
        by_cases e2 : (rows.length : Int) = n
        · exact e2
        · exact absurd (takeR_more h e2).1 e
      have e0 : ¬ n < 0 := by omega
      unfold takeR
      rw [if_neg e0, if_neg e0, List.take_left' (by omega), List.take_left' (by omega)]
theorem takeR_map (n : Int) (ps : List Pr) : takeR n (ps.map Pr.av) = (takeI n ps).map Pr.av := by
  unfold takeR takeI
  split
  · rfl
  · rw [List.map_take]
/-- The loop's own state. -/
def stE (n : Int) (rows : List (List AV)) : St := ⟨[(7, .ptr 1000007 0), (9, .ptr 1000019 0)], [(900, .gw (takeR n rows).length), (1000019, .bx [.gr 900 43 2 (takeR n rows)]), (1000007, .bx [.i .i64 n])]⟩
def stA (n : Int) (rows : List (List AV)) (k v : L) : St := ⟨[(10, .ptr 10 0), (7, .ptr 1000007 0), (9, .ptr 1000019 0)], [(10, .bx [.s k, .s v]), (900, .gw (takeR n rows).length), (1000019, .bx [.gr 900 43 2 (takeR n rows)]), (1000007, .bx [.i .i64 n])]⟩
section
attribute [local irreducible] AW AO AR
theorem pairs_assign (n : Int) (l : Nat) (rows : List (List AV)) (k v : L) (c : Ctx) (hP : c.P = Try.prog) (hN : c.N = 25) {a : Act} {w : World} (hr : RR c ⟨(15, .agg [.s k, .s v]) :: (stE n rows).T, (stE n rows).B⟩ a w) {Q : Exit → Act → World → Prop} (hQ : ∀ a w, RR c (stA n rows k v) a w → Q .normal a w) :
    (Code.region 3
      #[{ dst := some 10, op := Op.alloc 43, type := 0, pos := "mean.go:119", after := #[], guard := none },
        { dst := none, op := Op.store 43 (Operand.tmp 10) (Operand.tmp 15), type := 0, pos := "mean.go:119",
          after := #[{ on := 0, ground := Ground.data }, { on := 0, ground := Ground.phase }], guard := none }] false).wpIn (Fence.wide.inRound l) 0 Try.prog Q a w := by
  refine region_round c hP tabOk mixed (by rw [hN]; kernel_rfl) (by kernel_rfl) (fun F => ?_) hr hQ
  unfold stE
  dsimp only
  repeat' (first
    | apply AO.nil
    | (apply AO.kBuildS; first | refine AO.sBuildT (h := ?_) | refine AO.sBuildS (h := ?_))
    | (apply AO.kApp; first | refine AO.sGrowT (h := ?_) | refine AO.sNewT (h := ?_) | refine AO.sGrowBT (h := ?_) | refine AO.sGrow (h := ?_) | refine AO.sNewr (h := ?_))
    | (apply AO.kIx; first | refine AO.sIxN (h := ?_) | refine AO.sIx (h := ?_) | refine AO.sP (h := ?_) | refine AO.sPi (h := ?_))
    | (apply AO.kSl; first | refine AO.sSl (h := ?_) | refine AO.sSlArr (h := ?_) | refine AO.sP (h := ?_))
    | (apply AO.kBox; refine AO.sBox (h := ?_))
    | (apply AO.kAlloc; refine AO.sAlloc (h := ?_))
    | (apply AO.kStore; first | refine AO.sStore (h := ?_) | refine AO.sStB (h := ?_))
    | (apply AO.kAdd; refine AO.sAdd (h := ?_))
    | (apply AO.kSub; refine AO.sSub (h := ?_))
    | (apply AO.kCv; first | refine AO.sBytes (h := ?_) | refine AO.sStr (h := ?_) | refine AO.sStrR (h := ?_))
    | (apply AO.kP; first | refine AO.sP (h := ?_) | refine AO.sPi (h := ?_) | refine AO.sLoadB (h := ?_) | refine AO.sSameB (h := ?_) | refine AO.sMk0 (h := ?_) | refine AO.sArrB (h := ?_) | refine AO.sLoadA (h := ?_) | refine AO.sEqArr (heg := eqgArr) (h := ?_))
    | (apply AO.kP; refine AO.eqNil (h1 := fun h => ?_) (h2 := ?_))
    | apply AW.seq
    | (apply AW.kR; refine AW.sR (h := ?_))
    | apply AW.skip
    | apply AW.block
    | apply AW.out
    | (apply AW.kE; refine AW.sE (h := ?_))
    | apply AW.label
    | (apply AW.kRd; refine AW.sRd (h := ?_))
    | ((first | (apply AO.kG; first | refine AO.sgt (h1 := fun h => ?_) (h2 := fun h => ?_) | refine AO.sgf (h1 := fun h => ?_) (h2 := fun h => ?_) | refine AO.sgs (h := ?_)) | (apply AW.kC; refine AW.sC (h1 := fun h => ?_) (h2 := fun h => ?_)) | (apply AR.kAny; apply AR.kG; first | refine AR.sgt (h1 := fun h => ?_) (h2 := fun h => ?_) | refine AR.sgf (h1 := fun h => ?_) (h2 := fun h => ?_) | refine AR.sgs (h := ?_))) <;> (try (first | exact Bool.noConfusion h | exact absurd h (by decide) | (simp at h; done) | (rw [h]; try simp only [nrm] at h; try rw [h]; try (exfalso; omega)) | skip)))
    | (apply AR.kAny; first | (apply AR.kBuildS; first | refine AR.sBuildT (h := ?_) | refine AR.sBuildS (h := ?_)) | (apply AR.kApp; first | refine AR.sGrowT (h := ?_) | refine AR.sNewT (h := ?_) | refine AR.sGrowBT (h := ?_) | refine AR.sGrow (h := ?_) | refine AR.sNewr (h := ?_)) | (apply AR.kIx; first | refine AR.sIxN (h := ?_) | refine AR.sIx (h := ?_) | refine AR.sP (h := ?_) | refine AR.sPi (h := ?_)) | (apply AR.kSl; first | refine AR.sSl (h := ?_) | refine AR.sSlArr (h := ?_) | refine AR.sP (h := ?_)) | (apply AR.kBox; refine AR.sBox (h := ?_)) | (apply AR.kAlloc; refine AR.sAlloc (h := ?_)) | (apply AR.kStore; refine AR.sStore (h := ?_)) | (apply AR.kAdd; refine AR.sAdd (h := ?_)) | (apply AR.kSub; refine AR.sSub (h := ?_)) | (apply AR.kCv; refine AR.sStrR (h := ?_)) | (apply AR.kP; first | refine AR.sP (h := ?_) | refine AR.sPi (h := ?_) | refine AR.sArrB (h := ?_) | refine AR.sLoadA (h := ?_) | refine AR.sEqArr (heg := eqgArr) (h := ?_)))
    | (apply AR.kNil; refine AR.sNil (h := ?_)))
  refine AW.fin ?_
  unfold stA
  (constructor <;> (repeat' (first | exact LeT.nil | exact LeB.nil | apply LeT.cons | apply LeB.cons | exact Ol.refl | apply Lx.s | apply Lx.b | apply Lx.i | exact Lx.refl)) <;> (first | rfl | assumption | omega | (simp only [List.length_map, BS_len]; done) | skip))
theorem pairs_r4 (n : Int) (l : Nat) (rows : List (List AV)) (k v : L) (c : Ctx) (hP : c.P = Try.prog) (hN : c.N = 25) {a : Act} {w : World} (hr : RR c (stA n rows k v) a w) {Q : Exit → Act → World → Prop} (hQ : ∀ a w, RR c ⟨(19, .b (((takeR n rows).length : Int) == n)) :: (stA n rows k v).T, (stA n rows k v).B⟩ a w → Q .normal a w) :
    (Code.region 4
                      #[{ dst := some 16, op := Op.load 22 (Operand.tmp 9), type := 22, pos := "mean.go:120",
                          after := #[], guard := none },
                        { dst := some 17,
                          op :=
                            Op.call
                              { callee := Callee.builtin Builtin.len, args := #[Operand.tmp 16], argTypes := #[22] },
                          type := 3, pos := "mean.go:120", after := #[{ on := 0, ground := Ground.data }],
                          guard := none },
                        { dst := some 18, op := Op.load 3 (Operand.tmp 7), type := 3, pos := "mean.go:120",
                          after := #[], guard := none },
                        { dst := some 19, op := Op.binOp BinOp.eql 3 (Operand.tmp 17) (Operand.tmp 18) 3, type := 4,
                          pos := "mean.go:120",
                          after := #[{ on := 1, ground := Ground.data }, { on := 2, ground := Ground.data }],
                          guard := none }]
                      false).wpIn (Fence.wide.inRound l) 0 Try.prog Q a w := by
  refine region_round c hP tabOk mixed (by rw [hN]; kernel_rfl) (by kernel_rfl) (fun F => ?_) hr hQ
  unfold stA
  dsimp only
  repeat' (first
    | apply AO.nil
    | (apply AO.kBuildS; first | refine AO.sBuildT (h := ?_) | refine AO.sBuildS (h := ?_))
    | (apply AO.kApp; first | refine AO.sGrowT (h := ?_) | refine AO.sNewT (h := ?_) | refine AO.sGrowBT (h := ?_) | refine AO.sGrow (h := ?_) | refine AO.sNewr (h := ?_))
    | (apply AO.kIx; first | refine AO.sIxN (h := ?_) | refine AO.sIx (h := ?_) | refine AO.sP (h := ?_) | refine AO.sPi (h := ?_))
    | (apply AO.kSl; first | refine AO.sSl (h := ?_) | refine AO.sSlArr (h := ?_) | refine AO.sP (h := ?_))
    | (apply AO.kBox; refine AO.sBox (h := ?_))
    | (apply AO.kAlloc; refine AO.sAlloc (h := ?_))
    | (apply AO.kStore; first | refine AO.sStore (h := ?_) | refine AO.sStB (h := ?_))
    | (apply AO.kAdd; refine AO.sAdd (h := ?_))
    | (apply AO.kSub; refine AO.sSub (h := ?_))
    | (apply AO.kCv; first | refine AO.sBytes (h := ?_) | refine AO.sStr (h := ?_) | refine AO.sStrR (h := ?_))
    | (apply AO.kP; first | refine AO.sP (h := ?_) | refine AO.sPi (h := ?_) | refine AO.sLoadB (h := ?_) | refine AO.sSameB (h := ?_) | refine AO.sMk0 (h := ?_) | refine AO.sArrB (h := ?_) | refine AO.sLoadA (h := ?_) | refine AO.sEqArr (heg := eqgArr) (h := ?_))
    | (apply AO.kP; refine AO.eqNil (h1 := fun h => ?_) (h2 := ?_))
    | apply AW.seq
    | (apply AW.kR; refine AW.sR (h := ?_))
    | apply AW.skip
    | apply AW.block
    | apply AW.out
    | (apply AW.kE; refine AW.sE (h := ?_))
    | apply AW.label
    | (apply AW.kRd; refine AW.sRd (h := ?_))
    | ((first | (apply AO.kG; first | refine AO.sgt (h1 := fun h => ?_) (h2 := fun h => ?_) | refine AO.sgf (h1 := fun h => ?_) (h2 := fun h => ?_) | refine AO.sgs (h := ?_)) | (apply AW.kC; refine AW.sC (h1 := fun h => ?_) (h2 := fun h => ?_)) | (apply AR.kAny; apply AR.kG; first | refine AR.sgt (h1 := fun h => ?_) (h2 := fun h => ?_) | refine AR.sgf (h1 := fun h => ?_) (h2 := fun h => ?_) | refine AR.sgs (h := ?_))) <;> (try (first | exact Bool.noConfusion h | exact absurd h (by decide) | (simp at h; done) | (rw [h]; try simp only [nrm] at h; try rw [h]; try (exfalso; omega)) | skip)))
    | (apply AR.kAny; first | (apply AR.kBuildS; first | refine AR.sBuildT (h := ?_) | refine AR.sBuildS (h := ?_)) | (apply AR.kApp; first | refine AR.sGrowT (h := ?_) | refine AR.sNewT (h := ?_) | refine AR.sGrowBT (h := ?_) | refine AR.sGrow (h := ?_) | refine AR.sNewr (h := ?_)) | (apply AR.kIx; first | refine AR.sIxN (h := ?_) | refine AR.sIx (h := ?_) | refine AR.sP (h := ?_) | refine AR.sPi (h := ?_)) | (apply AR.kSl; first | refine AR.sSl (h := ?_) | refine AR.sSlArr (h := ?_) | refine AR.sP (h := ?_)) | (apply AR.kBox; refine AR.sBox (h := ?_)) | (apply AR.kAlloc; refine AR.sAlloc (h := ?_)) | (apply AR.kStore; refine AR.sStore (h := ?_)) | (apply AR.kAdd; refine AR.sAdd (h := ?_)) | (apply AR.kSub; refine AR.sSub (h := ?_)) | (apply AR.kCv; refine AR.sStrR (h := ?_)) | (apply AR.kP; first | refine AR.sP (h := ?_) | refine AR.sPi (h := ?_) | refine AR.sArrB (h := ?_) | refine AR.sLoadA (h := ?_) | refine AR.sEqArr (heg := eqgArr) (h := ?_)))
    | (apply AR.kNil; refine AR.sNil (h := ?_)))
  refine AW.fin ?_
  (constructor <;> (repeat' (first | exact LeT.nil | exact LeB.nil | apply LeT.cons | apply LeB.cons | exact Ol.refl | apply Lx.s | apply Lx.b | apply Lx.i | exact Lx.refl)) <;> (first | rfl | assumption | omega | (simp only [List.length_map, BS_len]; done) | skip))
theorem pairs_r5 (n : Int) (l : Nat) (rows : List (List AV)) (k v : L) (hlen : (takeR n rows).length < 1000000000) (c : Ctx) (hP : c.P = Try.prog) (hN : c.N = 25) {b : Bool} {a : Act} {w : World} (hr : RR c ⟨(19, .b b) :: (stA n rows k v).T, (stA n rows k v).B⟩ a w) {Q : Exit → Act → World → Prop}
    (hQ : ∀ a w, RR c ⟨[(7, .ptr 1000007 0), (9, .ptr 1000019 0)], [(900, .gw (takeR n rows ++ [[AV.s k, AV.s v]]).length), (1000019, .bx [.gr 900 43 2 (takeR n rows ++ [[AV.s k, AV.s v]])]), (1000007, .bx [.i .i64 n])]⟩ a w → Q .normal a w) :
    (Code.region 5
                #[{ dst := some 20, op := Op.load 22 (Operand.tmp 9), type := 22, pos := "mean.go:123", after := #[],
                    guard := none },
                  { dst := some 21, op := Op.load 43 (Operand.tmp 10), type := 43, pos := "mean.go:123", after := #[],
                    guard := none },
                  { dst := some 22, op := Op.buildSlice 22 1 #[(0, Operand.tmp 21)], type := 22, pos := "mean.go:123",
                    after := #[{ on := 1, ground := Ground.data }], guard := none },
                  { dst := some 23,
                    op :=
                      Op.call
                        { callee := Callee.builtin Builtin.append, args := #[Operand.tmp 20, Operand.tmp 22],
                          argTypes := #[22, 22] },
                    type := 22, pos := "mean.go:123",
                    after := #[{ on := 0, ground := Ground.data }, { on := 2, ground := Ground.data }], guard := none },
                  { dst := none, op := Op.store 22 (Operand.tmp 9) (Operand.tmp 23), type := 0, pos := "mean.go:123",
                    after :=
                      #[{ on := 3, ground := Ground.data }, { on := 3, ground := Ground.chain },
                        { on := 0, ground := Ground.phase }, { on := 1, ground := Ground.phase },
                        { on := 2, ground := Ground.phase }, { on := 3, ground := Ground.phase }],
                    guard := none }]
                false).wpIn (Fence.wide.inRound l) 0 Try.prog Q a w := by
  refine region_round c hP tabOk mixed (by rw [hN]; kernel_rfl) (by kernel_rfl) (fun F => ?_) hr hQ
  unfold stA
  dsimp only
  repeat' (first
    | apply AO.nil
    | (apply AO.kBuildS; first | refine AO.sBuildT (h := ?_) | refine AO.sBuildS (h := ?_))
    | (apply AO.kApp; first | refine AO.sGrowT (h := ?_) | refine AO.sNewT (h := ?_) | refine AO.sGrowBT (h := ?_) | refine AO.sGrow (h := ?_) | refine AO.sNewr (h := ?_))
    | (apply AO.kIx; first | refine AO.sIxN (h := ?_) | refine AO.sIx (h := ?_) | refine AO.sP (h := ?_) | refine AO.sPi (h := ?_))
    | (apply AO.kSl; first | refine AO.sSl (h := ?_) | refine AO.sSlArr (h := ?_) | refine AO.sP (h := ?_))
    | (apply AO.kBox; refine AO.sBox (h := ?_))
    | (apply AO.kAlloc; refine AO.sAlloc (h := ?_))
    | (apply AO.kStore; first | refine AO.sStore (h := ?_) | refine AO.sStB (h := ?_))
    | (apply AO.kAdd; refine AO.sAdd (h := ?_))
    | (apply AO.kSub; refine AO.sSub (h := ?_))
    | (apply AO.kCv; first | refine AO.sBytes (h := ?_) | refine AO.sStr (h := ?_) | refine AO.sStrR (h := ?_))
    | (apply AO.kP; first | refine AO.sP (h := ?_) | refine AO.sPi (h := ?_) | refine AO.sLoadB (h := ?_) | refine AO.sSameB (h := ?_) | refine AO.sMk0 (h := ?_) | refine AO.sArrB (h := ?_) | refine AO.sLoadA (h := ?_) | refine AO.sEqArr (heg := eqgArr) (h := ?_))
    | (apply AO.kP; refine AO.eqNil (h1 := fun h => ?_) (h2 := ?_))
    | apply AW.seq
    | (apply AW.kR; refine AW.sR (h := ?_))
    | apply AW.skip
    | apply AW.block
    | apply AW.out
    | (apply AW.kE; refine AW.sE (h := ?_))
    | apply AW.label
    | (apply AW.kRd; refine AW.sRd (h := ?_))
    | ((first | (apply AO.kG; first | refine AO.sgt (h1 := fun h => ?_) (h2 := fun h => ?_) | refine AO.sgf (h1 := fun h => ?_) (h2 := fun h => ?_) | refine AO.sgs (h := ?_)) | (apply AW.kC; refine AW.sC (h1 := fun h => ?_) (h2 := fun h => ?_)) | (apply AR.kAny; apply AR.kG; first | refine AR.sgt (h1 := fun h => ?_) (h2 := fun h => ?_) | refine AR.sgf (h1 := fun h => ?_) (h2 := fun h => ?_) | refine AR.sgs (h := ?_))) <;> (try (first | exact Bool.noConfusion h | exact absurd h (by decide) | (simp at h; done) | (rw [h]; try simp only [nrm] at h; try rw [h]; try (exfalso; omega)) | skip)))
    | (apply AR.kAny; first | (apply AR.kBuildS; first | refine AR.sBuildT (h := ?_) | refine AR.sBuildS (h := ?_)) | (apply AR.kApp; first | refine AR.sGrowT (h := ?_) | refine AR.sNewT (h := ?_) | refine AR.sGrowBT (h := ?_) | refine AR.sGrow (h := ?_) | refine AR.sNewr (h := ?_)) | (apply AR.kIx; first | refine AR.sIxN (h := ?_) | refine AR.sIx (h := ?_) | refine AR.sP (h := ?_) | refine AR.sPi (h := ?_)) | (apply AR.kSl; first | refine AR.sSl (h := ?_) | refine AR.sSlArr (h := ?_) | refine AR.sP (h := ?_)) | (apply AR.kBox; refine AR.sBox (h := ?_)) | (apply AR.kAlloc; refine AR.sAlloc (h := ?_)) | (apply AR.kStore; refine AR.sStore (h := ?_)) | (apply AR.kAdd; refine AR.sAdd (h := ?_)) | (apply AR.kSub; refine AR.sSub (h := ?_)) | (apply AR.kCv; refine AR.sStrR (h := ?_)) | (apply AR.kP; first | refine AR.sP (h := ?_) | refine AR.sPi (h := ?_) | refine AR.sArrB (h := ?_) | refine AR.sLoadA (h := ?_) | refine AR.sEqArr (heg := eqgArr) (h := ?_)))
    | (apply AR.kNil; refine AR.sNil (h := ?_)))
  refine AW.fin ?_
  ((constructor <;> (repeat' (first | exact LeT.nil | exact LeB.nil | apply LeT.cons | apply LeB.cons | exact Ol.refl | apply Lx.s | apply Lx.b | apply Lx.i | exact Lx.refl)) <;> (first | rfl | assumption | omega | (simp only [List.length_map, BS_len]; done) | skip)) <;> (first | (refine Lx.eq (congrArg (AV.gr _ _ _) ?_); simp only [List.map_append, List.map_cons, List.map_nil]; rfl) | (refine Ol.eq (congrArg Ob.gw ?_); simp only [List.map_append, List.map_cons, List.map_nil, List.length_append, List.length_map, List.length_cons, List.length_nil]; done) | (refine Ol.bx ?_; (repeat' (first | exact LxL.nil | apply LxL.cons | exact Lx.refl | (refine Lx.eq (congrArg (AV.gr _ _ _) ?_); simp only [List.map_append, List.map_cons, List.map_nil]; rfl)))) | skip))
theorem pairs_body (n : Int) (l : Nat) (rows : List (List AV)) (k v : L) (hgo : goR n rows = true) (hlen : rows.length < 1000000000) (c : Ctx) (hP : c.P = Try.prog) (hN : c.N = 25) {a : Act} {w : World} (hr : RR c (stA n rows k v) a w) {Q : Exit → Act → World → Prop}
    (q1 : goR n (rows ++ [[.s k, .s v]]) = true → ∀ a w, RR c (stE n (rows ++ [[.s k, .s v]])) a w → Q .normal a w) (q2 : goR n (rows ++ [[.s k, .s v]]) = false → ∀ a w, RR c (stE n (rows ++ [[.s k, .s v]])) a w → Q (.exit 0) a w) {r4 r5 : Code}
    (h4 : ∀ Q, (∀ a w, RR c ⟨(19, .b (((takeR n rows).length : Int) == n)) :: (stA n rows k v).T, (stA n rows k v).B⟩ a w → Q .normal a w) → r4.wpIn (Fence.wide.inRound l) 0 Try.prog Q a w)
    (h5 : ∀ (b : Bool) a w Q, RR c ⟨(19, .b b) :: (stA n rows k v).T, (stA n rows k v).B⟩ a w → (∀ a w, RR c ⟨[(7, .ptr 1000007 0), (9, .ptr 1000019 0)], [(900, .gw (takeR n rows ++ [[AV.s k, AV.s v]]).length), (1000019, .bx [.gr 900 43 2 (takeR n rows ++ [[AV.s k, AV.s v]])]), (1000007, .bx [.i .i64 n])]⟩ a w → Q .normal a w) → r5.wpIn (Fence.wide.inRound l) 0 Try.prog Q a w) :
    (Code.block 1 ((r4.seq (Code.cond (Operand.tmp 19) (Code.exit 0) Code.skip)).seq r5)).wpIn (Fence.wide.inRound l) 0 Try.prog Q a w := by
  refine wpIn_block (wpIn_seq (wpIn_seq (h4 _ fun a1 w1 hr1 => ?_)))
  have hev : a1.eval (.tmp 19) = .bool (((takeR n rows).length : Int) == n) := by
    obtain ⟨Γ, m, r⟩ := hr1
    have := r.eval (.tmp 19) (by simp [okOp, hN])
    generalize a1.eval (.tmp 19) = q at this
    cases this; rfl
  refine wpIn_cond hev ?_
  have t0 := takeR_go hgo
  by_cases e : (rows.length : Int) = n
  · obtain ⟨e1, e2⟩ := takeR_end (x := [AV.s k, AV.s v]) hgo e
    rw [if_pos (by rw [t0]; simpa using e)]
    refine wpIn_exit ?_
    show Q (.exit 0) a1 w1
    obtain ⟨Γ, m, r⟩ := hr1
    have hle : StLe Tr ⟨(19, .b (((takeR n rows).length : Int) == n)) :: (stA n rows k v).T, (stA n rows k v).B⟩ (stE n (rows ++ [[.s k, .s v]])) := by
      unfold stE stA
      rw [e2, t0]
      (constructor <;> (repeat' (first | exact LeT.nil | exact LeB.nil | apply LeT.cons | apply LeB.cons | exact Ol.refl | apply Lx.s | apply Lx.b | apply Lx.i | exact Lx.refl)) <;> (first | rfl | assumption | omega | (simp only [List.length_map, BS_len]; done) | skip))
    exact q2 e1 a1 w1 ⟨Γ, m, r.less trivial hle⟩
  · obtain ⟨e1, e2⟩ := takeR_more (x := [AV.s k, AV.s v]) hgo e
    rw [if_neg (by rw [t0]; simpa using e)]
    refine wpIn_skip ?_
    show r5.wpIn (Fence.wide.inRound l) 0 Try.prog _ a1 w1
    refine h5 _ a1 w1 _ hr1 fun a2 w2 hr2 => ?_
    show Q .normal a2 w2
    refine q1 e1 a2 w2 ?_
    unfold stE
    rw [e2]
    rw [t0] at hr2
    exact hr2
/-- The state at the loop. -/
def stP (clo : AV) (n : Int) : St := ⟨[(14, clo), (9, .ptr 9 0), (7, .ptr 7 0)], [(9, .bx [.gr 900 43 2 []]), (7, .bx [.i .i64 n]), (900, .gw 0)]⟩
/-- The names at the loop's start. -/
def nmP (m : Nm) : Nm := ⟨fun t => if t = 1000007 then m.th 7 else if t = 1000019 then m.th 9 else none, fun t => if t = 900 then m.ka 900 else fun _ => none, fun _ _ => False⟩
theorem stE_get {n : Int} {rows : List (List AV)} {t : Nat} (h7 : t ≠ 7) (h9 : t ≠ 9) : (stE n rows).get t = .any := by
  unfold stE St.get
  simp only [look]
  rw [if_neg (Ne.symm h7), if_neg (Ne.symm h9)]; rfl
theorem stE_ob {n : Int} {rows : List (List AV)} {t : Nat} (h1 : t ≠ 900) (h2 : t ≠ 1000019) (h3 : t ≠ 1000007) : (stE n rows).ob t = .dead := by
  unfold stE St.ob
  simp only [look]
  rw [if_neg (Ne.symm h1), if_neg (Ne.symm h2), if_neg (Ne.symm h3)]; rfl
theorem start_1 {c : Ctx} {Γ m clo n a w} (hr : RRW c Γ m (stP clo n) a w) (t : Nat) (ht : t < c.N) : Rep (fun _ => none) (nmP m) (a.tmps.getD t undef) ((stE n []).get t) := by
  have h := hr.tmps t ht
  by_cases h7 : t = 7
  · subst h7
    have h : Rep Γ m (a.tmps.getD 7 undef) (.ptr 7 0) := h
    show Rep _ _ _ (.ptr 1000007 0)
    generalize a.tmps.getD 7 undef = q at h
    cases h with | ptr h => exact .ptr h
  · by_cases h9 : t = 9
    · subst h9
      have h : Rep Γ m (a.tmps.getD 9 undef) (.ptr 9 0) := h
      show Rep _ _ _ (.ptr 1000019 0)
      generalize a.tmps.getD 9 undef = q at h
      cases h with | ptr h => exact .ptr h
    · rw [stE_get h7 h9]; exact .any
theorem start_2 {c : Ctx} {Γ m clo n a w} (hr : RRW c Γ m (stP clo n) a w) (t : Nat) : ObOk (fun _ => none) (nmP m) w t ((stE n []).ob t) := by
  by_cases h1 : t = 900
  · subst h1
    have h : ObOk Γ m w 900 (.gw 0) := hr.obs 900
    show ObOk _ _ _ _ (.gw (takeR n []).length)
    rw [takeR_0]
    obtain ⟨v, e, sz, xs, q1, q2, q3, q4⟩ := h
    exact ⟨v, e, sz, xs, q1, q2, q3, fun g hg => ⟨fun j hj => (by simp at hj), fun _ _ _ => rfl⟩⟩
  · by_cases h2 : t = 1000019
    · subst h2
      have h : ObOk Γ m w 9 (.bx [.gr 900 43 2 []]) := hr.obs 9
      show ObOk _ _ _ _ (.bx [.gr 900 43 2 (takeR n [])])
      rw [takeR_0]
      obtain ⟨g, cc, e, q1, q2, q3, q4, q5, q6⟩ := h
      refine ⟨g, cc, e, q1, q2, q3, fun j v d hv hd => ?_, q5, fun _ _ => rfl⟩
      match j with
      | 0 =>
        cases hd
        have := q4 0 v _ hv rfl
        cases this with
        | gr h1 h2 =>
          refine .gr ?_ h2
          cases h1 with
          | sh0 => exact .sh0
          | sh vs p1 p2 p3 p4 p5 p6 p7 p8 =>
            have hz : vs = [] := List.eq_nil_of_length_eq_zero (by simpa using p5)
            subst hz
            exact .sh [] p1 p2 p3 p4 p5 (fun j v hv => by simp at hv) p7 (fun j v c hv => by simp at hv)
      | j + 1 => simp at hd
    · by_cases h3 : t = 1000007
      · subst h3
        have h : ObOk Γ m w 7 (.bx [.i .i64 n]) := hr.obs 7
        obtain ⟨g, cc, e, q1, q2, q3, q4, q5, q6⟩ := h
        refine ⟨g, cc, e, q1, q2, q3, fun j v d hv hd => ?_, q5, fun _ _ => rfl⟩
        match j with
        | 0 =>
          cases hd
          have := q4 0 v _ hv rfl
          cases this; exact .i
        | j + 1 => simp at hd
      · rw [stE_ob h1 h2 h3]; trivial
theorem start_3 {m : Nm} {clo n} {t i : Nat} (h : ((stE n []).ob t).blk (nmP m) t i) : ∃ s, ((stP clo n).ob s).blk m s i ∧ ((t = 900 ∧ s = 900) ∨ (t = 1000019 ∧ s = 9) ∨ (t = 1000007 ∧ s = 7)) := by
  by_cases h1 : t = 900
  · subst h1; exact ⟨900, by
      have h : (Ob.gw (takeR n []).length).blk (nmP m) 900 i := h
      rw [takeR_0] at h
      exact h, .inl ⟨rfl, rfl⟩⟩
  · by_cases h2 : t = 1000019
    · subst h2; exact ⟨9, h, .inr (.inl ⟨rfl, rfl⟩)⟩
    · by_cases h3 : t = 1000007
      · subst h3; exact ⟨7, h, .inr (.inr ⟨rfl, rfl⟩)⟩
      · rw [stE_ob h1 h2 h3] at h; cases h
theorem start_5 {c : Ctx} {Γ m clo n a w} (hr : RRW c Γ m (stP clo n) a w) (ad : Addr) (h : OwnS m (stP clo n) ad.block) : Γ ad = none := by
  obtain ⟨t, ht⟩ := h
  by_cases h1 : t = 9
  · subst h1
    obtain ⟨g, cc, e, q1, q2, q3, q4, q5, q6⟩ := (show ObOk Γ m w 9 (.bx [.gr 900 43 2 []]) from hr.obs 9)
    have ht : m.th 9 = some ad.block := ht
    rw [q1] at ht; cases ht
    exact q6 ad rfl
  · by_cases h2 : t = 7
    · subst h2
      obtain ⟨g, cc, e, q1, q2, q3, q4, q5, q6⟩ := (show ObOk Γ m w 7 (.bx [.i .i64 n]) from hr.obs 7)
      have ht : m.th 7 = some ad.block := ht
      rw [q1] at ht; cases ht
      exact q6 ad rfl
    · by_cases h3 : t = 900
      · subst h3
        obtain ⟨v, e, sz, xs, q1, q2, q3, q4⟩ := (show ObOk Γ m w 900 (.gw 0) from hr.obs 900)
        have ht : ((m.ka 900 0).bind fun x => x.1.ownBlock) = some ad.block := ht
        rw [q1] at ht
        exact (q4 _ ht).2 ad rfl (.inr (by omega))
      · exfalso
        have : (stP clo n).ob t = .dead := by
          unfold stP St.ob
          simp only [look]
          rw [if_neg (Ne.symm h1), if_neg (Ne.symm h2), if_neg (Ne.symm h3)]; rfl
        rw [this] at ht; cases ht
theorem gPairsP {l : List Im} (hl : Ims l) (h1 : l.length ≤ 1000) (b : B32) {r : Rg} (hx : r.le 1000) (hro : (allP l b r).length ≤ 16000) (n : Int) (hn : -9223372036854775808 ≤ n ∧ n ≤ 9223372036854775807) :
    Good Try.prog 52 [.sh 6 (l.map Im.av), .i .u32 b.toNat, .agg [.s r.1, .s r.2.1, .b r.2.2], .i .i64 n] [] (.sh 2 ((takeI n (allP l b r)).map Pr.av)) [] := by
  have gA := gAll l b r
  obtain ⟨t1, t2⟩ := run_take n (allP l b r) [] (goR_0 n)
  rw [List.nil_append, takeR_map] at t1
  refine Good.walkM tabOk mixed (n := 9) Try.func52 (N := 25) (by kernel_rfl) rfl (by repeat (first | exact LE.nil | apply LE.cons)) fun F hF1 hF2 hZ => ?_
  repeat' (first
    | apply AO.nil
    | (apply AO.kCall 90; refine AO.sCall (hg := gA) (h := ?_))
    | (apply AO.kBuildS; first | refine AO.sBuildT (h := ?_) | refine AO.sBuildS (h := ?_))
    | (apply AO.kApp; first | refine AO.sGrowT (h := ?_) | refine AO.sNewT (h := ?_) | refine AO.sGrowBT (h := ?_) | refine AO.sGrow (h := ?_) | refine AO.sNewr (h := ?_))
    | (apply AO.kIx; first | refine AO.sIxN (h := ?_) | refine AO.sIx (h := ?_) | refine AO.sP (h := ?_) | refine AO.sPi (h := ?_))
    | (apply AO.kSl; first | refine AO.sSl (h := ?_) | refine AO.sSlArr (h := ?_) | refine AO.sP (h := ?_))
    | (apply AO.kBox; refine AO.sBox (h := ?_))
    | (apply AO.kAlloc; refine AO.sAlloc (h := ?_))
    | (apply AO.kStore; first | refine AO.sStore (h := ?_) | refine AO.sStB (h := ?_))
    | (apply AO.kAdd; refine AO.sAdd (h := ?_))
    | (apply AO.kSub; refine AO.sSub (h := ?_))
    | (apply AO.kCv; first | refine AO.sBytes (h := ?_) | refine AO.sStr (h := ?_) | refine AO.sStrR (h := ?_))
    | (apply AO.kP; first | refine AO.sP (h := ?_) | refine AO.sPi (h := ?_) | refine AO.sLoadB (h := ?_) | refine AO.sSameB (h := ?_) | refine AO.sMk0 (h := ?_) | refine AO.sArrB (h := ?_) | refine AO.sLoadA (h := ?_) | refine AO.sEqArr (heg := eqgArr) (h := ?_))
    | (apply AO.kP; refine AO.eqNil (h1 := fun h => ?_) (h2 := ?_))
    | apply AW.seq
    | (apply AW.kR; refine AW.sR (h := ?_))
    | apply AW.skip
    | apply AW.block
    | apply AW.out
    | (apply AW.kE; refine AW.sE (h := ?_))
    | apply AW.label
    | (apply AW.kRd; refine AW.sRd (h := ?_))
    | ((first | (apply AO.kG; first | refine AO.sgt (h1 := fun h => ?_) (h2 := fun h => ?_) | refine AO.sgf (h1 := fun h => ?_) (h2 := fun h => ?_) | refine AO.sgs (h := ?_)) | (apply AW.kC; refine AW.sC (h1 := fun h => ?_) (h2 := fun h => ?_)) | (apply AR.kAny; apply AR.kG; first | refine AR.sgt (h1 := fun h => ?_) (h2 := fun h => ?_) | refine AR.sgf (h1 := fun h => ?_) (h2 := fun h => ?_) | refine AR.sgs (h := ?_))) <;> (try (first | exact Bool.noConfusion h | exact absurd h (by decide) | (simp at h; done) | (rw [h]; try simp only [nrm] at h; try rw [h]; try (exfalso; omega)) | skip)))
    | (apply AR.kAny; first | (apply AR.kCall 90; refine AR.sCall (hg := gA) (h := ?_)) | (apply AR.kBuildS; first | refine AR.sBuildT (h := ?_) | refine AR.sBuildS (h := ?_)) | (apply AR.kApp; first | refine AR.sGrowT (h := ?_) | refine AR.sNewT (h := ?_) | refine AR.sGrowBT (h := ?_) | refine AR.sGrow (h := ?_) | refine AR.sNewr (h := ?_)) | (apply AR.kIx; first | refine AR.sIxN (h := ?_) | refine AR.sIx (h := ?_) | refine AR.sP (h := ?_) | refine AR.sPi (h := ?_)) | (apply AR.kSl; first | refine AR.sSl (h := ?_) | refine AR.sSlArr (h := ?_) | refine AR.sP (h := ?_)) | (apply AR.kBox; refine AR.sBox (h := ?_)) | (apply AR.kAlloc; refine AR.sAlloc (h := ?_)) | (apply AR.kStore; refine AR.sStore (h := ?_)) | (apply AR.kAdd; refine AR.sAdd (h := ?_)) | (apply AR.kSub; refine AR.sSub (h := ?_)) | (apply AR.kCv; refine AR.sStrR (h := ?_)) | (apply AR.kP; first | refine AR.sP (h := ?_) | refine AR.sPi (h := ?_) | refine AR.sArrB (h := ?_) | refine AR.sLoadA (h := ?_) | refine AR.sEqArr (heg := eqgArr) (h := ?_)))
    | (apply AR.kNil; refine AR.sNil (h := ?_)))
  refine AW.nilrow (st' := stP (.clo 118 [.pel [.sh 6 (l.map Im.av)], .pel [.i .u32 b.toNat], .pel [.s r.1, .s r.2.1, .b r.2.2]]) n) 900 43 2 (St.freeB_ok rfl) ⟨by ((repeat' (first | exact LeT.nil | apply LeT.cons | exact Lx.nilG | apply Lx.s | apply Lx.b | apply Lx.i | exact Lx.refl)) <;> (first | rfl | assumption | omega | (simp only [List.length_map, BS_len]; done) | skip)), .cons (.bx (.cons Lx.nilG .nil)) (.cons .refl (.cons .refl .nil))⟩ ?_
  suffices hs : ∀ a w Γ m, RRW F.c Γ m (stP (.clo 118 [.pel [.sh 6 (l.map Im.av)], .pel [.i .u32 b.toNat], .pel [.s r.1, .s r.2.1, .b r.2.2]]) n) a w → wpK Try.prog F.Z _ .normal a w by
    unfold AW
    exact fun a w ⟨Γ, m, hr⟩ => hs a w Γ m hr
  intro a w Γ m hr
  refine rangeF_wp (tab := tab) F.hP (X := 0) (E := stE n) (T0 := [(7, .ptr 1000007 0), (9, .ptr 1000019 0)]) (tags := [1000007, 1000019]) (go := goR n) (rowsF := (runL (goR n) [] (allP l b r)).1) (EA := stA n) rfl (by rw [F.hN]; omega) (by rw [F.hN]; omega) (fun rows => rfl)
    (fun t r h => ?_) (fun r h => ?_) (goR_0 n) (fun d hy hd hv => ?_) (fun l' rows k v _ _ c' hP' hN' a w hr Q hQ => pairs_assign n l' rows k v c' hP' (hN'.trans F.hN) hr hQ)
    (fun l' rows k v hgo hlen c' hP' hN' a w hr Q q1 q2 => pairs_body n l' rows k v hgo hlen c' hP' (hN'.trans F.hN) hr q1 q2 (fun Q hQ => pairs_r4 n l' rows k v c' hP' (hN'.trans F.hN) hr hQ) (fun bb a w Q hr hQ => pairs_r5 n l' rows k v (Nat.lt_of_le_of_lt (takeR_len n rows) hlen) c' hP' (hN'.trans F.hN) hr hQ))
    hr (nmP m) (start_1 hr) (start_2 hr) (fun t i h => ?_) (fun t t' i h h' => ?_) (start_5 hr) (fun D w' hB => ?_)
  · have := St.get_refs h
    simpa [St.refsT, AV.refs] using this
  · simp only [List.mem_cons, List.not_mem_nil, or_false] at h
    omega
  · have g := gAll1 hy hl h1 b hx hv [] (by show 0 + _ ≤ _; omega)
    rw [hd, t2] at g
    exact g
  · obtain ⟨s, hs, _⟩ := start_3 (clo := .clo 118 [.pel [.sh 6 (l.map Im.av)], .pel [.i .u32 b.toNat], .pel [.s r.1, .s r.2.1, .b r.2.2]]) h
    exact ⟨s, hs⟩
  · obtain ⟨s, hs, e⟩ := start_3 (clo := .clo 118 [.pel [.sh 6 (l.map Im.av)], .pel [.i .u32 b.toNat], .pel [.s r.1, .s r.2.1, .b r.2.2]]) h
    obtain ⟨s', hs', e'⟩ := start_3 (clo := .clo 118 [.pel [.sh 6 (l.map Im.av)], .pel [.i .u32 b.toNat], .pel [.s r.1, .s r.2.1, .b r.2.2]]) h'
    have := hr.inj s s' i hs hs'
    omega
  · have key : ∀ a1 : Act, a1 = { a with defers := [{ target := .collected D, args := #[] }] } → (Code.seq (Code.region 6
              #[{ dst := some 24, op := Op.load 22 (Operand.tmp 9), type := 22, pos := "mean.go:125", after := #[],
                  guard := none },
                { dst := some 8, op := Op.assign (Operand.tmp 24), type := 22, pos := "mean.go:125",
                  after := #[{ on := 0, ground := Ground.data }, { on := 0, ground := Ground.phase }], guard := none }]
              false) Code.ret).wp Try.prog F.Z a1 w' := by
      rintro a1 rfl
      obtain ⟨l0, Y, hL, hY, hG⟩ := hB.loc
      obtain ⟨⟨Γ2, m2, k1, k2, k3, k4, k5, k6⟩, z1, z2, z3, z4, z5⟩ := hL
      have p9 : Rep Γ2 m2 (a.tmps.getD 9 undef) (.ptr 1000019 0) := k3 9 (by rw [F.hN]; omega)
      have o9 : ObOk Γ2 m2 w' 1000019 (.bx [.gr 900 43 2 (takeR n (runL (goR n) [] (allP l b r)).1)]) := k4 1000019
      rw [t1] at o9
      obtain ⟨g, cc, e, q1, q2, q3, q4, q5, q6⟩ := o9
      have ev : a.tmps.getD 9 undef = .pointer (some ⟨g, 0, none⟩) := by
        generalize a.tmps.getD 9 undef = q at p9
        cases p9 with | ptr h => rw [q1] at h; cases h; rfl
      obtain ⟨v, hv⟩ : ∃ v, cc[0]? = some v := ⟨_, Array.getElem?_eq_getElem (by have := q3.2; simp at this; omega)⟩
      have hrep : Rep Γ2 m2 v (.sh 2 ((takeI n (allP l b r)).map Pr.av)) := by
        have := q4 0 v _ hv rfl
        cases this with | gr h1 h2 => exact h1
      have hc : w'.cell? ⟨g, 0, none⟩ = some v := by
        rw [cell_of_row w' g _ _ _ _ q2]; exact hv
      have hld : (Instr.loadAt 22 (.pointer (some ⟨g, 0, none⟩))).run Try.prog w' = .ok v w' := by
        have hl22 : look tab 22 = some ty22 := rfl
        simp [Instr.loadAt, Instr.sureAddr, loadVar, (tabOk.at hl22).run_agg w', show ty22.agg = false from rfl, hc]
      have lt24 : 24 < a.tmps.size := by rw [z1, F.hN]; omega
      refine wp_seq (wpIn_wide.1 (wpIn_region_lit (n := 0) (wpListIn_plain rfl fun K hK => ⟨fun _ _ => trivial, ?_⟩)))
      have hx1 : (Oper.semAt Fence.wide.round (Act.eval { a with defers := [{ target := .collected D, args := #[] }] }) { dst := some 24, op := Op.load 22 (Operand.tmp 9), type := 22, pos := "mean.go:125", after := #[], guard := none }).run Try.prog w' = .ok (.value v) w' := by
        rw [Fence.wide_round, Oper.semAt_none]
        simp [execOp, Act.eval, ev, hld]
      rw [hx1]
      refine hK _ _ (wpListIn_plain rfl fun K2 hK2 => ⟨fun _ _ => trivial, ?_⟩)
      have hx2 : (Oper.semAt Fence.wide.round (Act.eval (Act.put { a with defers := [{ target := .collected D, args := #[] }] } (some 24) v)) { dst := some 8, op := Op.assign (Operand.tmp 24), type := 22, pos := "mean.go:125", after := #[{ on := 0, ground := Ground.data }, { on := 0, ground := Ground.phase }], guard := none }).run Try.prog w' = .ok (.value v) w' := by
        rw [Fence.wide_round, Oper.semAt_none]
        simp [execOp, Act.eval, Act.put, lt24]
      rw [hx2]
      refine hK2 _ _ ?_
      show Code.ret.wp Try.prog F.Z _ w'
      refine wp_ret ?_
      rw [hZ]
      refine ⟨by simp, .inl ⟨_, _, rfl, run_takeDeferred hB.dfr, ?_⟩⟩
      have lt8 : 8 < a.tmps.size := by rw [z1, F.hN]; omega
      have b4 : ∀ i, i ≠ D → (w'.putObj D (Obj.deferred none)).heap[i]? = w'.heap[i]? := fun i hi => World.putObj_heap_other hi
      have nD : ∀ ad x, w'.cell? ad = some x → ad.block ≠ D := fun ad x h e => by
        unfold World.cell? at h
        rw [e, hB.dfr] at h; cases h
      have gD : F.c.w0.heap.size ≤ D := (hY D z3).resolve_right (hF2 D)
      refine ⟨v, ?_, v, fun ad => if (Γ ad).isSome then Γ ad else Γ2 ad, m2, rfl, ?_⟩
      · simp [results, Try.f52, go_sem, Act.put, lt8]
      · have hs2 : Sub Γ2 fun ad => if (Γ ad).isSome then Γ ad else Γ2 ad := fun ad x hx => by
          show (if (Γ ad).isSome then Γ ad else Γ2 ad) = some x
          cases hg : Γ ad with
          | none => exact hx
          | some y => exact absurd (k2 ad x hx) (hG ad y hg)
        have hgk : ∀ ad x, (if (Γ ad).isSome then Γ ad else Γ2 ad) = some x → w'.cell? ad = some x := fun ad x hx => by
          split at hx
          · exact hB.gok ad x hx
          · exact k1 ad x hx
        refine ⟨fun ad x hx => ?_, fun ad x hx => ?_, hrep.mono hs2 fun t ht => (by simp [AV.refs] at ht), fun p hp => by simp at hp, fun p hp => by simp at hp, fun g ⟨p, hp, _⟩ => by simp at hp, fun p hp => by simp at hp, ⟨?_, ?_, ?_, ?_, fun k hk _ => ?_⟩, fun ad h0 h1 => ?_⟩
        · have := hr.sub ad x hx
          show (if (Γ ad).isSome then Γ ad else Γ2 ad) = some x
          rw [if_pos (by rw [this]; rfl)]; exact this
        · have h2 := hgk ad x hx
          rw [cell_block (b4 _ (nD ad x h2))]; exact h2
        · exact hB.frame.os
        · exact hB.frame.tape
        · exact hB.frame.output
        · have := hB.frame.size; simpa using this
        · rw [b4 k (by omega)]
          exact hB.frame.block k hk (hF2 k)
        · have h1 : (if (Γ ad).isSome then Γ ad else Γ2 ad) ≠ none := h1
          split at h1
          · exact (hr.fresh ad h0 h1).imp id fun h => (hF2 _ h).elim
          · cases hq : Γ2 ad with
            | none => exact absurd hq h1
            | some y => exact (hY _ (k2 ad y hq)).imp id fun h => (hF2 _ h).elim
    exact ⟨key _ rfl, key _ rfl⟩
end
end Go.Proofs.Ytocppeifkjdeiaa.Mv

/- Graphs: the pairs of any range. Under no condition. -/
namespace Go.Proofs.Ytocppeifkjdeiaa.Mv
open Go Go.Proofs
set_option linter.unusedSimpArgs false
set_option linter.unusedVariables false
set_option maxRecDepth 10000
set_option maxHeartbeats 4000000
attribute [local irreducible] AW AO AR

/-- A graph that is gone through. -/
def smallG (l : List Im) (b : B32) : Bool := !great9 l && decide ((if rightL (lead9 l) l = true then wW l b else 0) ≤ 100)
theorem small_ims {l : List Im} (hg : great9 l = false) : Ims l ∧ l.length ≤ 30 := by
  unfold great9 at hg
  rw [Bool.or_eq_false_iff, decide_eq_false_iff_not, Bool.not_eq_false'] at hg
  exact ⟨⟨by omega, fun i hi => great_small (by
    have := List.all_eq_true.1 hg.2 _ (mem_at' hi)
    simpa using this)⟩, by omega⟩
theorem small_w {l : List Im} {b : B32} (h : smallG l b = true) : great9 l = false ∧ (rightL (lead9 l) l = true → wN l b ≤ 1000) := by
  unfold smallG at h
  rw [Bool.and_eq_true, Bool.not_eq_true', decide_eq_true_eq] at h
  refine ⟨h.1, fun hr => ?_⟩
  have := h.2
  rw [if_pos hr] at this
  unfold wN; omega
theorem gSmall (l : List Im) (hl : l.length ≤ 9223372036854775807) (hf : ∀ x ∈ l, x.nd.fits) (b : B32) : Good Try.prog 50 [.sh 6 (l.map Im.av), .i .u32 b.toNat] [] (.b (smallG l b)) [] := by
  have gG := gGreat9 l hl fun i hi => hf _ (mem_at' hi)
  cases hg : great9 l with
  | true =>
    rw [hg] at gG
    rw [show smallG l b = false by unfold smallG; rw [hg]; rfl]
    refine Good.w tabOk mixed Try.func50 (N := 14) (by kernel_rfl) rfl (by (repeat (first | exact LE.nil | apply LE.cons)); done) (by (repeat (first | exact LE.nil | apply LE.cons)); done) fun D hD F => ?_
    repeat' (first
    | apply AO.nil
    | (apply AO.kCall 44; refine AO.sCall (hg := gG) (h := ?_))
    | (apply AO.kP; first | refine AO.sP (h := ?_) | refine AO.sPi (h := ?_))
    | apply AW.seq
    | (apply AW.kR; refine AW.sR (h := ?_))
    | apply AW.skip
    | apply AW.block
    | apply AW.out
    | (apply AW.kE; refine AW.sE (h := ?_))
    | apply AW.label
    | ((first | (apply AO.kG; first | refine AO.sgt (h1 := fun h => ?_) (h2 := fun h => ?_) | refine AO.sgf (h1 := fun h => ?_) (h2 := fun h => ?_) | refine AO.sgs (h := ?_))) <;> (try (first | exact Bool.noConfusion h | exact absurd h (by decide) | (simp at h; done) | (rw [h]; try simp only [nrm] at h; try rw [h]; try (exfalso; omega)) | skip))))
    all_goals exact AW.ret (hD rfl .refl)
  | false =>
    rw [hg] at gG
    obtain ⟨him, h30⟩ := small_ims hg
    have g4 := gWaysR l him b (by omega)
    rw [show smallG l b = decide ((if rightL (lead9 l) l = true then wW l b else 0) ≤ 100) by unfold smallG; rw [hg]; rfl]
    generalize (if rightL (lead9 l) l = true then wW l b else 0) = w at *
    refine Good.w tabOk mixed Try.func50 (N := 14) (by kernel_rfl) rfl (by (repeat (first | exact LE.nil | apply LE.cons)); done) (by (repeat (first | exact LE.nil | apply LE.cons)); done) fun D hD F => ?_
    repeat' (first
    | apply AO.nil
    | (apply AO.kCall 44; refine AO.sCall (hg := gG) (h := ?_))
    | (apply AO.kCall 49; refine AO.sCall (hg := g4) (h := ?_))
    | (apply AO.kP; first | refine AO.sP (h := ?_) | refine AO.sPi (h := ?_))
    | apply AW.seq
    | (apply AW.kR; refine AW.sR (h := ?_))
    | apply AW.skip
    | apply AW.block
    | apply AW.out
    | (apply AW.kE; refine AW.sE (h := ?_))
    | apply AW.label
    | ((first | (apply AO.kG; first | refine AO.sgt (h1 := fun h => ?_) (h2 := fun h => ?_) | refine AO.sgf (h1 := fun h => ?_) (h2 := fun h => ?_) | refine AO.sgs (h := ?_))) <;> (try (first | exact Bool.noConfusion h | exact absurd h (by decide) | (simp at h; done) | (rw [h]; try simp only [nrm] at h; try rw [h]; try (exfalso; omega)) | skip))))
    all_goals exact AW.ret (hD rfl .refl)
theorem gLawPairs (l : List Im) (hl : l.length ≤ 9223372036854775807) (hf : ∀ x ∈ l, x.nd.fits) (b : B32) (lo hi : L) (e : Bool) (n : Int) (hn : -9223372036854775808 ≤ n ∧ n ≤ 9223372036854775807) : Good Try.prog 12 [.sh 6 (l.map Im.av), .i .u32 b.toNat, .agg [.s lo, .s hi, .b e], .i .i64 n] [] (.b true) [] := by
  have gS := gSmall l hl hf b
  have gG3 := gGreat3 lo hi e
  cases hs : smallG l b with
  | false =>
    rw [hs] at gS
    refine Good.w tabOk mixed Try.func12 (N := 32) (by kernel_rfl) rfl (by (repeat (first | exact LE.nil | apply LE.cons)); done) (by (repeat (first | exact LE.nil | apply LE.cons)); done) fun D hD F => ?_
    repeat' (first
    | apply AO.nil
    | (apply AO.kCall 50; refine AO.sCall (hg := gS) (h := ?_))
    | (apply AO.kCall 16; refine AO.sCall (hg := gG3) (h := ?_))
    | (apply AO.kCall 45; refine AO.sCall (hg := gAwakeM) (h := ?_))
    | (apply AO.kBox; refine AO.sBox (h := ?_))
    | (apply AO.kP; first | refine AO.sP (h := ?_) | refine AO.sPi (h := ?_) | refine AO.sLoadB (h := ?_))
    | apply AW.seq
    | (apply AW.kR; refine AW.sR (h := ?_))
    | apply AW.skip
    | apply AW.block
    | apply AW.out
    | (apply AW.kE; refine AW.sE (h := ?_))
    | apply AW.label
    | (apply AW.kRd; refine AW.sRd (h := ?_))
    | ((first | (apply AO.kG; first | refine AO.sgt (h1 := fun h => ?_) (h2 := fun h => ?_) | refine AO.sgf (h1 := fun h => ?_) (h2 := fun h => ?_) | refine AO.sgs (h := ?_)) | (apply AW.kC; refine AW.sC (h1 := fun h => ?_) (h2 := fun h => ?_)) | (apply AR.kAny; apply AR.kG; first | refine AR.sgt (h1 := fun h => ?_) (h2 := fun h => ?_) | refine AR.sgf (h1 := fun h => ?_) (h2 := fun h => ?_) | refine AR.sgs (h := ?_))) <;> (try (first | exact Bool.noConfusion h | exact absurd h (by decide) | (simp at h; done) | (rw [h]; try simp only [nrm] at h; try rw [h]; try (exfalso; omega)) | skip)))
    | (apply AR.kAny; first | (apply AR.kCall 50; refine AR.sCall (hg := gS) (h := ?_)) | (apply AR.kCall 16; refine AR.sCall (hg := gG3) (h := ?_)) | (apply AR.kCall 45; refine AR.sCall (hg := gAwakeM) (h := ?_)) | (apply AR.kBox; refine AR.sBox (h := ?_)) | (apply AR.kP; first | refine AR.sP (h := ?_) | refine AR.sPi (h := ?_)))
    | (apply AR.kNil; refine AR.sNil (h := ?_)))
    all_goals first
      | exact AW.ret (hD rfl (Lx.b rfl))
      | trace_state
  | true =>
    rw [hs] at gS
    cases h3 : great2 lo hi with
    | true =>
      rw [h3] at gG3
      refine Good.w tabOk mixed Try.func12 (N := 32) (by kernel_rfl) rfl (by (repeat (first | exact LE.nil | apply LE.cons)); done) (by (repeat (first | exact LE.nil | apply LE.cons)); done) fun D hD F => ?_
      repeat' (first
    | apply AO.nil
    | (apply AO.kCall 50; refine AO.sCall (hg := gS) (h := ?_))
    | (apply AO.kCall 16; refine AO.sCall (hg := gG3) (h := ?_))
    | (apply AO.kCall 45; refine AO.sCall (hg := gAwakeM) (h := ?_))
    | (apply AO.kBox; refine AO.sBox (h := ?_))
    | (apply AO.kP; first | refine AO.sP (h := ?_) | refine AO.sPi (h := ?_) | refine AO.sLoadB (h := ?_))
    | apply AW.seq
    | (apply AW.kR; refine AW.sR (h := ?_))
    | apply AW.skip
    | apply AW.block
    | apply AW.out
    | (apply AW.kE; refine AW.sE (h := ?_))
    | apply AW.label
    | (apply AW.kRd; refine AW.sRd (h := ?_))
    | ((first | (apply AO.kG; first | refine AO.sgt (h1 := fun h => ?_) (h2 := fun h => ?_) | refine AO.sgf (h1 := fun h => ?_) (h2 := fun h => ?_) | refine AO.sgs (h := ?_)) | (apply AW.kC; refine AW.sC (h1 := fun h => ?_) (h2 := fun h => ?_)) | (apply AR.kAny; apply AR.kG; first | refine AR.sgt (h1 := fun h => ?_) (h2 := fun h => ?_) | refine AR.sgf (h1 := fun h => ?_) (h2 := fun h => ?_) | refine AR.sgs (h := ?_))) <;> (try (first | exact Bool.noConfusion h | exact absurd h (by decide) | (simp at h; done) | (rw [h]; try simp only [nrm] at h; try rw [h]; try (exfalso; omega)) | skip)))
    | (apply AR.kAny; first | (apply AR.kCall 50; refine AR.sCall (hg := gS) (h := ?_)) | (apply AR.kCall 16; refine AR.sCall (hg := gG3) (h := ?_)) | (apply AR.kCall 45; refine AR.sCall (hg := gAwakeM) (h := ?_)) | (apply AR.kBox; refine AR.sBox (h := ?_)) | (apply AR.kP; first | refine AR.sP (h := ?_) | refine AR.sPi (h := ?_)))
    | (apply AR.kNil; refine AR.sNil (h := ?_)))
      all_goals first
        | exact AW.ret (hD rfl (Lx.b rfl))
        | trace_state
    | false =>
      rw [h3] at gG3
      obtain ⟨hg, hw⟩ := small_w hs
      obtain ⟨him, h30⟩ := small_ims hg
      unfold great2 at h3
      rw [Bool.or_eq_false_iff, decide_eq_false_iff_not, decide_eq_false_iff_not] at h3
      have hx : Rg.le (lo, hi, e) 1000 := ⟨by show lo.length ≤ 1000; omega, by show hi.length ≤ 1000; omega⟩
      have room := @allP_room l b hw (lo, hi, e)
      have g1 := gPairsP him (by omega) b hx room n hn
      have g2 := gPairsR him (by omega) b hw (lo, hi, e) n hn
      have lP : (takeI n (allP l b (lo, hi, e))).length ≤ 16000 := Nat.le_trans (takeI_len _ _) room
      dsimp only at g1 g2
      generalize takeI n (allP l b (lo, hi, e)) = ps at *
      have g3 := gSameP ps ps (by omega) (by omega)
      rw [decide_eq_true rfl] at g3
      refine Good.w tabOk mixed Try.func12 (N := 32) (by kernel_rfl) rfl (by (repeat (first | exact LE.nil | apply LE.cons)); done) (by (repeat (first | exact LE.nil | apply LE.cons)); done) fun D hD F => ?_
      repeat' (first
    | apply AO.nil
    | (apply AO.kCall 50; refine AO.sCall (hg := gS) (h := ?_))
    | (apply AO.kCall 16; refine AO.sCall (hg := gG3) (h := ?_))
    | (apply AO.kCall 52; refine AO.sCall (hg := g1) (h := ?_))
    | (apply AO.kCall 53; refine AO.sCall (hg := g2) (h := ?_))
    | (apply AO.kCall 51; refine AO.sCall (hg := g3) (h := ?_))
    | (apply AO.kCall 45; refine AO.sCall (hg := gAwakeM) (h := ?_))
    | (apply AO.kBox; refine AO.sBox (h := ?_))
    | (apply AO.kP; first | refine AO.sP (h := ?_) | refine AO.sPi (h := ?_) | refine AO.sLoadB (h := ?_))
    | apply AW.seq
    | (apply AW.kR; refine AW.sR (h := ?_))
    | apply AW.skip
    | apply AW.block
    | apply AW.out
    | (apply AW.kE; refine AW.sE (h := ?_))
    | apply AW.label
    | (apply AW.kRd; refine AW.sRd (h := ?_))
    | ((first | (apply AO.kG; first | refine AO.sgt (h1 := fun h => ?_) (h2 := fun h => ?_) | refine AO.sgf (h1 := fun h => ?_) (h2 := fun h => ?_) | refine AO.sgs (h := ?_)) | (apply AW.kC; refine AW.sC (h1 := fun h => ?_) (h2 := fun h => ?_)) | (apply AR.kAny; apply AR.kG; first | refine AR.sgt (h1 := fun h => ?_) (h2 := fun h => ?_) | refine AR.sgf (h1 := fun h => ?_) (h2 := fun h => ?_) | refine AR.sgs (h := ?_))) <;> (try (first | exact Bool.noConfusion h | exact absurd h (by decide) | (simp at h; done) | (rw [h]; try simp only [nrm] at h; try rw [h]; try (exfalso; omega)) | skip)))
    | (apply AR.kAny; first | (apply AR.kCall 50; refine AR.sCall (hg := gS) (h := ?_)) | (apply AR.kCall 16; refine AR.sCall (hg := gG3) (h := ?_)) | (apply AR.kCall 52; refine AR.sCall (hg := g1) (h := ?_)) | (apply AR.kCall 53; refine AR.sCall (hg := g2) (h := ?_)) | (apply AR.kCall 51; refine AR.sCall (hg := g3) (h := ?_)) | (apply AR.kCall 45; refine AR.sCall (hg := gAwakeM) (h := ?_)) | (apply AR.kBox; refine AR.sBox (h := ?_)) | (apply AR.kP; first | refine AR.sP (h := ?_) | refine AR.sPi (h := ?_)))
    | (apply AR.kNil; refine AR.sNil (h := ?_)))
      all_goals first
        | exact AW.ret (hD rfl (Lx.b rfl))
        | trace_state
end Go.Proofs.Ytocppeifkjdeiaa.Mv
