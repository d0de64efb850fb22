/- What the statement MeanParts needs, part 13. Under no condition. -/
import Derived.MapKept
import Derived.Carry
import Derived.Test.YtocppeifkjdeiaaMMeanParts12
/- Maps from numbers to numbers. Under no condition. -/
namespace Go.Proofs.Ytocppeifkjdeiaa.Mv
open Go Go.Proofs
set_option linter.unusedSimpArgs false
set_option linter.unusedVariables false
def mget : List (Int × Int) → Int → Option Int
  | [], _ => none
  | (a, v) :: r, k => if k = a then some v else mget r k
def mput : List (Int × Int) → Int → Int → List (Int × Int)
  | [], k, v => [(k, v)]
  | (a, w) :: r, k, v => if k = a then (k, v) :: r else (a, w) :: mput r k v
theorem mget_put (k v : Int) : ∀ (l : List (Int × Int)) (q : Int), mget (mput l k v) q = if q = k then some v else mget l q
  | [], q => rfl
  | (a, w) :: r, q => by
    unfold mput
    split
    · rename_i h
      subst h
      simp only [mget]
      split <;> rfl
    · rename_i h
      simp only [mget, mget_put k v r q]
      by_cases hq : q = a
      · rw [if_pos hq, if_pos hq, if_neg (fun e => h (e.symm.trans hq))]
      · rw [if_neg hq, if_neg hq]
/-- Where it stands. -/
def midx : List (Int × Int) → Int → Option Nat
  | [], _ => none
  | (a, _) :: r, k => if k = a then some 0 else (midx r k).map (· + 1)
theorem findNow_int {kk vk : IntKind} (k : Int) : ∀ (es : List MapEntry) (ents : List (Int × Int)) (i : Nat), es.map (fun e => (e.key, e.val)) = ents.map (fun p => (Value.int kk p.1, Value.int vk p.2)) →
    Instr.findNow (.int kk) (.int kk k) es i = some ((midx ents k).map fun j => (i + j, Value.int vk ((mget ents k).getD 0)))
  | [], [], i, _ => rfl
  | e :: es, [], i, h => by simp at h
  | [], p :: r, i, h => by simp at h
  | e :: es, (a, v) :: r, i, h => by
    simp only [List.map_cons, List.cons.injEq, Prod.mk.injEq] at h
    obtain ⟨⟨h1, h2⟩, h3⟩ := h
    have ih := findNow_int k es r (i + 1) h3
    unfold Instr.findNow midx mget
    rw [h1, h2]
    simp only [Instr.sameNow, if_true]
    by_cases hk : k = a
    · rw [if_pos hk, if_pos hk]; simp [hk]
    · have hb : (k == a) = false := by simpa using hk
      rw [if_neg hk, if_neg hk, hb]
      simp only [ih]
      cases midx r k with
      | none => rfl
      | some j => simp [Nat.add_assoc, Nat.add_comm 1]
theorem midx_get (k : Int) : ∀ l : List (Int × Int), (midx l k).isSome = (mget l k).isSome
  | [] => rfl
  | (a, v) :: r => by
    unfold midx mget
    split
    · rfl
    · rw [Option.isSome_map]; exact midx_get k r
theorem midx_none {k : Int} : ∀ {l : List (Int × Int)} (v : Int), midx l k = none → mput l k v = l ++ [(k, v)]
  | [], v, _ => rfl
  | (a, w) :: r, v, h => by
    unfold midx at h
    split at h
    · cases h
    · rename_i hk
      rw [mput, if_neg hk, midx_none v (by simpa using h)]; rfl
theorem midx_some {k : Int} : ∀ {l : List (Int × Int)} {j : Nat} (v : Int), midx l k = some j → ∃ w, l[j]? = some (k, w) ∧ mput l k v = l.set j (k, v)
  | [], j, v, h => by cases h
  | (a, w) :: r, j, v, h => by
    unfold midx at h
    split at h
    · rename_i hk; subst hk; cases h
      exact ⟨w, rfl, by rw [mput, if_pos rfl]; rfl⟩
    · rename_i hk
      cases hm : midx r k with
      | none => rw [hm] at h; cases h
      | some q =>
        rw [hm] at h; cases h
        obtain ⟨w', h1, h2⟩ := midx_some v hm
        exact ⟨w', by simpa using h1, by rw [mput, if_neg hk, h2]; rfl⟩
section
variable {P : Program} {tab : Tab} {N : Nat} {D : St → Prop} {F : Fx P tab N D} {ops : Array Oper} {k : List It} {l : List Oper} {T : List (Nat × AV)} {B : List (Nat × Ob)} {d ty : Nat} {pos : String} {after : Array Edge} {st : St} {acc : List Rec} {tg : List Nat}
  {t kt et : TypeId} {i ik ie : TyI} {x y z : Operand} {kk vk : IntKind} {ents : List (Int × Int)} {g : Nat} {q v : Int}
/-- A new map. -/
theorem mkMap_ext : ExtOk P tab st ⟨some d, .makeMap t none, ty, pos, after, none⟩ ⟨[(d, .mpv d)], [(d, .mp kk vk [])], [d]⟩ := by
  intro g' st' h1 h2 cc Γ m a w hP ht hr hok hf Q
  have hfd := hf d (by simp)
  have hrun : (execOp a.eval { dst := some d, op := .makeMap t none, type := ty, pos, after, guard := g' }).run cc.P w = .ok (.value (.map (some w.heap.size))) (w.alloc (.map #[] 0)) := by
    simp [execOp, Go.RowKit.run_makeMap, Result.andThen]
  have hnone : ∀ ad : Addr, ad.block = w.heap.size → Γ ad = none := fun ad had => by
    cases hv : Γ ad with
    | none => rfl
    | some v => have := block_lt_of_cell (hr.gok ad v hv); omega
  have hn := hr.new (d := d) hfd.1 hfd.2.1 hfd.2.2 (Sub.refl Γ) (w' := w.alloc (.map #[] 0)) (g := some w.heap.size) (k := fun _ => none) (ob := .mp kk vk []) rfl rfl rfl (by simp) (fun i hi => (MapKept.heap_alloc w _).2 i hi) (fun _ _ => rfl) (fun ad v hv => cell_alloc (hr.gok ad v hv))
    ⟨w.heap.size, #[], 0, by simp [Nm.set], (MapKept.heap_alloc w _).1, rfl, hnone⟩ (fun i hi => by simp only [Ob.blk, Nm.set, if_true] at hi; cases hi; exact Nat.le_refl _)
  unfold Oper.wp
  rw [hrun]
  exact hn.app1 (st := st') (B := [(d, .mp kk vk [])]) (.mpv (by simp [Nm.set]))
theorem AO.mkMap (kk vk : IntKind) (hf : (⟨T, B⟩ : St).freeB d = true) (h : AO F ops k l ⟨(d, .mpv d) :: T, (d, .mp kk vk []) :: B⟩) : AO F ops k (⟨some d, .makeMap t none, ty, pos, after, none⟩ :: l) ⟨T, B⟩ :=
  AO.step (e := ⟨[(d, .mpv d)], [(d, .mp kk vk [])], [d]⟩) rfl (.ext mkMap_ext) (fun e he => by simp at he; subst he; exact St.freeB_ok hf) h
/-- Asked of a map. -/
theorem look_ext (hi : look tab t = some i) (hd : i.d = .map kt et) (hk : look tab kt = some ik) (hkd : ik.d = .int kk) (hz : ∀ w : World, (zeroValue et).run P w = .ok (.int vk 0) w) (hx : st.val x = .mpv g) (hg : st.ob g = .mp kk vk ents) (hy : st.val y = .i kk q) :
    ExtOk P tab st ⟨some d, .lookup t x y true, ty, pos, after, none⟩ (putEff (some d) (.tup [.i vk ((mget ents q).getD 0), .b (mget ents q).isSome])) :=
  ext_val (o := ⟨some d, .lookup t x y true, ty, pos, after, none⟩) fun st' h1 h2 c Γ m a w hP ht hr hok g' => by
    have hxm : x ∈ (Op.lookup t x y true).operands := by simp [Op.operands]
    have hym : y ∈ (Op.lookup t x y true).operands := by simp [Op.operands]
    have hxe := hr.eval x (ok_ops hok hxm)
    have hye := hr.eval y (ok_ops hok hym)
    rw [← h1 x hxm, hx] at hxe
    rw [← h1 y hym, hy] at hye
    have ho1 : st'.ob g = .mp kk vk ents := by rw [← h2 g (tag_op hxm (by rw [hx]; simp [AV.refs])), hg]
    have hob := hr.obs g
    rw [ho1] at hob
    obtain ⟨gb, es, cl, q1, q2, q3, q4⟩ := hob
    have ey : a.eval y = .int kk q := by cases hq : a.eval y <;> rw [hq] at hye <;> cases hye <;> rfl
    have hu := (ht.at hi).und
    rw [hd] at hu
    have huk := (ht.at hk).und
    rw [hkd] at huk
    generalize hvx : a.eval x = vx at hxe
    cases hxe with
    | mpv hth =>
      rw [q1] at hth; cases hth
      have hfk := MapKept.run_findKey (P := c.P) (w := w) (kt := kt) (k := .int kk q) (l := es.toList) huk (findNow_int q es.toList ents 0 q3)
      have hck := MapKept.run_checkKey (P := c.P) (w := w) (kt := kt) (k := .int kk q) huk (by simp [MapKept.IsKey]) es.isEmpty 9999
      have hz' := hz w
      rw [← hP] at hz'
      have hgo := MapKept.run_getObj_map (P := c.P) q2
      cases hm : midx ents q with
      | none =>
        have hmg : mget ents q = none := by
          have := midx_get q ents
          rw [hm] at this
          cases hmm : mget ents q with
          | none => rfl
          | some _ => rw [hmm] at this; cases this
        rw [hm] at hfk
        refine ⟨.tuple #[.int vk 0, .bool false], ?_, ?_⟩
        · simp [execOp, hvx, ey, Instr.lookup, run_underlying hu, Result.andThen, hgo, hck, hfk, hz']
        · rw [hmg]
          exact .tup [.int vk 0, .bool false] rfl fun j v c hv hc => by
            match j, hv, hc with
            | 0, hv, hc => cases hv; cases hc; exact .i
            | 1, hv, hc => cases hv; cases hc; exact .b
      | some j =>
        obtain ⟨w', hmg⟩ : ∃ w', mget ents q = some w' := by
          have := midx_get q ents
          rw [hm] at this
          cases hmm : mget ents q with
          | none => rw [hmm] at this; cases this
          | some w' => exact ⟨w', rfl⟩
        rw [hm, hmg] at hfk
        refine ⟨.tuple #[.int vk w', .bool true], ?_, ?_⟩
        · simp [execOp, hvx, ey, Instr.lookup, run_underlying hu, Result.andThen, hgo, hck, hfk]
        · rw [hmg]
          exact .tup [.int vk w', .bool true] rfl fun j v c hv hc => by
            match j, hv, hc with
            | 0, hv, hc => cases hv; cases hc; exact .i
            | 1, hv, hc => cases hv; cases hc; exact .b
theorem AO.lookM (hi : look tab t = some i) (hd : i.d = .map kt et) (hk : look tab kt = some ik) (hkd : ik.d = .int kk) (hz : ∀ w : World, (zeroValue et).run P w = .ok (.int vk 0) w) (hx : (⟨T, B⟩ : St).val x = .mpv g) (hg : (⟨T, B⟩ : St).ob g = .mp kk vk ents) (hy : (⟨T, B⟩ : St).val y = .i kk q)
    (h : AO F ops k l ⟨(d, .tup [.i vk ((mget ents q).getD 0), .b (mget ents q).isSome]) :: T, B⟩) : AO F ops k (⟨some d, .lookup t x y true, ty, pos, after, none⟩ :: l) ⟨T, B⟩ :=
  AO.step (e := ⟨[(d, .tup [.i vk ((mget ents q).getD 0), .b (mget ents q).isSome])], [], []⟩) rfl (.ext (look_ext hi hd hk hkd hz hx hg hy)) (fun e he => by simp at he) h
/-- Written into a map. -/
theorem RRW.mput {c : Ctx} {Γ m a w} (hr : RRW c Γ m st a w) (hg : st.ob g = .mp kk vk ents) {es' : Array MapEntry} {cl' : Nat} {gb : Nat} {ents' : List (Int × Int)} (hth : m.th g = some gb) {o : Obj} (hh : w.heap[gb]? = some o)
    (he : es'.toList.map (fun e => (e.key, e.val)) = ents'.map (fun p => (Value.int kk p.1, Value.int vk p.2))) : RRW c Γ m ⟨st.T, (g, .mp kk vk ents') :: st.B⟩ a { w with heap := w.heap.setIfInBounds gb (.map es' cl') } := by
  obtain ⟨s1, s2⟩ := MapKept.heap_set (o' := Obj.map es' cl') hh
  have hobg := hr.obs g
  rw [hg] at hobg
  obtain ⟨gb2, es, cl, q1, q2, q3, q4⟩ := hobg
  rw [hth] at q1; cases q1
  have hob' : ∀ s, (⟨st.T, (g, .mp kk vk ents') :: st.B⟩ : St).ob s = if g = s then .mp kk vk ents' else st.ob s := fun s => ob_cons _ _ _ _ _
  have hblk : ∀ s, ((⟨st.T, (g, .mp kk vk ents') :: st.B⟩ : St).ob s).blk m s = (st.ob s).blk m s := fun s => by
    rw [hob']
    split
    · rename_i e; subst e; rw [hg]; rfl
    · rfl
  refine hr.mem (B' := (g, .mp kk vk ents') :: st.B) (Sub.refl _) (fun _ _ _ => ⟨fun _ h => h, fun _ _ h => h⟩) (fun _ _ => ⟨fun _ h => h, fun _ _ h => h⟩) (fun ad v hv => ?_) (fun s => ?_) (fun s i hi => hr.own s i (by rwa [hblk] at hi)) (fun s s' i hi hi' => hr.inj s s' i (by rwa [hblk] at hi) (by rwa [hblk] at hi')) ?_ (fun ad h0 h1 => absurd h0 h1)
  · have hne : ad.block ≠ gb := fun e => by rw [q4 ad e] at hv; cases hv
    have := hr.gok ad v hv
    unfold World.cell? at this ⊢
    rw [show ({ w with heap := w.heap.setIfInBounds gb (.map es' cl') } : World).heap[ad.block]? = w.heap[ad.block]? from s2 _ hne]
    exact this
  · rw [hob']
    split
    · rename_i e; subst e
      exact ⟨gb, es', cl', hth, s1, he, q4⟩
    · rename_i e
      refine (hr.obs s).keep (Sub.refl _) rfl rfl rfl (by simp) ⟨rfl, rfl, rfl⟩ (fun _ _ => ⟨fun _ h => h, fun _ _ h => h⟩) fun i hi => ⟨s2 _ fun e' => ?_, fun _ _ => rfl⟩
      subst e'
      exact e (hr.inj g s i (by rw [hg]; exact hth) hi)
  · refine hr.frame.trans' rfl rfl rfl (by simp) fun i hi => ?_
    by_cases e : i = gb
    · exact .inl ⟨gb, hr.own g gb (by rw [hg]; exact hth), e⟩
    · exact .inr (s2 i e)
theorem sameBits_int (n : Nat) (kk : IntKind) (a : Int) : Instr.sameBits (n + 1) (.int kk a) (.int kk a) = true := by simp [Instr.sameBits]
theorem put_ext (hi : look tab t = some i) (hd : i.d = .map kt et) (hk : look tab kt = some ik) (hkd : ik.d = .int kk) (hx : st.val x = .mpv g) (hg : st.ob g = .mp kk vk ents) (hy : st.val y = .i kk q) (hzv : st.val z = .i vk v) :
    ExtOk P tab st ⟨none, .mapUpdate t x y z, ty, pos, after, none⟩ ⟨[], [(g, .mp kk vk (mput ents q v))], []⟩ := by
  intro g' st' h1 h2 c Γ m a w hP ht hr hok hf Q
  have hxm : x ∈ (Op.mapUpdate t x y z).operands := by simp [Op.operands]
  have hym : y ∈ (Op.mapUpdate t x y z).operands := by simp [Op.operands]
  have hzm : z ∈ (Op.mapUpdate t x y z).operands := by simp [Op.operands]
  have hxe := hr.eval x (ok_ops hok hxm)
  have hye := hr.eval y (ok_ops hok hym)
  have hze := hr.eval z (ok_ops hok hzm)
  rw [← h1 x hxm, hx] at hxe
  rw [← h1 y hym, hy] at hye
  rw [← h1 z hzm, hzv] at hze
  have ho1 : st'.ob g = .mp kk vk ents := by rw [← h2 g (tag_op hxm (by rw [hx]; simp [AV.refs])), hg]
  have hob := hr.obs g
  rw [ho1] at hob
  obtain ⟨gb, es, cl, q1, q2, q3, q4⟩ := hob
  have ey : a.eval y = .int kk q := by cases hq : a.eval y <;> rw [hq] at hye <;> cases hye <;> rfl
  have ez : a.eval z = .int vk v := by cases hq : a.eval z <;> rw [hq] at hze <;> cases hze <;> rfl
  have hu := (ht.at hi).und
  rw [hd] at hu
  have huk := (ht.at hk).und
  rw [hkd] at huk
  generalize hvx : a.eval x = vx at hxe
  cases hxe with
  | mpv hth =>
    rw [q1] at hth; cases hth
    have hfk := MapKept.run_findKey (P := c.P) (w := w) (kt := kt) (k := .int kk q) (l := es.toList) huk (findNow_int q es.toList ents 0 q3)
    have hck := MapKept.run_checkKey (P := c.P) (w := w) (kt := kt) (k := .int kk q) huk (by simp [MapKept.IsKey]) false 9999
    have hgo := MapKept.run_getObj_map (P := c.P) q2
    have hso := fun o => MapKept.run_setObj_map (P := c.P) o q2
    cases hm : midx ents q with
    | none =>
      rw [hm] at hfk
      have hrun : (execOp a.eval { dst := none, op := .mapUpdate t x y z, type := ty, pos, after, guard := g' }).run c.P w = .ok .skip { w with heap := w.heap.setIfInBounds gb (.map (es.push { key := .int kk q, val := .int vk v, born := cl }) (cl + 1)) } := by
        simp [execOp, hvx, ey, ez, Instr.mapUpdate, run_underlying hu, Result.andThen, hgo, hck, hfk, hso]
      have hn := RRW.mput (st := st') hr ho1 (es' := es.push { key := .int kk q, val := .int vk v, born := cl }) (cl' := cl + 1) (ents' := mput ents q v) q1 q2 (by rw [midx_none v hm, Array.toList_push, List.map_append, List.map_append, q3]; rfl)
      unfold Oper.wp
      rw [hrun]
      exact ⟨Γ, m, hn⟩
    | some j =>
      rw [hm] at hfk
      obtain ⟨w0, hj, hset⟩ := midx_some v hm
      have hlen : es.size = ents.length := by
        have := congrArg List.length q3
        simpa using this
      have hjl : j < ents.length := (List.getElem?_eq_some_iff.1 hj).1
      have hkey : (es[j]'(by omega)).key = .int kk q := by
        have := congrArg (fun l => l[j]?) q3
        simp only [List.getElem?_map, hj, Option.map_some] at this
        rw [List.getElem?_eq_getElem (by simpa using (show j < es.size by omega))] at this
        simp at this
        exact this.1
      have hkts : (Instr.keyThatStays (((es[j]?).map (·.key)).getD (.int kk q)) (.int kk q)).run c.P w = .ok (.int kk q) w := by
        rw [Array.getElem?_eq_getElem (by omega)]
        simp [Instr.keyThatStays, hkey, sameBits_int]
      have hrun : (execOp a.eval { dst := none, op := .mapUpdate t x y z, type := ty, pos, after, guard := g' }).run c.P w = .ok .skip { w with heap := w.heap.setIfInBounds gb (.map (es.modify j fun e => { e with key := .int kk q, val := .int vk v }) cl) } := by
        simp only [Nat.zero_add, Option.map_some] at hfk
        simp [execOp, hvx, ey, ez, Instr.mapUpdate, run_underlying hu, Result.andThen, hgo, hck, hfk, hso, hkts]
      have hn := RRW.mput (st := st') hr ho1 (es' := es.modify j fun e => { e with key := .int kk q, val := .int vk v }) (cl' := cl) (ents' := mput ents q v) q1 q2 (by
        rw [hset, List.map_set, ← q3, Array.toList_modify]
        apply List.ext_getElem?
        intro p
        rw [List.getElem?_map, List.getElem?_set, List.getElem?_modify, List.getElem?_map]
        by_cases hp : j = p
        · subst hp
          have : j < es.toList.length := by simpa using (show j < es.size by omega)
          simp [List.getElem?_eq_getElem this]
          simpa using this
        · simp [hp])
      unfold Oper.wp
      rw [hrun]
      exact ⟨Γ, m, hn⟩
theorem AR.putM (hi : look tab t = some i) (hd : i.d = .map kt et) (hk : look tab kt = some ik) (hkd : ik.d = .int kk) (hx : (⟨T, B⟩ : St).val x = .mpv g) (hg : (⟨T, B⟩ : St).ob g = .mp kk vk ents) (hy : (⟨T, B⟩ : St).val y = .i kk q) (hzv : (⟨T, B⟩ : St).val z = .i vk v)
    (ht : LE (tagsAt ⟨T, B⟩ ⟨none, .mapUpdate t x y z, ty, pos, after, none⟩) tg) (h : AR F ops k l ⟨T, (g, .mp kk vk (mput ents q v)) :: B⟩ (⟨tg, ⟨[], [(g, .mp kk vk (mput ents q v))], []⟩⟩ :: acc)) : AR F ops k (⟨none, .mapUpdate t x y z, ty, pos, after, none⟩ :: l) ⟨T, B⟩ acc :=
  AR.st (e := ⟨[], [(g, .mp kk vk (mput ents q v))], []⟩) rfl (.ext (put_ext hi hd hk hkd hx hg hy hzv)) (fun e he => by simp at he) ht h
end
end Go.Proofs.Ytocppeifkjdeiaa.Mv

/- Graphs: items, what is found. Under no condition. -/
namespace Go.Proofs.Ytocppeifkjdeiaa.Mv
open Go Go.Proofs
set_option linter.unusedSimpArgs false
set_option linter.unusedVariables false
set_option maxRecDepth 10000
set_option maxHeartbeats 4000000
attribute [local irreducible] AW AO AR

/-- An item: a block, its node. -/
structure Im where
  blk : B32
  nd : Nd
  deriving DecidableEq, Inhabited
def Im.av (x : Im) : List AV := .i .u32 (x.blk.toNat : Int) :: x.nd.av
def ndE : Nd := ⟨false, [], [], [], []⟩
def great9 (l : List Im) : Bool := decide (30 < l.length) || !l.all fun x => !great x.nd
theorem gGreat9 (l : List Im) (hl : l.length ≤ 9223372036854775807) (hf : ∀ i, i < l.length → (l.getD i default).nd.fits) : Good Try.prog 44 [.sh 6 (l.map Im.av)] [] (.b (great9 l)) [] := by
  have ll : (l.map Im.av).length = l.length := by simp
  refine Good.w tabOk mixed Try.func44 (N := 19) (by kernel_rfl) rfl (by (repeat (first | exact LE.nil | apply LE.cons)); done) (by (repeat (first | exact LE.nil | apply LE.cons)); done) fun D hD F => ?_
  repeat' (first
    | apply AO.nil
    | (apply AO.kIx; first | refine AO.sIxN (h := ?_) | refine AO.sIx (h := ?_) | refine AO.sP (h := ?_) | refine AO.sPi (h := ?_))
    | (apply AO.kAdd; refine AO.sAdd (h := ?_))
    | (apply AO.kP; first | refine AO.sP (h := ?_) | refine AO.sPi (h := ?_) | refine AO.sLoadB (h := ?_))
    | apply AW.seq
    | (apply AW.kR; refine AW.sR (h := ?_))
    | apply AW.skip
    | apply AW.block
    | apply AW.out
    | (apply AW.kE; refine AW.sE (h := ?_))
    | apply AW.label
    | ((first | (apply AW.kC; refine AW.sC (h1 := fun h => ?_) (h2 := fun h => ?_))) <;> (try (first | exact Bool.noConfusion h | exact absurd h (by decide) | (simp at h; done) | (rw [h]; try simp only [nrm] at h; try rw [h]; try (exfalso; omega)) | skip))))
  · (refine AW.ret (hD rfl ?_); (repeat' (first | apply Lx.s | apply Lx.b | apply Lx.i | apply LxL.cons | exact LxL.nil | apply Lx.tup | apply Lx.agg | apply Lx.refl)) <;> (try with_reducible rfl))
    simp [great9, show 30 < l.length by omega]
  · have h30 : ¬ 30 < l.length := by omega
    have h0 : great9 l = !l.all fun x => !great x.nd := by simp [great9, h30]
    refine AW.loopI (fun q : Nat => q ≤ l.length ∧ (l.take q).all (fun x => !great x.nd) = true) (fun q => ⟨[(0, .sh 6 (l.map Im.av)), (8, .i .i64 l.length), (9, .i .i64 q)], []⟩) (fun q => l.length - q) 0 (by simp) (by (constructor <;> (repeat' (first | exact LeT.nil | exact LeB.nil | apply LeT.cons | apply LeB.cons | exact Ol.refl | apply Lx.s | apply Lx.b | apply Lx.i | exact Lx.refl)) <;> (first | rfl | assumption | omega | (simp only [List.length_map, BS_len]; done) | skip))) fun m q ⟨hq, hc⟩ ih => ?_
    by_cases hq2 : q < l.length
    · have gG := gGreat _ (hf q hq2)
      repeat' (first
    | apply AO.nil
    | (apply AO.kCall 24; refine AO.sCall (hg := gG) (h := ?_))
    | (apply AO.kIx; first | refine AO.sIxN (h := ?_) | refine AO.sIx (h := ?_) | refine AO.sP (h := ?_) | refine AO.sPi (h := ?_))
    | (apply AO.kAdd; refine AO.sAdd (h := ?_))
    | (apply AO.kP; first | refine AO.sP (h := ?_) | refine AO.sPi (h := ?_) | refine AO.sLoadB (h := ?_))
    | apply AW.seq
    | (apply AW.kR; refine AW.sR (h := ?_))
    | apply AW.skip
    | apply AW.block
    | apply AW.out
    | (apply AW.kE; refine AW.sE (h := ?_))
    | apply AW.label
    | ((first | (apply AW.kC; refine AW.sC (h1 := fun h => ?_) (h2 := fun h => ?_))) <;> (try (first | exact Bool.noConfusion h | exact absurd h (by decide) | (simp at h; done) | (rw [h]; try simp only [nrm] at h; try rw [h]; try (exfalso; omega)) | skip))))
      all_goals try (exfalso; omega)
      · have hb : great (l.getD q default).nd = true := by assumption
        (refine AW.ret (hD rfl ?_); (repeat' (first | apply Lx.s | apply Lx.b | apply Lx.i | apply LxL.cons | exact LxL.nil | apply Lx.tup | apply Lx.agg | apply Lx.refl)) <;> (try with_reducible rfl))
        rw [h0, all_fail hq2 (by rw [hb]; rfl)]; rfl
      · have hb : great (l.getD q default).nd = false := by assumption
        exact ih (q + 1) _ ⟨by omega, all_step hq2 hc (by rw [hb]; rfl)⟩ (by omega) (by (constructor <;> (repeat' (first | exact LeT.nil | exact LeB.nil | apply LeT.cons | apply LeB.cons | exact Ol.refl | apply Lx.s | apply Lx.b | apply Lx.i | exact Lx.refl)) <;> (first | rfl | assumption | omega | (simp only [List.length_map, BS_len]; done) | skip)))
    · repeat' (first
    | apply AO.nil
    | (apply AO.kIx; first | refine AO.sIxN (h := ?_) | refine AO.sIx (h := ?_) | refine AO.sP (h := ?_) | refine AO.sPi (h := ?_))
    | (apply AO.kAdd; refine AO.sAdd (h := ?_))
    | (apply AO.kP; first | refine AO.sP (h := ?_) | refine AO.sPi (h := ?_) | refine AO.sLoadB (h := ?_))
    | apply AW.seq
    | (apply AW.kR; refine AW.sR (h := ?_))
    | apply AW.skip
    | apply AW.block
    | apply AW.out
    | (apply AW.kE; refine AW.sE (h := ?_))
    | apply AW.label
    | ((first | (apply AW.kC; refine AW.sC (h1 := fun h => ?_) (h2 := fun h => ?_))) <;> (try (first | exact Bool.noConfusion h | exact absurd h (by decide) | (simp at h; done) | (rw [h]; try simp only [nrm] at h; try rw [h]; try (exfalso; omega)) | skip))))
      all_goals try (exfalso; omega)
      (refine AW.ret (hD rfl ?_); (repeat' (first | apply Lx.s | apply Lx.b | apply Lx.i | apply LxL.cons | exact LxL.nil | apply Lx.tup | apply Lx.agg | apply Lx.refl)) <;> (try with_reducible rfl))
      rw [h0, all_done (by omega) hc]; rfl
/-- The node in a block. -/
def fnd : List Im → B32 → Option Nd
  | [], _ => none
  | x :: r, b => if x.blk = b then some x.nd else fnd r b
theorem fnd_take {l : List Im} {b : B32} : ∀ {q : Nat}, q < l.length → fnd (l.take (q + 1)) b = if (fnd (l.take q) b).isSome then fnd (l.take q) b else if (l.getD q default).blk = b then some (l.getD q default).nd else none := by
  induction l with
  | nil => intro q h; cases h
  | cons x l ih =>
    intro q h
    cases q with
    | zero => simp [fnd]
    | succ q =>
      simp only [List.take_succ_cons, fnd, List.getD_cons_succ]
      split
      · rfl
      · exact ih (by simpa using h)
theorem fnd_yes {l : List Im} {b : B32} : ∀ {q : Nat}, q < l.length → fnd (l.take q) b = none → (l.getD q default).blk = b → fnd l b = some (l.getD q default).nd := by
  induction l with
  | nil => intro q h; cases h
  | cons x l ih =>
    intro q h hn hb
    cases q with
    | zero =>
      have hb' : x.blk = b := hb
      simp [fnd, hb']
    | succ q =>
      simp only [List.take_succ_cons, fnd] at hn
      split at hn
      · cases hn
      · rename_i hx
        simp only [fnd, List.getD_cons_succ]
        rw [if_neg hx]
        exact ih (by simpa using h) hn hb
theorem b32n {a b : B32} : ((a.toNat : Int) = b.toNat) = (a = b) := by
  apply propext
  constructor
  · intro h; exact BitVec.eq_of_toNat_eq (by omega)
  · intro h; rw [h]
theorem gFind' (l : List Im) (b : B32) (hl : l.length ≤ 1000000) : Good Try.prog 84 [.sh 6 (l.map Im.av), .i .u32 b.toNat] [] (.tup [.agg ((fnd l b).getD ndE).av, .b (fnd l b).isSome]) [] := by
  have ll : (l.map Im.av).length = l.length := by simp
  refine Good.w tabOk mixed Try.func84 (N := 26) (by kernel_rfl) rfl (by (repeat (first | exact LE.nil | apply LE.cons)); done) (by (repeat (first | exact LE.nil | apply LE.cons)); done) fun D hD F => ?_
  repeat' (first
    | apply AO.nil
    | (apply AO.kIx; first | refine AO.sIxN (h := ?_) | refine AO.sIx (h := ?_) | refine AO.sP (h := ?_) | refine AO.sPi (h := ?_))
    | (apply AO.kAlloc; refine AO.sAlloc (h := ?_))
    | (apply AO.kStore; first | refine AO.sStore (h := ?_) | refine AO.sStB (h := ?_))
    | (apply AO.kAdd; refine AO.sAdd (h := ?_))
    | (apply AO.kP; first | refine AO.sP (h := ?_) | refine AO.sPi (h := ?_) | refine AO.sLoadB (h := ?_))
    | apply AW.seq
    | (apply AW.kR; refine AW.sR (h := ?_))
    | apply AW.skip
    | apply AW.block
    | apply AW.out
    | (apply AW.kE; refine AW.sE (h := ?_))
    | apply AW.label
    | ((first | (apply AW.kC; refine AW.sC (h1 := fun h => ?_) (h2 := fun h => ?_))) <;> (try (first | exact Bool.noConfusion h | exact absurd h (by decide) | (simp at h; done) | (rw [h]; try simp only [nrm] at h; try rw [h]; try (exfalso; omega)) | skip))))
  refine AW.loopI (fun q : Nat => q ≤ l.length ∧ fnd (l.take q) b = none) (fun q => ⟨[(0, .sh 6 (l.map Im.av)), (1, .i .u32 b.toNat), (4, .ptr 4 0), (8, .i .i64 l.length), (9, .i .i64 q)], [(4, .bx [.b false, .nil, .nil, .nil, .nil])]⟩) (fun q => l.length - q) 0 (by simp [fnd]) (by (constructor <;> (repeat' (first | exact LeT.nil | exact LeB.nil | apply LeT.cons | apply LeB.cons | exact Ol.refl | apply Lx.s | apply Lx.b | apply Lx.i | exact Lx.refl)) <;> (first | rfl | assumption | omega | (simp only [List.length_map, BS_len]; done) | skip))) fun m q ⟨hq, hc⟩ ih => ?_
  by_cases hq2 : q < l.length
  · repeat' (first
    | apply AO.nil
    | (apply AO.kIx; first | refine AO.sIxN (h := ?_) | refine AO.sIx (h := ?_) | refine AO.sP (h := ?_) | refine AO.sPi (h := ?_))
    | (apply AO.kAlloc; refine AO.sAlloc (h := ?_))
    | (apply AO.kStore; first | refine AO.sStore (h := ?_) | refine AO.sStB (h := ?_))
    | (apply AO.kAdd; refine AO.sAdd (h := ?_))
    | (apply AO.kP; first | refine AO.sP (h := ?_) | refine AO.sPi (h := ?_) | refine AO.sLoadB (h := ?_))
    | apply AW.seq
    | (apply AW.kR; refine AW.sR (h := ?_))
    | apply AW.skip
    | apply AW.block
    | apply AW.out
    | (apply AW.kE; refine AW.sE (h := ?_))
    | apply AW.label
    | ((first | (apply AW.kC; refine AW.sC (h1 := fun h => ?_) (h2 := fun h => ?_))) <;> (try (first | exact Bool.noConfusion h | exact absurd h (by decide) | (simp at h; done) | (rw [h]; try simp only [nrm] at h; try rw [h]; try (exfalso; omega)) | skip))))
    all_goals try (exfalso; omega)
    · rw [b32n] at h
      rw [fnd_yes hq2 hc h] at hD
      exact AW.ret (hD rfl .refl)
    · rw [b32n] at h
      exact ih (q + 1) _ ⟨by omega, by rw [fnd_take hq2, hc, if_neg (by simp), if_neg h]⟩ (by omega) (by (constructor <;> (repeat' (first | exact LeT.nil | exact LeB.nil | apply LeT.cons | apply LeB.cons | exact Ol.refl | apply Lx.s | apply Lx.b | apply Lx.i | exact Lx.refl)) <;> (first | rfl | assumption | omega | (simp only [List.length_map, BS_len]; done) | skip)))
  · rw [List.take_of_length_le (by omega)] at hc
    repeat' (first
    | apply AO.nil
    | (apply AO.kIx; first | refine AO.sIxN (h := ?_) | refine AO.sIx (h := ?_) | refine AO.sP (h := ?_) | refine AO.sPi (h := ?_))
    | (apply AO.kAlloc; refine AO.sAlloc (h := ?_))
    | (apply AO.kStore; first | refine AO.sStore (h := ?_) | refine AO.sStB (h := ?_))
    | (apply AO.kAdd; refine AO.sAdd (h := ?_))
    | (apply AO.kP; first | refine AO.sP (h := ?_) | refine AO.sPi (h := ?_) | refine AO.sLoadB (h := ?_))
    | apply AW.seq
    | (apply AW.kR; refine AW.sR (h := ?_))
    | apply AW.skip
    | apply AW.block
    | apply AW.out
    | (apply AW.kE; refine AW.sE (h := ?_))
    | apply AW.label
    | ((first | (apply AW.kC; refine AW.sC (h1 := fun h => ?_) (h2 := fun h => ?_))) <;> (try (first | exact Bool.noConfusion h | exact absurd h (by decide) | (simp at h; done) | (rw [h]; try simp only [nrm] at h; try rw [h]; try (exfalso; omega)) | skip))))
    all_goals try (exfalso; omega)
    rw [hc] at hD
    exact AW.ret (hD rfl (.tup (.cons (.agg (.cons .refl (.cons Lx.nil (.cons Lx.nil (.cons Lx.nil (.cons Lx.nil .nil)))))) (.cons .refl .nil))))
theorem gOwn (n : Nd) (hs : n.small) : Good Try.prog 110 [.agg n.av] [] (.agg n.av) [] := by
  obtain ⟨leaf, pairs, pivots, kids, buf⟩ := n
  have hs1 : pairs.length ≤ 1000000 := hs.pairs
  have hs2 : pivots.length ≤ 1000000 := hs.pivots
  have hs3 : kids.length ≤ 1000000 := hs.kids
  have hs4 : buf.length ≤ 1000000 := hs.buf
  refine Good.w tabOk mixed Try.func110 (N := 20) (by kernel_rfl) rfl (by (repeat (first | exact LE.nil | apply LE.cons)); done) (by (repeat (first | exact LE.nil | apply LE.cons)); done) fun D hD F => ?_
  repeat' (first
    | apply AO.nil
    | (apply AO.kCall 135; refine AO.sCall (hg := (gCloneP _ hs1)) (h := ?_))
    | (apply AO.kCall 136; refine AO.sCall (hg := (gCloneS _ hs2)) (h := ?_))
    | (apply AO.kCall 137; refine AO.sCall (hg := (gCloneE _ hs3)) (h := ?_))
    | (apply AO.kCall 138; refine AO.sCall (hg := (gCloneM _ hs4)) (h := ?_))
    | (apply AO.kBox; refine AO.sBox (h := ?_))
    | (apply AO.kAlloc; refine AO.sAlloc (h := ?_))
    | (apply AO.kStore; first | refine AO.sStore (h := ?_) | refine AO.sStB (h := ?_))
    | (apply AO.kP; first | refine AO.sP (h := ?_) | refine AO.sPi (h := ?_) | refine AO.sLoadB (h := ?_))
    | apply AW.seq
    | (apply AW.kR; refine AW.sR (h := ?_))
    | apply AW.skip
    | apply AW.block
    | apply AW.out
    | (apply AW.kE; refine AW.sE (h := ?_))
    | apply AW.label
    | (apply AW.kRd; refine AW.sRd (h := ?_))
    | (apply AR.kAny; first | (apply AR.kCall 135; refine AR.sCall (hg := (gCloneP _ hs1)) (h := ?_)) | (apply AR.kCall 136; refine AR.sCall (hg := (gCloneS _ hs2)) (h := ?_)) | (apply AR.kCall 137; refine AR.sCall (hg := (gCloneE _ hs3)) (h := ?_)) | (apply AR.kCall 138; refine AR.sCall (hg := (gCloneM _ hs4)) (h := ?_)) | (apply AR.kBox; refine AR.sBox (h := ?_)) | (apply AR.kAlloc; refine AR.sAlloc (h := ?_)) | (apply AR.kStore; refine AR.sStore (h := ?_)) | (apply AR.kP; first | refine AR.sP (h := ?_) | refine AR.sPi (h := ?_)))
    | (apply AR.kNil; refine AR.sNil (h := ?_)))
  exact AW.ret (hD rfl .refl)
theorem gFindG (l : List Im) (b : B32) (hl : l.length ≤ 1000000) (hs : ∀ i, i < l.length → (l.getD i default).nd.small) : Good Try.prog 82 [.sh 6 (l.map Im.av), .i .u32 b.toNat] [] (.tup [.agg ((fnd l b).getD ndE).av, .b (fnd l b).isSome]) [] := by
  have ll : (l.map Im.av).length = l.length := by simp
  refine Good.w tabOk mixed Try.func82 (N := 23) (by kernel_rfl) rfl (by (repeat (first | exact LE.nil | apply LE.cons)); done) (by (repeat (first | exact LE.nil | apply LE.cons)); done) fun D hD F => ?_
  repeat' (first
    | apply AO.nil
    | (apply AO.kIx; first | refine AO.sIxN (h := ?_) | refine AO.sIx (h := ?_) | refine AO.sP (h := ?_) | refine AO.sPi (h := ?_))
    | (apply AO.kAlloc; refine AO.sAlloc (h := ?_))
    | (apply AO.kStore; first | refine AO.sStore (h := ?_) | refine AO.sStB (h := ?_))
    | (apply AO.kAdd; refine AO.sAdd (h := ?_))
    | (apply AO.kP; first | refine AO.sP (h := ?_) | refine AO.sPi (h := ?_) | refine AO.sLoadB (h := ?_))
    | apply AW.seq
    | (apply AW.kR; refine AW.sR (h := ?_))
    | apply AW.skip
    | apply AW.block
    | apply AW.out
    | (apply AW.kE; refine AW.sE (h := ?_))
    | apply AW.label
    | ((first | (apply AW.kC; refine AW.sC (h1 := fun h => ?_) (h2 := fun h => ?_))) <;> (try (first | exact Bool.noConfusion h | exact absurd h (by decide) | (simp at h; done) | (rw [h]; try simp only [nrm] at h; try rw [h]; try (exfalso; omega)) | skip))))
  refine AW.loopI (fun q : Nat => q ≤ l.length ∧ fnd (l.take q) b = none) (fun q => ⟨[(1, .i .u32 b.toNat), (4, .ptr 4 0), (8, .sh 6 (l.map Im.av)), (9, .i .i64 l.length), (10, .i .i64 q)], [(4, .bx [.b false, .nil, .nil, .nil, .nil])]⟩) (fun q => l.length - q) 0 (by simp [fnd]) (by (constructor <;> (repeat' (first | exact LeT.nil | exact LeB.nil | apply LeT.cons | apply LeB.cons | exact Ol.refl | apply Lx.s | apply Lx.b | apply Lx.i | exact Lx.refl)) <;> (first | rfl | assumption | omega | (simp only [List.length_map, BS_len]; done) | skip))) fun m q ⟨hq, hc⟩ ih => ?_
  by_cases hq2 : q < l.length
  · have gO := gOwn _ (hs q hq2)
    repeat' (first
    | apply AO.nil
    | (apply AO.kCall 110; refine AO.sCall (hg := gO) (h := ?_))
    | (apply AO.kIx; first | refine AO.sIxN (h := ?_) | refine AO.sIx (h := ?_) | refine AO.sP (h := ?_) | refine AO.sPi (h := ?_))
    | (apply AO.kAlloc; refine AO.sAlloc (h := ?_))
    | (apply AO.kStore; first | refine AO.sStore (h := ?_) | refine AO.sStB (h := ?_))
    | (apply AO.kAdd; refine AO.sAdd (h := ?_))
    | (apply AO.kP; first | refine AO.sP (h := ?_) | refine AO.sPi (h := ?_) | refine AO.sLoadB (h := ?_))
    | apply AW.seq
    | (apply AW.kR; refine AW.sR (h := ?_))
    | apply AW.skip
    | apply AW.block
    | apply AW.out
    | (apply AW.kE; refine AW.sE (h := ?_))
    | apply AW.label
    | ((first | (apply AW.kC; refine AW.sC (h1 := fun h => ?_) (h2 := fun h => ?_))) <;> (try (first | exact Bool.noConfusion h | exact absurd h (by decide) | (simp at h; done) | (rw [h]; try simp only [nrm] at h; try rw [h]; try (exfalso; omega)) | skip))))
    all_goals try (exfalso; omega)
    · rw [b32n] at h
      rw [fnd_yes hq2 hc h] at hD
      exact AW.ret (hD rfl .refl)
    · rw [b32n] at h
      exact ih (q + 1) _ ⟨by omega, by rw [fnd_take hq2, hc, if_neg (by simp), if_neg h]⟩ (by omega) (by (constructor <;> (repeat' (first | exact LeT.nil | exact LeB.nil | apply LeT.cons | apply LeB.cons | exact Ol.refl | apply Lx.s | apply Lx.b | apply Lx.i | exact Lx.refl)) <;> (first | rfl | assumption | omega | (simp only [List.length_map, BS_len]; done) | skip)))
  · rw [List.take_of_length_le (by omega)] at hc
    repeat' (first
    | apply AO.nil
    | (apply AO.kIx; first | refine AO.sIxN (h := ?_) | refine AO.sIx (h := ?_) | refine AO.sP (h := ?_) | refine AO.sPi (h := ?_))
    | (apply AO.kAlloc; refine AO.sAlloc (h := ?_))
    | (apply AO.kStore; first | refine AO.sStore (h := ?_) | refine AO.sStB (h := ?_))
    | (apply AO.kAdd; refine AO.sAdd (h := ?_))
    | (apply AO.kP; first | refine AO.sP (h := ?_) | refine AO.sPi (h := ?_) | refine AO.sLoadB (h := ?_))
    | apply AW.seq
    | (apply AW.kR; refine AW.sR (h := ?_))
    | apply AW.skip
    | apply AW.block
    | apply AW.out
    | (apply AW.kE; refine AW.sE (h := ?_))
    | apply AW.label
    | ((first | (apply AW.kC; refine AW.sC (h1 := fun h => ?_) (h2 := fun h => ?_))) <;> (try (first | exact Bool.noConfusion h | exact absurd h (by decide) | (simp at h; done) | (rw [h]; try simp only [nrm] at h; try rw [h]; try (exfalso; omega)) | skip))))
    all_goals try (exfalso; omega)
    rw [hc] at hD
    exact AW.ret (hD rfl (.tup (.cons (.agg (.cons .refl (.cons Lx.nil (.cons Lx.nil (.cons Lx.nil (.cons Lx.nil .nil)))))) (.cons .refl .nil))))
end Go.Proofs.Ytocppeifkjdeiaa.Mv

/- Graphs: the document's Right. Under no condition. -/
namespace Go.Proofs.Ytocppeifkjdeiaa.Mv
open Go Go.Proofs
set_option linter.unusedSimpArgs false
set_option linter.unusedVariables false
set_option maxRecDepth 10000
set_option maxHeartbeats 4000000
attribute [local irreducible] AW AO AR

/-- Is there a node so deep? -/
def lead9 (l : List Im) (b : B32) (d : W16) : Bool := match fnd l b with
  | some n => decide (d.toNat < 65535) && decide (deepN n = d.toNat)
  | none => false
theorem fnd_at {l : List Im} {b : B32} {n : Nd} (h : fnd l b = some n) : ∃ i, i < l.length ∧ (l.getD i default).blk = b ∧ (l.getD i default).nd = n := by
  induction l with
  | nil => cases h
  | cons x l ih =>
    unfold fnd at h
    split at h
    · rename_i hb
      cases h
      exact ⟨0, by simp, hb, rfl⟩
    · obtain ⟨i, h1, h2, h3⟩ := ih h
      exact ⟨i + 1, by simpa using h1, by simpa using h2, by simpa using h3⟩
/-- Items that a machine could hold. -/
structure Ims (l : List Im) : Prop where
  len : l.length ≤ 1000000
  small : ∀ i, i < l.length → (l.getD i default).nd.small
theorem Ims.fnd {l : List Im} (h : Ims l) {b : B32} {n : Nd} (hf : Mv.fnd l b = some n) : n.small := by
  obtain ⟨i, h1, _, h3⟩ := fnd_at hf
  rw [← h3]; exact h.small i h1
theorem gLeads' (l : List Im) (hl : Ims l) (b : B32) (d : W16) : Good Try.prog 116 [.sh 6 (l.map Im.av), .i .u32 b.toNat, .i .u16 d.toNat] [] (.b (lead9 l b d)) [] := by
  have gF := gFind' l b hl.len
  unfold lead9
  cases hn : fnd l b with
  | none =>
    rw [hn] at gF
    refine Good.w tabOk mixed Try.func116 (N := 26) (by kernel_rfl) rfl (by (repeat (first | exact LE.nil | apply LE.cons)); done) (by (repeat (first | exact LE.nil | apply LE.cons)); done) fun D hD F => ?_
    repeat' (first
    | apply AO.nil
    | (apply AO.kCall 84; refine AO.sCall (hg := gF) (h := ?_))
    | (apply AO.kAlloc; refine AO.sAlloc (h := ?_))
    | (apply AO.kStore; first | refine AO.sStore (h := ?_) | refine AO.sStB (h := ?_))
    | (apply AO.kP; first | refine AO.sP (h := ?_) | refine AO.sPi (h := ?_) | refine AO.sLoadB (h := ?_))
    | apply AW.seq
    | (apply AW.kR; refine AW.sR (h := ?_))
    | apply AW.skip
    | apply AW.block
    | apply AW.out
    | (apply AW.kE; refine AW.sE (h := ?_))
    | apply AW.label
    | ((first | (apply AO.kG; first | refine AO.sgt (h1 := fun h => ?_) (h2 := fun h => ?_) | refine AO.sgf (h1 := fun h => ?_) (h2 := fun h => ?_) | refine AO.sgs (h := ?_))) <;> (try (first | exact Bool.noConfusion h | exact absurd h (by decide) | (simp at h; done) | (rw [h]; try simp only [nrm] at h; try rw [h]; try (exfalso; omega)) | skip))))
    all_goals first
      | exact AW.ret (hD rfl .refl)
      | (exfalso; simp at h; done)
      | trace_state
  | some n =>
    rw [hn] at gF
    have gD := gDeep' n (hl.fnd hn)
    have gF : Good Try.prog 84 [.sh 6 (l.map Im.av), .i .u32 b.toNat] [] (.tup [.agg n.av, .b true]) [] := gF
    refine Good.w tabOk mixed Try.func116 (N := 26) (by kernel_rfl) rfl (by (repeat (first | exact LE.nil | apply LE.cons)); done) (by (repeat (first | exact LE.nil | apply LE.cons)); done) fun D hD F => ?_
    repeat' (first
    | apply AO.nil
    | (apply AO.kCall 84; refine AO.sCall (hg := gF) (h := ?_))
    | (apply AO.kCall 88; refine AO.sCall (hg := gD) (h := ?_))
    | (apply AO.kAlloc; refine AO.sAlloc (h := ?_))
    | (apply AO.kStore; first | refine AO.sStore (h := ?_) | refine AO.sStB (h := ?_))
    | (apply AO.kP; first | refine AO.sP (h := ?_) | refine AO.sPi (h := ?_) | refine AO.sLoadB (h := ?_))
    | apply AW.seq
    | (apply AW.kR; refine AW.sR (h := ?_))
    | apply AW.skip
    | apply AW.block
    | apply AW.out
    | (apply AW.kE; refine AW.sE (h := ?_))
    | apply AW.label
    | ((first | (apply AO.kG; first | refine AO.sgt (h1 := fun h => ?_) (h2 := fun h => ?_) | refine AO.sgf (h1 := fun h => ?_) (h2 := fun h => ?_) | refine AO.sgs (h := ?_))) <;> (try (first | (simp at h; done) | (rw [h]; try simp only [nrm] at h; try rw [h]; try (exfalso; omega)) | skip))))
    · refine AW.ret (hD rfl (Lx.b ?_))
      have h' : (d.toNat : Int) < 65535 := ‹_›
      dsimp only
      rw [show decide (d.toNat < 65535) = true from decide_eq_true (by omega), Bool.true_and]
      rw [Bool.eq_iff_iff]; simp only [beq_iff_eq, decide_eq_true_eq]; omega
    · refine AW.ret (hD rfl (Lx.b ?_))
      have h' : (65535 : Int) ≤ d.toNat := ‹_›
      dsimp only
      rw [show decide (d.toNat < 65535) = false from decide_eq_false (by omega), Bool.false_and]
/-- May an item stand there? -/
def okL (lead : B32 → W16 → Bool) (l : List Im) (i : Nat) : Bool :=
  (decide (i = 0) || decide ((l.getD (i - 1) default).blk.toNat < (l.getD i default).blk.toNat)) && (decide (mayN (l.getD i default).nd = 0) && ((l.getD i default).nd.kids.all (fun e => lead e.block e.deep) && (l.getD i default).nd.buf.all fun m => m.kind != 3 || lead m.block m.deep))
def rightL (lead : B32 → W16 → Bool) (l : List Im) : Bool := (List.range l.length).all (okL lead l)
theorem right_step {lead l q} (h : (List.range q).all (okL lead l) = true) (h2 : okL lead l q = true) : (List.range (q + 1)).all (okL lead l) = true := by
  rw [List.range_succ, List.all_append, h]; simp [h2]
theorem right_fail {lead l q} (hq : q < l.length) (h2 : okL lead l q = false) : rightL lead l = false := by
  rw [rightL, List.all_eq_false]
  exact ⟨q, List.mem_range.2 hq, by rw [h2]; decide⟩
theorem gRight' (l : List Im) (hl : Ims l) : Good Try.prog 85 [.sh 6 (l.map Im.av)] [] (.b (rightL (lead9 l) l)) [] := by
  have ll : (l.map Im.av).length = l.length := by simp
  have hl1 := hl.len
  have gL := gLeads' l hl
  refine Good.w tabOk mixed Try.func85 (N := 92) (by kernel_rfl) rfl (by (repeat (first | exact LE.nil | apply LE.cons)); done) (by (repeat (first | exact LE.nil | apply LE.cons)); done) fun D hD F => ?_
  repeat' (first
    | apply AO.nil
    | (apply AO.kIx; first | refine AO.sIxN (h := ?_) | refine AO.sIx (h := ?_) | refine AO.sP (h := ?_) | refine AO.sPi (h := ?_))
    | (apply AO.kAlloc; refine AO.sAlloc (h := ?_))
    | (apply AO.kStore; first | refine AO.sStore (h := ?_) | refine AO.sStB (h := ?_))
    | (apply AO.kAdd; refine AO.sAdd (h := ?_))
    | (apply AO.kSub; refine AO.sSub (h := ?_))
    | (apply AO.kP; first | refine AO.sP (h := ?_) | refine AO.sPi (h := ?_) | refine AO.sLoadB (h := ?_))
    | apply AW.seq
    | (apply AW.kR; refine AW.sR (h := ?_))
    | apply AW.skip
    | apply AW.block
    | apply AW.out
    | (apply AW.kE; refine AW.sE (h := ?_))
    | apply AW.label
    | (apply AW.kRd; refine AW.sRd (h := ?_))
    | ((first | (apply AO.kG; first | refine AO.sgt (h1 := fun h => ?_) (h2 := fun h => ?_) | refine AO.sgf (h1 := fun h => ?_) (h2 := fun h => ?_) | refine AO.sgs (h := ?_)) | (apply AW.kC; refine AW.sC (h1 := fun h => ?_) (h2 := fun h => ?_)) | (apply AR.kAny; apply AR.kG; first | refine AR.sgt (h1 := fun h => ?_) (h2 := fun h => ?_) | refine AR.sgf (h1 := fun h => ?_) (h2 := fun h => ?_) | refine AR.sgs (h := ?_))) <;> (try (first | exact Bool.noConfusion h | exact absurd h (by decide) | (simp at h; done) | (rw [h]; try simp only [nrm] at h; try rw [h]; try (exfalso; omega)) | skip)))
    | (apply AR.kAny; first | (apply AR.kIx; first | refine AR.sIxN (h := ?_) | refine AR.sIx (h := ?_) | refine AR.sP (h := ?_) | refine AR.sPi (h := ?_)) | (apply AR.kAlloc; refine AR.sAlloc (h := ?_)) | (apply AR.kStore; refine AR.sStore (h := ?_)) | (apply AR.kAdd; refine AR.sAdd (h := ?_)) | (apply AR.kSub; refine AR.sSub (h := ?_)) | (apply AR.kP; first | refine AR.sP (h := ?_) | refine AR.sPi (h := ?_)))
    | (apply AR.kNil; refine AR.sNil (h := ?_)))
  refine AW.loopI (fun q : Nat => q ≤ l.length ∧ (List.range q).all (okL (lead9 l) l) = true) (fun q => ⟨[(0, .sh 6 (l.map Im.av)), (8, .i .i64 l.length), (9, .i .i64 q)], []⟩) (fun q => l.length - q) 0 (by simp) (by (constructor <;> (repeat' (first | exact LeT.nil | exact LeB.nil | apply LeT.cons | apply LeB.cons | exact Ol.refl | apply Lx.s | apply Lx.b | apply Lx.i | exact Lx.refl)) <;> (first | rfl | assumption | omega | (simp only [List.length_map, BS_len]; done) | skip))) fun m q ⟨hq, hc⟩ ih => ?_
  by_cases hq2 : q < l.length
  · have gM := gMay' _ (hl.small q hq2)
    have hs := hl.small q hq2
    have hok : okL (lead9 l) l q = ((decide (q = 0) || decide ((l.getD (q - 1) default).blk.toNat < (l.getD q default).blk.toNat)) && (decide (mayN (l.getD q default).nd = 0) && ((l.getD q default).nd.kids.all (fun e => lead9 l e.block e.deep) && (l.getD q default).nd.buf.all fun m => m.kind != 3 || lead9 l m.block m.deep))) := rfl
    repeat' (first
    | apply AO.nil
    | (apply AO.kCall 22; refine AO.sCall (hg := gM) (h := ?_))
    | (apply AO.kIx; first | refine AO.sIxN (h := ?_) | refine AO.sIx (h := ?_) | refine AO.sP (h := ?_) | refine AO.sPi (h := ?_))
    | (apply AO.kAlloc; refine AO.sAlloc (h := ?_))
    | (apply AO.kStore; first | refine AO.sStore (h := ?_) | refine AO.sStB (h := ?_))
    | (apply AO.kAdd; refine AO.sAdd (h := ?_))
    | (apply AO.kSub; refine AO.sSub (h := ?_))
    | (apply AO.kP; first | refine AO.sP (h := ?_) | refine AO.sPi (h := ?_) | refine AO.sLoadB (h := ?_))
    | apply AW.seq
    | (apply AW.kR; refine AW.sR (h := ?_))
    | apply AW.skip
    | apply AW.block
    | apply AW.out
    | (apply AW.kE; refine AW.sE (h := ?_))
    | apply AW.label
    | (apply AW.kRd; refine AW.sRd (h := ?_))
    | ((first | (apply AO.kG; first | refine AO.sgt (h1 := fun h => ?_) (h2 := fun h => ?_) | refine AO.sgf (h1 := fun h => ?_) (h2 := fun h => ?_) | refine AO.sgs (h := ?_)) | (apply AW.kC; refine AW.sC (h1 := fun h => ?_) (h2 := fun h => ?_)) | (apply AR.kAny; apply AR.kG; first | refine AR.sgt (h1 := fun h => ?_) (h2 := fun h => ?_) | refine AR.sgf (h1 := fun h => ?_) (h2 := fun h => ?_) | refine AR.sgs (h := ?_))) <;> (try (first | exact Bool.noConfusion h | exact absurd h (by decide) | (simp at h; done) | (rw [h]; try simp only [nrm] at h; try rw [h]; try (exfalso; omega)) | skip)))
    | (apply AR.kAny; first | (apply AR.kCall 22; refine AR.sCall (hg := gM) (h := ?_)) | (apply AR.kIx; first | refine AR.sIxN (h := ?_) | refine AR.sIx (h := ?_) | refine AR.sP (h := ?_) | refine AR.sPi (h := ?_)) | (apply AR.kAlloc; refine AR.sAlloc (h := ?_)) | (apply AR.kStore; refine AR.sStore (h := ?_)) | (apply AR.kAdd; refine AR.sAdd (h := ?_)) | (apply AR.kSub; refine AR.sSub (h := ?_)) | (apply AR.kP; first | refine AR.sP (h := ?_) | refine AR.sPi (h := ?_)))
    | (apply AR.kNil; refine AR.sNil (h := ?_)))
    all_goals try (exfalso; omega)
    all_goals try simp only [show ((q : Int) - 1).toNat = q - 1 by omega] at *
    all_goals first
      | (exact AW.ret (hD rfl (Lx.b (by
          rw [right_fail hq2]
          rw [hok]
          have h' : ((mayN (l.getD q default).nd : Int) != 0) = true := ‹_›
          have m0 : mayN (l.getD q default).nd ≠ 0 := by simpa using h'
          rw [decide_eq_false m0]; simp))))
      | (exact AW.ret (hD rfl (Lx.b (by
          rw [right_fail hq2]
          rw [hok]
          rw [decide_eq_false (show ¬ q = 0 by omega), decide_eq_false (show ¬ (l.getD (q - 1) default).blk.toNat < (l.getD q default).blk.toNat by omega)]; simp))))
      | skip
    all_goals
      have hord : (decide (q = 0) || decide ((l.getD (q - 1) default).blk.toNat < (l.getD q default).blk.toNat)) = true := by
        rw [Bool.or_eq_true, decide_eq_true_eq, decide_eq_true_eq]; omega
      have h' : ((mayN (l.getD q default).nd : Int) != 0) = false := ‹_›
      have m0 : mayN (l.getD q default).nd = 0 := by simpa using h'
      have b1 := hs.kids
      have b2 := hs.buf
      have l1 : ((l.getD q default).nd.kids.map Ed.av).length = (l.getD q default).nd.kids.length := by simp
      have l2 : ((l.getD q default).nd.buf.map Ms.av).length = (l.getD q default).nd.buf.length := by simp
      refine AW.loopI (fun r : Nat => r ≤ (l.getD q default).nd.kids.length ∧ ((l.getD q default).nd.kids.take r).all (fun e => lead9 l e.block e.deep) = true) (fun r => ⟨[(0, .sh 6 (l.map Im.av)), (3, .i .i64 q), (4, .ptr 4 0), (8, .i .i64 l.length), (9, .i .i64 q), (40, .i .i64 (l.getD q default).nd.kids.length), (41, .i .i64 r)], [(4, .bx (l.getD q default).nd.av)]⟩) (fun r => (l.getD q default).nd.kids.length - r) 0 (by simp) (by (constructor <;> (repeat' (first | exact LeT.nil | exact LeB.nil | apply LeT.cons | apply LeB.cons | exact Ol.refl | apply Lx.s | apply Lx.b | apply Lx.i | exact Lx.refl)) <;> (first | rfl | assumption | omega | (simp only [List.length_map, BS_len]; done) | skip))) fun m2 r ⟨hr, hcr⟩ ih2 => ?_
      by_cases hr2 : r < (l.getD q default).nd.kids.length
      · repeat' (first
    | apply AO.nil
    | (apply AO.kCall 116; refine AO.sCall (hg := (gL _ _)) (h := ?_))
    | (apply AO.kIx; first | refine AO.sIxN (h := ?_) | refine AO.sIx (h := ?_) | refine AO.sP (h := ?_) | refine AO.sPi (h := ?_))
    | (apply AO.kAlloc; refine AO.sAlloc (h := ?_))
    | (apply AO.kStore; first | refine AO.sStore (h := ?_) | refine AO.sStB (h := ?_))
    | (apply AO.kAdd; refine AO.sAdd (h := ?_))
    | (apply AO.kSub; refine AO.sSub (h := ?_))
    | (apply AO.kP; first | refine AO.sP (h := ?_) | refine AO.sPi (h := ?_) | refine AO.sLoadB (h := ?_))
    | apply AW.seq
    | (apply AW.kR; refine AW.sR (h := ?_))
    | apply AW.skip
    | apply AW.block
    | apply AW.out
    | (apply AW.kE; refine AW.sE (h := ?_))
    | apply AW.label
    | (apply AW.kRd; refine AW.sRd (h := ?_))
    | ((first | (apply AO.kG; first | refine AO.sgt (h1 := fun h => ?_) (h2 := fun h => ?_) | refine AO.sgf (h1 := fun h => ?_) (h2 := fun h => ?_) | refine AO.sgs (h := ?_)) | (apply AW.kC; refine AW.sC (h1 := fun h => ?_) (h2 := fun h => ?_)) | (apply AR.kAny; apply AR.kG; first | refine AR.sgt (h1 := fun h => ?_) (h2 := fun h => ?_) | refine AR.sgf (h1 := fun h => ?_) (h2 := fun h => ?_) | refine AR.sgs (h := ?_))) <;> (try (first | exact Bool.noConfusion h | exact absurd h (by decide) | (simp at h; done) | (rw [h]; try simp only [nrm] at h; try rw [h]; try (exfalso; omega)) | skip)))
    | (apply AR.kAny; first | (apply AR.kCall 116; refine AR.sCall (hg := (gL _ _)) (h := ?_)) | (apply AR.kIx; first | refine AR.sIxN (h := ?_) | refine AR.sIx (h := ?_) | refine AR.sP (h := ?_) | refine AR.sPi (h := ?_)) | (apply AR.kAlloc; refine AR.sAlloc (h := ?_)) | (apply AR.kStore; refine AR.sStore (h := ?_)) | (apply AR.kAdd; refine AR.sAdd (h := ?_)) | (apply AR.kSub; refine AR.sSub (h := ?_)) | (apply AR.kP; first | refine AR.sP (h := ?_) | refine AR.sPi (h := ?_)))
    | (apply AR.kNil; refine AR.sNil (h := ?_)))
        all_goals try (exfalso; omega)
        · have hb : lead9 l ((l.getD q default).nd.kids.getD r default).block ((l.getD q default).nd.kids.getD r default).deep = false := by assumption
          exact AW.ret (hD rfl (Lx.b (by
            rw [right_fail hq2]
            rw [hok, all_fail (p := fun e : Ed => lead9 l e.block e.deep) hr2 hb]; simp)))
        · have hb : lead9 l ((l.getD q default).nd.kids.getD r default).block ((l.getD q default).nd.kids.getD r default).deep = true := by assumption
          exact ih2 (r + 1) _ ⟨by omega, all_step (p := fun e : Ed => lead9 l e.block e.deep) hr2 hcr hb⟩ (by omega) (by (constructor <;> (repeat' (first | exact LeT.nil | exact LeB.nil | apply LeT.cons | apply LeB.cons | exact Ol.refl | apply Lx.s | apply Lx.b | apply Lx.i | exact Lx.refl)) <;> (first | rfl | assumption | omega | (simp only [List.length_map, BS_len]; done) | skip)))
      · have hk := all_done (p := fun e : Ed => lead9 l e.block e.deep) (by omega : (l.getD q default).nd.kids.length ≤ r) hcr
        repeat' (first
    | apply AO.nil
    | (apply AO.kIx; first | refine AO.sIxN (h := ?_) | refine AO.sIx (h := ?_) | refine AO.sP (h := ?_) | refine AO.sPi (h := ?_))
    | (apply AO.kAlloc; refine AO.sAlloc (h := ?_))
    | (apply AO.kStore; first | refine AO.sStore (h := ?_) | refine AO.sStB (h := ?_))
    | (apply AO.kAdd; refine AO.sAdd (h := ?_))
    | (apply AO.kSub; refine AO.sSub (h := ?_))
    | (apply AO.kP; first | refine AO.sP (h := ?_) | refine AO.sPi (h := ?_) | refine AO.sLoadB (h := ?_))
    | apply AW.seq
    | (apply AW.kR; refine AW.sR (h := ?_))
    | apply AW.skip
    | apply AW.block
    | apply AW.out
    | (apply AW.kE; refine AW.sE (h := ?_))
    | apply AW.label
    | (apply AW.kRd; refine AW.sRd (h := ?_))
    | ((first | (apply AO.kG; first | refine AO.sgt (h1 := fun h => ?_) (h2 := fun h => ?_) | refine AO.sgf (h1 := fun h => ?_) (h2 := fun h => ?_) | refine AO.sgs (h := ?_)) | (apply AW.kC; refine AW.sC (h1 := fun h => ?_) (h2 := fun h => ?_)) | (apply AR.kAny; apply AR.kG; first | refine AR.sgt (h1 := fun h => ?_) (h2 := fun h => ?_) | refine AR.sgf (h1 := fun h => ?_) (h2 := fun h => ?_) | refine AR.sgs (h := ?_))) <;> (try (first | exact Bool.noConfusion h | exact absurd h (by decide) | (simp at h; done) | (rw [h]; try simp only [nrm] at h; try rw [h]; try (exfalso; omega)) | skip)))
    | (apply AR.kAny; first | (apply AR.kIx; first | refine AR.sIxN (h := ?_) | refine AR.sIx (h := ?_) | refine AR.sP (h := ?_) | refine AR.sPi (h := ?_)) | (apply AR.kAlloc; refine AR.sAlloc (h := ?_)) | (apply AR.kStore; refine AR.sStore (h := ?_)) | (apply AR.kAdd; refine AR.sAdd (h := ?_)) | (apply AR.kSub; refine AR.sSub (h := ?_)) | (apply AR.kP; first | refine AR.sP (h := ?_) | refine AR.sPi (h := ?_)))
    | (apply AR.kNil; refine AR.sNil (h := ?_)))
        all_goals try (exfalso; omega)
        refine AW.loopI (fun r : Nat => r ≤ (l.getD q default).nd.buf.length ∧ ((l.getD q default).nd.buf.take r).all (fun m => m.kind != 3 || lead9 l m.block m.deep) = true) (fun r => ⟨[(0, .sh 6 (l.map Im.av)), (3, .i .i64 q), (4, .ptr 4 0), (8, .i .i64 l.length), (9, .i .i64 q), (62, .i .i64 (l.getD q default).nd.buf.length), (63, .i .i64 r)], [(4, .bx (l.getD q default).nd.av)]⟩) (fun r => (l.getD q default).nd.buf.length - r) 0 (by simp) (by (constructor <;> (repeat' (first | exact LeT.nil | exact LeB.nil | apply LeT.cons | apply LeB.cons | exact Ol.refl | apply Lx.s | apply Lx.b | apply Lx.i | exact Lx.refl)) <;> (first | rfl | assumption | omega | (simp only [List.length_map, BS_len]; done) | skip))) fun m3 r ⟨hr, hcr⟩ ih3 => ?_
        by_cases hr2 : r < (l.getD q default).nd.buf.length
        · repeat' (first
    | apply AO.nil
    | (apply AO.kCall 116; refine AO.sCall (hg := (gL _ _)) (h := ?_))
    | (apply AO.kIx; first | refine AO.sIxN (h := ?_) | refine AO.sIx (h := ?_) | refine AO.sP (h := ?_) | refine AO.sPi (h := ?_))
    | (apply AO.kAlloc; refine AO.sAlloc (h := ?_))
    | (apply AO.kStore; first | refine AO.sStore (h := ?_) | refine AO.sStB (h := ?_))
    | (apply AO.kAdd; refine AO.sAdd (h := ?_))
    | (apply AO.kSub; refine AO.sSub (h := ?_))
    | (apply AO.kP; first | refine AO.sP (h := ?_) | refine AO.sPi (h := ?_) | refine AO.sLoadB (h := ?_))
    | apply AW.seq
    | (apply AW.kR; refine AW.sR (h := ?_))
    | apply AW.skip
    | apply AW.block
    | apply AW.out
    | (apply AW.kE; refine AW.sE (h := ?_))
    | apply AW.label
    | (apply AW.kRd; refine AW.sRd (h := ?_))
    | ((first | (apply AO.kG; first | refine AO.sgt (h1 := fun h => ?_) (h2 := fun h => ?_) | refine AO.sgf (h1 := fun h => ?_) (h2 := fun h => ?_) | refine AO.sgs (h := ?_)) | (apply AW.kC; refine AW.sC (h1 := fun h => ?_) (h2 := fun h => ?_)) | (apply AR.kAny; apply AR.kG; first | refine AR.sgt (h1 := fun h => ?_) (h2 := fun h => ?_) | refine AR.sgf (h1 := fun h => ?_) (h2 := fun h => ?_) | refine AR.sgs (h := ?_))) <;> (try (first | exact Bool.noConfusion h | exact absurd h (by decide) | (simp at h; done) | (rw [h]; try simp only [nrm] at h; try rw [h]; try (exfalso; omega)) | skip)))
    | (apply AR.kAny; first | (apply AR.kCall 116; refine AR.sCall (hg := (gL _ _)) (h := ?_)) | (apply AR.kIx; first | refine AR.sIxN (h := ?_) | refine AR.sIx (h := ?_) | refine AR.sP (h := ?_) | refine AR.sPi (h := ?_)) | (apply AR.kAlloc; refine AR.sAlloc (h := ?_)) | (apply AR.kStore; refine AR.sStore (h := ?_)) | (apply AR.kAdd; refine AR.sAdd (h := ?_)) | (apply AR.kSub; refine AR.sSub (h := ?_)) | (apply AR.kP; first | refine AR.sP (h := ?_) | refine AR.sPi (h := ?_)))
    | (apply AR.kNil; refine AR.sNil (h := ?_)))
          all_goals try (exfalso; omega)
          all_goals first
            | (have h3 : (((l.getD q default).nd.buf.getD r default).kind.toNat : Int) = 3 := ‹_›
               rw [k3] at h3
               have hb : lead9 l ((l.getD q default).nd.buf.getD r default).block ((l.getD q default).nd.buf.getD r default).deep = false := by assumption
               exact AW.ret (hD rfl (Lx.b (by
                 rw [right_fail hq2]
                 rw [hok, all_fail (p := fun m : Ms => m.kind != 3 || lead9 l m.block m.deep) hr2 (by show (((l.getD q default).nd.buf.getD r default).kind != 3 || lead9 l ((l.getD q default).nd.buf.getD r default).block ((l.getD q default).nd.buf.getD r default).deep) = false; rw [h3, hb]; rfl)]; simp))))
            | (have hb : lead9 l ((l.getD q default).nd.buf.getD r default).block ((l.getD q default).nd.buf.getD r default).deep = true := by assumption
               exact ih3 (r + 1) _ ⟨by omega, all_step (p := fun m : Ms => m.kind != 3 || lead9 l m.block m.deep) hr2 hcr (by show (_ || lead9 l ((l.getD q default).nd.buf.getD r default).block ((l.getD q default).nd.buf.getD r default).deep) = true; rw [hb, Bool.or_true])⟩ (by omega) (by (constructor <;> (repeat' (first | exact LeT.nil | exact LeB.nil | apply LeT.cons | apply LeB.cons | exact Ol.refl | apply Lx.s | apply Lx.b | apply Lx.i | exact Lx.refl)) <;> (first | rfl | assumption | omega | (simp only [List.length_map, BS_len]; done) | skip))))
            | (have h3 : ¬ (((l.getD q default).nd.buf.getD r default).kind.toNat : Int) = 3 := ‹_›
               rw [k3] at h3
               exact ih3 (r + 1) _ ⟨by omega, all_step (p := fun m : Ms => m.kind != 3 || lead9 l m.block m.deep) hr2 hcr (by show (((l.getD q default).nd.buf.getD r default).kind != 3 || _) = true; rw [show (((l.getD q default).nd.buf.getD r default).kind != 3) = true from bne_iff_ne.2 h3]; rfl)⟩ (by omega) (by (constructor <;> (repeat' (first | exact LeT.nil | exact LeB.nil | apply LeT.cons | apply LeB.cons | exact Ol.refl | apply Lx.s | apply Lx.b | apply Lx.i | exact Lx.refl)) <;> (first | rfl | assumption | omega | (simp only [List.length_map, BS_len]; done) | skip))))
            | trace_state
        · have hb := all_done (p := fun m : Ms => m.kind != 3 || lead9 l m.block m.deep) (by omega : (l.getD q default).nd.buf.length ≤ r) hcr
          repeat' (first
    | apply AO.nil
    | (apply AO.kIx; first | refine AO.sIxN (h := ?_) | refine AO.sIx (h := ?_) | refine AO.sP (h := ?_) | refine AO.sPi (h := ?_))
    | (apply AO.kAlloc; refine AO.sAlloc (h := ?_))
    | (apply AO.kStore; first | refine AO.sStore (h := ?_) | refine AO.sStB (h := ?_))
    | (apply AO.kAdd; refine AO.sAdd (h := ?_))
    | (apply AO.kSub; refine AO.sSub (h := ?_))
    | (apply AO.kP; first | refine AO.sP (h := ?_) | refine AO.sPi (h := ?_) | refine AO.sLoadB (h := ?_))
    | apply AW.seq
    | (apply AW.kR; refine AW.sR (h := ?_))
    | apply AW.skip
    | apply AW.block
    | apply AW.out
    | (apply AW.kE; refine AW.sE (h := ?_))
    | apply AW.label
    | (apply AW.kRd; refine AW.sRd (h := ?_))
    | ((first | (apply AO.kG; first | refine AO.sgt (h1 := fun h => ?_) (h2 := fun h => ?_) | refine AO.sgf (h1 := fun h => ?_) (h2 := fun h => ?_) | refine AO.sgs (h := ?_)) | (apply AW.kC; refine AW.sC (h1 := fun h => ?_) (h2 := fun h => ?_)) | (apply AR.kAny; apply AR.kG; first | refine AR.sgt (h1 := fun h => ?_) (h2 := fun h => ?_) | refine AR.sgf (h1 := fun h => ?_) (h2 := fun h => ?_) | refine AR.sgs (h := ?_))) <;> (try (first | exact Bool.noConfusion h | exact absurd h (by decide) | (simp at h; done) | (rw [h]; try simp only [nrm] at h; try rw [h]; try (exfalso; omega)) | skip)))
    | (apply AR.kAny; first | (apply AR.kIx; first | refine AR.sIxN (h := ?_) | refine AR.sIx (h := ?_) | refine AR.sP (h := ?_) | refine AR.sPi (h := ?_)) | (apply AR.kAlloc; refine AR.sAlloc (h := ?_)) | (apply AR.kStore; refine AR.sStore (h := ?_)) | (apply AR.kAdd; refine AR.sAdd (h := ?_)) | (apply AR.kSub; refine AR.sSub (h := ?_)) | (apply AR.kP; first | refine AR.sP (h := ?_) | refine AR.sPi (h := ?_)))
    | (apply AR.kNil; refine AR.sNil (h := ?_)))
          all_goals try (exfalso; omega)
          exact ih (q + 1) _ ⟨by omega, right_step hc (by rw [hok, hord, hk, hb, decide_eq_true m0]; rfl)⟩ (by omega) (by (constructor <;> (repeat' (first | exact LeT.nil | exact LeB.nil | apply LeT.cons | apply LeB.cons | exact Ol.refl | apply Lx.s | apply Lx.b | apply Lx.i | exact Lx.refl)) <;> (first | rfl | assumption | omega | (simp only [List.length_map, BS_len]; done) | skip)))
  · repeat' (first
    | apply AO.nil
    | (apply AO.kIx; first | refine AO.sIxN (h := ?_) | refine AO.sIx (h := ?_) | refine AO.sP (h := ?_) | refine AO.sPi (h := ?_))
    | (apply AO.kAlloc; refine AO.sAlloc (h := ?_))
    | (apply AO.kStore; first | refine AO.sStore (h := ?_) | refine AO.sStB (h := ?_))
    | (apply AO.kAdd; refine AO.sAdd (h := ?_))
    | (apply AO.kSub; refine AO.sSub (h := ?_))
    | (apply AO.kP; first | refine AO.sP (h := ?_) | refine AO.sPi (h := ?_) | refine AO.sLoadB (h := ?_))
    | apply AW.seq
    | (apply AW.kR; refine AW.sR (h := ?_))
    | apply AW.skip
    | apply AW.block
    | apply AW.out
    | (apply AW.kE; refine AW.sE (h := ?_))
    | apply AW.label
    | (apply AW.kRd; refine AW.sRd (h := ?_))
    | ((first | (apply AO.kG; first | refine AO.sgt (h1 := fun h => ?_) (h2 := fun h => ?_) | refine AO.sgf (h1 := fun h => ?_) (h2 := fun h => ?_) | refine AO.sgs (h := ?_)) | (apply AW.kC; refine AW.sC (h1 := fun h => ?_) (h2 := fun h => ?_)) | (apply AR.kAny; apply AR.kG; first | refine AR.sgt (h1 := fun h => ?_) (h2 := fun h => ?_) | refine AR.sgf (h1 := fun h => ?_) (h2 := fun h => ?_) | refine AR.sgs (h := ?_))) <;> (try (first | exact Bool.noConfusion h | exact absurd h (by decide) | (simp at h; done) | (rw [h]; try simp only [nrm] at h; try rw [h]; try (exfalso; omega)) | skip)))
    | (apply AR.kAny; first | (apply AR.kIx; first | refine AR.sIxN (h := ?_) | refine AR.sIx (h := ?_) | refine AR.sP (h := ?_) | refine AR.sPi (h := ?_)) | (apply AR.kAlloc; refine AR.sAlloc (h := ?_)) | (apply AR.kStore; refine AR.sStore (h := ?_)) | (apply AR.kAdd; refine AR.sAdd (h := ?_)) | (apply AR.kSub; refine AR.sSub (h := ?_)) | (apply AR.kP; first | refine AR.sP (h := ?_) | refine AR.sPi (h := ?_)))
    | (apply AR.kNil; refine AR.sNil (h := ?_)))
    all_goals try (exfalso; omega)
    (refine AW.ret (hD rfl ?_); (repeat' (first | apply Lx.s | apply Lx.b | apply Lx.i | apply LxL.cons | exact LxL.nil | apply Lx.tup | apply Lx.agg | apply Lx.refl)) <;> (try with_reducible rfl))
    obtain rfl : q = l.length := by omega
    exact hc.symm
end Go.Proofs.Ytocppeifkjdeiaa.Mv

/- Graphs: the program's Right. Under no condition. -/
namespace Go.Proofs.Ytocppeifkjdeiaa.Mv
open Go Go.Proofs
set_option linter.unusedSimpArgs false
set_option linter.unusedVariables false
set_option maxRecDepth 10000
set_option maxHeartbeats 4000000
attribute [local irreducible] AW AO AR

/-- A walk in a function that answers a new map. -/
theorem Good.w4 {P : Program} {tab : Tab} (ht : TabOk P tab) (mo : P.follows .mixedOrders = true) {f : FuncId} {fn : Func} {code : Code} {rs : List ResultVar} {N : Nat} {args : List AV} {t : Nat} {res : AV} {kk vk : IntKind} {ents : List (Int × Int)} {T : List (Nat × AV)}
    (hf : P.funcs[f]? = some fn) (hfn : fnB fn N args.length = true) (hb : fn.body = some code) (hrs : LE fn.results.toList rs) (hT : LE (entT 0 args) T)
    (h : ∀ D : St → Prop, (∀ {st cs0} (t' : Nat), resAll tab st rs = some cs0 → Lx Tr (resTup cs0) (res.ren fun _ => t') → Ol Tr (st.ob t') (.mp kk vk ents) → D st) → ∀ F : Fx P tab N D, AW F [.c code] ⟨T, []⟩) : Good P f args [] res [(t, .mp kk vk ents)] :=
  Good.walk ht mo hf hfn hb hrs.eq (fun p hp => by simp at hp) (by
    rw [hT.eq]
    exact h _ fun {st cs0} t' h1 h2 h3 => ⟨fun _ => t', cs0, h1, h2, fun p hp => by
      simp at hp; subst hp; exact h3, fun s hs t ht _ => by simp at hs ht; rw [hs, ht], fun p hp => by simp at hp⟩)
def dmap (l : List Im) : List (Int × Int) := l.foldl (fun M x => mput M x.blk.toNat (deepN x.nd)) []
theorem dmap_more {l : List Im} {q : Nat} (h : q < l.length) : dmap (l.take (q + 1)) = mput (dmap (l.take q)) (l.getD q default).blk.toNat (deepN (l.getD q default).nd) := by
  unfold dmap; rw [takeD h, List.foldl_append]; rfl
theorem gDepths (l : List Im) (hl : Ims l) (t : Nat) : Good Try.prog 108 [.sh 6 (l.map Im.av)] [] (.mpv t) [(t, .mp .u32 .u16 (dmap l))] := by
  have ll : (l.map Im.av).length = l.length := by simp
  have hl1 := hl.len
  refine Good.w4 tabOk mixed Try.func108 (N := 21) (by kernel_rfl) rfl (by (repeat (first | exact LE.nil | apply LE.cons)); done) (by (repeat (first | exact LE.nil | apply LE.cons)); done) fun D hD F => ?_
  repeat' (first
    | apply AO.nil
    | (apply AO.kBuildS; first | refine AO.sBuildT (h := ?_) | refine AO.sBuildS (h := ?_))
    | (apply AO.kApp; first | refine AO.sGrowT (h := ?_) | refine AO.sNewT (h := ?_) | refine AO.sGrowBT (h := ?_) | refine AO.sGrow (h := ?_) | refine AO.sNewr (h := ?_))
    | (apply AO.kIx; first | refine AO.sIxN (h := ?_) | refine AO.sIx (h := ?_) | refine AO.sP (h := ?_) | refine AO.sPi (h := ?_))
    | (apply AO.kSl; first | refine AO.sSl (h := ?_) | refine AO.sSlArr (h := ?_) | refine AO.sP (h := ?_))
    | (apply AO.kBox; refine AO.sBox (h := ?_))
    | (apply AO.kAlloc; refine AO.sAlloc (h := ?_))
    | (apply AO.kStore; first | refine AO.sStore (h := ?_) | refine AO.sStB (h := ?_))
    | (apply AO.kAdd; refine AO.sAdd (h := ?_))
    | (apply AO.kSub; refine AO.sSub (h := ?_))
    | (apply AO.kCv; first | refine AO.sBytes (h := ?_) | refine AO.sStr (h := ?_) | refine AO.sStrR (h := ?_))
    | (apply AO.kP; first | refine AO.sP (h := ?_) | refine AO.sPi (h := ?_) | refine AO.sLoadB (h := ?_) | refine AO.sSameB (h := ?_) | refine AO.sMk0 (h := ?_) | refine AO.sArrB (h := ?_) | refine AO.sLoadA (h := ?_) | refine AO.sEqArr (heg := eqgArr) (h := ?_))
    | (apply AO.kP; refine AO.eqNil (h1 := fun h => ?_) (h2 := ?_))
    | apply AW.seq
    | (apply AW.kR; refine AW.sR (h := ?_))
    | apply AW.skip
    | apply AW.block
    | apply AW.out
    | (apply AW.kE; refine AW.sE (h := ?_))
    | apply AW.label
    | (apply AW.kRd; refine AW.sRd (h := ?_))
    | ((first | (apply AO.kG; first | refine AO.sgt (h1 := fun h => ?_) (h2 := fun h => ?_) | refine AO.sgf (h1 := fun h => ?_) (h2 := fun h => ?_) | refine AO.sgs (h := ?_)) | (apply AW.kC; refine AW.sC (h1 := fun h => ?_) (h2 := fun h => ?_)) | (apply AR.kAny; apply AR.kG; first | refine AR.sgt (h1 := fun h => ?_) (h2 := fun h => ?_) | refine AR.sgf (h1 := fun h => ?_) (h2 := fun h => ?_) | refine AR.sgs (h := ?_))) <;> (try (first | exact Bool.noConfusion h | exact absurd h (by decide) | (simp at h; done) | (rw [h]; try simp only [nrm] at h; try rw [h]; try (exfalso; omega)) | skip)))
    | (apply AR.kAny; first | (apply AR.kBuildS; first | refine AR.sBuildT (h := ?_) | refine AR.sBuildS (h := ?_)) | (apply AR.kApp; first | refine AR.sGrowT (h := ?_) | refine AR.sNewT (h := ?_) | refine AR.sGrowBT (h := ?_) | refine AR.sGrow (h := ?_) | refine AR.sNewr (h := ?_)) | (apply AR.kIx; first | refine AR.sIxN (h := ?_) | refine AR.sIx (h := ?_) | refine AR.sP (h := ?_) | refine AR.sPi (h := ?_)) | (apply AR.kSl; first | refine AR.sSl (h := ?_) | refine AR.sSlArr (h := ?_) | refine AR.sP (h := ?_)) | (apply AR.kBox; refine AR.sBox (h := ?_)) | (apply AR.kAlloc; refine AR.sAlloc (h := ?_)) | (apply AR.kStore; refine AR.sStore (h := ?_)) | (apply AR.kAdd; refine AR.sAdd (h := ?_)) | (apply AR.kSub; refine AR.sSub (h := ?_)) | (apply AR.kCv; refine AR.sStrR (h := ?_)) | (apply AR.kP; first | refine AR.sP (h := ?_) | refine AR.sPi (h := ?_) | refine AR.sArrB (h := ?_) | refine AR.sLoadA (h := ?_) | refine AR.sEqArr (heg := eqgArr) (h := ?_)))
    | (apply AR.kNil; refine AR.sNil (h := ?_)))
  refine AO.mkMap .u32 .u16 (hf := by exact rfl) (h := ?_)
  repeat' (first
    | apply AO.nil
    | (apply AO.kBuildS; first | refine AO.sBuildT (h := ?_) | refine AO.sBuildS (h := ?_))
    | (apply AO.kApp; first | refine AO.sGrowT (h := ?_) | refine AO.sNewT (h := ?_) | refine AO.sGrowBT (h := ?_) | refine AO.sGrow (h := ?_) | refine AO.sNewr (h := ?_))
    | (apply AO.kIx; first | refine AO.sIxN (h := ?_) | refine AO.sIx (h := ?_) | refine AO.sP (h := ?_) | refine AO.sPi (h := ?_))
    | (apply AO.kSl; first | refine AO.sSl (h := ?_) | refine AO.sSlArr (h := ?_) | refine AO.sP (h := ?_))
    | (apply AO.kBox; refine AO.sBox (h := ?_))
    | (apply AO.kAlloc; refine AO.sAlloc (h := ?_))
    | (apply AO.kStore; first | refine AO.sStore (h := ?_) | refine AO.sStB (h := ?_))
    | (apply AO.kAdd; refine AO.sAdd (h := ?_))
    | (apply AO.kSub; refine AO.sSub (h := ?_))
    | (apply AO.kCv; first | refine AO.sBytes (h := ?_) | refine AO.sStr (h := ?_) | refine AO.sStrR (h := ?_))
    | (apply AO.kP; first | refine AO.sP (h := ?_) | refine AO.sPi (h := ?_) | refine AO.sLoadB (h := ?_) | refine AO.sSameB (h := ?_) | refine AO.sMk0 (h := ?_) | refine AO.sArrB (h := ?_) | refine AO.sLoadA (h := ?_) | refine AO.sEqArr (heg := eqgArr) (h := ?_))
    | (apply AO.kP; refine AO.eqNil (h1 := fun h => ?_) (h2 := ?_))
    | apply AW.seq
    | (apply AW.kR; refine AW.sR (h := ?_))
    | apply AW.skip
    | apply AW.block
    | apply AW.out
    | (apply AW.kE; refine AW.sE (h := ?_))
    | apply AW.label
    | (apply AW.kRd; refine AW.sRd (h := ?_))
    | ((first | (apply AO.kG; first | refine AO.sgt (h1 := fun h => ?_) (h2 := fun h => ?_) | refine AO.sgf (h1 := fun h => ?_) (h2 := fun h => ?_) | refine AO.sgs (h := ?_)) | (apply AW.kC; refine AW.sC (h1 := fun h => ?_) (h2 := fun h => ?_)) | (apply AR.kAny; apply AR.kG; first | refine AR.sgt (h1 := fun h => ?_) (h2 := fun h => ?_) | refine AR.sgf (h1 := fun h => ?_) (h2 := fun h => ?_) | refine AR.sgs (h := ?_))) <;> (try (first | exact Bool.noConfusion h | exact absurd h (by decide) | (simp at h; done) | (rw [h]; try simp only [nrm] at h; try rw [h]; try (exfalso; omega)) | skip)))
    | (apply AR.kAny; first | (apply AR.kBuildS; first | refine AR.sBuildT (h := ?_) | refine AR.sBuildS (h := ?_)) | (apply AR.kApp; first | refine AR.sGrowT (h := ?_) | refine AR.sNewT (h := ?_) | refine AR.sGrowBT (h := ?_) | refine AR.sGrow (h := ?_) | refine AR.sNewr (h := ?_)) | (apply AR.kIx; first | refine AR.sIxN (h := ?_) | refine AR.sIx (h := ?_) | refine AR.sP (h := ?_) | refine AR.sPi (h := ?_)) | (apply AR.kSl; first | refine AR.sSl (h := ?_) | refine AR.sSlArr (h := ?_) | refine AR.sP (h := ?_)) | (apply AR.kBox; refine AR.sBox (h := ?_)) | (apply AR.kAlloc; refine AR.sAlloc (h := ?_)) | (apply AR.kStore; refine AR.sStore (h := ?_)) | (apply AR.kAdd; refine AR.sAdd (h := ?_)) | (apply AR.kSub; refine AR.sSub (h := ?_)) | (apply AR.kCv; refine AR.sStrR (h := ?_)) | (apply AR.kP; first | refine AR.sP (h := ?_) | refine AR.sPi (h := ?_) | refine AR.sArrB (h := ?_) | refine AR.sLoadA (h := ?_) | refine AR.sEqArr (heg := eqgArr) (h := ?_)))
    | (apply AR.kNil; refine AR.sNil (h := ?_)))
  refine AW.loopI (fun q : Nat => q ≤ l.length) (fun q => ⟨[(3, .mpv 6), (7, .sh 6 (l.map Im.av)), (8, .i .i64 l.length), (9, .i .i64 q)], [(6, .mp .u32 .u16 (dmap (l.take q)))]⟩) (fun q => l.length - q) 0 (by simp) (by (constructor <;> (repeat' (first | exact LeT.nil | exact LeB.nil | apply LeT.cons | apply LeB.cons | exact Ol.refl | apply Lx.s | apply Lx.b | apply Lx.i | exact Lx.refl)) <;> (first | rfl | assumption | omega | (simp only [List.length_map, BS_len]; done) | skip))) fun m q hq ih => ?_
  by_cases hq2 : q < l.length
  · have gD := gDeep _ (hl.small q hq2)
    have e1 := dmap_more hq2
    repeat' (first
    | apply AO.nil
    | (apply AO.kCall 134; refine AO.sCall (hg := gD) (h := ?_))
    | (apply AO.kBuildS; first | refine AO.sBuildT (h := ?_) | refine AO.sBuildS (h := ?_))
    | (apply AO.kApp; first | refine AO.sGrowT (h := ?_) | refine AO.sNewT (h := ?_) | refine AO.sGrowBT (h := ?_) | refine AO.sGrow (h := ?_) | refine AO.sNewr (h := ?_))
    | (apply AO.kIx; first | refine AO.sIxN (h := ?_) | refine AO.sIx (h := ?_) | refine AO.sP (h := ?_) | refine AO.sPi (h := ?_))
    | (apply AO.kSl; first | refine AO.sSl (h := ?_) | refine AO.sSlArr (h := ?_) | refine AO.sP (h := ?_))
    | (apply AO.kBox; refine AO.sBox (h := ?_))
    | (apply AO.kAlloc; refine AO.sAlloc (h := ?_))
    | (apply AO.kStore; first | refine AO.sStore (h := ?_) | refine AO.sStB (h := ?_))
    | (apply AO.kAdd; refine AO.sAdd (h := ?_))
    | (apply AO.kSub; refine AO.sSub (h := ?_))
    | (apply AO.kCv; first | refine AO.sBytes (h := ?_) | refine AO.sStr (h := ?_) | refine AO.sStrR (h := ?_))
    | (apply AO.kP; first | refine AO.sP (h := ?_) | refine AO.sPi (h := ?_) | refine AO.sLoadB (h := ?_) | refine AO.sSameB (h := ?_) | refine AO.sMk0 (h := ?_) | refine AO.sArrB (h := ?_) | refine AO.sLoadA (h := ?_) | refine AO.sEqArr (heg := eqgArr) (h := ?_))
    | (apply AO.kP; refine AO.eqNil (h1 := fun h => ?_) (h2 := ?_))
    | apply AW.seq
    | (apply AW.kR; refine AW.sR (h := ?_))
    | apply AW.skip
    | apply AW.block
    | apply AW.out
    | (apply AW.kE; refine AW.sE (h := ?_))
    | apply AW.label
    | (apply AW.kRd; refine AW.sRd (h := ?_))
    | ((first | (apply AO.kG; first | refine AO.sgt (h1 := fun h => ?_) (h2 := fun h => ?_) | refine AO.sgf (h1 := fun h => ?_) (h2 := fun h => ?_) | refine AO.sgs (h := ?_)) | (apply AW.kC; refine AW.sC (h1 := fun h => ?_) (h2 := fun h => ?_)) | (apply AR.kAny; apply AR.kG; first | refine AR.sgt (h1 := fun h => ?_) (h2 := fun h => ?_) | refine AR.sgf (h1 := fun h => ?_) (h2 := fun h => ?_) | refine AR.sgs (h := ?_))) <;> (try (first | exact Bool.noConfusion h | exact absurd h (by decide) | (simp at h; done) | (rw [h]; try simp only [nrm] at h; try rw [h]; try (exfalso; omega)) | skip)))
    | (apply AR.kAny; first | (apply AR.kCall 134; refine AR.sCall (hg := gD) (h := ?_)) | (apply AR.kBuildS; first | refine AR.sBuildT (h := ?_) | refine AR.sBuildS (h := ?_)) | (apply AR.kApp; first | refine AR.sGrowT (h := ?_) | refine AR.sNewT (h := ?_) | refine AR.sGrowBT (h := ?_) | refine AR.sGrow (h := ?_) | refine AR.sNewr (h := ?_)) | (apply AR.kIx; first | refine AR.sIxN (h := ?_) | refine AR.sIx (h := ?_) | refine AR.sP (h := ?_) | refine AR.sPi (h := ?_)) | (apply AR.kSl; first | refine AR.sSl (h := ?_) | refine AR.sSlArr (h := ?_) | refine AR.sP (h := ?_)) | (apply AR.kBox; refine AR.sBox (h := ?_)) | (apply AR.kAlloc; refine AR.sAlloc (h := ?_)) | (apply AR.kStore; refine AR.sStore (h := ?_)) | (apply AR.kAdd; refine AR.sAdd (h := ?_)) | (apply AR.kSub; refine AR.sSub (h := ?_)) | (apply AR.kCv; refine AR.sStrR (h := ?_)) | (apply AR.kP; first | refine AR.sP (h := ?_) | refine AR.sPi (h := ?_) | refine AR.sArrB (h := ?_) | refine AR.sLoadA (h := ?_) | refine AR.sEqArr (heg := eqgArr) (h := ?_)))
    | (apply AR.kNil; refine AR.sNil (h := ?_)))
    all_goals try (exfalso; omega)
    apply AR.kAny
    refine AR.putM (kk := .u32) (vk := .u16) (q := ((l.getD q default).blk.toNat : Int)) (v := (deepN (l.getD q default).nd : Int)) (ents := dmap (l.take q)) (hi := rfl) (hd := rfl) (hk := rfl) (hkd := rfl) (hx := rfl) (hg := rfl) (hy := rfl) (hzv := rfl) (ht := by (repeat (first | exact LE.nil | apply LE.cons)); done) (h := ?_)
    repeat' (first
    | apply AO.nil
    | (apply AO.kBuildS; first | refine AO.sBuildT (h := ?_) | refine AO.sBuildS (h := ?_))
    | (apply AO.kApp; first | refine AO.sGrowT (h := ?_) | refine AO.sNewT (h := ?_) | refine AO.sGrowBT (h := ?_) | refine AO.sGrow (h := ?_) | refine AO.sNewr (h := ?_))
    | (apply AO.kIx; first | refine AO.sIxN (h := ?_) | refine AO.sIx (h := ?_) | refine AO.sP (h := ?_) | refine AO.sPi (h := ?_))
    | (apply AO.kSl; first | refine AO.sSl (h := ?_) | refine AO.sSlArr (h := ?_) | refine AO.sP (h := ?_))
    | (apply AO.kBox; refine AO.sBox (h := ?_))
    | (apply AO.kAlloc; refine AO.sAlloc (h := ?_))
    | (apply AO.kStore; first | refine AO.sStore (h := ?_) | refine AO.sStB (h := ?_))
    | (apply AO.kAdd; refine AO.sAdd (h := ?_))
    | (apply AO.kSub; refine AO.sSub (h := ?_))
    | (apply AO.kCv; first | refine AO.sBytes (h := ?_) | refine AO.sStr (h := ?_) | refine AO.sStrR (h := ?_))
    | (apply AO.kP; first | refine AO.sP (h := ?_) | refine AO.sPi (h := ?_) | refine AO.sLoadB (h := ?_) | refine AO.sSameB (h := ?_) | refine AO.sMk0 (h := ?_) | refine AO.sArrB (h := ?_) | refine AO.sLoadA (h := ?_) | refine AO.sEqArr (heg := eqgArr) (h := ?_))
    | (apply AO.kP; refine AO.eqNil (h1 := fun h => ?_) (h2 := ?_))
    | apply AW.seq
    | (apply AW.kR; refine AW.sR (h := ?_))
    | apply AW.skip
    | apply AW.block
    | apply AW.out
    | (apply AW.kE; refine AW.sE (h := ?_))
    | apply AW.label
    | (apply AW.kRd; refine AW.sRd (h := ?_))
    | ((first | (apply AO.kG; first | refine AO.sgt (h1 := fun h => ?_) (h2 := fun h => ?_) | refine AO.sgf (h1 := fun h => ?_) (h2 := fun h => ?_) | refine AO.sgs (h := ?_)) | (apply AW.kC; refine AW.sC (h1 := fun h => ?_) (h2 := fun h => ?_)) | (apply AR.kAny; apply AR.kG; first | refine AR.sgt (h1 := fun h => ?_) (h2 := fun h => ?_) | refine AR.sgf (h1 := fun h => ?_) (h2 := fun h => ?_) | refine AR.sgs (h := ?_))) <;> (try (first | exact Bool.noConfusion h | exact absurd h (by decide) | (simp at h; done) | (rw [h]; try simp only [nrm] at h; try rw [h]; try (exfalso; omega)) | skip)))
    | (apply AR.kAny; first | (apply AR.kBuildS; first | refine AR.sBuildT (h := ?_) | refine AR.sBuildS (h := ?_)) | (apply AR.kApp; first | refine AR.sGrowT (h := ?_) | refine AR.sNewT (h := ?_) | refine AR.sGrowBT (h := ?_) | refine AR.sGrow (h := ?_) | refine AR.sNewr (h := ?_)) | (apply AR.kIx; first | refine AR.sIxN (h := ?_) | refine AR.sIx (h := ?_) | refine AR.sP (h := ?_) | refine AR.sPi (h := ?_)) | (apply AR.kSl; first | refine AR.sSl (h := ?_) | refine AR.sSlArr (h := ?_) | refine AR.sP (h := ?_)) | (apply AR.kBox; refine AR.sBox (h := ?_)) | (apply AR.kAlloc; refine AR.sAlloc (h := ?_)) | (apply AR.kStore; refine AR.sStore (h := ?_)) | (apply AR.kAdd; refine AR.sAdd (h := ?_)) | (apply AR.kSub; refine AR.sSub (h := ?_)) | (apply AR.kCv; refine AR.sStrR (h := ?_)) | (apply AR.kP; first | refine AR.sP (h := ?_) | refine AR.sPi (h := ?_) | refine AR.sArrB (h := ?_) | refine AR.sLoadA (h := ?_) | refine AR.sEqArr (heg := eqgArr) (h := ?_)))
    | (apply AR.kNil; refine AR.sNil (h := ?_)))
    refine ih (q + 1) _ (by omega) (by omega) ?_
    simp only [e1]
    (constructor <;> (repeat' (first | exact LeT.nil | exact LeB.nil | apply LeT.cons | apply LeB.cons | exact Ol.refl | apply Lx.s | apply Lx.b | apply Lx.i | exact Lx.refl)) <;> (first | rfl | assumption | omega | (simp only [List.length_map, BS_len]; done) | skip))
  · repeat' (first
    | apply AO.nil
    | (apply AO.kBuildS; first | refine AO.sBuildT (h := ?_) | refine AO.sBuildS (h := ?_))
    | (apply AO.kApp; first | refine AO.sGrowT (h := ?_) | refine AO.sNewT (h := ?_) | refine AO.sGrowBT (h := ?_) | refine AO.sGrow (h := ?_) | refine AO.sNewr (h := ?_))
    | (apply AO.kIx; first | refine AO.sIxN (h := ?_) | refine AO.sIx (h := ?_) | refine AO.sP (h := ?_) | refine AO.sPi (h := ?_))
    | (apply AO.kSl; first | refine AO.sSl (h := ?_) | refine AO.sSlArr (h := ?_) | refine AO.sP (h := ?_))
    | (apply AO.kBox; refine AO.sBox (h := ?_))
    | (apply AO.kAlloc; refine AO.sAlloc (h := ?_))
    | (apply AO.kStore; first | refine AO.sStore (h := ?_) | refine AO.sStB (h := ?_))
    | (apply AO.kAdd; refine AO.sAdd (h := ?_))
    | (apply AO.kSub; refine AO.sSub (h := ?_))
    | (apply AO.kCv; first | refine AO.sBytes (h := ?_) | refine AO.sStr (h := ?_) | refine AO.sStrR (h := ?_))
    | (apply AO.kP; first | refine AO.sP (h := ?_) | refine AO.sPi (h := ?_) | refine AO.sLoadB (h := ?_) | refine AO.sSameB (h := ?_) | refine AO.sMk0 (h := ?_) | refine AO.sArrB (h := ?_) | refine AO.sLoadA (h := ?_) | refine AO.sEqArr (heg := eqgArr) (h := ?_))
    | (apply AO.kP; refine AO.eqNil (h1 := fun h => ?_) (h2 := ?_))
    | apply AW.seq
    | (apply AW.kR; refine AW.sR (h := ?_))
    | apply AW.skip
    | apply AW.block
    | apply AW.out
    | (apply AW.kE; refine AW.sE (h := ?_))
    | apply AW.label
    | (apply AW.kRd; refine AW.sRd (h := ?_))
    | ((first | (apply AO.kG; first | refine AO.sgt (h1 := fun h => ?_) (h2 := fun h => ?_) | refine AO.sgf (h1 := fun h => ?_) (h2 := fun h => ?_) | refine AO.sgs (h := ?_)) | (apply AW.kC; refine AW.sC (h1 := fun h => ?_) (h2 := fun h => ?_)) | (apply AR.kAny; apply AR.kG; first | refine AR.sgt (h1 := fun h => ?_) (h2 := fun h => ?_) | refine AR.sgf (h1 := fun h => ?_) (h2 := fun h => ?_) | refine AR.sgs (h := ?_))) <;> (try (first | exact Bool.noConfusion h | exact absurd h (by decide) | (simp at h; done) | (rw [h]; try simp only [nrm] at h; try rw [h]; try (exfalso; omega)) | skip)))
    | (apply AR.kAny; first | (apply AR.kBuildS; first | refine AR.sBuildT (h := ?_) | refine AR.sBuildS (h := ?_)) | (apply AR.kApp; first | refine AR.sGrowT (h := ?_) | refine AR.sNewT (h := ?_) | refine AR.sGrowBT (h := ?_) | refine AR.sGrow (h := ?_) | refine AR.sNewr (h := ?_)) | (apply AR.kIx; first | refine AR.sIxN (h := ?_) | refine AR.sIx (h := ?_) | refine AR.sP (h := ?_) | refine AR.sPi (h := ?_)) | (apply AR.kSl; first | refine AR.sSl (h := ?_) | refine AR.sSlArr (h := ?_) | refine AR.sP (h := ?_)) | (apply AR.kBox; refine AR.sBox (h := ?_)) | (apply AR.kAlloc; refine AR.sAlloc (h := ?_)) | (apply AR.kStore; refine AR.sStore (h := ?_)) | (apply AR.kAdd; refine AR.sAdd (h := ?_)) | (apply AR.kSub; refine AR.sSub (h := ?_)) | (apply AR.kCv; refine AR.sStrR (h := ?_)) | (apply AR.kP; first | refine AR.sP (h := ?_) | refine AR.sPi (h := ?_) | refine AR.sArrB (h := ?_) | refine AR.sLoadA (h := ?_) | refine AR.sEqArr (heg := eqgArr) (h := ?_)))
    | (apply AR.kNil; refine AR.sNil (h := ?_)))
    all_goals try (exfalso; omega)
    rw [List.take_of_length_le (by omega)]
    exact AW.ret (hD 6 rfl .refl .refl)
/-- Is there a node so deep, by a map? -/
def leadM (M : List (Int × Int)) (b : B32) (d : W16) : Bool := match mget M b.toNat with
  | some v => decide (v = d.toNat) && decide (v < 65535)
  | none => false
theorem gLeads (M : List (Int × Int)) (b : B32) (d : W16) : Good Try.prog 109 [.mpv 1000000, .i .u32 b.toNat, .i .u16 d.toNat] [(1000000, .mp .u32 .u16 M)] (.b (leadM M b d)) [(1000000, .mp .u32 .u16 M)] := by
  unfold leadM
  refine Good.wM tabOk mixed Try.func109 (N := 25) (by kernel_rfl) rfl (by (repeat (first | exact LE.nil | apply LE.cons)); done) (by (repeat (first | exact LE.nil | apply LE.cons)); done) (by exact rfl) fun D hD F => ?_
  repeat' (first
    | apply AO.nil
    | (apply AO.kP; first | refine AO.sP (h := ?_) | refine AO.sPi (h := ?_))
    | apply AW.seq
    | (apply AW.kR; refine AW.sR (h := ?_))
    | apply AW.skip
    | apply AW.block
    | apply AW.out
    | (apply AW.kE; refine AW.sE (h := ?_))
    | apply AW.label
    | ((first | (apply AO.kG; first | refine AO.sgt (h1 := fun h => ?_) (h2 := fun h => ?_) | refine AO.sgf (h1 := fun h => ?_) (h2 := fun h => ?_) | refine AO.sgs (h := ?_))) <;> (try (first | exact Bool.noConfusion h | exact absurd h (by decide) | (simp at h; done) | (rw [h]; try simp only [nrm] at h; try rw [h]; try (exfalso; omega)) | skip))))
  refine AO.lookM (vk := .u16) (ents := M) (hi := rfl) (hd := rfl) (hk := rfl) (hkd := rfl) (hz := fun w => rfl) (hx := rfl) (hg := rfl) (hy := rfl) (h := ?_)
  cases hm : mget M b.toNat with
  | none =>
    repeat' (first
    | apply AO.nil
    | (apply AO.kP; first | refine AO.sP (h := ?_) | refine AO.sPi (h := ?_))
    | apply AW.seq
    | (apply AW.kR; refine AW.sR (h := ?_))
    | apply AW.skip
    | apply AW.block
    | apply AW.out
    | (apply AW.kE; refine AW.sE (h := ?_))
    | apply AW.label
    | ((first | (apply AO.kG; first | refine AO.sgt (h1 := fun h => ?_) (h2 := fun h => ?_) | refine AO.sgf (h1 := fun h => ?_) (h2 := fun h => ?_) | refine AO.sgs (h := ?_))) <;> (try (first | exact Bool.noConfusion h | exact absurd h (by decide) | (simp at h; done) | (rw [h]; try simp only [nrm] at h; try rw [h]; try (exfalso; omega)) | skip))))
    rw [hm] at hD
    exact AW.ret (hD rfl .refl (.cons .refl .nil))
  | some v =>
    repeat' (first
    | apply AO.nil
    | (apply AO.kP; first | refine AO.sP (h := ?_) | refine AO.sPi (h := ?_))
    | apply AW.seq
    | (apply AW.kR; refine AW.sR (h := ?_))
    | apply AW.skip
    | apply AW.block
    | apply AW.out
    | (apply AW.kE; refine AW.sE (h := ?_))
    | apply AW.label
    | ((first | (apply AO.kG; first | refine AO.sgt (h1 := fun h => ?_) (h2 := fun h => ?_) | refine AO.sgf (h1 := fun h => ?_) (h2 := fun h => ?_) | refine AO.sgs (h := ?_))) <;> (try (first | (simp at h; done) | (rw [h]; try simp only [nrm] at h; try rw [h]; try (exfalso; omega)) | skip))))
    all_goals rw [hm] at hD
    · have h' : v = (d.toNat : Int) := ‹_›
      refine AW.ret (hD rfl (Lx.b ?_) (.cons .refl .nil))
      dsimp only
      rw [h', decide_eq_true rfl, Bool.true_and]
    · have h' : ¬ v = (d.toNat : Int) := ‹_›
      refine AW.ret (hD rfl (Lx.b ?_) (.cons .refl .nil))
      dsimp only
      rw [decide_eq_false h', Bool.false_and]
theorem gRightP (l : List Im) (hl : Ims l) : Good Try.prog 81 [.sh 6 (l.map Im.av)] [] (.b (rightL (leadM (dmap l)) l)) [] := by
  have ll : (l.map Im.av).length = l.length := by simp
  have hl1 := hl.len
  have gL := gLeads (dmap l)
  refine Good.w tabOk mixed Try.func81 (N := 76) (by kernel_rfl) rfl (by (repeat (first | exact LE.nil | apply LE.cons)); done) (by (repeat (first | exact LE.nil | apply LE.cons)); done) fun D hD F => ?_
  repeat' (first
    | apply AO.nil
    | (apply AO.kCall 108; refine AO.sCall1 (hg := ( gDepths l hl _)) (h := ?_))
    | (apply AO.kIx; first | refine AO.sIxN (h := ?_) | refine AO.sIx (h := ?_) | refine AO.sP (h := ?_) | refine AO.sPi (h := ?_))
    | (apply AO.kAlloc; refine AO.sAlloc (h := ?_))
    | (apply AO.kStore; first | refine AO.sStore (h := ?_) | refine AO.sStB (h := ?_))
    | (apply AO.kAdd; refine AO.sAdd (h := ?_))
    | (apply AO.kSub; refine AO.sSub (h := ?_))
    | (apply AO.kP; first | refine AO.sP (h := ?_) | refine AO.sPi (h := ?_) | refine AO.sLoadB (h := ?_))
    | apply AW.seq
    | (apply AW.kR; refine AW.sR (h := ?_))
    | apply AW.skip
    | apply AW.block
    | apply AW.out
    | (apply AW.kE; refine AW.sE (h := ?_))
    | apply AW.label
    | (apply AW.kRd; refine AW.sRd (h := ?_))
    | ((first | (apply AO.kG; first | refine AO.sgt (h1 := fun h => ?_) (h2 := fun h => ?_) | refine AO.sgf (h1 := fun h => ?_) (h2 := fun h => ?_) | refine AO.sgs (h := ?_)) | (apply AW.kC; refine AW.sC (h1 := fun h => ?_) (h2 := fun h => ?_)) | (apply AR.kAny; apply AR.kG; first | refine AR.sgt (h1 := fun h => ?_) (h2 := fun h => ?_) | refine AR.sgf (h1 := fun h => ?_) (h2 := fun h => ?_) | refine AR.sgs (h := ?_))) <;> (try (first | exact Bool.noConfusion h | exact absurd h (by decide) | (simp at h; done) | (rw [h]; try simp only [nrm] at h; try rw [h]; try (exfalso; omega)) | skip)))
    | (apply AR.kAny; first | (apply AR.kCall 108; refine AR.sCall1 (hg := ( gDepths l hl _)) (h := ?_)) | (apply AR.kIx; first | refine AR.sIxN (h := ?_) | refine AR.sIx (h := ?_) | refine AR.sP (h := ?_) | refine AR.sPi (h := ?_)) | (apply AR.kAlloc; refine AR.sAlloc (h := ?_)) | (apply AR.kStore; refine AR.sStore (h := ?_)) | (apply AR.kAdd; refine AR.sAdd (h := ?_)) | (apply AR.kSub; refine AR.sSub (h := ?_)) | (apply AR.kP; first | refine AR.sP (h := ?_) | refine AR.sPi (h := ?_)))
    | (apply AR.kNil; refine AR.sNil (h := ?_)))
  refine AW.loopI (fun q : Nat => q ≤ l.length ∧ (List.range q).all (okL (leadM (dmap l)) l) = true) (fun q => ⟨[(0, .sh 6 (l.map Im.av)), (3, .mpv 11), (12, .sh 6 (l.map Im.av)), (13, .i .i64 l.length), (14, .i .i64 q)], [(11, .mp .u32 .u16 (dmap l))]⟩) (fun q => l.length - q) 0 (by simp) (by (constructor <;> (repeat' (first | exact LeT.nil | exact LeB.nil | apply LeT.cons | apply LeB.cons | exact Ol.refl | apply Lx.s | apply Lx.b | apply Lx.i | exact Lx.refl)) <;> (first | rfl | assumption | omega | (simp only [List.length_map, BS_len]; done) | skip))) fun m q ⟨hq, hc⟩ ih => ?_
  by_cases hq2 : q < l.length
  · have gM := gMay _ (hl.small q hq2)
    have hs := hl.small q hq2
    have hok : okL (leadM (dmap l)) l q = ((decide (q = 0) || decide ((l.getD (q - 1) default).blk.toNat < (l.getD q default).blk.toNat)) && (decide (mayN (l.getD q default).nd = 0) && ((l.getD q default).nd.kids.all (fun e => leadM (dmap l) e.block e.deep) && (l.getD q default).nd.buf.all fun m => m.kind != 3 || leadM (dmap l) m.block m.deep))) := rfl
    generalize dmap l = M at *
    repeat' (first
    | apply AO.nil
    | (apply AO.kCall 57; refine AO.sCall (hg := gM) (h := ?_))
    | (apply AO.kIx; first | refine AO.sIxN (h := ?_) | refine AO.sIx (h := ?_) | refine AO.sP (h := ?_) | refine AO.sPi (h := ?_))
    | (apply AO.kAlloc; refine AO.sAlloc (h := ?_))
    | (apply AO.kStore; first | refine AO.sStore (h := ?_) | refine AO.sStB (h := ?_))
    | (apply AO.kAdd; refine AO.sAdd (h := ?_))
    | (apply AO.kSub; refine AO.sSub (h := ?_))
    | (apply AO.kP; first | refine AO.sP (h := ?_) | refine AO.sPi (h := ?_) | refine AO.sLoadB (h := ?_))
    | apply AW.seq
    | (apply AW.kR; refine AW.sR (h := ?_))
    | apply AW.skip
    | apply AW.block
    | apply AW.out
    | (apply AW.kE; refine AW.sE (h := ?_))
    | apply AW.label
    | (apply AW.kRd; refine AW.sRd (h := ?_))
    | ((first | (apply AO.kG; first | refine AO.sgt (h1 := fun h => ?_) (h2 := fun h => ?_) | refine AO.sgf (h1 := fun h => ?_) (h2 := fun h => ?_) | refine AO.sgs (h := ?_)) | (apply AW.kC; refine AW.sC (h1 := fun h => ?_) (h2 := fun h => ?_)) | (apply AR.kAny; apply AR.kG; first | refine AR.sgt (h1 := fun h => ?_) (h2 := fun h => ?_) | refine AR.sgf (h1 := fun h => ?_) (h2 := fun h => ?_) | refine AR.sgs (h := ?_))) <;> (try (first | exact Bool.noConfusion h | exact absurd h (by decide) | (simp at h; done) | (rw [h]; try simp only [nrm] at h; try rw [h]; try (exfalso; omega)) | skip)))
    | (apply AR.kAny; first | (apply AR.kCall 57; refine AR.sCall (hg := gM) (h := ?_)) | (apply AR.kIx; first | refine AR.sIxN (h := ?_) | refine AR.sIx (h := ?_) | refine AR.sP (h := ?_) | refine AR.sPi (h := ?_)) | (apply AR.kAlloc; refine AR.sAlloc (h := ?_)) | (apply AR.kStore; refine AR.sStore (h := ?_)) | (apply AR.kAdd; refine AR.sAdd (h := ?_)) | (apply AR.kSub; refine AR.sSub (h := ?_)) | (apply AR.kP; first | refine AR.sP (h := ?_) | refine AR.sPi (h := ?_)))
    | (apply AR.kNil; refine AR.sNil (h := ?_)))
    all_goals try (exfalso; omega)
    all_goals try simp only [show ((q : Int) - 1).toNat = q - 1 by omega] at *
    all_goals first
      | (exact AW.ret (hD rfl (Lx.b (by
          rw [right_fail hq2]
          rw [hok]
          have h' : ((mayN (l.getD q default).nd : Int) != 0) = true := ‹_›
          have m0 : mayN (l.getD q default).nd ≠ 0 := by simpa using h'
          rw [decide_eq_false m0]; simp))))
      | (exact AW.ret (hD rfl (Lx.b (by
          rw [right_fail hq2]
          rw [hok]
          rw [decide_eq_false (show ¬ q = 0 by omega), decide_eq_false (show ¬ (l.getD (q - 1) default).blk.toNat < (l.getD q default).blk.toNat by omega)]; simp))))
      | skip
    all_goals
      have hord : (decide (q = 0) || decide ((l.getD (q - 1) default).blk.toNat < (l.getD q default).blk.toNat)) = true := by
        rw [Bool.or_eq_true, decide_eq_true_eq, decide_eq_true_eq]; omega
      have h' : ((mayN (l.getD q default).nd : Int) != 0) = false := ‹_›
      have m0 : mayN (l.getD q default).nd = 0 := by simpa using h'
      have b1 := hs.kids
      have b2 := hs.buf
      have l1 : ((l.getD q default).nd.kids.map Ed.av).length = (l.getD q default).nd.kids.length := by simp
      have l2 : ((l.getD q default).nd.buf.map Ms.av).length = (l.getD q default).nd.buf.length := by simp
      refine AW.loopI (fun r : Nat => r ≤ (l.getD q default).nd.kids.length ∧ ((l.getD q default).nd.kids.take r).all (fun e => leadM M e.block e.deep) = true) (fun r => ⟨[(0, .sh 6 (l.map Im.av)), (3, .mpv 11), (5, .ptr 5 0), (12, .sh 6 (l.map Im.av)), (13, .i .i64 l.length), (14, .i .i64 q), (40, .sh 4 ((l.getD q default).nd.kids.map Ed.av)), (41, .i .i64 (l.getD q default).nd.kids.length), (42, .i .i64 r)], [(5, .bx (l.getD q default).av), (11, .mp .u32 .u16 M)]⟩) (fun r => (l.getD q default).nd.kids.length - r) 0 (by simp) (by (constructor <;> (repeat' (first | exact LeT.nil | exact LeB.nil | apply LeT.cons | apply LeB.cons | exact Ol.refl | apply Lx.s | apply Lx.b | apply Lx.i | exact Lx.refl)) <;> (first | rfl | assumption | omega | (simp only [List.length_map, BS_len]; done) | skip))) fun m2 r ⟨hr, hcr⟩ ih2 => ?_
      by_cases hr2 : r < (l.getD q default).nd.kids.length
      · have gL2 := gL ((l.getD q default).nd.kids.getD r default).block ((l.getD q default).nd.kids.getD r default).deep
        repeat' (first
    | apply AO.nil
    | (apply AO.kCall 109; refine AO.callM [(1000000, 11)] (hg := (gL2)) (hc := by exact rfl) (ha := by (repeat constructor); done) (hl := by (repeat (first | exact LeL.nil | (refine LeL.cons (Le.refl _) ?_) | (refine LeL.cons Le.gr ?_) | (refine LeL.cons Le.nil ?_) | (refine LeL.cons Le.shc ?_))); done) (hi := by (repeat (first | exact Rho.here | exact Rho.nil | (refine Rho.there ?_ ?_; exact rfl) | exact RnL.nil | apply RnL.cons | exact RoL.nil | exact Lent.nil | exact Apd.nil | apply Apd.cons | (refine Lent.cons ?_ ?_ ?_ ?_ ?_) | (refine RoL.cons ?_ ?_ ?_) | (refine RnL.same ?_; exact rfl) | constructor | exact rfl)); done) (ht := by exact rfl) (hr := by (repeat (first | exact Rho.here | exact Rho.nil | (refine Rho.there ?_ ?_; exact rfl) | exact RnL.nil | apply RnL.cons | exact RoL.nil | exact Lent.nil | exact Apd.nil | apply Apd.cons | (refine Lent.cons ?_ ?_ ?_ ?_ ?_) | (refine RoL.cons ?_ ?_ ?_) | (refine RnL.same ?_; exact rfl) | constructor | exact rfl)); done) (ho := by (repeat (first | exact Rho.here | exact Rho.nil | (refine Rho.there ?_ ?_; exact rfl) | exact RnL.nil | apply RnL.cons | exact RoL.nil | exact Lent.nil | exact Apd.nil | apply Apd.cons | (refine Lent.cons ?_ ?_ ?_ ?_ ?_) | (refine RoL.cons ?_ ?_ ?_) | (refine RnL.same ?_; exact rfl) | constructor | exact rfl)); done) (hn := by exact rfl) (hB := by (repeat (first | exact Rho.here | exact Rho.nil | (refine Rho.there ?_ ?_; exact rfl) | exact RnL.nil | apply RnL.cons | exact RoL.nil | exact Lent.nil | exact Apd.nil | apply Apd.cons | (refine Lent.cons ?_ ?_ ?_ ?_ ?_) | (refine RoL.cons ?_ ?_ ?_) | (refine RnL.same ?_; exact rfl) | constructor | exact rfl)); done) (h := ?_))
    | (apply AO.kIx; first | refine AO.sIxN (h := ?_) | refine AO.sIx (h := ?_) | refine AO.sP (h := ?_) | refine AO.sPi (h := ?_))
    | (apply AO.kAlloc; refine AO.sAlloc (h := ?_))
    | (apply AO.kStore; first | refine AO.sStore (h := ?_) | refine AO.sStB (h := ?_))
    | (apply AO.kAdd; refine AO.sAdd (h := ?_))
    | (apply AO.kSub; refine AO.sSub (h := ?_))
    | (apply AO.kP; first | refine AO.sP (h := ?_) | refine AO.sPi (h := ?_) | refine AO.sLoadB (h := ?_))
    | apply AW.seq
    | (apply AW.kR; refine AW.sR (h := ?_))
    | apply AW.skip
    | apply AW.block
    | apply AW.out
    | (apply AW.kE; refine AW.sE (h := ?_))
    | apply AW.label
    | (apply AW.kRd; refine AW.sRd (h := ?_))
    | ((first | (apply AO.kG; first | refine AO.sgt (h1 := fun h => ?_) (h2 := fun h => ?_) | refine AO.sgf (h1 := fun h => ?_) (h2 := fun h => ?_) | refine AO.sgs (h := ?_)) | (apply AW.kC; refine AW.sC (h1 := fun h => ?_) (h2 := fun h => ?_)) | (apply AR.kAny; apply AR.kG; first | refine AR.sgt (h1 := fun h => ?_) (h2 := fun h => ?_) | refine AR.sgf (h1 := fun h => ?_) (h2 := fun h => ?_) | refine AR.sgs (h := ?_))) <;> (try (first | exact Bool.noConfusion h | exact absurd h (by decide) | (simp at h; done) | (rw [h]; try simp only [nrm] at h; try rw [h]; try (exfalso; omega)) | skip)))
    | (apply AR.kAny; first | (apply AR.kCall 109; refine AR.callM [(1000000, 11)] (hg := (gL2)) (hc := by exact rfl) (ha := by (repeat constructor); done) (hl := by (repeat (first | exact LeL.nil | (refine LeL.cons (Le.refl _) ?_) | (refine LeL.cons Le.gr ?_) | (refine LeL.cons Le.nil ?_) | (refine LeL.cons Le.shc ?_))); done) (hi := by (repeat (first | exact Rho.here | exact Rho.nil | (refine Rho.there ?_ ?_; exact rfl) | exact RnL.nil | apply RnL.cons | exact RoL.nil | exact Lent.nil | exact Apd.nil | apply Apd.cons | (refine Lent.cons ?_ ?_ ?_ ?_ ?_) | (refine RoL.cons ?_ ?_ ?_) | (refine RnL.same ?_; exact rfl) | constructor | exact rfl)); done) (ht := by exact rfl) (hr := by (repeat (first | exact Rho.here | exact Rho.nil | (refine Rho.there ?_ ?_; exact rfl) | exact RnL.nil | apply RnL.cons | exact RoL.nil | exact Lent.nil | exact Apd.nil | apply Apd.cons | (refine Lent.cons ?_ ?_ ?_ ?_ ?_) | (refine RoL.cons ?_ ?_ ?_) | (refine RnL.same ?_; exact rfl) | constructor | exact rfl)); done) (ho := by (repeat (first | exact Rho.here | exact Rho.nil | (refine Rho.there ?_ ?_; exact rfl) | exact RnL.nil | apply RnL.cons | exact RoL.nil | exact Lent.nil | exact Apd.nil | apply Apd.cons | (refine Lent.cons ?_ ?_ ?_ ?_ ?_) | (refine RoL.cons ?_ ?_ ?_) | (refine RnL.same ?_; exact rfl) | constructor | exact rfl)); done) (hn := by exact rfl) (hB := by (repeat (first | exact Rho.here | exact Rho.nil | (refine Rho.there ?_ ?_; exact rfl) | exact RnL.nil | apply RnL.cons | exact RoL.nil | exact Lent.nil | exact Apd.nil | apply Apd.cons | (refine Lent.cons ?_ ?_ ?_ ?_ ?_) | (refine RoL.cons ?_ ?_ ?_) | (refine RnL.same ?_; exact rfl) | constructor | exact rfl)); done) (htg := by (repeat (first | exact LE.nil | apply LE.cons)); done) (h := ?_)) | (apply AR.kIx; first | refine AR.sIxN (h := ?_) | refine AR.sIx (h := ?_) | refine AR.sP (h := ?_) | refine AR.sPi (h := ?_)) | (apply AR.kAlloc; refine AR.sAlloc (h := ?_)) | (apply AR.kStore; refine AR.sStore (h := ?_)) | (apply AR.kAdd; refine AR.sAdd (h := ?_)) | (apply AR.kSub; refine AR.sSub (h := ?_)) | (apply AR.kP; first | refine AR.sP (h := ?_) | refine AR.sPi (h := ?_)))
    | (apply AR.kNil; refine AR.sNil (h := ?_)))
        all_goals try (exfalso; omega)
        · have hb : leadM M ((l.getD q default).nd.kids.getD r default).block ((l.getD q default).nd.kids.getD r default).deep = false := by assumption
          exact AW.ret (hD rfl (Lx.b (by
            rw [right_fail hq2]
            rw [hok, all_fail (p := fun e : Ed => leadM M e.block e.deep) hr2 hb]; simp)))
        · have hb : leadM M ((l.getD q default).nd.kids.getD r default).block ((l.getD q default).nd.kids.getD r default).deep = true := by assumption
          exact ih2 (r + 1) _ ⟨by omega, all_step (p := fun e : Ed => leadM M e.block e.deep) hr2 hcr hb⟩ (by omega) (by (constructor <;> (repeat' (first | exact LeT.nil | exact LeB.nil | apply LeT.cons | apply LeB.cons | exact Ol.refl | apply Lx.s | apply Lx.b | apply Lx.i | exact Lx.refl)) <;> (first | rfl | assumption | omega | (simp only [List.length_map, BS_len]; done) | skip)))
      · have hk := all_done (p := fun e : Ed => leadM M e.block e.deep) (by omega : (l.getD q default).nd.kids.length ≤ r) hcr
        repeat' (first
    | apply AO.nil
    | (apply AO.kIx; first | refine AO.sIxN (h := ?_) | refine AO.sIx (h := ?_) | refine AO.sP (h := ?_) | refine AO.sPi (h := ?_))
    | (apply AO.kAlloc; refine AO.sAlloc (h := ?_))
    | (apply AO.kStore; first | refine AO.sStore (h := ?_) | refine AO.sStB (h := ?_))
    | (apply AO.kAdd; refine AO.sAdd (h := ?_))
    | (apply AO.kSub; refine AO.sSub (h := ?_))
    | (apply AO.kP; first | refine AO.sP (h := ?_) | refine AO.sPi (h := ?_) | refine AO.sLoadB (h := ?_))
    | apply AW.seq
    | (apply AW.kR; refine AW.sR (h := ?_))
    | apply AW.skip
    | apply AW.block
    | apply AW.out
    | (apply AW.kE; refine AW.sE (h := ?_))
    | apply AW.label
    | (apply AW.kRd; refine AW.sRd (h := ?_))
    | ((first | (apply AO.kG; first | refine AO.sgt (h1 := fun h => ?_) (h2 := fun h => ?_) | refine AO.sgf (h1 := fun h => ?_) (h2 := fun h => ?_) | refine AO.sgs (h := ?_)) | (apply AW.kC; refine AW.sC (h1 := fun h => ?_) (h2 := fun h => ?_)) | (apply AR.kAny; apply AR.kG; first | refine AR.sgt (h1 := fun h => ?_) (h2 := fun h => ?_) | refine AR.sgf (h1 := fun h => ?_) (h2 := fun h => ?_) | refine AR.sgs (h := ?_))) <;> (try (first | exact Bool.noConfusion h | exact absurd h (by decide) | (simp at h; done) | (rw [h]; try simp only [nrm] at h; try rw [h]; try (exfalso; omega)) | skip)))
    | (apply AR.kAny; first | (apply AR.kIx; first | refine AR.sIxN (h := ?_) | refine AR.sIx (h := ?_) | refine AR.sP (h := ?_) | refine AR.sPi (h := ?_)) | (apply AR.kAlloc; refine AR.sAlloc (h := ?_)) | (apply AR.kStore; refine AR.sStore (h := ?_)) | (apply AR.kAdd; refine AR.sAdd (h := ?_)) | (apply AR.kSub; refine AR.sSub (h := ?_)) | (apply AR.kP; first | refine AR.sP (h := ?_) | refine AR.sPi (h := ?_)))
    | (apply AR.kNil; refine AR.sNil (h := ?_)))
        all_goals try (exfalso; omega)
        refine AW.loopI (fun r : Nat => r ≤ (l.getD q default).nd.buf.length ∧ ((l.getD q default).nd.buf.take r).all (fun m => m.kind != 3 || leadM M m.block m.deep) = true) (fun r => ⟨[(0, .sh 6 (l.map Im.av)), (3, .mpv 11), (5, .ptr 5 0), (12, .sh 6 (l.map Im.av)), (13, .i .i64 l.length), (14, .i .i64 q), (56, .sh 6 ((l.getD q default).nd.buf.map Ms.av)), (57, .i .i64 (l.getD q default).nd.buf.length), (58, .i .i64 r)], [(5, .bx (l.getD q default).av), (11, .mp .u32 .u16 M)]⟩) (fun r => (l.getD q default).nd.buf.length - r) 0 (by simp) (by (constructor <;> (repeat' (first | exact LeT.nil | exact LeB.nil | apply LeT.cons | apply LeB.cons | exact Ol.refl | apply Lx.s | apply Lx.b | apply Lx.i | exact Lx.refl)) <;> (first | rfl | assumption | omega | (simp only [List.length_map, BS_len]; done) | skip))) fun m3 r ⟨hr, hcr⟩ ih3 => ?_
        by_cases hr2 : r < (l.getD q default).nd.buf.length
        · have gL2 := gL ((l.getD q default).nd.buf.getD r default).block ((l.getD q default).nd.buf.getD r default).deep
          repeat' (first
    | apply AO.nil
    | (apply AO.kCall 109; refine AO.callM [(1000000, 11)] (hg := (gL2)) (hc := by exact rfl) (ha := by (repeat constructor); done) (hl := by (repeat (first | exact LeL.nil | (refine LeL.cons (Le.refl _) ?_) | (refine LeL.cons Le.gr ?_) | (refine LeL.cons Le.nil ?_) | (refine LeL.cons Le.shc ?_))); done) (hi := by (repeat (first | exact Rho.here | exact Rho.nil | (refine Rho.there ?_ ?_; exact rfl) | exact RnL.nil | apply RnL.cons | exact RoL.nil | exact Lent.nil | exact Apd.nil | apply Apd.cons | (refine Lent.cons ?_ ?_ ?_ ?_ ?_) | (refine RoL.cons ?_ ?_ ?_) | (refine RnL.same ?_; exact rfl) | constructor | exact rfl)); done) (ht := by exact rfl) (hr := by (repeat (first | exact Rho.here | exact Rho.nil | (refine Rho.there ?_ ?_; exact rfl) | exact RnL.nil | apply RnL.cons | exact RoL.nil | exact Lent.nil | exact Apd.nil | apply Apd.cons | (refine Lent.cons ?_ ?_ ?_ ?_ ?_) | (refine RoL.cons ?_ ?_ ?_) | (refine RnL.same ?_; exact rfl) | constructor | exact rfl)); done) (ho := by (repeat (first | exact Rho.here | exact Rho.nil | (refine Rho.there ?_ ?_; exact rfl) | exact RnL.nil | apply RnL.cons | exact RoL.nil | exact Lent.nil | exact Apd.nil | apply Apd.cons | (refine Lent.cons ?_ ?_ ?_ ?_ ?_) | (refine RoL.cons ?_ ?_ ?_) | (refine RnL.same ?_; exact rfl) | constructor | exact rfl)); done) (hn := by exact rfl) (hB := by (repeat (first | exact Rho.here | exact Rho.nil | (refine Rho.there ?_ ?_; exact rfl) | exact RnL.nil | apply RnL.cons | exact RoL.nil | exact Lent.nil | exact Apd.nil | apply Apd.cons | (refine Lent.cons ?_ ?_ ?_ ?_ ?_) | (refine RoL.cons ?_ ?_ ?_) | (refine RnL.same ?_; exact rfl) | constructor | exact rfl)); done) (h := ?_))
    | (apply AO.kIx; first | refine AO.sIxN (h := ?_) | refine AO.sIx (h := ?_) | refine AO.sP (h := ?_) | refine AO.sPi (h := ?_))
    | (apply AO.kAlloc; refine AO.sAlloc (h := ?_))
    | (apply AO.kStore; first | refine AO.sStore (h := ?_) | refine AO.sStB (h := ?_))
    | (apply AO.kAdd; refine AO.sAdd (h := ?_))
    | (apply AO.kSub; refine AO.sSub (h := ?_))
    | (apply AO.kP; first | refine AO.sP (h := ?_) | refine AO.sPi (h := ?_) | refine AO.sLoadB (h := ?_))
    | apply AW.seq
    | (apply AW.kR; refine AW.sR (h := ?_))
    | apply AW.skip
    | apply AW.block
    | apply AW.out
    | (apply AW.kE; refine AW.sE (h := ?_))
    | apply AW.label
    | (apply AW.kRd; refine AW.sRd (h := ?_))
    | ((first | (apply AO.kG; first | refine AO.sgt (h1 := fun h => ?_) (h2 := fun h => ?_) | refine AO.sgf (h1 := fun h => ?_) (h2 := fun h => ?_) | refine AO.sgs (h := ?_)) | (apply AW.kC; refine AW.sC (h1 := fun h => ?_) (h2 := fun h => ?_)) | (apply AR.kAny; apply AR.kG; first | refine AR.sgt (h1 := fun h => ?_) (h2 := fun h => ?_) | refine AR.sgf (h1 := fun h => ?_) (h2 := fun h => ?_) | refine AR.sgs (h := ?_))) <;> (try (first | exact Bool.noConfusion h | exact absurd h (by decide) | (simp at h; done) | (rw [h]; try simp only [nrm] at h; try rw [h]; try (exfalso; omega)) | skip)))
    | (apply AR.kAny; first | (apply AR.kCall 109; refine AR.callM [(1000000, 11)] (hg := (gL2)) (hc := by exact rfl) (ha := by (repeat constructor); done) (hl := by (repeat (first | exact LeL.nil | (refine LeL.cons (Le.refl _) ?_) | (refine LeL.cons Le.gr ?_) | (refine LeL.cons Le.nil ?_) | (refine LeL.cons Le.shc ?_))); done) (hi := by (repeat (first | exact Rho.here | exact Rho.nil | (refine Rho.there ?_ ?_; exact rfl) | exact RnL.nil | apply RnL.cons | exact RoL.nil | exact Lent.nil | exact Apd.nil | apply Apd.cons | (refine Lent.cons ?_ ?_ ?_ ?_ ?_) | (refine RoL.cons ?_ ?_ ?_) | (refine RnL.same ?_; exact rfl) | constructor | exact rfl)); done) (ht := by exact rfl) (hr := by (repeat (first | exact Rho.here | exact Rho.nil | (refine Rho.there ?_ ?_; exact rfl) | exact RnL.nil | apply RnL.cons | exact RoL.nil | exact Lent.nil | exact Apd.nil | apply Apd.cons | (refine Lent.cons ?_ ?_ ?_ ?_ ?_) | (refine RoL.cons ?_ ?_ ?_) | (refine RnL.same ?_; exact rfl) | constructor | exact rfl)); done) (ho := by (repeat (first | exact Rho.here | exact Rho.nil | (refine Rho.there ?_ ?_; exact rfl) | exact RnL.nil | apply RnL.cons | exact RoL.nil | exact Lent.nil | exact Apd.nil | apply Apd.cons | (refine Lent.cons ?_ ?_ ?_ ?_ ?_) | (refine RoL.cons ?_ ?_ ?_) | (refine RnL.same ?_; exact rfl) | constructor | exact rfl)); done) (hn := by exact rfl) (hB := by (repeat (first | exact Rho.here | exact Rho.nil | (refine Rho.there ?_ ?_; exact rfl) | exact RnL.nil | apply RnL.cons | exact RoL.nil | exact Lent.nil | exact Apd.nil | apply Apd.cons | (refine Lent.cons ?_ ?_ ?_ ?_ ?_) | (refine RoL.cons ?_ ?_ ?_) | (refine RnL.same ?_; exact rfl) | constructor | exact rfl)); done) (htg := by (repeat (first | exact LE.nil | apply LE.cons)); done) (h := ?_)) | (apply AR.kIx; first | refine AR.sIxN (h := ?_) | refine AR.sIx (h := ?_) | refine AR.sP (h := ?_) | refine AR.sPi (h := ?_)) | (apply AR.kAlloc; refine AR.sAlloc (h := ?_)) | (apply AR.kStore; refine AR.sStore (h := ?_)) | (apply AR.kAdd; refine AR.sAdd (h := ?_)) | (apply AR.kSub; refine AR.sSub (h := ?_)) | (apply AR.kP; first | refine AR.sP (h := ?_) | refine AR.sPi (h := ?_)))
    | (apply AR.kNil; refine AR.sNil (h := ?_)))
          all_goals try (exfalso; omega)
          all_goals first
            | (have h3 : (((l.getD q default).nd.buf.getD r default).kind.toNat : Int) = 3 := ‹_›
               rw [k3] at h3
               have hb : leadM M ((l.getD q default).nd.buf.getD r default).block ((l.getD q default).nd.buf.getD r default).deep = false := by assumption
               exact AW.ret (hD rfl (Lx.b (by
                 rw [right_fail hq2]
                 rw [hok, all_fail (p := fun m : Ms => m.kind != 3 || leadM M m.block m.deep) hr2 (by show (((l.getD q default).nd.buf.getD r default).kind != 3 || leadM M ((l.getD q default).nd.buf.getD r default).block ((l.getD q default).nd.buf.getD r default).deep) = false; rw [h3, hb]; rfl)]; simp))))
            | (have hb : leadM M ((l.getD q default).nd.buf.getD r default).block ((l.getD q default).nd.buf.getD r default).deep = true := by assumption
               exact ih3 (r + 1) _ ⟨by omega, all_step (p := fun m : Ms => m.kind != 3 || leadM M m.block m.deep) hr2 hcr (by show (_ || leadM M ((l.getD q default).nd.buf.getD r default).block ((l.getD q default).nd.buf.getD r default).deep) = true; rw [hb, Bool.or_true])⟩ (by omega) (by (constructor <;> (repeat' (first | exact LeT.nil | exact LeB.nil | apply LeT.cons | apply LeB.cons | exact Ol.refl | apply Lx.s | apply Lx.b | apply Lx.i | exact Lx.refl)) <;> (first | rfl | assumption | omega | (simp only [List.length_map, BS_len]; done) | skip))))
            | (have h3 : ¬ (((l.getD q default).nd.buf.getD r default).kind.toNat : Int) = 3 := ‹_›
               rw [k3] at h3
               exact ih3 (r + 1) _ ⟨by omega, all_step (p := fun m : Ms => m.kind != 3 || leadM M m.block m.deep) hr2 hcr (by show (((l.getD q default).nd.buf.getD r default).kind != 3 || _) = true; rw [show (((l.getD q default).nd.buf.getD r default).kind != 3) = true from bne_iff_ne.2 h3]; rfl)⟩ (by omega) (by (constructor <;> (repeat' (first | exact LeT.nil | exact LeB.nil | apply LeT.cons | apply LeB.cons | exact Ol.refl | apply Lx.s | apply Lx.b | apply Lx.i | exact Lx.refl)) <;> (first | rfl | assumption | omega | (simp only [List.length_map, BS_len]; done) | skip))))
            | trace_state
        · have hb := all_done (p := fun m : Ms => m.kind != 3 || leadM M m.block m.deep) (by omega : (l.getD q default).nd.buf.length ≤ r) hcr
          repeat' (first
    | apply AO.nil
    | (apply AO.kIx; first | refine AO.sIxN (h := ?_) | refine AO.sIx (h := ?_) | refine AO.sP (h := ?_) | refine AO.sPi (h := ?_))
    | (apply AO.kAlloc; refine AO.sAlloc (h := ?_))
    | (apply AO.kStore; first | refine AO.sStore (h := ?_) | refine AO.sStB (h := ?_))
    | (apply AO.kAdd; refine AO.sAdd (h := ?_))
    | (apply AO.kSub; refine AO.sSub (h := ?_))
    | (apply AO.kP; first | refine AO.sP (h := ?_) | refine AO.sPi (h := ?_) | refine AO.sLoadB (h := ?_))
    | apply AW.seq
    | (apply AW.kR; refine AW.sR (h := ?_))
    | apply AW.skip
    | apply AW.block
    | apply AW.out
    | (apply AW.kE; refine AW.sE (h := ?_))
    | apply AW.label
    | (apply AW.kRd; refine AW.sRd (h := ?_))
    | ((first | (apply AO.kG; first | refine AO.sgt (h1 := fun h => ?_) (h2 := fun h => ?_) | refine AO.sgf (h1 := fun h => ?_) (h2 := fun h => ?_) | refine AO.sgs (h := ?_)) | (apply AW.kC; refine AW.sC (h1 := fun h => ?_) (h2 := fun h => ?_)) | (apply AR.kAny; apply AR.kG; first | refine AR.sgt (h1 := fun h => ?_) (h2 := fun h => ?_) | refine AR.sgf (h1 := fun h => ?_) (h2 := fun h => ?_) | refine AR.sgs (h := ?_))) <;> (try (first | exact Bool.noConfusion h | exact absurd h (by decide) | (simp at h; done) | (rw [h]; try simp only [nrm] at h; try rw [h]; try (exfalso; omega)) | skip)))
    | (apply AR.kAny; first | (apply AR.kIx; first | refine AR.sIxN (h := ?_) | refine AR.sIx (h := ?_) | refine AR.sP (h := ?_) | refine AR.sPi (h := ?_)) | (apply AR.kAlloc; refine AR.sAlloc (h := ?_)) | (apply AR.kStore; refine AR.sStore (h := ?_)) | (apply AR.kAdd; refine AR.sAdd (h := ?_)) | (apply AR.kSub; refine AR.sSub (h := ?_)) | (apply AR.kP; first | refine AR.sP (h := ?_) | refine AR.sPi (h := ?_)))
    | (apply AR.kNil; refine AR.sNil (h := ?_)))
          all_goals try (exfalso; omega)
          exact ih (q + 1) _ ⟨by omega, right_step hc (by rw [hok, hord, hk, hb, decide_eq_true m0]; rfl)⟩ (by omega) (by (constructor <;> (repeat' (first | exact LeT.nil | exact LeB.nil | apply LeT.cons | apply LeB.cons | exact Ol.refl | apply Lx.s | apply Lx.b | apply Lx.i | exact Lx.refl)) <;> (first | rfl | assumption | omega | (simp only [List.length_map, BS_len]; done) | skip)))
  · repeat' (first
    | apply AO.nil
    | (apply AO.kIx; first | refine AO.sIxN (h := ?_) | refine AO.sIx (h := ?_) | refine AO.sP (h := ?_) | refine AO.sPi (h := ?_))
    | (apply AO.kAlloc; refine AO.sAlloc (h := ?_))
    | (apply AO.kStore; first | refine AO.sStore (h := ?_) | refine AO.sStB (h := ?_))
    | (apply AO.kAdd; refine AO.sAdd (h := ?_))
    | (apply AO.kSub; refine AO.sSub (h := ?_))
    | (apply AO.kP; first | refine AO.sP (h := ?_) | refine AO.sPi (h := ?_) | refine AO.sLoadB (h := ?_))
    | apply AW.seq
    | (apply AW.kR; refine AW.sR (h := ?_))
    | apply AW.skip
    | apply AW.block
    | apply AW.out
    | (apply AW.kE; refine AW.sE (h := ?_))
    | apply AW.label
    | (apply AW.kRd; refine AW.sRd (h := ?_))
    | ((first | (apply AO.kG; first | refine AO.sgt (h1 := fun h => ?_) (h2 := fun h => ?_) | refine AO.sgf (h1 := fun h => ?_) (h2 := fun h => ?_) | refine AO.sgs (h := ?_)) | (apply AW.kC; refine AW.sC (h1 := fun h => ?_) (h2 := fun h => ?_)) | (apply AR.kAny; apply AR.kG; first | refine AR.sgt (h1 := fun h => ?_) (h2 := fun h => ?_) | refine AR.sgf (h1 := fun h => ?_) (h2 := fun h => ?_) | refine AR.sgs (h := ?_))) <;> (try (first | exact Bool.noConfusion h | exact absurd h (by decide) | (simp at h; done) | (rw [h]; try simp only [nrm] at h; try rw [h]; try (exfalso; omega)) | skip)))
    | (apply AR.kAny; first | (apply AR.kIx; first | refine AR.sIxN (h := ?_) | refine AR.sIx (h := ?_) | refine AR.sP (h := ?_) | refine AR.sPi (h := ?_)) | (apply AR.kAlloc; refine AR.sAlloc (h := ?_)) | (apply AR.kStore; refine AR.sStore (h := ?_)) | (apply AR.kAdd; refine AR.sAdd (h := ?_)) | (apply AR.kSub; refine AR.sSub (h := ?_)) | (apply AR.kP; first | refine AR.sP (h := ?_) | refine AR.sPi (h := ?_)))
    | (apply AR.kNil; refine AR.sNil (h := ?_)))
    all_goals try (exfalso; omega)
    (refine AW.ret (hD rfl ?_); (repeat' (first | apply Lx.s | apply Lx.b | apply Lx.i | apply LxL.cons | exact LxL.nil | apply Lx.tup | apply Lx.agg | apply Lx.refl)) <;> (try with_reducible rfl))
    obtain rfl : q = l.length := by omega
    exact hc.symm
end Go.Proofs.Ytocppeifkjdeiaa.Mv

/- Graphs: plain. Under no condition. -/
namespace Go.Proofs.Ytocppeifkjdeiaa.Mv
open Go Go.Proofs
set_option linter.unusedSimpArgs false
set_option linter.unusedVariables false
set_option maxRecDepth 10000

/-! ### both tell the same of a graph -/
def rises (l : List Im) : Prop := ∀ i, 0 < i → i < l.length → (l.getD (i - 1) default).blk.toNat < (l.getD i default).blk.toNat
theorem rises_lt {l : List Im} (h : rises l) {i : Nat} : ∀ j, i < j → j < l.length → (l.getD i default).blk.toNat < (l.getD j default).blk.toNat
  | 0, hij, _ => by omega
  | j + 1, hij, hj => by
    have h1 := h (j + 1) (by omega) hj
    rw [Nat.add_sub_cancel] at h1
    by_cases e : i = j
    · subst e; exact h1
    · exact Nat.lt_trans (rises_lt h j (by omega) (by omega)) h1
theorem fnd_some_at {l : List Im} {b : B32} {q : Nat} (h : (fnd (l.take q) b).isSome = true) : ∃ i, i < q ∧ i < l.length ∧ (l.getD i default).blk = b := by
  obtain ⟨n, hn⟩ := Option.isSome_iff_exists.1 h
  obtain ⟨i, h1, h2, _⟩ := fnd_at hn
  rw [List.length_take] at h1
  have e : (l.take q).getD i default = l.getD i default := by
    rw [List.getD_eq_getElem?_getD, List.getD_eq_getElem?_getD, List.getElem?_take, if_pos (by omega)]
  rw [e] at h2
  exact ⟨i, by omega, by omega, h2⟩
theorem map_fnd {l : List Im} (h : rises l) (b : B32) : ∀ q, q ≤ l.length → mget (dmap (l.take q)) b.toNat = (fnd (l.take q) b).map fun n => (deepN n : Int)
  | 0, _ => rfl
  | q + 1, hq => by
    have ih := map_fnd h b q (by omega)
    rw [dmap_more (by omega), mget_put, ih, fnd_take (by omega)]
    by_cases e : (l.getD q default).blk = b
    · rw [if_pos (by rw [e]), if_pos e]
      rw [if_neg]
      · rfl
      · intro hs
        obtain ⟨i, i1, i2, i3⟩ := fnd_some_at hs
        have := rises_lt h q i1 (by omega)
        rw [i3, e] at this; omega
    · rw [if_neg (fun hh => e ((BitVec.eq_of_toNat_eq (by omega)).symm)), if_neg e]
      split
      · rfl
      · rename_i hs
        cases hf : fnd (l.take q) b with
        | none => rfl
        | some n => rw [hf] at hs; exact absurd rfl hs
theorem lead_eq {l : List Im} (h : rises l) (b : B32) (d : W16) : leadM (dmap l) b d = lead9 l b d := by
  have := map_fnd h b l.length (Nat.le_refl _)
  rw [List.take_length] at this
  unfold leadM lead9
  rw [this]
  cases fnd l b with
  | none => rfl
  | some n =>
    simp only [Option.map_some]
    by_cases e : deepN n = d.toNat
    · rw [decide_eq_true (show (deepN n : Int) = d.toNat by omega), decide_eq_true e, Bool.and_true, Bool.true_and]
      congr 1; apply propext; omega
    · rw [decide_eq_false (show ¬ (deepN n : Int) = d.toNat by omega), decide_eq_false e, Bool.and_false, Bool.false_and]
theorem right_eq (l : List Im) : rightL (leadM (dmap l)) l = rightL (lead9 l) l := by
  by_cases h : rises l
  · have e : leadM (dmap l) = lead9 l := by funext b d; exact lead_eq h b d
    rw [e]
  · unfold rises at h
    simp only [Classical.not_forall] at h
    obtain ⟨i, i0, i1, i2⟩ := h
    have hf : ∀ lead, okL lead l i = false := fun lead => by
      unfold okL
      rw [decide_eq_false (show ¬ i = 0 by omega), decide_eq_false i2]; rfl
    rw [right_fail i1 (hf _), right_fail i1 (hf _)]

/-! ### a graph that is right -/
theorem rt_at {l : List Im} (h : rightL (lead9 l) l = true) {i : Nat} (hi : i < l.length) : okL (lead9 l) l i = true := List.all_eq_true.1 h i (List.mem_range.2 hi)
theorem leaf_tg {n : Nd} (h : mayN n = 0) (hl : n.leaf = true) : tgN n = [] := by
  have ho := may_leaf h hl
  simp only [leafOk, Bool.and_eq_true, List.isEmpty_iff] at ho
  unfold tgN tgK tgM
  rw [ho.1.1.1.2, ho.1.1.2]; rfl
theorem rt_fnd {l : List Im} (h : rightL (lead9 l) l = true) {b : B32} {n : Nd} (hf : fnd l b = some n) : mayN n = 0 ∧ (n.kids.all fun e => lead9 l e.block e.deep) = true ∧ (n.buf.all fun m => m.kind != 3 || lead9 l m.block m.deep) = true := by
  obtain ⟨i, h1, _, h3⟩ := fnd_at hf
  have := rt_at h h1
  unfold okL at this
  rw [h3] at this
  simp only [Bool.and_eq_true, decide_eq_true_eq] at this
  exact this.2
theorem lead_inv {l : List Im} {b : B32} {d : W16} (h : lead9 l b d = true) : ∃ n, fnd l b = some n ∧ d.toNat < 65535 ∧ deepN n = d.toNat := by
  unfold lead9 at h
  cases hf : fnd l b with
  | none => rw [hf] at h; cases h
  | some n =>
    rw [hf] at h
    simp only [Bool.and_eq_true, decide_eq_true_eq] at h
    exact ⟨n, rfl, h.1, h.2⟩
theorem rt_tg {l : List Im} (h : rightL (lead9 l) l = true) {b : B32} {n : Nd} (hf : fnd l b = some n) {t : B32} (ht : t ∈ tgN n) : ∃ n', fnd l t = some n' ∧ deepN n' < deepN n := by
  obtain ⟨m0, hk, hb⟩ := rt_fnd h hf
  cases hl : n.leaf with
  | true => rw [leaf_tg m0 hl] at ht; cases ht
  | false =>
    have hd : deepN n = min (n.buf.foldl dpM (n.kids.foldl dpK 0)) 65534 + 1 := by unfold deepN; rw [if_neg (by rw [hl]; decide)]
    rcases List.mem_append.1 ht with h1 | h1
    · obtain ⟨e, he, rfl⟩ := List.mem_map.1 h1
      obtain ⟨n', f1, f2, f3⟩ := lead_inv (List.all_eq_true.1 hk e he)
      have g1 := (dpK_ge (l := n.kids) (d := 0)).2 e he
      have g2 := (dpM_ge (l := n.buf) (d := n.kids.foldl dpK 0)).1
      exact ⟨n', f1, by omega⟩
    · obtain ⟨m, hm, rfl⟩ := List.mem_map.1 h1
      obtain ⟨hm1, hm2⟩ := List.mem_filter.1 hm
      have h3 : m.kind = 3 := by simpa using hm2
      have := List.all_eq_true.1 hb m hm1
      rw [show (m.kind != 3) = false by rw [h3]; rfl, Bool.false_or] at this
      obtain ⟨n', f1, f2, f3⟩ := lead_inv this
      have g2 := (dpM_ge (l := n.buf) (d := n.kids.foldl dpK 0)).2 m hm1 h3
      exact ⟨n', f1, by omega⟩
/-! ### what a key leads to -/
theorem onW_key (b : B32) (d : W16) (s a k : L) : (onW b d s a k).key.length ≤ a.length + k.length := by
  unfold onW
  split
  · exact upS_len s a k
  · show ([] : L).length ≤ _
    simp
theorem at_mem {α : Type} [Inhabited α] {l : List α} (i : Nat) : l.getD i default ∈ l ∨ l.getD i default = default := by
  by_cases h : i < l.length
  · left; rw [List.getD_eq_getElem?_getD, List.getElem?_eq_getElem h]; exact List.getElem_mem _
  · right; rw [List.getD_eq_getElem?_getD, List.getElem?_eq_none (by omega)]; rfl
theorem step_key {n : Nd} (k : L) (h : mayN n = 0) : (stepN n k).key.length ≤ 16 + k.length := by
  rw [stepN, if_pos h]
  unfold leadN
  split
  · split <;> exact Nat.zero_le _
  · rename_i hl
    have hl : n.leaf = false := by simpa using hl
    have ho := (may_inner h hl).1
    simp only [innerOk, Bool.and_eq_true] at ho
    split
    · refine Nat.le_trans (onW_key _ _ _ _ _) (Nat.add_le_add_right ?_ _)
      rcases at_mem (l := n.kids) (kidL n k n.kids.length).toNat with hm | hm
      · have := List.all_eq_true.1 ho.1.1.2 _ hm
        simp only [edOk, Bool.and_eq_true, decide_eq_true_eq] at this
        exact this.2
      · rw [hm]; exact Nat.zero_le _
    · split
      · exact Nat.zero_le _
      · split
        · rename_i h3
          refine Nat.le_trans (onW_key _ _ _ _ _) (Nat.add_le_add_right ?_ _)
          rcases at_mem (l := n.buf) (lastI n.buf k n.buf.length).toNat with hm | hm
          · have := List.all_eq_true.1 ho.2 _ hm
            unfold msMay at this
            simp only [Bool.and_eq_true] at this
            have := this.2
            rw [h3] at this
            simp only [show ¬ (3 : UInt8) = 1 by decide, show ¬ (3 : UInt8) = 2 by decide, if_false, if_true, Bool.and_eq_true, decide_eq_true_eq] at this
            exact this.1.1
          · rw [hm]; exact Nat.zero_le _
        · exact Nat.zero_le _
/-! ### depths -/
theorem dpK_at {l : List Ed} : ∀ {d : Nat}, l.foldl dpK d = d ∨ ∃ e ∈ l, l.foldl dpK d = e.deep.toNat := by
  induction l with
  | nil => intro d; exact .inl rfl
  | cons e l ih =>
    intro d
    rw [List.foldl_cons]
    rcases ih (d := dpK d e) with h | ⟨x, hx, h⟩
    · rw [h]
      unfold dpK
      by_cases hh : d ≤ e.deep.toNat
      · exact .inr ⟨e, by simp, by omega⟩
      · exact .inl (by omega)
    · exact .inr ⟨x, by simp [hx], h⟩
theorem dpM_at {l : List Ms} : ∀ {d : Nat}, l.foldl dpM d = d ∨ ∃ m ∈ l, m.kind = 3 ∧ l.foldl dpM d = m.deep.toNat := by
  induction l with
  | nil => intro d; exact .inl rfl
  | cons e l ih =>
    intro d
    rw [List.foldl_cons]
    rcases ih (d := dpM d e) with h | ⟨x, hx, h3, h⟩
    · rw [h]
      unfold dpM
      split
      · rename_i h3
        by_cases hh : d ≤ e.deep.toNat
        · exact .inr ⟨e, by simp, h3, by omega⟩
        · exact .inl (by omega)
      · exact .inl rfl
    · exact .inr ⟨x, by simp [hx], h3, h⟩
/-- Beneath a node that is not the least deep one stands one that is less deep by one. -/
theorem deep_down {l : List Im} (h : rightL (lead9 l) l = true) {b : B32} {n : Nd} (hf : fnd l b = some n) (hd : 1 < deepN n) : ∃ t n', fnd l t = some n' ∧ deepN n' + 1 = deepN n := by
  obtain ⟨m0, hk, hb⟩ := rt_fnd h hf
  have hl : n.leaf = false := by
    cases hl : n.leaf with
    | true => unfold deepN at hd; rw [if_pos hl] at hd; omega
    | false => rfl
  have e : deepN n = min (n.buf.foldl dpM (n.kids.foldl dpK 0)) 65534 + 1 := by unfold deepN; rw [if_neg (by rw [hl]; decide)]
  have key : ∀ {t : B32} {d : W16}, lead9 l t d = true → n.buf.foldl dpM (n.kids.foldl dpK 0) = d.toNat → ∃ t n', fnd l t = some n' ∧ deepN n' + 1 = deepN n := fun hl1 hm => by
    obtain ⟨n', f1, f2, f3⟩ := lead_inv hl1
    exact ⟨_, n', f1, by omega⟩
  rcases dpM_at (l := n.buf) (d := n.kids.foldl dpK 0) with h1 | ⟨m, hm, h3, h1⟩
  · rcases dpK_at (l := n.kids) (d := 0) with h2 | ⟨x, hx, h2⟩
    · rw [h1, h2] at e; omega
    · exact key (List.all_eq_true.1 hk x hx) (by rw [h1, h2])
  · have := List.all_eq_true.1 hb m hm
    rw [show (m.kind != 3) = false by rw [h3]; rfl, Bool.false_or] at this
    exact key this h1
theorem deep_pos (n : Nd) : 1 ≤ deepN n := by
  unfold deepN; split <;> omega
theorem pigeon {α : Type} (f : α → Nat) : ∀ (d : Nat) (l : List α), (∀ k, 1 ≤ k → k ≤ d → ∃ x ∈ l, f x = k) → d ≤ l.length
  | 0, _, _ => Nat.zero_le _
  | d + 1, l, h => by
    have ih := pigeon f d (l.filter fun x => f x != d + 1) fun k h1 h2 => by
      obtain ⟨x, hx, e⟩ := h k h1 (by omega)
      exact ⟨x, List.mem_filter.2 ⟨hx, by rw [e]; simp; omega⟩, e⟩
    obtain ⟨x, hx, e⟩ := h (d + 1) (by omega) (Nat.le_refl _)
    have : (l.filter fun x => f x != d + 1).length < l.length := List.length_filter_lt_length_iff_exists.2 ⟨x, hx, by rw [e]; simp⟩
    omega
theorem deep_len {l : List Im} (h : rightL (lead9 l) l = true) {b : B32} {n : Nd} (hf : fnd l b = some n) : deepN n ≤ l.length := by
  have all : ∀ (j : Nat) {b : B32} {n : Nd}, fnd l b = some n → deepN n = j → ∀ k, 1 ≤ k → k ≤ j → ∃ x ∈ l, deepN x.nd = k := fun j => by
    induction j with
    | zero => intro b n _ _ k h1 h2; omega
    | succ j ih =>
      intro b n hf hd k h1 h2
      by_cases e : k = j + 1
      · obtain ⟨i, i1, _, i3⟩ := fnd_at hf
        have hm : l.getD i default ∈ l := by rw [List.getD_eq_getElem?_getD, List.getElem?_eq_getElem i1]; exact List.getElem_mem _
        exact ⟨_, hm, by rw [i3, hd, e]⟩
      · obtain ⟨t, n', f1, f2⟩ := deep_down h hf (by omega)
        exact ih f1 (by omega) k h1 (by omega)
  exact pigeon (fun x : Im => deepN x.nd) _ l (all _ hf rfl)
/-! ### a key's value -/
def getN (l : List Im) : Nat → B32 → L → L × Bool
  | 0, _, _ => ([], false)
  | f + 1, b, k => match fnd l b with
    | none => ([], false)
    | some n => if (stepN n k).kind = 2 then getN l f (stepN n k).block (stepN n k).key else ((stepN n k).val, (stepN n k).kind == 1)
def get10 (l : List Im) (b : B32) (k : L) : L × Bool := if rightL (lead9 l) l = true then getN l (l.length + 1) b k else ([], false)
/-- Deep enough to go on. -/
def fuel (l : List Im) (b : B32) (f : Nat) : Prop := ∀ n, fnd l b = some n → deepN n < f
theorem fuel_top {l : List Im} (h : rightL (lead9 l) l = true) (b : B32) : fuel l b (l.length + 1) := fun n hn => by
  have := deep_len h hn; omega
theorem fuel_down {l : List Im} (h : rightL (lead9 l) l = true) {b t : B32} {n : Nd} {f : Nat} (hf : fuel l b (f + 1)) (hn : fnd l b = some n) (ht : t ∈ tgN n) : fuel l t f := fun n' hn' => by
  obtain ⟨n2, h1, h2⟩ := rt_tg h hn ht
  rw [hn'] at h1; cases h1
  have := hf n hn; omega
theorem fuel_0 {l : List Im} {b : B32} (hf : fuel l b 0) : fnd l b = none := by
  cases h : fnd l b with
  | none => rfl
  | some n => have := hf n h; omega
end Go.Proofs.Ytocppeifkjdeiaa.Mv

/- Graphs: a key's value. Under no condition. -/
namespace Go.Proofs.Ytocppeifkjdeiaa.Mv
open Go Go.Proofs
set_option linter.unusedSimpArgs false
set_option linter.unusedVariables false
set_option maxRecDepth 10000
set_option maxHeartbeats 4000000
attribute [local irreducible] AW AO AR

theorem k2w (a : UInt8) : ((a.toNat : Int) = 2) = (a = 2) := k2 a
theorem gGetP (l : List Im) (hl : Ims l) (b : B32) (k : L) (h1 : l.length ≤ 1000) (h2 : k.length ≤ 800000) : Good Try.prog 46 [.sh 6 (l.map Im.av), .i .u32 b.toNat, .s k] [] (.tup [.s (get10 l b k).1, .b (get10 l b k).2]) [] := by
  have gR := gRightP l hl
  rw [right_eq] at gR
  unfold get10
  cases hr : rightL (lead9 l) l with
  | false =>
    rw [hr] at gR
    rw [if_neg (by decide)]
    refine Good.w tabOk mixed Try.func46 (N := 37) (by kernel_rfl) rfl (by (repeat (first | exact LE.nil | apply LE.cons)); done) (by (repeat (first | exact LE.nil | apply LE.cons)); done) fun D hD F => ?_
    repeat' (first
    | apply AO.nil
    | (apply AO.kCall 81; refine AO.sCall (hg := gR) (h := ?_))
    | (apply AO.kAlloc; refine AO.sAlloc (h := ?_))
    | (apply AO.kStore; first | refine AO.sStore (h := ?_) | refine AO.sStB (h := ?_))
    | (apply AO.kP; first | refine AO.sP (h := ?_) | refine AO.sPi (h := ?_) | refine AO.sLoadB (h := ?_))
    | apply AW.seq
    | (apply AW.kR; refine AW.sR (h := ?_))
    | apply AW.skip
    | apply AW.block
    | apply AW.out
    | (apply AW.kE; refine AW.sE (h := ?_))
    | apply AW.label
    | (apply AW.kRd; refine AW.sRd (h := ?_))
    | ((first | (apply AW.kC; refine AW.sC (h1 := fun h => ?_) (h2 := fun h => ?_))) <;> (try (first | exact Bool.noConfusion h | exact absurd h (by decide) | (simp at h; done) | (rw [h]; try simp only [nrm] at h; try rw [h]; try (exfalso; omega)) | skip)))
    | (apply AR.kAny; first | (apply AR.kCall 81; refine AR.sCall (hg := gR) (h := ?_)) | (apply AR.kAlloc; refine AR.sAlloc (h := ?_)) | (apply AR.kStore; refine AR.sStore (h := ?_)) | (apply AR.kP; first | refine AR.sP (h := ?_) | refine AR.sPi (h := ?_)))
    | (apply AR.kNil; refine AR.sNil (h := ?_)))
    exact AW.ret (hD rfl .refl)
  | true =>
    rw [hr] at gR
    rw [if_pos rfl]
    refine Good.w tabOk mixed Try.func46 (N := 37) (by kernel_rfl) rfl (by (repeat (first | exact LE.nil | apply LE.cons)); done) (by (repeat (first | exact LE.nil | apply LE.cons)); done) fun D hD F => ?_
    repeat' (first
    | apply AO.nil
    | (apply AO.kCall 81; refine AO.sCall (hg := gR) (h := ?_))
    | (apply AO.kAlloc; refine AO.sAlloc (h := ?_))
    | (apply AO.kStore; first | refine AO.sStore (h := ?_) | refine AO.sStB (h := ?_))
    | (apply AO.kP; first | refine AO.sP (h := ?_) | refine AO.sPi (h := ?_) | refine AO.sLoadB (h := ?_))
    | apply AW.seq
    | (apply AW.kR; refine AW.sR (h := ?_))
    | apply AW.skip
    | apply AW.block
    | apply AW.out
    | (apply AW.kE; refine AW.sE (h := ?_))
    | apply AW.label
    | (apply AW.kRd; refine AW.sRd (h := ?_))
    | ((first | (apply AW.kC; refine AW.sC (h1 := fun h => ?_) (h2 := fun h => ?_))) <;> (try (first | exact Bool.noConfusion h | exact absurd h (by decide) | (simp at h; done) | (rw [h]; try simp only [nrm] at h; try rw [h]; try (exfalso; omega)) | skip)))
    | (apply AR.kAny; first | (apply AR.kCall 81; refine AR.sCall (hg := gR) (h := ?_)) | (apply AR.kAlloc; refine AR.sAlloc (h := ?_)) | (apply AR.kStore; refine AR.sStore (h := ?_)) | (apply AR.kP; first | refine AR.sP (h := ?_) | refine AR.sPi (h := ?_)))
    | (apply AR.kNil; refine AR.sNil (h := ?_)))
    refine AW.loopI (fun x : Nat × B32 × L => fuel l x.2.1 x.1 ∧ x.2.2.length + 16 * x.1 ≤ 900000 ∧ getN l x.1 x.2.1 x.2.2 = getN l (l.length + 1) b k) (fun x => ⟨[(0, .sh 6 (l.map Im.av)), (1, .i .u32 x.2.1.toNat), (2, .s x.2.2)], []⟩) (fun x => x.1) (l.length + 1, b, k) ⟨fuel_top hr b, by dsimp only; omega, rfl⟩ (by (constructor <;> (repeat' (first | exact LeT.nil | exact LeB.nil | apply LeT.cons | apply LeB.cons | exact Ol.refl | apply Lx.s | apply Lx.b | apply Lx.i | exact Lx.refl)) <;> (first | rfl | assumption | omega | (simp only [List.length_map, BS_len]; done) | skip))) fun m x hx ih => ?_
    obtain ⟨f, t, q⟩ := x
    obtain ⟨x1, x2, x3⟩ := hx
    dsimp only at x1 x2 x3 ih ⊢
    have gF := gFindG l t hl.len hl.small
    cases hn : fnd l t with
    | none =>
      rw [hn] at gF
      have e : getN l f t q = ([], false) := by cases f <;> simp [getN, hn]
      rw [e] at x3
      rw [← x3] at hD
      repeat' (first
    | apply AO.nil
    | (apply AO.kCall 82; refine AO.sCall (hg := gF) (h := ?_))
    | (apply AO.kAlloc; refine AO.sAlloc (h := ?_))
    | (apply AO.kStore; first | refine AO.sStore (h := ?_) | refine AO.sStB (h := ?_))
    | (apply AO.kP; first | refine AO.sP (h := ?_) | refine AO.sPi (h := ?_) | refine AO.sLoadB (h := ?_))
    | apply AW.seq
    | (apply AW.kR; refine AW.sR (h := ?_))
    | apply AW.skip
    | apply AW.block
    | apply AW.out
    | (apply AW.kE; refine AW.sE (h := ?_))
    | apply AW.label
    | (apply AW.kRd; refine AW.sRd (h := ?_))
    | ((first | (apply AW.kC; refine AW.sC (h1 := fun h => ?_) (h2 := fun h => ?_))) <;> (try (first | exact Bool.noConfusion h | exact absurd h (by decide) | (simp at h; done) | (rw [h]; try simp only [nrm] at h; try rw [h]; try (exfalso; omega)) | skip)))
    | (apply AR.kAny; first | (apply AR.kCall 82; refine AR.sCall (hg := gF) (h := ?_)) | (apply AR.kAlloc; refine AR.sAlloc (h := ?_)) | (apply AR.kStore; refine AR.sStore (h := ?_)) | (apply AR.kP; first | refine AR.sP (h := ?_) | refine AR.sPi (h := ?_)))
    | (apply AR.kNil; refine AR.sNil (h := ?_)))
      all_goals first
        | exact AW.ret (hD rfl .refl)
        | (exfalso; simp at h; done)
        | skip
    | some n =>
      rw [hn] at gF
      have gF : Good Try.prog 82 [.sh 6 (l.map Im.av), .i .u32 t.toNat] [] (.tup [.agg n.av, .b true]) [] := gF
      cases f with
      | zero => rw [fuel_0 x1] at hn; cases hn
      | succ f =>
        have e : getN l (f + 1) t q = if (stepN n q).kind = 2 then getN l f (stepN n q).block (stepN n q).key else ((stepN n q).val, (stepN n q).kind == 1) := by rw [getN, hn]
        rw [e] at x3
        have m0 := (rt_fnd hr hn).1
        have gS := gStep n q (hl.fnd hn) (may_strs m0) (by omega)
        have lk := step_key q m0
        by_cases h2 : (stepN n q).kind = 2
        · rw [if_pos h2] at x3
          have fd := fuel_down hr x1 hn (step_two h2).1
          generalize stepN n q = w at *
          repeat' (first
    | apply AO.nil
    | (apply AO.kCall 82; refine AO.sCall (hg := gF) (h := ?_))
    | (apply AO.kCall 83; refine AO.sCall (hg := gS) (h := ?_))
    | (apply AO.kAlloc; refine AO.sAlloc (h := ?_))
    | (apply AO.kStore; first | refine AO.sStore (h := ?_) | refine AO.sStB (h := ?_))
    | (apply AO.kP; first | refine AO.sP (h := ?_) | refine AO.sPi (h := ?_) | refine AO.sLoadB (h := ?_))
    | apply AW.seq
    | (apply AW.kR; refine AW.sR (h := ?_))
    | apply AW.skip
    | apply AW.block
    | apply AW.out
    | (apply AW.kE; refine AW.sE (h := ?_))
    | apply AW.label
    | (apply AW.kRd; refine AW.sRd (h := ?_))
    | ((first | (apply AW.kC; refine AW.sC (h1 := fun h => ?_) (h2 := fun h => ?_))) <;> (try (first | exact Bool.noConfusion h | exact absurd h (by decide) | (simp at h; done) | (rw [h]; try simp only [nrm] at h; try rw [h]; try (exfalso; omega)) | skip)))
    | (apply AR.kAny; first | (apply AR.kCall 82; refine AR.sCall (hg := gF) (h := ?_)) | (apply AR.kCall 83; refine AR.sCall (hg := gS) (h := ?_)) | (apply AR.kAlloc; refine AR.sAlloc (h := ?_)) | (apply AR.kStore; refine AR.sStore (h := ?_)) | (apply AR.kP; first | refine AR.sP (h := ?_) | refine AR.sPi (h := ?_)))
    | (apply AR.kNil; refine AR.sNil (h := ?_)))
          all_goals first
            | exact ih (f, w.block, w.key) _ ⟨fd, by dsimp only; omega, x3⟩ (by dsimp only; omega) (by (constructor <;> (repeat' (first | exact LeT.nil | exact LeB.nil | apply LeT.cons | apply LeB.cons | exact Ol.refl | apply Lx.s | apply Lx.b | apply Lx.i | exact Lx.refl)) <;> (first | rfl | assumption | omega | (simp only [List.length_map, BS_len]; done) | skip)))
            | (exfalso; simp [h2] at h; done)
            | trace_state
        · rw [if_neg h2] at x3
          rw [← x3] at hD
          generalize stepN n q = w at *
          repeat' (first
    | apply AO.nil
    | (apply AO.kCall 82; refine AO.sCall (hg := gF) (h := ?_))
    | (apply AO.kCall 83; refine AO.sCall (hg := gS) (h := ?_))
    | (apply AO.kAlloc; refine AO.sAlloc (h := ?_))
    | (apply AO.kStore; first | refine AO.sStore (h := ?_) | refine AO.sStB (h := ?_))
    | (apply AO.kP; first | refine AO.sP (h := ?_) | refine AO.sPi (h := ?_) | refine AO.sLoadB (h := ?_))
    | apply AW.seq
    | (apply AW.kR; refine AW.sR (h := ?_))
    | apply AW.skip
    | apply AW.block
    | apply AW.out
    | (apply AW.kE; refine AW.sE (h := ?_))
    | apply AW.label
    | (apply AW.kRd; refine AW.sRd (h := ?_))
    | ((first | (apply AW.kC; refine AW.sC (h1 := fun h => ?_) (h2 := fun h => ?_))) <;> (try (first | exact Bool.noConfusion h | exact absurd h (by decide) | (simp at h; done) | (rw [h]; try simp only [nrm] at h; try rw [h]; try (exfalso; omega)) | skip)))
    | (apply AR.kAny; first | (apply AR.kCall 82; refine AR.sCall (hg := gF) (h := ?_)) | (apply AR.kCall 83; refine AR.sCall (hg := gS) (h := ?_)) | (apply AR.kAlloc; refine AR.sAlloc (h := ?_)) | (apply AR.kStore; refine AR.sStore (h := ?_)) | (apply AR.kP; first | refine AR.sP (h := ?_) | refine AR.sPi (h := ?_)))
    | (apply AR.kNil; refine AR.sNil (h := ?_)))
          all_goals first
            | (refine AW.ret (hD rfl (.tup (.cons .refl (.cons (Lx.b ?_) .nil))))
               rw [Bool.eq_iff_iff]; simp only [beq_iff_eq]; rw [k1])
            | (exfalso; have h' : ¬ ((w.kind.toNat : Int) != 2) = true := by simpa using h
               simp only [bne_iff_ne, ne_eq, Classical.not_not, k2w] at h'; exact h2 h')
            | trace_state
end Go.Proofs.Ytocppeifkjdeiaa.Mv

/- Graphs: how many ways, plain. Under no condition. -/
namespace Go.Proofs.Ytocppeifkjdeiaa.Mv
open Go Go.Proofs
set_option linter.unusedSimpArgs false
set_option linter.unusedVariables false
set_option maxRecDepth 10000

def capW : Int := 1073741824
def plus (s x : Int) : Int := min (s + x) 1073741824
def wy (l : List Im) : Nat → B32 → Int
  | 0, _ => 0
  | f + 1, b => match fnd l b with
    | none => 0
    | some n => (tgN n).foldl (fun s t => plus s (wy l f t)) 1
/-- How many nodes are gone through. -/
def wW (l : List Im) (b : B32) : Int := wy l (l.length + 1) b
theorem foldl_same {α β : Type} {f g : β → α → β} : ∀ {ts : List α} {s : β}, (∀ s, ∀ t ∈ ts, f s t = g s t) → ts.foldl f s = ts.foldl g s
  | [], s, _ => rfl
  | t :: ts, s, h => by
    rw [List.foldl_cons, List.foldl_cons, h s t (by simp)]
    exact foldl_same fun s x hx => h s x (by simp [hx])
theorem wy_fuel {l : List Im} (h : rightL (lead9 l) l = true) : ∀ (f g : Nat) (b : B32), fuel l b f → fuel l b g → wy l f b = wy l g b
  | 0, 0, _, _, _ => rfl
  | 0, g + 1, b, hf, hg => by rw [wy, wy, fuel_0 hf]
  | f + 1, 0, b, hf, hg => by rw [wy, wy, fuel_0 hg]
  | f + 1, g + 1, b, hf, hg => by
    rw [wy, wy]
    cases hn : fnd l b with
    | none => rfl
    | some n => exact foldl_same fun s t ht => by rw [wy_fuel h f g t (fuel_down h hf hn ht) (fuel_down h hg hn ht)]
theorem wW_eq {l : List Im} (h : rightL (lead9 l) l = true) {b : B32} {n : Nd} (hn : fnd l b = some n) : wW l b = (tgN n).foldl (fun s t => plus s (wW l t)) 1 := by
  have e : wW l b = (tgN n).foldl (fun s t => plus s (wy l l.length t)) 1 := by rw [wW, wy, hn]
  rw [e]
  exact foldl_same fun s t ht => by
    rw [wW, wy_fuel h l.length (l.length + 1) t (fuel_down h (fuel_top h b) hn ht) (fuel_top h t)]
theorem wW_no {l : List Im} {b : B32} (hn : fnd l b = none) : wW l b = 0 := by rw [wW, wy, hn]
theorem plus_ok {s x : Int} (h1 : 0 ≤ s) (h2 : 0 ≤ x) : 0 ≤ plus s x ∧ plus s x ≤ 1073741824 := by unfold plus; omega
theorem fold_ok {α : Type} {w : α → Int} (hw : ∀ t, 0 ≤ w t) : ∀ (ts : List α) (s : Int), 0 ≤ s → s ≤ 1073741824 → 0 ≤ ts.foldl (fun s t => plus s (w t)) s ∧ ts.foldl (fun s t => plus s (w t)) s ≤ 1073741824
  | [], s, h1, h2 => ⟨h1, h2⟩
  | t :: ts, s, h1, h2 => by
    have := plus_ok h1 (hw t)
    exact fold_ok hw ts _ this.1 this.2
theorem wy_ok (l : List Im) : ∀ (f : Nat) (b : B32), 0 ≤ wy l f b ∧ wy l f b ≤ 1073741824
  | 0, _ => by rw [wy]; omega
  | f + 1, b => by
    rw [wy]
    split
    · omega
    · exact fold_ok (fun t => (wy_ok l f t).1) _ 1 (by omega) (by omega)
theorem wW_ok (l : List Im) (b : B32) : 0 ≤ wW l b ∧ wW l b ≤ 1073741824 := wy_ok l _ b
/-! ### with a map -/
def stM (g : B32 → List (Int × Int) → Int × List (Int × Int)) (x : Int × List (Int × Int)) (t : B32) : Int × List (Int × Int) := (plus x.1 (g t x.2).1, (g t x.2).2)
def wyM (l : List Im) : Nat → B32 → List (Int × Int) → Int × List (Int × Int)
  | 0, b, M => match mget M b.toNat with
    | some v => (v, M)
    | none => (0, M)
  | f + 1, b, M => match mget M b.toNat with
    | some v => (v, M)
    | none => match fnd l b with
      | none => (0, M)
      | some n => (((tgN n).foldl (stM (wyM l f)) (1, M)).1, mput ((tgN n).foldl (stM (wyM l f)) (1, M)).2 b.toNat ((tgN n).foldl (stM (wyM l f)) (1, M)).1)
def goodM (l : List Im) (M : List (Int × Int)) : Prop := ∀ (b : B32) v, mget M b.toNat = some v → v = wW l b
/-! ### by depth -/
def rfv (r : B32 × Int) : List AV := [.i .u32 (r.1.toNat : Int), .i .u32 r.2]
def stD (t : B32) (s : Int) (r : B32 × Int) : Int := if r.1 = t then plus s r.2 else s
structure invD (l : List Im) (dn : List (B32 × Int)) (d i : Nat) : Prop where
  A : ∀ r ∈ dn, ∃ j, j < l.length ∧ r = ((l.getD j default).blk, wW l (l.getD j default).blk) ∧ (deepN (l.getD j default).nd < d ∨ deepN (l.getD j default).nd = d ∧ j < i)
  B : ∀ j, j < l.length → (deepN (l.getD j default).nd < d ∨ deepN (l.getD j default).nd = d ∧ j < i) → ((l.getD j default).blk, wW l (l.getD j default).blk) ∈ dn
  C : (dn.map (·.1)).Nodup
theorem inv_0 (l : List Im) : invD l [] 1 0 := ⟨fun r hr => (by cases hr), fun j _ h => (by
    have := deep_pos (l.getD j default).nd
    omega), List.nodup_nil⟩
theorem inv_no {l dn d i} (h : invD l dn d i) (hd : deepN (l.getD i default).nd ≠ d) : invD l dn d (i + 1) := ⟨fun r hr => by
    obtain ⟨j, h1, h2, h3⟩ := h.A r hr
    exact ⟨j, h1, h2, by omega⟩, fun j hj hh => by
    refine h.B j hj ?_
    rcases hh with hh | ⟨h1, h2⟩
    · exact .inl hh
    · refine .inr ⟨h1, ?_⟩
      by_cases e : j = i
      · subst e; exact absurd h1 hd
      · omega, h.C⟩
theorem inv_yes {l dn d i} (h : invD l dn d i) (hr : rises l) (hi : i < l.length) (hd : deepN (l.getD i default).nd = d) : invD l (dn ++ [((l.getD i default).blk, wW l (l.getD i default).blk)]) d (i + 1) := by
  refine ⟨fun r hr => ?_, fun j hj hh => ?_, ?_⟩
  · rcases List.mem_append.1 hr with hr | hr
    · obtain ⟨j, h1, h2, h3⟩ := h.A r hr
      exact ⟨j, h1, h2, by omega⟩
    · exact ⟨i, hi, List.mem_singleton.1 hr, .inr ⟨hd, by omega⟩⟩
  · by_cases e : j = i
    · subst e; simp
    · exact List.mem_append.2 (.inl (h.B j hj (by omega)))
  · rw [List.map_append, List.nodup_append]
    refine ⟨h.C, by simp, fun a ha b hb => ?_⟩
    obtain ⟨r, hr', rfl⟩ := List.mem_map.1 ha
    simp only [List.map_cons, List.map_nil, List.mem_singleton] at hb
    subst hb
    obtain ⟨j, h1, h2, h3⟩ := h.A r hr'
    rw [h2]
    dsimp only
    intro e
    by_cases hji : j = i
    · subst hji; omega
    · rcases Nat.lt_or_gt_of_ne hji with g | g
      · have := rises_lt hr i g hi; rw [e] at this; omega
      · have := rises_lt hr j g h1; rw [e] at this; omega
theorem inv_round {l dn d} (h : invD l dn d l.length) : invD l dn (d + 1) 0 := ⟨fun r hr => by
    obtain ⟨j, h1, h2, h3⟩ := h.A r hr
    exact ⟨j, h1, h2, by omega⟩, fun j hj hh => h.B j hj (by omega), h.C⟩
theorem filt_one {t : B32} {v : Int} : ∀ {dn : List (B32 × Int)}, (dn.map (·.1)).Nodup → (t, v) ∈ dn → ∀ s, dn.foldl (stD t) s = plus s v
  | [], _, h, _ => by cases h
  | r :: dn, hn, h, s => by
    rw [List.map_cons, List.nodup_cons] at hn
    have none : ∀ {dn : List (B32 × Int)}, t ∉ dn.map (·.1) → ∀ s, dn.foldl (stD t) s = s := fun {dn} => by
      induction dn with
      | nil => intro _ s; rfl
      | cons x dn ih =>
        intro hx s
        rw [List.map_cons, List.mem_cons, not_or] at hx
        rw [List.foldl_cons, stD, if_neg (fun e => hx.1 e.symm)]
        exact ih hx.2 s
    rw [List.foldl_cons]
    rcases List.mem_cons.1 h with e | h
    · subst e
      rw [stD, if_pos rfl]
      exact none hn.1 _
    · have : r.1 ≠ t := fun e => hn.1 (e ▸ List.mem_map.2 ⟨_, h, rfl⟩)
      rw [stD, if_neg this]
      exact filt_one hn.2 h s
theorem rises_of {l : List Im} (h : rightL (lead9 l) l = true) : rises l := fun i i0 i1 => by
  have := rt_at h i1
  unfold okL at this
  simp only [Bool.and_eq_true, Bool.or_eq_true, decide_eq_true_eq] at this
  rcases this.1 with e | e
  · omega
  · exact e
theorem fnd_of {l : List Im} (h : rises l) {i : Nat} (hi : i < l.length) : fnd l (l.getD i default).blk = some (l.getD i default).nd := by
  cases hf : fnd (l.take i) (l.getD i default).blk with
  | none => exact fnd_yes hi hf rfl
  | some n =>
    obtain ⟨j, j1, j2, j3⟩ := fnd_some_at (l := l) (b := (l.getD i default).blk) (q := i) (by rw [hf]; rfl)
    have := rises_lt h i j1 hi
    rw [j3] at this; omega
/-- What the done ones add for a target. -/
theorem fold_tg {l dn d i} (h : invD l dn d i) (hr : rightL (lead9 l) l = true) (hi : i < l.length) (hd : deepN (l.getD i default).nd = d) {t : B32} (ht : t ∈ tgN (l.getD i default).nd) (s : Int) : dn.foldl (stD t) s = plus s (wW l t) := by
  have hf := fnd_of (rises_of hr) hi
  obtain ⟨n', f1, f2⟩ := rt_tg hr hf ht
  obtain ⟨j, j1, j2, j3⟩ := fnd_at f1
  have hb := h.B j j1 (.inl (by rw [j3]; omega))
  rw [j2] at hb
  exact filt_one h.C hb s
/-- The first one of a block. -/
def lookD : List (B32 × Int) → B32 → Int
  | [], _ => 0
  | r :: dn, b => if r.1 = b then r.2 else lookD dn b
theorem lookD_in {b : B32} {v : Int} : ∀ {dn : List (B32 × Int)}, (dn.map (·.1)).Nodup → (b, v) ∈ dn → lookD dn b = v
  | [], _, h => by cases h
  | r :: dn, hn, h => by
    rw [List.map_cons, List.nodup_cons] at hn
    rw [lookD]
    rcases List.mem_cons.1 h with e | h
    · subst e; rw [if_pos rfl]
    · rw [if_neg (fun e : r.1 = b => hn.1 (by rw [e]; exact List.mem_map.2 ⟨_, h, rfl⟩))]
      exact lookD_in hn.2 h
theorem lookD_no {b : B32} : ∀ {dn : List (B32 × Int)}, (∀ r ∈ dn, r.1 ≠ b) → lookD dn b = 0
  | [], _ => rfl
  | r :: dn, h => by
    rw [lookD, if_neg (h r (by simp))]
    exact lookD_no fun x hx => h x (by simp [hx])
theorem lookD_all {l dn d} (h : invD l dn d 0) (hr : rightL (lead9 l) l = true) (hd : l.length < d) (b : B32) : lookD dn b = wW l b := by
  cases hf : fnd l b with
  | none =>
    rw [wW_no hf]
    refine lookD_no fun r hr' e => ?_
    obtain ⟨j, j1, j2, _⟩ := h.A r hr'
    have := fnd_of (rises_of hr) j1
    rw [j2] at e
    dsimp only at e
    rw [e, hf] at this; cases this
  | some n =>
    obtain ⟨j, j1, j2, j3⟩ := fnd_at hf
    have hb := h.B j j1 (.inl (by have := deep_len hr hf; rw [j3]; omega))
    rw [j2] at hb
    exact lookD_in h.C hb
end Go.Proofs.Ytocppeifkjdeiaa.Mv

/- Graphs: how many ways, by the program. Under no condition. -/
namespace Go.Proofs.Ytocppeifkjdeiaa.Mv
open Go Go.Proofs
set_option linter.unusedSimpArgs false
set_option linter.unusedVariables false
set_option maxRecDepth 10000
set_option maxHeartbeats 4000000
attribute [local irreducible] AW AO AR

abbrev wysC : AV := .clo 86 [.ptr 1000000 0, .ptr 1000001 0, .ptr 1000002 0]
abbrev wysO (l : List Im) (M : List (Int × Int)) : List (Nat × Ob) := [(1000000, .bx [.mpv 1000003]), (1000001, .bx [.sh 6 (l.map Im.av)]), (1000002, .bx [wysC]), (1000003, .mp .u32 .i64 M)]
theorem mem_at' {α : Type} [Inhabited α] {l : List α} {i : Nat} (h : i < l.length) : l.getD i default ∈ l := by
  rw [List.getD_eq_getElem?_getD, List.getElem?_eq_getElem h]; exact List.getElem_mem _
end Go.Proofs.Ytocppeifkjdeiaa.Mv

/- Graphs: how many ways, by the document. Under no condition. -/
namespace Go.Proofs.Ytocppeifkjdeiaa.Mv
open Go Go.Proofs
set_option linter.unusedSimpArgs false
set_option linter.unusedVariables false
set_option maxRecDepth 10000
set_option maxHeartbeats 4000000
attribute [local irreducible] AW AO AR

theorem wrapI {x : Int} (h1 : 0 ≤ x) (h2 : x ≤ 1073741824) : IntKind.wrap .i64 x = x := by
  obtain ⟨n, rfl⟩ : ∃ n : Nat, x = n := ⟨x.toNat, by omega⟩
  exact wrap64 (by omega)
theorem wrapU {x : Int} (h1 : 0 ≤ x) (h2 : x ≤ 1073741824) : IntKind.wrap .u32 x = x := by
  simp only [IntKind.wrap, IntKind.bits, IntKind.signed, Bool.false_and, Bool.false_eq_true, if_false]
  omega
theorem take_more {α : Type} [Inhabited α] {β : Type} {l : List α} {q : Nat} (h : q < l.length) (f : β → α → β) (s : β) : (l.take (q + 1)).foldl f s = f ((l.take q).foldl f s) (l.getD q default) := by
  rw [takeD h, List.foldl_append]; rfl
theorem gWaysR (l : List Im) (hl : Ims l) (b : B32) (h1000 : l.length ≤ 1000) : Good Try.prog 49 [.sh 6 (l.map Im.av), .i .u32 b.toNat] [] (.i .i64 (if rightL (lead9 l) l = true then wW l b else 0)) [] := by
  have gR := gRight' l hl
  cases hr : rightL (lead9 l) l with
  | false =>
    rw [hr] at gR
    rw [if_neg (by decide)]
    refine Good.w tabOk mixed Try.func49 (N := 105) (by kernel_rfl) rfl (by (repeat (first | exact LE.nil | apply LE.cons)); done) (by (repeat (first | exact LE.nil | apply LE.cons)); done) fun D hD F => ?_
    repeat' (first
    | apply AO.nil
    | (apply AO.kCall 85; refine AO.sCall (hg := gR) (h := ?_))
    | (apply AO.kBuildS; first | refine AO.sBuildT (h := ?_) | refine AO.sBuildS (h := ?_))
    | (apply AO.kApp; first | refine AO.sGrowT (h := ?_) | refine AO.sNewT (h := ?_) | refine AO.sGrowBT (h := ?_) | refine AO.sGrow (h := ?_) | refine AO.sNewr (h := ?_))
    | (apply AO.kIx; first | refine AO.sIxN (h := ?_) | refine AO.sIx (h := ?_) | refine AO.sP (h := ?_) | refine AO.sPi (h := ?_))
    | (apply AO.kAdd; refine AO.sAdd (h := ?_))
    | (apply AO.kCv; first | refine AO.sBytes (h := ?_) | refine AO.sStr (h := ?_) | refine AO.sStrR (h := ?_))
    | (apply AO.kP; first | refine AO.sP (h := ?_) | refine AO.sPi (h := ?_) | refine AO.sLoadB (h := ?_) | refine AO.sSameB (h := ?_))
    | apply AW.seq
    | (apply AW.kR; refine AW.sR (h := ?_))
    | apply AW.skip
    | apply AW.block
    | apply AW.out
    | (apply AW.kE; refine AW.sE (h := ?_))
    | apply AW.label
    | (apply AW.kRd; refine AW.sRd (h := ?_))
    | ((first | (apply AW.kC; refine AW.sC (h1 := fun h => ?_) (h2 := fun h => ?_))) <;> (try (first | exact Bool.noConfusion h | exact absurd h (by decide) | (simp at h; done) | (rw [h]; try simp only [nrm] at h; try rw [h]; try (exfalso; omega)) | skip)))
    | (apply AR.kAny; first | (apply AR.kCall 85; refine AR.sCall (hg := gR) (h := ?_)) | (apply AR.kBuildS; first | refine AR.sBuildT (h := ?_) | refine AR.sBuildS (h := ?_)) | (apply AR.kApp; first | refine AR.sGrowT (h := ?_) | refine AR.sNewT (h := ?_) | refine AR.sGrowBT (h := ?_) | refine AR.sGrow (h := ?_) | refine AR.sNewr (h := ?_)) | (apply AR.kIx; first | refine AR.sIxN (h := ?_) | refine AR.sIx (h := ?_) | refine AR.sP (h := ?_) | refine AR.sPi (h := ?_)) | (apply AR.kAdd; refine AR.sAdd (h := ?_)) | (apply AR.kCv; refine AR.sStrR (h := ?_)) | (apply AR.kP; first | refine AR.sP (h := ?_) | refine AR.sPi (h := ?_)))
    | (apply AR.kNil; refine AR.sNil (h := ?_)))
    exact AW.ret (hD rfl .refl)
  | true =>
    rw [hr] at gR
    rw [if_pos rfl]
    have hri := rises_of hr
    have ll : (l.map Im.av).length = l.length := by simp
    refine Good.w tabOk mixed Try.func49 (N := 105) (by kernel_rfl) rfl (by (repeat (first | exact LE.nil | apply LE.cons)); done) (by (repeat (first | exact LE.nil | apply LE.cons)); done) fun D hD F => ?_
    repeat' (first
    | apply AO.nil
    | (apply AO.kCall 85; refine AO.sCall (hg := gR) (h := ?_))
    | (apply AO.kBuildS; first | refine AO.sBuildT (h := ?_) | refine AO.sBuildS (h := ?_))
    | (apply AO.kApp; first | refine AO.sGrowT (h := ?_) | refine AO.sNewT (h := ?_) | refine AO.sGrowBT (h := ?_) | refine AO.sGrow (h := ?_) | refine AO.sNewr (h := ?_))
    | (apply AO.kIx; first | refine AO.sIxN (h := ?_) | refine AO.sIx (h := ?_) | refine AO.sP (h := ?_) | refine AO.sPi (h := ?_))
    | (apply AO.kAdd; refine AO.sAdd (h := ?_))
    | (apply AO.kCv; first | refine AO.sBytes (h := ?_) | refine AO.sStr (h := ?_) | refine AO.sStrR (h := ?_))
    | (apply AO.kP; first | refine AO.sP (h := ?_) | refine AO.sPi (h := ?_) | refine AO.sLoadB (h := ?_) | refine AO.sSameB (h := ?_))
    | apply AW.seq
    | (apply AW.kR; refine AW.sR (h := ?_))
    | apply AW.skip
    | apply AW.block
    | apply AW.out
    | (apply AW.kE; refine AW.sE (h := ?_))
    | apply AW.label
    | (apply AW.kRd; refine AW.sRd (h := ?_))
    | ((first | (apply AW.kC; refine AW.sC (h1 := fun h => ?_) (h2 := fun h => ?_))) <;> (try (first | exact Bool.noConfusion h | exact absurd h (by decide) | (simp at h; done) | (rw [h]; try simp only [nrm] at h; try rw [h]; try (exfalso; omega)) | skip)))
    | (apply AR.kAny; first | (apply AR.kCall 85; refine AR.sCall (hg := gR) (h := ?_)) | (apply AR.kBuildS; first | refine AR.sBuildT (h := ?_) | refine AR.sBuildS (h := ?_)) | (apply AR.kApp; first | refine AR.sGrowT (h := ?_) | refine AR.sNewT (h := ?_) | refine AR.sGrowBT (h := ?_) | refine AR.sGrow (h := ?_) | refine AR.sNewr (h := ?_)) | (apply AR.kIx; first | refine AR.sIxN (h := ?_) | refine AR.sIx (h := ?_) | refine AR.sP (h := ?_) | refine AR.sPi (h := ?_)) | (apply AR.kAdd; refine AR.sAdd (h := ?_)) | (apply AR.kCv; refine AR.sStrR (h := ?_)) | (apply AR.kP; first | refine AR.sP (h := ?_) | refine AR.sPi (h := ?_)))
    | (apply AR.kNil; refine AR.sNil (h := ?_)))
    refine AW.loopI (fun x : Nat × List (B32 × Int) => 1 ≤ x.1 ∧ x.1 ≤ l.length + 1 ∧ invD l x.2 x.1 0 ∧ x.2.length ≤ 1000 * x.1) (fun x => ⟨[(0, .sh 6 (l.map Im.av)), (1, .i .u32 b.toNat), (5, .gr 16 130 2 (x.2.map rfv)), (6, .i .i64 x.1)], [(16, .gw (x.2.map rfv).length)]⟩) (fun x => l.length + 1 - x.1) (1, []) ⟨Nat.le_refl _, by dsimp only; omega, inv_0 l, by simp⟩ (by (constructor <;> (repeat' (first | exact LeT.nil | exact LeB.nil | apply LeT.cons | apply LeB.cons | exact Ol.refl | apply Lx.s | apply Lx.b | apply Lx.i | exact Lx.refl)) <;> (first | rfl | assumption | omega | (simp only [List.length_map, BS_len]; done) | skip))) fun m x hx ih => ?_
    obtain ⟨d, dn⟩ := x
    obtain ⟨d1, d2, hi0, hl0⟩ := hx
    dsimp only at d1 d2 hi0 hl0 ih ⊢
    by_cases hd : d ≤ l.length
    · repeat' (first
    | apply AO.nil
    | (apply AO.kBuildS; first | refine AO.sBuildT (h := ?_) | refine AO.sBuildS (h := ?_))
    | (apply AO.kApp; first | refine AO.sGrowT (h := ?_) | refine AO.sNewT (h := ?_) | refine AO.sGrowBT (h := ?_) | refine AO.sGrow (h := ?_) | refine AO.sNewr (h := ?_))
    | (apply AO.kIx; first | refine AO.sIxN (h := ?_) | refine AO.sIx (h := ?_) | refine AO.sP (h := ?_) | refine AO.sPi (h := ?_))
    | (apply AO.kAdd; refine AO.sAdd (h := ?_))
    | (apply AO.kCv; first | refine AO.sBytes (h := ?_) | refine AO.sStr (h := ?_) | refine AO.sStrR (h := ?_))
    | (apply AO.kP; first | refine AO.sP (h := ?_) | refine AO.sPi (h := ?_) | refine AO.sLoadB (h := ?_) | refine AO.sSameB (h := ?_))
    | apply AW.seq
    | (apply AW.kR; refine AW.sR (h := ?_))
    | apply AW.skip
    | apply AW.block
    | apply AW.out
    | (apply AW.kE; refine AW.sE (h := ?_))
    | apply AW.label
    | (apply AW.kRd; refine AW.sRd (h := ?_))
    | ((first | (apply AW.kC; refine AW.sC (h1 := fun h => ?_) (h2 := fun h => ?_))) <;> (try (first | exact Bool.noConfusion h | exact absurd h (by decide) | (simp at h; done) | (rw [h]; try simp only [nrm] at h; try rw [h]; try (exfalso; omega)) | skip)))
    | (apply AR.kAny; first | (apply AR.kBuildS; first | refine AR.sBuildT (h := ?_) | refine AR.sBuildS (h := ?_)) | (apply AR.kApp; first | refine AR.sGrowT (h := ?_) | refine AR.sNewT (h := ?_) | refine AR.sGrowBT (h := ?_) | refine AR.sGrow (h := ?_) | refine AR.sNewr (h := ?_)) | (apply AR.kIx; first | refine AR.sIxN (h := ?_) | refine AR.sIx (h := ?_) | refine AR.sP (h := ?_) | refine AR.sPi (h := ?_)) | (apply AR.kAdd; refine AR.sAdd (h := ?_)) | (apply AR.kCv; refine AR.sStrR (h := ?_)) | (apply AR.kP; first | refine AR.sP (h := ?_) | refine AR.sPi (h := ?_)))
    | (apply AR.kNil; refine AR.sNil (h := ?_)))
      all_goals try (exfalso; omega)
      refine AW.loopI (fun x : Nat × List (B32 × Int) => x.1 ≤ l.length ∧ invD l x.2 d x.1 ∧ x.2.length ≤ 1000 * d + x.1) (fun x => ⟨[(0, .sh 6 (l.map Im.av)), (1, .i .u32 b.toNat), (5, .gr 16 130 2 (x.2.map rfv)), (6, .i .i64 d), (24, .i .i64 l.length), (25, .i .i64 x.1)], [(16, .gw (x.2.map rfv).length)]⟩) (fun x => l.length - x.1) (0, dn) ⟨Nat.zero_le _, hi0, by dsimp only; omega⟩ (by (constructor <;> (repeat' (first | exact LeT.nil | exact LeB.nil | apply LeT.cons | apply LeB.cons | exact Ol.refl | apply Lx.s | apply Lx.b | apply Lx.i | exact Lx.refl)) <;> (first | rfl | assumption | omega | (simp only [List.length_map, BS_len]; done) | skip))) fun m2 x hx ih2 => ?_
      obtain ⟨i, dn⟩ := x
      obtain ⟨i1, hi, hl1⟩ := hx
      dsimp only at i1 hi hl1 ih2 ⊢
      by_cases hi2 : i < l.length
      · have hs := hl.small i hi2
        have gD := gDeep' _ hs
        have gT := gTargets' _ hs
        have dd : deepN (l.getD i default).nd ≤ 65535 := by unfold deepN; split <;> omega
        have ew : IntKind.wrap .i64 (deepN (l.getD i default).nd : Int) = deepN (l.getD i default).nd := wrap64 (by omega)
        by_cases hde : deepN (l.getD i default).nd = d
        · have lt : (tgN (l.getD i default).nd).length ≤ 2000000 := by have := tgN_len (l.getD i default).nd; have h1 := hs.kids; have h2 := hs.buf; omega
          have hfold := fun t ht s => fold_tg hi hr hi2 hde (t := t) ht s
          have hW := wW_eq hr (fnd_of hri hi2)
          generalize tgN (l.getD i default).nd = ts at *
          have lts : (ts.map bav).length = ts.length := by simp
          repeat' (first
    | apply AO.nil
    | (apply AO.kCall 88; refine AO.sCall (hg := gD) (h := ?_))
    | (apply AO.kCall 89; refine AO.sCall (hg := gT) (h := ?_))
    | (apply AO.kBuildS; first | refine AO.sBuildT (h := ?_) | refine AO.sBuildS (h := ?_))
    | (apply AO.kApp; first | refine AO.sGrowT (h := ?_) | refine AO.sNewT (h := ?_) | refine AO.sGrowBT (h := ?_) | refine AO.sGrow (h := ?_) | refine AO.sNewr (h := ?_))
    | (apply AO.kIx; first | refine AO.sIxN (h := ?_) | refine AO.sIx (h := ?_) | refine AO.sP (h := ?_) | refine AO.sPi (h := ?_))
    | (apply AO.kAdd; refine AO.sAdd (h := ?_))
    | (apply AO.kCv; first | refine AO.sBytes (h := ?_) | refine AO.sStr (h := ?_) | refine AO.sStrR (h := ?_))
    | (apply AO.kP; first | refine AO.sP (h := ?_) | refine AO.sPi (h := ?_) | refine AO.sLoadB (h := ?_) | refine AO.sSameB (h := ?_))
    | apply AW.seq
    | (apply AW.kR; refine AW.sR (h := ?_))
    | apply AW.skip
    | apply AW.block
    | apply AW.out
    | (apply AW.kE; refine AW.sE (h := ?_))
    | apply AW.label
    | (apply AW.kRd; refine AW.sRd (h := ?_))
    | ((first | (apply AW.kC; refine AW.sC (h1 := fun h => ?_) (h2 := fun h => ?_))) <;> (try (first | exact Bool.noConfusion h | exact absurd h (by decide) | (simp at h; done) | (rw [h]; try simp only [nrm] at h; try rw [h]; try (exfalso; omega)) | skip)))
    | (apply AR.kAny; first | (apply AR.kCall 88; refine AR.sCall (hg := gD) (h := ?_)) | (apply AR.kCall 89; refine AR.sCall (hg := gT) (h := ?_)) | (apply AR.kBuildS; first | refine AR.sBuildT (h := ?_) | refine AR.sBuildS (h := ?_)) | (apply AR.kApp; first | refine AR.sGrowT (h := ?_) | refine AR.sNewT (h := ?_) | refine AR.sGrowBT (h := ?_) | refine AR.sGrow (h := ?_) | refine AR.sNewr (h := ?_)) | (apply AR.kIx; first | refine AR.sIxN (h := ?_) | refine AR.sIx (h := ?_) | refine AR.sP (h := ?_) | refine AR.sPi (h := ?_)) | (apply AR.kAdd; refine AR.sAdd (h := ?_)) | (apply AR.kCv; refine AR.sStrR (h := ?_)) | (apply AR.kP; first | refine AR.sP (h := ?_) | refine AR.sPi (h := ?_)))
    | (apply AR.kNil; refine AR.sNil (h := ?_)))
          all_goals try (exfalso; omega)
          all_goals try (exfalso; rw [ew, hde] at h; simp at h; done)
          have sk := fun q => fold_ok (fun t => (wW_ok l t).1) (ts.take q) 1 (by omega) (by omega)
          refine AW.loopI (fun q : Nat => q ≤ ts.length) (fun q => ⟨[(0, .sh 6 (l.map Im.av)), (1, .i .u32 b.toNat), (5, .gr 16 130 2 (dn.map rfv)), (6, .i .i64 d), (7, .i .i64 i), (8, .i .i64 ((ts.take q).foldl (fun s t => plus s (wW l t)) 1)), (9, .sh 1 (ts.map bav)), (24, .i .i64 l.length), (25, .i .i64 i), (44, .i .i64 ts.length), (45, .i .i64 q)], [(16, .gw (dn.map rfv).length)]⟩) (fun q => ts.length - q) 0 (by simp) (by (constructor <;> (repeat' (first | exact LeT.nil | exact LeB.nil | apply LeT.cons | apply LeB.cons | exact Ol.refl | apply Lx.s | apply Lx.b | apply Lx.i | exact Lx.refl)) <;> (first | rfl | assumption | omega | (simp only [List.length_map, BS_len]; done) | skip))) fun m3 q hq ih3 => ?_
          by_cases hq2 : q < ts.length
          · have hmem := mem_at' hq2
            have e1 := take_more hq2 (fun s t => plus s (wW l t)) 1
            have ldn : (dn.map rfv).length = dn.length := by simp
            have hv : ∀ r ∈ dn, 0 ≤ r.2 ∧ r.2 ≤ 1073741824 := fun r hr' => by
              obtain ⟨j, _, j2, _⟩ := hi.A r hr'
              rw [j2]; exact wW_ok l _
            have sq := sk q
            generalize (ts.take q).foldl (fun s t => plus s (wW l t)) 1 = s0 at *
            repeat' (first
    | apply AO.nil
    | (apply AO.kBuildS; first | refine AO.sBuildT (h := ?_) | refine AO.sBuildS (h := ?_))
    | (apply AO.kApp; first | refine AO.sGrowT (h := ?_) | refine AO.sNewT (h := ?_) | refine AO.sGrowBT (h := ?_) | refine AO.sGrow (h := ?_) | refine AO.sNewr (h := ?_))
    | (apply AO.kIx; first | refine AO.sIxN (h := ?_) | refine AO.sIx (h := ?_) | refine AO.sP (h := ?_) | refine AO.sPi (h := ?_))
    | (apply AO.kAdd; refine AO.sAdd (h := ?_))
    | (apply AO.kCv; first | refine AO.sBytes (h := ?_) | refine AO.sStr (h := ?_) | refine AO.sStrR (h := ?_))
    | (apply AO.kP; first | refine AO.sP (h := ?_) | refine AO.sPi (h := ?_) | refine AO.sLoadB (h := ?_) | refine AO.sSameB (h := ?_))
    | apply AW.seq
    | (apply AW.kR; refine AW.sR (h := ?_))
    | apply AW.skip
    | apply AW.block
    | apply AW.out
    | (apply AW.kE; refine AW.sE (h := ?_))
    | apply AW.label
    | (apply AW.kRd; refine AW.sRd (h := ?_))
    | ((first | (apply AW.kC; refine AW.sC (h1 := fun h => ?_) (h2 := fun h => ?_))) <;> (try (first | exact Bool.noConfusion h | exact absurd h (by decide) | (simp at h; done) | (rw [h]; try simp only [nrm] at h; try rw [h]; try (exfalso; omega)) | skip)))
    | (apply AR.kAny; first | (apply AR.kBuildS; first | refine AR.sBuildT (h := ?_) | refine AR.sBuildS (h := ?_)) | (apply AR.kApp; first | refine AR.sGrowT (h := ?_) | refine AR.sNewT (h := ?_) | refine AR.sGrowBT (h := ?_) | refine AR.sGrow (h := ?_) | refine AR.sNewr (h := ?_)) | (apply AR.kIx; first | refine AR.sIxN (h := ?_) | refine AR.sIx (h := ?_) | refine AR.sP (h := ?_) | refine AR.sPi (h := ?_)) | (apply AR.kAdd; refine AR.sAdd (h := ?_)) | (apply AR.kCv; refine AR.sStrR (h := ?_)) | (apply AR.kP; first | refine AR.sP (h := ?_) | refine AR.sPi (h := ?_)))
    | (apply AR.kNil; refine AR.sNil (h := ?_)))
            all_goals try (exfalso; omega)
            refine AW.loopI (fun j : Nat => j ≤ dn.length ∧ 0 ≤ (dn.take j).foldl (stD (ts.getD q default)) s0 ∧ (dn.take j).foldl (stD (ts.getD q default)) s0 ≤ 1073741824) (fun j => ⟨[(0, .sh 6 (l.map Im.av)), (1, .i .u32 b.toNat), (5, .gr 16 130 2 (dn.map rfv)), (6, .i .i64 d), (7, .i .i64 i), (8, .i .i64 ((dn.take j).foldl (stD (ts.getD q default)) s0)), (9, .sh 1 (ts.map bav)), (10, .i .i64 q), (24, .i .i64 l.length), (25, .i .i64 i), (44, .i .i64 ts.length), (45, .i .i64 q), (49, .i .i64 dn.length), (50, .i .i64 j)], [(16, .gw (dn.map rfv).length)]⟩) (fun j => dn.length - j) 0 ⟨by simp, by simpa using sq.1, by simpa using sq.2⟩ (by (constructor <;> (repeat' (first | exact LeT.nil | exact LeB.nil | apply LeT.cons | apply LeB.cons | exact Ol.refl | apply Lx.s | apply Lx.b | apply Lx.i | exact Lx.refl)) <;> (first | rfl | assumption | omega | (simp only [List.length_map, BS_len]; done) | skip))) fun m4 j ⟨hj, hj3, hj4⟩ ih4 => ?_
            by_cases hj2 : j < dn.length
            · have e2 := take_more hj2 (stD (ts.getD q default)) s0
              have hv2 := hv _ (mem_at' hj2)
              generalize (dn.take j).foldl (stD (ts.getD q default)) s0 = v at *
              have wi := wrapI hv2.1 hv2.2
              have pk := plus_ok hj3 hv2.1
              repeat' (first
    | apply AO.nil
    | (apply AO.kBuildS; first | refine AO.sBuildT (h := ?_) | refine AO.sBuildS (h := ?_))
    | (apply AO.kApp; first | refine AO.sGrowT (h := ?_) | refine AO.sNewT (h := ?_) | refine AO.sGrowBT (h := ?_) | refine AO.sGrow (h := ?_) | refine AO.sNewr (h := ?_))
    | (apply AO.kIx; first | refine AO.sIxN (h := ?_) | refine AO.sIx (h := ?_) | refine AO.sP (h := ?_) | refine AO.sPi (h := ?_))
    | (apply AO.kAdd; refine AO.sAdd (h := ?_))
    | (apply AO.kCv; first | refine AO.sBytes (h := ?_) | refine AO.sStr (h := ?_) | refine AO.sStrR (h := ?_))
    | (apply AO.kP; first | refine AO.sP (h := ?_) | refine AO.sPi (h := ?_) | refine AO.sLoadB (h := ?_) | refine AO.sSameB (h := ?_))
    | apply AW.seq
    | (apply AW.kR; refine AW.sR (h := ?_))
    | apply AW.skip
    | apply AW.block
    | apply AW.out
    | (apply AW.kE; refine AW.sE (h := ?_))
    | apply AW.label
    | (apply AW.kRd; refine AW.sRd (h := ?_))
    | ((first | (apply AW.kC; refine AW.sC (h1 := fun h => ?_) (h2 := fun h => ?_))) <;> (try (first | exact Bool.noConfusion h | exact absurd h (by decide) | (simp at h; done) | (rw [h]; try simp only [nrm] at h; try rw [h]; try (exfalso; omega)) | skip)))
    | (apply AR.kAny; first | (apply AR.kBuildS; first | refine AR.sBuildT (h := ?_) | refine AR.sBuildS (h := ?_)) | (apply AR.kApp; first | refine AR.sGrowT (h := ?_) | refine AR.sNewT (h := ?_) | refine AR.sGrowBT (h := ?_) | refine AR.sGrow (h := ?_) | refine AR.sNewr (h := ?_)) | (apply AR.kIx; first | refine AR.sIxN (h := ?_) | refine AR.sIx (h := ?_) | refine AR.sP (h := ?_) | refine AR.sPi (h := ?_)) | (apply AR.kAdd; refine AR.sAdd (h := ?_)) | (apply AR.kCv; refine AR.sStrR (h := ?_)) | (apply AR.kP; first | refine AR.sP (h := ?_) | refine AR.sPi (h := ?_)))
    | (apply AR.kNil; refine AR.sNil (h := ?_)))
              all_goals try (exfalso; omega)
              · rw [b32n] at h
                have e3 : stD (ts.getD q default) v (dn.getD j default) = plus v (dn.getD j default).2 := by rw [stD, if_pos h]
                have ep : (if 1073741824 < v + (dn.getD j default).2 then 1073741824 else v + (dn.getD j default).2) = plus v (dn.getD j default).2 := by unfold plus; split <;> omega
                simp only [wi, ep]
                refine ih4 (j + 1) _ ⟨by omega, by rw [e2, e3]; exact pk.1, by rw [e2, e3]; exact pk.2⟩ (by omega) ?_
                simp only [e2, e3]
                (constructor <;> (repeat' (first | exact LeT.nil | exact LeB.nil | apply LeT.cons | apply LeB.cons | exact Ol.refl | apply Lx.s | apply Lx.b | apply Lx.i | exact Lx.refl)) <;> (first | rfl | assumption | omega | (simp only [List.length_map, BS_len]; done) | skip))
              · rw [b32n] at h
                have e3 : stD (ts.getD q default) v (dn.getD j default) = v := by rw [stD, if_neg h]
                refine ih4 (j + 1) _ ⟨by omega, by rw [e2, e3]; exact hj3, by rw [e2, e3]; exact hj4⟩ (by omega) ?_
                simp only [e2, e3]
                (constructor <;> (repeat' (first | exact LeT.nil | exact LeB.nil | apply LeT.cons | apply LeB.cons | exact Ol.refl | apply Lx.s | apply Lx.b | apply Lx.i | exact Lx.refl)) <;> (first | rfl | assumption | omega | (simp only [List.length_map, BS_len]; done) | skip))
            · rw [List.take_of_length_le (by omega)] at hj3 hj4 ⊢
              rw [hfold _ hmem] at hj3 hj4 ⊢
              repeat' (first
    | apply AO.nil
    | (apply AO.kBuildS; first | refine AO.sBuildT (h := ?_) | refine AO.sBuildS (h := ?_))
    | (apply AO.kApp; first | refine AO.sGrowT (h := ?_) | refine AO.sNewT (h := ?_) | refine AO.sGrowBT (h := ?_) | refine AO.sGrow (h := ?_) | refine AO.sNewr (h := ?_))
    | (apply AO.kIx; first | refine AO.sIxN (h := ?_) | refine AO.sIx (h := ?_) | refine AO.sP (h := ?_) | refine AO.sPi (h := ?_))
    | (apply AO.kAdd; refine AO.sAdd (h := ?_))
    | (apply AO.kCv; first | refine AO.sBytes (h := ?_) | refine AO.sStr (h := ?_) | refine AO.sStrR (h := ?_))
    | (apply AO.kP; first | refine AO.sP (h := ?_) | refine AO.sPi (h := ?_) | refine AO.sLoadB (h := ?_) | refine AO.sSameB (h := ?_))
    | apply AW.seq
    | (apply AW.kR; refine AW.sR (h := ?_))
    | apply AW.skip
    | apply AW.block
    | apply AW.out
    | (apply AW.kE; refine AW.sE (h := ?_))
    | apply AW.label
    | (apply AW.kRd; refine AW.sRd (h := ?_))
    | ((first | (apply AW.kC; refine AW.sC (h1 := fun h => ?_) (h2 := fun h => ?_))) <;> (try (first | exact Bool.noConfusion h | exact absurd h (by decide) | (simp at h; done) | (rw [h]; try simp only [nrm] at h; try rw [h]; try (exfalso; omega)) | skip)))
    | (apply AR.kAny; first | (apply AR.kBuildS; first | refine AR.sBuildT (h := ?_) | refine AR.sBuildS (h := ?_)) | (apply AR.kApp; first | refine AR.sGrowT (h := ?_) | refine AR.sNewT (h := ?_) | refine AR.sGrowBT (h := ?_) | refine AR.sGrow (h := ?_) | refine AR.sNewr (h := ?_)) | (apply AR.kIx; first | refine AR.sIxN (h := ?_) | refine AR.sIx (h := ?_) | refine AR.sP (h := ?_) | refine AR.sPi (h := ?_)) | (apply AR.kAdd; refine AR.sAdd (h := ?_)) | (apply AR.kCv; refine AR.sStrR (h := ?_)) | (apply AR.kP; first | refine AR.sP (h := ?_) | refine AR.sPi (h := ?_)))
    | (apply AR.kNil; refine AR.sNil (h := ?_)))
              all_goals try (exfalso; omega)
              refine ih3 (q + 1) _ (by omega) (by omega) ?_
              simp only [e1]
              (constructor <;> (repeat' (first | exact LeT.nil | exact LeB.nil | apply LeT.cons | apply LeB.cons | exact Ol.refl | apply Lx.s | apply Lx.b | apply Lx.i | exact Lx.refl)) <;> (first | rfl | assumption | omega | (simp only [List.length_map, BS_len]; done) | skip))
          · rw [List.take_of_length_le (by omega)] at *
            rw [← hW]
            have hw := wW_ok l (l.getD i default).blk
            have wu := wrapU hw.1 hw.2
            repeat' (first
    | apply AO.nil
    | (apply AO.kBuildS; first | refine AO.sBuildT (h := ?_) | refine AO.sBuildS (h := ?_))
    | (apply AO.kApp; first | refine AO.sGrowT (h := ?_) | refine AO.sNewT (h := ?_) | refine AO.sGrowBT (h := ?_) | refine AO.sGrow (h := ?_) | refine AO.sNewr (h := ?_))
    | (apply AO.kIx; first | refine AO.sIxN (h := ?_) | refine AO.sIx (h := ?_) | refine AO.sP (h := ?_) | refine AO.sPi (h := ?_))
    | (apply AO.kAdd; refine AO.sAdd (h := ?_))
    | (apply AO.kCv; first | refine AO.sBytes (h := ?_) | refine AO.sStr (h := ?_) | refine AO.sStrR (h := ?_))
    | (apply AO.kP; first | refine AO.sP (h := ?_) | refine AO.sPi (h := ?_) | refine AO.sLoadB (h := ?_) | refine AO.sSameB (h := ?_))
    | apply AW.seq
    | (apply AW.kR; refine AW.sR (h := ?_))
    | apply AW.skip
    | apply AW.block
    | apply AW.out
    | (apply AW.kE; refine AW.sE (h := ?_))
    | apply AW.label
    | (apply AW.kRd; refine AW.sRd (h := ?_))
    | ((first | (apply AW.kC; refine AW.sC (h1 := fun h => ?_) (h2 := fun h => ?_))) <;> (try (first | exact Bool.noConfusion h | exact absurd h (by decide) | (simp at h; done) | (rw [h]; try simp only [nrm] at h; try rw [h]; try (exfalso; omega)) | skip)))
    | (apply AR.kAny; first | (apply AR.kBuildS; first | refine AR.sBuildT (h := ?_) | refine AR.sBuildS (h := ?_)) | (apply AR.kApp; first | refine AR.sGrowT (h := ?_) | refine AR.sNewT (h := ?_) | refine AR.sGrowBT (h := ?_) | refine AR.sGrow (h := ?_) | refine AR.sNewr (h := ?_)) | (apply AR.kIx; first | refine AR.sIxN (h := ?_) | refine AR.sIx (h := ?_) | refine AR.sP (h := ?_) | refine AR.sPi (h := ?_)) | (apply AR.kAdd; refine AR.sAdd (h := ?_)) | (apply AR.kCv; refine AR.sStrR (h := ?_)) | (apply AR.kP; first | refine AR.sP (h := ?_) | refine AR.sPi (h := ?_)))
    | (apply AR.kNil; refine AR.sNil (h := ?_)))
            all_goals try (exfalso; omega)
            simp only [wu]
            refine ih2 (i + 1, dn ++ [((l.getD i default).blk, wW l (l.getD i default).blk)]) _ ⟨by dsimp only; omega, inv_yes hi hri hi2 hde, by dsimp only; rw [List.length_append]; simp only [List.length_cons, List.length_nil]; omega⟩ (by dsimp only; omega) ?_
            ((constructor <;> (repeat' (first | exact LeT.nil | exact LeB.nil | apply LeT.cons | apply LeB.cons | exact Ol.refl | apply Lx.s | apply Lx.b | apply Lx.i | exact Lx.refl)) <;> (first | rfl | assumption | omega | (simp only [List.length_map, BS_len]; done) | skip)) <;> (first | (refine Lx.eq (congrArg (AV.gr _ _ _) ?_); simp only [List.map_append, List.map_cons, List.map_nil]; rfl) | (refine Ol.eq (congrArg Ob.gw ?_); simp only [List.map_append, List.map_cons, List.map_nil, List.length_append, List.length_map, List.length_cons, List.length_nil]; done) | (refine Ol.bx ?_; (repeat' (first | exact LxL.nil | apply LxL.cons | exact Lx.refl | (refine Lx.eq (congrArg (AV.gr _ _ _) ?_); simp only [List.map_append, List.map_cons, List.map_nil]; rfl)))) | skip))
        · repeat' (first
    | apply AO.nil
    | (apply AO.kCall 88; refine AO.sCall (hg := gD) (h := ?_))
    | (apply AO.kBuildS; first | refine AO.sBuildT (h := ?_) | refine AO.sBuildS (h := ?_))
    | (apply AO.kApp; first | refine AO.sGrowT (h := ?_) | refine AO.sNewT (h := ?_) | refine AO.sGrowBT (h := ?_) | refine AO.sGrow (h := ?_) | refine AO.sNewr (h := ?_))
    | (apply AO.kIx; first | refine AO.sIxN (h := ?_) | refine AO.sIx (h := ?_) | refine AO.sP (h := ?_) | refine AO.sPi (h := ?_))
    | (apply AO.kAdd; refine AO.sAdd (h := ?_))
    | (apply AO.kCv; first | refine AO.sBytes (h := ?_) | refine AO.sStr (h := ?_) | refine AO.sStrR (h := ?_))
    | (apply AO.kP; first | refine AO.sP (h := ?_) | refine AO.sPi (h := ?_) | refine AO.sLoadB (h := ?_) | refine AO.sSameB (h := ?_))
    | apply AW.seq
    | (apply AW.kR; refine AW.sR (h := ?_))
    | apply AW.skip
    | apply AW.block
    | apply AW.out
    | (apply AW.kE; refine AW.sE (h := ?_))
    | apply AW.label
    | (apply AW.kRd; refine AW.sRd (h := ?_))
    | ((first | (apply AW.kC; refine AW.sC (h1 := fun h => ?_) (h2 := fun h => ?_))) <;> (try (first | exact Bool.noConfusion h | exact absurd h (by decide) | (simp at h; done) | (rw [h]; try simp only [nrm] at h; try rw [h]; try (exfalso; omega)) | skip)))
    | (apply AR.kAny; first | (apply AR.kCall 88; refine AR.sCall (hg := gD) (h := ?_)) | (apply AR.kBuildS; first | refine AR.sBuildT (h := ?_) | refine AR.sBuildS (h := ?_)) | (apply AR.kApp; first | refine AR.sGrowT (h := ?_) | refine AR.sNewT (h := ?_) | refine AR.sGrowBT (h := ?_) | refine AR.sGrow (h := ?_) | refine AR.sNewr (h := ?_)) | (apply AR.kIx; first | refine AR.sIxN (h := ?_) | refine AR.sIx (h := ?_) | refine AR.sP (h := ?_) | refine AR.sPi (h := ?_)) | (apply AR.kAdd; refine AR.sAdd (h := ?_)) | (apply AR.kCv; refine AR.sStrR (h := ?_)) | (apply AR.kP; first | refine AR.sP (h := ?_) | refine AR.sPi (h := ?_)))
    | (apply AR.kNil; refine AR.sNil (h := ?_)))
          all_goals try (exfalso; omega)
          all_goals first
            | (exfalso; rw [ew] at h; have h9 := bne_eq_false_iff_eq.1 h; omega)
            | exact ih2 (i + 1, dn) _ ⟨by dsimp only; omega, inv_no hi hde, by dsimp only; omega⟩ (by dsimp only; omega) (by (constructor <;> (repeat' (first | exact LeT.nil | exact LeB.nil | apply LeT.cons | apply LeB.cons | exact Ol.refl | apply Lx.s | apply Lx.b | apply Lx.i | exact Lx.refl)) <;> (first | rfl | assumption | omega | (simp only [List.length_map, BS_len]; done) | skip)))
            | trace_state
      · obtain rfl : l.length = i := by omega
        repeat' (first
    | apply AO.nil
    | (apply AO.kBuildS; first | refine AO.sBuildT (h := ?_) | refine AO.sBuildS (h := ?_))
    | (apply AO.kApp; first | refine AO.sGrowT (h := ?_) | refine AO.sNewT (h := ?_) | refine AO.sGrowBT (h := ?_) | refine AO.sGrow (h := ?_) | refine AO.sNewr (h := ?_))
    | (apply AO.kIx; first | refine AO.sIxN (h := ?_) | refine AO.sIx (h := ?_) | refine AO.sP (h := ?_) | refine AO.sPi (h := ?_))
    | (apply AO.kAdd; refine AO.sAdd (h := ?_))
    | (apply AO.kCv; first | refine AO.sBytes (h := ?_) | refine AO.sStr (h := ?_) | refine AO.sStrR (h := ?_))
    | (apply AO.kP; first | refine AO.sP (h := ?_) | refine AO.sPi (h := ?_) | refine AO.sLoadB (h := ?_) | refine AO.sSameB (h := ?_))
    | apply AW.seq
    | (apply AW.kR; refine AW.sR (h := ?_))
    | apply AW.skip
    | apply AW.block
    | apply AW.out
    | (apply AW.kE; refine AW.sE (h := ?_))
    | apply AW.label
    | (apply AW.kRd; refine AW.sRd (h := ?_))
    | ((first | (apply AW.kC; refine AW.sC (h1 := fun h => ?_) (h2 := fun h => ?_))) <;> (try (first | exact Bool.noConfusion h | exact absurd h (by decide) | (simp at h; done) | (rw [h]; try simp only [nrm] at h; try rw [h]; try (exfalso; omega)) | skip)))
    | (apply AR.kAny; first | (apply AR.kBuildS; first | refine AR.sBuildT (h := ?_) | refine AR.sBuildS (h := ?_)) | (apply AR.kApp; first | refine AR.sGrowT (h := ?_) | refine AR.sNewT (h := ?_) | refine AR.sGrowBT (h := ?_) | refine AR.sGrow (h := ?_) | refine AR.sNewr (h := ?_)) | (apply AR.kIx; first | refine AR.sIxN (h := ?_) | refine AR.sIx (h := ?_) | refine AR.sP (h := ?_) | refine AR.sPi (h := ?_)) | (apply AR.kAdd; refine AR.sAdd (h := ?_)) | (apply AR.kCv; refine AR.sStrR (h := ?_)) | (apply AR.kP; first | refine AR.sP (h := ?_) | refine AR.sPi (h := ?_)))
    | (apply AR.kNil; refine AR.sNil (h := ?_)))
        all_goals try (exfalso; omega)
        exact ih (d + 1, dn) _ ⟨by dsimp only; omega, by dsimp only; omega, inv_round hi, by dsimp only; omega⟩ (by dsimp only; omega) (by (constructor <;> (repeat' (first | exact LeT.nil | exact LeB.nil | apply LeT.cons | apply LeB.cons | exact Ol.refl | apply Lx.s | apply Lx.b | apply Lx.i | exact Lx.refl)) <;> (first | rfl | assumption | omega | (simp only [List.length_map, BS_len]; done) | skip)))
    · have hl := lookD_all hi0 hr (by omega) b
      have hl2 := hi0
      rw [← hl] at hD
      have ldn : (dn.map rfv).length = dn.length := by simp
      have hv : ∀ r ∈ dn, 0 ≤ r.2 ∧ r.2 ≤ 1073741824 := fun r hr' => by
        obtain ⟨j, _, j2, _⟩ := hi0.A r hr'
        rw [j2]; exact wW_ok l _
      repeat' (first
    | apply AO.nil
    | (apply AO.kBuildS; first | refine AO.sBuildT (h := ?_) | refine AO.sBuildS (h := ?_))
    | (apply AO.kApp; first | refine AO.sGrowT (h := ?_) | refine AO.sNewT (h := ?_) | refine AO.sGrowBT (h := ?_) | refine AO.sGrow (h := ?_) | refine AO.sNewr (h := ?_))
    | (apply AO.kIx; first | refine AO.sIxN (h := ?_) | refine AO.sIx (h := ?_) | refine AO.sP (h := ?_) | refine AO.sPi (h := ?_))
    | (apply AO.kAdd; refine AO.sAdd (h := ?_))
    | (apply AO.kCv; first | refine AO.sBytes (h := ?_) | refine AO.sStr (h := ?_) | refine AO.sStrR (h := ?_))
    | (apply AO.kP; first | refine AO.sP (h := ?_) | refine AO.sPi (h := ?_) | refine AO.sLoadB (h := ?_) | refine AO.sSameB (h := ?_))
    | apply AW.seq
    | (apply AW.kR; refine AW.sR (h := ?_))
    | apply AW.skip
    | apply AW.block
    | apply AW.out
    | (apply AW.kE; refine AW.sE (h := ?_))
    | apply AW.label
    | (apply AW.kRd; refine AW.sRd (h := ?_))
    | ((first | (apply AW.kC; refine AW.sC (h1 := fun h => ?_) (h2 := fun h => ?_))) <;> (try (first | exact Bool.noConfusion h | exact absurd h (by decide) | (simp at h; done) | (rw [h]; try simp only [nrm] at h; try rw [h]; try (exfalso; omega)) | skip)))
    | (apply AR.kAny; first | (apply AR.kBuildS; first | refine AR.sBuildT (h := ?_) | refine AR.sBuildS (h := ?_)) | (apply AR.kApp; first | refine AR.sGrowT (h := ?_) | refine AR.sNewT (h := ?_) | refine AR.sGrowBT (h := ?_) | refine AR.sGrow (h := ?_) | refine AR.sNewr (h := ?_)) | (apply AR.kIx; first | refine AR.sIxN (h := ?_) | refine AR.sIx (h := ?_) | refine AR.sP (h := ?_) | refine AR.sPi (h := ?_)) | (apply AR.kAdd; refine AR.sAdd (h := ?_)) | (apply AR.kCv; refine AR.sStrR (h := ?_)) | (apply AR.kP; first | refine AR.sP (h := ?_) | refine AR.sPi (h := ?_)))
    | (apply AR.kNil; refine AR.sNil (h := ?_)))
      all_goals try (exfalso; omega)
      refine AW.loopI (fun j : Nat => j ≤ dn.length ∧ lookD (dn.drop j) b = lookD dn b) (fun j => ⟨[(1, .i .u32 b.toNat), (5, .gr 16 130 2 (dn.map rfv)), (87, .i .i64 dn.length), (88, .i .i64 j)], [(16, .gw (dn.map rfv).length)]⟩) (fun j => dn.length - j) 0 ⟨by simp, rfl⟩ (by (constructor <;> (repeat' (first | exact LeT.nil | exact LeB.nil | apply LeT.cons | apply LeB.cons | exact Ol.refl | apply Lx.s | apply Lx.b | apply Lx.i | exact Lx.refl)) <;> (first | rfl | assumption | omega | (simp only [List.length_map, BS_len]; done) | skip))) fun m4 j ⟨hj, hj3⟩ ih4 => ?_
      by_cases hj2 : j < dn.length
      · have hv2 := hv _ (mem_at' hj2)
        have wi := wrapI hv2.1 hv2.2
        rw [dropD hj2, lookD] at hj3
        repeat' (first
    | apply AO.nil
    | (apply AO.kBuildS; first | refine AO.sBuildT (h := ?_) | refine AO.sBuildS (h := ?_))
    | (apply AO.kApp; first | refine AO.sGrowT (h := ?_) | refine AO.sNewT (h := ?_) | refine AO.sGrowBT (h := ?_) | refine AO.sGrow (h := ?_) | refine AO.sNewr (h := ?_))
    | (apply AO.kIx; first | refine AO.sIxN (h := ?_) | refine AO.sIx (h := ?_) | refine AO.sP (h := ?_) | refine AO.sPi (h := ?_))
    | (apply AO.kAdd; refine AO.sAdd (h := ?_))
    | (apply AO.kCv; first | refine AO.sBytes (h := ?_) | refine AO.sStr (h := ?_) | refine AO.sStrR (h := ?_))
    | (apply AO.kP; first | refine AO.sP (h := ?_) | refine AO.sPi (h := ?_) | refine AO.sLoadB (h := ?_) | refine AO.sSameB (h := ?_))
    | apply AW.seq
    | (apply AW.kR; refine AW.sR (h := ?_))
    | apply AW.skip
    | apply AW.block
    | apply AW.out
    | (apply AW.kE; refine AW.sE (h := ?_))
    | apply AW.label
    | (apply AW.kRd; refine AW.sRd (h := ?_))
    | ((first | (apply AW.kC; refine AW.sC (h1 := fun h => ?_) (h2 := fun h => ?_))) <;> (try (first | exact Bool.noConfusion h | exact absurd h (by decide) | (simp at h; done) | (rw [h]; try simp only [nrm] at h; try rw [h]; try (exfalso; omega)) | skip)))
    | (apply AR.kAny; first | (apply AR.kBuildS; first | refine AR.sBuildT (h := ?_) | refine AR.sBuildS (h := ?_)) | (apply AR.kApp; first | refine AR.sGrowT (h := ?_) | refine AR.sNewT (h := ?_) | refine AR.sGrowBT (h := ?_) | refine AR.sGrow (h := ?_) | refine AR.sNewr (h := ?_)) | (apply AR.kIx; first | refine AR.sIxN (h := ?_) | refine AR.sIx (h := ?_) | refine AR.sP (h := ?_) | refine AR.sPi (h := ?_)) | (apply AR.kAdd; refine AR.sAdd (h := ?_)) | (apply AR.kCv; refine AR.sStrR (h := ?_)) | (apply AR.kP; first | refine AR.sP (h := ?_) | refine AR.sPi (h := ?_)))
    | (apply AR.kNil; refine AR.sNil (h := ?_)))
        all_goals try (exfalso; omega)
        · rw [b32n] at h
          rw [if_pos h] at hj3
          rw [← hj3] at hD
          simp only [wi]
          exact AW.ret (hD rfl .refl)
        · rw [b32n] at h
          rw [if_neg h] at hj3
          exact ih4 (j + 1) _ ⟨by omega, hj3⟩ (by omega) (by (constructor <;> (repeat' (first | exact LeT.nil | exact LeB.nil | apply LeT.cons | apply LeB.cons | exact Ol.refl | apply Lx.s | apply Lx.b | apply Lx.i | exact Lx.refl)) <;> (first | rfl | assumption | omega | (simp only [List.length_map, BS_len]; done) | skip)))
      · rw [List.drop_eq_nil_of_le (by omega), lookD] at hj3
        rw [← hj3] at hD
        repeat' (first
    | apply AO.nil
    | (apply AO.kBuildS; first | refine AO.sBuildT (h := ?_) | refine AO.sBuildS (h := ?_))
    | (apply AO.kApp; first | refine AO.sGrowT (h := ?_) | refine AO.sNewT (h := ?_) | refine AO.sGrowBT (h := ?_) | refine AO.sGrow (h := ?_) | refine AO.sNewr (h := ?_))
    | (apply AO.kIx; first | refine AO.sIxN (h := ?_) | refine AO.sIx (h := ?_) | refine AO.sP (h := ?_) | refine AO.sPi (h := ?_))
    | (apply AO.kAdd; refine AO.sAdd (h := ?_))
    | (apply AO.kCv; first | refine AO.sBytes (h := ?_) | refine AO.sStr (h := ?_) | refine AO.sStrR (h := ?_))
    | (apply AO.kP; first | refine AO.sP (h := ?_) | refine AO.sPi (h := ?_) | refine AO.sLoadB (h := ?_) | refine AO.sSameB (h := ?_))
    | apply AW.seq
    | (apply AW.kR; refine AW.sR (h := ?_))
    | apply AW.skip
    | apply AW.block
    | apply AW.out
    | (apply AW.kE; refine AW.sE (h := ?_))
    | apply AW.label
    | (apply AW.kRd; refine AW.sRd (h := ?_))
    | ((first | (apply AW.kC; refine AW.sC (h1 := fun h => ?_) (h2 := fun h => ?_))) <;> (try (first | exact Bool.noConfusion h | exact absurd h (by decide) | (simp at h; done) | (rw [h]; try simp only [nrm] at h; try rw [h]; try (exfalso; omega)) | skip)))
    | (apply AR.kAny; first | (apply AR.kBuildS; first | refine AR.sBuildT (h := ?_) | refine AR.sBuildS (h := ?_)) | (apply AR.kApp; first | refine AR.sGrowT (h := ?_) | refine AR.sNewT (h := ?_) | refine AR.sGrowBT (h := ?_) | refine AR.sGrow (h := ?_) | refine AR.sNewr (h := ?_)) | (apply AR.kIx; first | refine AR.sIxN (h := ?_) | refine AR.sIx (h := ?_) | refine AR.sP (h := ?_) | refine AR.sPi (h := ?_)) | (apply AR.kAdd; refine AR.sAdd (h := ?_)) | (apply AR.kCv; refine AR.sStrR (h := ?_)) | (apply AR.kP; first | refine AR.sP (h := ?_) | refine AR.sPi (h := ?_)))
    | (apply AR.kNil; refine AR.sNil (h := ?_)))
        all_goals try (exfalso; omega)
        exact AW.ret (hD rfl .refl)
end Go.Proofs.Ytocppeifkjdeiaa.Mv
