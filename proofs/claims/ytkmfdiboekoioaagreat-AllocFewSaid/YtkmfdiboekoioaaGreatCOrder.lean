/- The walk of alloc.order's inner function: a block, those above it first. Conditions: a graph that is small; above each block are blocks. -/
import Derived.Test.YtkmfdiboekoioaaGreatCAbove
import Derived.Test.YtkmfdiboekoioaaGreatCReach
import Derived.Deep.RegionLaw
set_option linter.unusedSimpArgs false
set_option linter.unusedVariables false
namespace Go.Proofs.YtkmfdiboekoioaaGreat
open Go.RowKit

/-- The blocks seen, the nodes so far. -/
structure OSt where
 seen : ISet
 out : List Int
def ordNodes (g : GraphP) (b : Nat) : List Int := match g.blocks[b]? with | some x => x.nodes | none => []
def ordStep (ab : Nat → List Int) (rec_ : OSt → Nat → OSt) (b : Nat) (s : OSt) (a : Int) : OSt := if (ab a.toNat).length < (ab b).length then rec_ s a.toNat else s
def ordB (g : GraphP) (ab : Nat → List Int) : Nat → OSt → Nat → OSt
 | 0, s, _ => s
 | f + 1, s, b => if s.seen (b : Int) then s else
   ⟨((ab b).foldl (ordStep ab (ordB g ab f) b) ⟨fun z => s.seen z || z == (b : Int), s.out⟩).seen, ((ab b).foldl (ordStep ab (ordB g ab f) b) ⟨fun z => s.seen z || z == (b : Int), s.out⟩).out ++ ordNodes g b⟩
def ordTo (g : GraphP) (ab : Nat → List Int) (f : Nat) (b : Nat) (s : OSt) (k : Nat) : OSt := ((ab b).take k).foldl (ordStep ab (ordB g ab f) b) ⟨fun z => s.seen z || z == (b : Int), s.out⟩
theorem ordTo_step (g : GraphP) (ab : Nat → List Int) (f b : Nat) (s : OSt) (k : Nat) (a : Int) (h : (ab b)[k]? = some a) : ordTo g ab f b s (k + 1) = ordStep ab (ordB g ab f) b (ordTo g ab f b s k) a := by
 unfold ordTo; rw [List.take_add_one, h, List.foldl_append]; rfl
theorem ordB_seen {g : GraphP} {ab : Nat → List Int} {f b : Nat} {s : OSt} (h : s.seen (b : Int) = true) : ordB g ab f s b = s := by
 cases f with
 | zero => rfl
 | succ f => unfold ordB; rw [if_pos h]
theorem ordB_new {g : GraphP} {ab : Nat → List Int} {f b : Nat} {s : OSt} (h : s.seen (b : Int) = false) : ordB g ab (f + 1) s b = ⟨(ordTo g ab f b s (ab b).length).seen, (ordTo g ab f b s (ab b).length).out ++ ordNodes g b⟩ := by
 unfold ordTo
 rw [List.take_length]
 conv => lhs; unfold ordB
 rw [if_neg (by rw [h]; simp)]
/-- What holds of it: within the blocks, not too long. -/
structure OOk (g : GraphP) (s : OSt) : Prop where
 bound : Bounded g.blocks.length s.seen
 len : s.out.length ≤ 5000 * card g.blocks.length s.seen
/-- From s to s' as much has been written as there are new blocks, but for d. -/
structure OGo (g : GraphP) (d : Nat) (s s' : OSt) : Prop where
 le : s.seen.le s'.seen
 bound : Bounded g.blocks.length s'.seen
 len : s'.out.length + 5000 * d + 5000 * card g.blocks.length s.seen ≤ s.out.length + 5000 * card g.blocks.length s'.seen
theorem OGo.trans {g : GraphP} {d : Nat} {s s' s'' : OSt} (h : OGo g d s s') (k : OGo g 0 s' s'') : OGo g d s s'' := ⟨ISet.le_trans h.le k.le, k.bound, by have := h.len; have := k.len; omega⟩
theorem nodesOf_len {g : GraphP} (hs : Small g) (b : Nat) : (ordNodes g b).length ≤ 5000 := by
 unfold ordNodes
 cases h : g.blocks[b]? with
 | none => simp
 | some x => exact (hs.block h).1
theorem ordB_go {g : GraphP} (hs : Small g) {ab : Nat → List Int} (hab : ∀ b, ∀ a ∈ ab b, 0 ≤ a ∧ a < (g.blocks.length : Int)) : ∀ (f : Nat) (s : OSt) (b : Nat), b < g.blocks.length → Bounded g.blocks.length s.seen → OGo g 0 s (ordB g ab f s b)
 | 0, s, b, _, hb => ⟨ISet.le_refl _, hb, by simp [ordB]⟩
 | f + 1, s, b, hlt, hb => by
  cases hsb : s.seen (b : Int)
  ·have key : ∀ k, k ≤ (ab b).length → OGo g 1 s (ordTo g ab f b s k) := fun k => by
    induction k with
    | zero =>
     intro _
     have := card_put (N := g.blocks.length) (p := s.seen) (b := (b : Int)) (by omega) (by omega) hsb
     refine ⟨fun z hz => by simp [ordTo, hz], fun z hz => ?_, by simp only [ordTo, List.take_zero, List.foldl_nil]; omega⟩
     simp only [ordTo, List.take_zero, List.foldl_nil, Bool.or_eq_true, beq_iff_eq] at hz
     rcases hz with hz | rfl
     ·exact hb z hz
     ·omega
    | succ k ih =>
     intro hk
     obtain ⟨a, ha⟩ := getE (l := ab b) (k := k) (by omega)
     have h1 := ih (by omega)
     rw [ordTo_step g ab f b s k a ha]
     unfold ordStep
     split
     ·obtain ⟨a0, a1⟩ := hab b a (List.mem_of_getElem? ha)
      exact h1.trans (ordB_go hs hab f _ _ (by omega) h1.bound)
     ·exact h1
   have h1 := key _ (Nat.le_refl _)
   rw [ordB_new hsb]
   have := nodesOf_len hs b
   have h2 := h1.len
   exact ⟨h1.le, h1.bound, by simp only [List.length_append]; omega⟩
  ·rw [ordB_seen hsb]
   exact ⟨ISet.le_refl _, hb, by simp⟩
theorem ordTo_go {g : GraphP} (hs : Small g) {ab : Nat → List Int} (hab : ∀ b, ∀ a ∈ ab b, 0 ≤ a ∧ a < (g.blocks.length : Int)) (f : Nat) (s : OSt) (b : Nat) (hlt : b < g.blocks.length) (hb : Bounded g.blocks.length s.seen) (hsb : s.seen (b : Int) = false) : ∀ k, k ≤ (ab b).length → OGo g 1 s (ordTo g ab f b s k)
 | 0, _ => by
  have := card_put (N := g.blocks.length) (p := s.seen) (b := (b : Int)) (by omega) (by omega) hsb
  refine ⟨fun z hz => by simp [ordTo, hz], fun z hz => ?_, by simp only [ordTo, List.take_zero, List.foldl_nil]; omega⟩
  simp only [ordTo, List.take_zero, List.foldl_nil, Bool.or_eq_true, beq_iff_eq] at hz
  rcases hz with hz | rfl
  ·exact hb z hz
  ·omega
 | k + 1, hk => by
  obtain ⟨a, ha⟩ := getE (l := ab b) (k := k) (by omega)
  have h1 := ordTo_go hs hab f s b hlt hb hsb k (by omega)
  rw [ordTo_step g ab f b s k a ha]
  unfold ordStep
  split
  ·obtain ⟨a0, a1⟩ := hab b a (List.mem_of_getElem? ha)
   exact h1.trans (ordB_go hs hab f _ _ (by omega) h1.bound)
  ·exact h1
theorem OGo.lim {g : GraphP} {d : Nat} {s s' : OSt} (h : OGo g d s s') (hs : Small g) (hl : s.out.length ≤ 5000 * card g.blocks.length s.seen) : s'.out.length ≤ 25000000 := by
 have h1 := h.len
 have h2 := card_le g.blocks.length s'.seen
 have := hs.lens.2.1
 have : 5000 * card g.blocks.length s'.seen ≤ 5000 * 5000 := Nat.mul_le_mul_left _ (by omega)
 omega

/-- The memory of alloc.order. -/
structure ONums where
 B : Nat
 bx : Nat
 bs : Nat
 ba : Nat
 bf : Nat
 bo : Nat
 r : Nat
 lo : Nat
 hi : Nat
 base : Nat
 vA : Value
structure OLow (o : ONums) : Prop where
 B : o.B ≤ o.base
 bx : o.bx < o.base
 bs : o.bs < o.base
 ba : o.ba < o.base
 bf : o.bf < o.base
 bo : o.bo < o.base
 r : o.r < o.base
 nx : o.bx ≠ o.bo
 ns : o.bs ≠ o.bo
 na : o.ba ≠ o.bo
 nf : o.bf ≠ o.bo
 Bo : o.B ≤ o.bo
 bolo : o.bo < o.lo
 hir : o.hi ≤ o.r
 hib : o.hi ≤ o.base
structure OMem (o : ONums) (xv : GVals) (g : GraphP) (AB : List (List Int)) (W : World) (s : OSt) : Prop where
 gr : GCtx W o.B o.bx xv g
 seen : Blk W o.bs 76 #[.map (some o.r)]
 abv : Blk W o.ba 42 #[o.vA]
 rows : RowsA o.lo o.hi W o.vA AB
 fn : Blk W o.bf 123 #[.func (.func 77) #[] #[.pointer (some ⟨o.bs, 0, none⟩), .pointer (some ⟨o.ba, 0, none⟩), .pointer (some ⟨o.bf, 0, none⟩), .pointer (some ⟨o.bo, 0, none⟩), .pointer (some ⟨o.bx, 0, none⟩)]]
 set : SetM W o.r s.seen
 out : ∃ v, Boxed W o.bo 34 v ∧ OwnInts W o.base v s.out
 low : OLow o
 base : o.base ≤ W.heap.size
section
variable {o : ONums} {xv : GVals} {g : GraphP} {AB : List (List Int)} {W W' w1 : World} {s : OSt}
theorem OMem.below (h : OMem o xv g AB W s) (hb : Below W.heap.size W W') : OMem o xv g AB W' s where
 gr := h.gr.below hb
 seen := h.seen.below hb h.seen.lt
 abv := h.abv.below hb h.abv.lt
 rows := h.rows.keep fun k _ h2 => hb.block k (by have := h.low.hib; have := h.base; omega)
 fn := h.fn.below hb h.fn.lt
 set := h.set.below hb
 out := by obtain ⟨v, h1, h2⟩ := h.out; exact ⟨v, h1.below_ hb, h2.below hb⟩
 low := h.low
 base := Nat.le_trans h.base hb.size
theorem OMem.drewN (h : OMem o xv g AB W s) (n : Nat) : OMem o xv g AB (W.drewN n) s := h.below (below_drewN (Below.refl _ _) n)
theorem OMem.drew (h : OMem o xv g AB W s) : OMem o xv g AB W.drew s := h.below ((Below.refl _ _).drew)
theorem OMem.set_ (h : OMem o xv g AB W s) {p : ISet} (hq : SetM W' o.r p) (hg : W.grownBy W' (some o.r)) : OMem o xv g AB W' ⟨p, s.out⟩ where
 gr := h.gr.turn h.set hq hg
 seen := h.seen.grown hg (blk_ne_map h.seen h.set)
 abv := h.abv.grown hg (blk_ne_map h.abv h.set)
 rows := h.rows.keep fun k _ h2 => hg.block k (by have := h.low.hib; have := h.base; omega) (fun e => by injection e with e; have := h.low.hir; omega)
 fn := h.fn.grown hg (blk_ne_map h.fn h.set)
 set := hq
 out := by obtain ⟨v, h1, h2⟩ := h.out; exact ⟨v, h1.kept hg (blk_ne_map (Go.Boxed.blk h1) h.set), World.ownsRow.kept h2 hg (own_ne_map h2 h.set)⟩
 low := h.low
 base := Nat.le_trans h.base hg.size
/-- More has been written. -/
theorem OMem.out_ (h : OMem o xv g AB W s) {v v' : Value} {l' : List Int} (hv : Boxed W o.bo 34 v) (hrow : OwnInts W o.base v s.out) (hown : OwnInts w1 o.base v' l') (hgrow : W.grownBy w1 v.ownBlock) :
  Boxed w1 o.bo 34 v ∧ OMem o xv g AB (w1.setCell ⟨o.bo, 0, none⟩ v') ⟨s.seen, l'⟩ ∧ TurnB o.base W (w1.setCell ⟨o.bo, 0, none⟩ v') [o.bo] := by
 have hv1 : Boxed w1 o.bo 34 v := hv.kept hgrow (hv.not_row (by decide) hrow)
 have ht : TurnB o.base W (w1.setCell ⟨o.bo, 0, none⟩ v') [o.bo] := by
  refine (TurnB.of_grown hgrow h.base (fun r e => .inr (World.ownsRow.lt hrow r e).1)).trans ?_
  exact TurnB.of_grown (grownBy_setCell' w1 o.bo v') (by have := h.base; have := hgrow.size; omega) (fun r e => by injection e with e; exact .inl (by simp [e]))
 have hk : ∀ k, k < o.base → k ≠ o.bo → (w1.setCell ⟨o.bo, 0, none⟩ v').heap[k]? = W.heap[k]? := fun k h1 h2 => ht.block k h1 (by simpa using h2)
 have hblk : ∀ b t cs, b < o.base → b ≠ o.bo → Blk W b t cs → Blk (w1.setCell ⟨o.bo, 0, none⟩ v') b t cs := fun b t cs h1 h2 hb => by
  unfold Blk at hb ⊢; rw [hk b h1 h2]; exact hb
 refine ⟨hv1, ⟨⟨h.gr.gr.keep fun a ha => World.cell?_of_block (hk a.block (Nat.lt_of_lt_of_le ha h.low.B) (by have := h.low.Bo; omega)), Nat.le_trans h.gr.hB ht.size, hblk _ _ _ h.low.bx h.low.nx h.gr.box⟩,
  hblk _ _ _ h.low.bs h.low.ns h.seen, hblk _ _ _ h.low.ba h.low.na h.abv, h.rows.keep fun k h1 h2 => hk k (by have := h.low.hib; omega) (by have := h.low.bolo; omega), hblk _ _ _ h.low.bf h.low.nf h.fn, ?_, ?_, h.low, Nat.le_trans h.base ht.size⟩, ht⟩
 ·refine IMap.same h.set (hk o.r h.low.r fun e => ?_)
  have := blk_ne_map (Go.Boxed.blk hv) h.set
  exact this (by rw [e])
 ·exact ⟨v', hv1.set v', World.ownsRow.kept hown (grownBy_setCell' w1 o.bo v') (.inr (hv1.not_row (by decide) hown).symm)⟩
theorem OMem.cells (h : OMem o xv g AB W s) : W.cell? ⟨o.bs, 0, none⟩ = some (.map (some o.r)) ∧ W.cell? ⟨o.ba, 0, none⟩ = some o.vA ∧
  W.cell? ⟨o.bf, 0, none⟩ = some (.func (.func 77) #[] #[.pointer (some ⟨o.bs, 0, none⟩), .pointer (some ⟨o.ba, 0, none⟩), .pointer (some ⟨o.bf, 0, none⟩), .pointer (some ⟨o.bo, 0, none⟩), .pointer (some ⟨o.bx, 0, none⟩)]) ∧ W.cell? ⟨o.bx, 4, none⟩ = some xv.vb :=
 ⟨h.seen.cell 0, h.abv.cell 0, h.fn.cell 0, h.gr.cells.2.2.2.2.1⟩
end

theorem OMem.row {o : ONums} {xv : GVals} {g : GraphP} {ab : Nat → List Int} {W : World} {s : OSt} (h : OMem o xv g ((List.range g.blocks.length).map ab) W s) :
  ∃ b off c, o.vA = .slice (some ⟨b, off, none⟩) g.blocks.length c ∧ g.blocks.length ≤ c ∧ ∀ j, j < g.blocks.length → ∃ A n, ∀ W' : World, Agree o.lo o.hi W W' → W'.cell? ⟨b, off + j, none⟩ = some (.slice A (ab j).length n) ∧ IntsV W' o.hi (.slice A (ab j).length n) (ab j) := by
 obtain ⟨b, off, c, h1, h2, _, _, h5⟩ := h.rows
 simp only [List.length_map, List.length_range] at h1 h2
 exact ⟨b, off, c, h1, h2, fun j hj => h5 j (ab j) (by simp [hj])⟩
def OrdIs (o : ONums) (xv : GVals) (g : GraphP) (ab : Nat → List Int) (s' : OSt) (W : World) (e : Ending) (W' : World) : Prop :=
 e = .returned (.tuple #[]) ∧ OMem o xv g ((List.range g.blocks.length).map ab) W' s' ∧ TurnB o.base W W' [o.bo, o.r]
theorem turn_agree {o : ONums} (hl : OLow o) {W W' : World} (h : TurnB o.base W W' [o.bo, o.r]) : Agree o.lo o.hi W W' := fun k h1 h2 => h.block k (by have := hl.hib; omega) (by
 have := hl.bolo; have := hl.hir
 simp only [List.mem_cons, List.not_mem_nil, or_false, not_or]
 omega)
set_option maxRecDepth 100000 in
/-- 'append(v, u...)': v owned, u to be read. -/
theorem run_append_ints (W : World) (base : Nat) (v u : Value) (xs l : List Int) (ty : TypeId) (hown : OwnInts W base v xs) (hu : IntsV W W.heap.size u l) (h63 : xs.length + l.length ≤ 1000000000000) (hbase : base ≤ W.heap.size) :
  ∃ v' w', (Builtin.append_ #[34, 34] ty #[v, u]).run Tryz.prog W = .ok v' w' ∧ OwnInts w' base v' (xs ++ l) ∧ W.grownBy w' v.ownBlock := by
 obtain ⟨i0, hi, hz0, hz1, hz2⟩ := info_parts int_info
 obtain ⟨A, c, rfl, hc, hl, hp⟩ := hu
 cases A with
 | none =>
  have h0 : l = [] := by
   rcases Nat.eq_zero_or_pos l.length with h | h
   ·exact List.eq_nil_of_length_eq_zero h
   ·obtain ⟨_, _, e, _⟩ := hp h; cases e
  subst h0
  refine ⟨v, W, ?_, by rw [List.append_nil]; exact hown, World.grownBy.refl _ _⟩
  rcases hown.2 with ⟨rfl, h1⟩ | ⟨g, cap, cur, rfl, _, _, hnc, _⟩
  ·simp [Builtin.append_, run_underlying (P := Tryz.prog) Tryz.underlying34, sizeOf, typeInfo, hi, Builtin.lenOf, Builtin.firstCells]
  ·simp [Builtin.append_, run_underlying (P := Tryz.prog) Tryz.underlying34, sizeOf, typeInfo, hi, Builtin.lenOf, Builtin.firstCells, hnc, storeCells]
 | some ad =>
  have hcells : ∀ (j : Nat) u, (l.map (Value.int .i64))[j]? = some u → W.cell? (ad.add j) = some u := fun j u hu => by
   rw [List.getElem?_map] at hu
   cases hx : l[j]? with
   | none => rw [hx] at hu; cases hu
   | some x =>
    rw [hx] at hu; injection hu with hu; subst hu
    obtain ⟨b, off, e, hb, hq⟩ := hp (by have := (List.getElem?_eq_some_iff.1 hx).1; omega)
    injection e with e; subst e
    have := hq j x hx
    cases j with
    | zero => simpa [Addr.add] using this
    | succ j => simpa [Addr.add] using this
  obtain ⟨v', w', h1, h2, h3, _, _⟩ := run_append_own_at (P := Tryz.prog) W base 34 ty 3 i0 (.int .i64 0) 1 8 Tryz.underlying34 hi hz0 hz1 hz2 rfl (by decide) v xs.length (xs.map (Value.int .i64)) hown ad l.length c (l.map (Value.int .i64)) (by simp) hcells (ints_oneCell .i64 l) (by unfold maxLen; omega) (by omega) hbase
  refine ⟨v', w', h1, ?_, h3⟩
  unfold OwnInts
  rw [List.length_append, List.map_append]
  exact h2
theorem step_append_run {ops : Array Oper} {o : Oper} {a : Act} {K : Act → World → Prop} {Q : Exit → Act → World → Prop} {E : Prop} {W : World} (hgd : o.guard = none) (s x : Operand)
  (ho : o.op = .call { callee := .builtin .append, args := #[s, x], argTypes := #[34, 34] }) (v u v' : Value) (w' : World) (hs : a.eval s = v) (hx : a.eval x = u)
  (hrun : (Builtin.append_ #[34, 34] o.type #[v, u]).run Tryz.prog W = .ok v' w') (hK : K (a.put o.dst v') w') : if Region.wanted o (yielded ops a.tmps) = true then Oper.wp Tryz.prog o a W K Q else E := by
 have hw : Region.wanted o (yielded ops a.tmps) = true := by simp [Region.wanted, hgd]
 rw [if_pos hw]
 unfold Oper.wp
 simp only [execOp, ho, resolve, invoke, builtin, hs, hx, List.map_toArray, List.map_cons, List.map_nil, Sem.run_bind, Sem.run_pure, Result.andThen, hrun, Oper.upon_value, pure_bind, bind_pure_comp, Sem.run_map]
 exact hK
theorem OwnInts.form {w : World} {base : Nat} {v : Value} {l : List Int} (h : OwnInts w base v l) : ∃ A n c, v = .slice A n c := by
 rcases h.2 with ⟨rfl, _⟩ | ⟨g, cap, cur, rfl, _⟩
 ·exact ⟨_, _, _, rfl⟩
 ·exact ⟨_, _, _, rfl⟩
theorem OGo.ok {g : GraphP} {d : Nat} {s s' : OSt} (h : OGo g d s s') (hk : OOk g s) : OOk g s' := ⟨h.bound, by have := h.len; have := hk.len; omega⟩
set_option maxRecDepth 100000 in
set_option maxHeartbeats 8000000 in
theorem block_any (o : ONums) (xv : GVals) (g : GraphP) (ab : Nat → List Int) (hs : Small g) (hab : ∀ b, ∀ a ∈ ab b, 0 ≤ a ∧ a < (g.blocks.length : Int)) (hal : ∀ b, (ab b).length ≤ 5000) : ∀ (f : Nat) (s : OSt) (b : Nat) (W : World), (ab b).length < f → b < g.blocks.length → OOk g s → OMem o xv g ((List.range g.blocks.length).map ab) W s →
  Calls Tryz.prog 77 #[.int .i64 b, .pointer (some ⟨o.bs, 0, none⟩), .pointer (some ⟨o.ba, 0, none⟩), .pointer (some ⟨o.bf, 0, none⟩), .pointer (some ⟨o.bo, 0, none⟩), .pointer (some ⟨o.bx, 0, none⟩)] W (OrdIs o xv g ab (ordB g ab f s b) W) := by
 intro f
 induction f with
 | zero => intro s b W h; omega
 | succ f ih =>
  intro s b W hf hb hok hm
  have HM := Lib.hid hm; have HOk := Lib.hid hok
  obtain ⟨f0, f1, f2, f3⟩ := hm.cells
  have hlook := (IMap.look (P := Tryz.prog) hm.set Tryz.underlying76 Tryz.underlying3 (by kernel_rfl) (b : Int)).1
  cases hsb : s.seen (b : Int)
  ·have hgd : (setF s.seen (b : Int)).getD 0 = 0 := by unfold setF; rw [hsb]; rfl
   rw [hgd] at hlook
   have HSb := Lib.hid hsb; have HF := Lib.hid hf
   obtain ⟨rb, roff, rc, evA, hrc, hrow⟩ := hm.row
   have HRow := Lib.hid hrow
   obtain ⟨A, n, hAn⟩ := hrow b hb
   have HAn := Lib.hid hAn
   rw [evA] at f1
   have HVA := Lib.hid evA
   obtain ⟨w1, hupd, hm1, hg1, hs1⟩ := IMap.update (P := Tryz.prog) hm.set Tryz.underlying76 Tryz.underlying3 (b : Int) 1
   rw [setF_put] at hm1
   have HM1 := Lib.hid (hm.set_ hm1 hg1)
   have HT1 : Hid (TurnB o.base W w1 [o.bo, o.r]) := Lib.hid (TurnB.of_grown hg1 hm.base (fun r e => by injection e with e; exact .inl (by simp [e])))
   obtain ⟨l1, l2, l3⟩ := hs.lens
   have hlen := hal b
   have e1 : w1.cell? ⟨o.ba, 0, none⟩ = some (.slice (some ⟨rb, roff, none⟩) g.blocks.length rc) := by rw [← evA]; exact HM1.out.cells.2.1
   have e2 := (hAn w1 (turn_agree hm.low HT1.out)).1
   clear hm hok hrow hAn evA hm1 hg1 hs1 hsb hgd hf
   go_enter Tryz.func77, Tryz.ntmps77
   go_wp2_with fail
   clear hlook hupd f0 f1 f2 f3 e1 e2
   have HLow := Lib.hid HM.out.low
   go_loopw [20] (fun i wr => ∃ k : Nat, i = .int .i64 k ∧ k ≤ (ab b).length ∧ Hid (OMem o xv g ((List.range g.blocks.length).map ab) wr (ordTo g ab f b s k)) ∧ Hid (TurnB o.base W wr [o.bo, o.r])) (fun i _ => (ab b).length - (intOf i).toNat)
   case atStart => exact ⟨0, rfl, Nat.zero_le _, HM1, HT1⟩
   case round =>
    obtain ⟨k, rfl, hk, HMk, HTk⟩ := hrel
    by_cases hlt : k < (ab b).length
    ·obtain ⟨hrb, hib⟩ := HAn.out wr (turn_agree HLow.out HTk.out)
     obtain ⟨bA, offA, rfl, _, hpA⟩ := hib.cells hlt
     obtain ⟨a, ha⟩ := getE hlt
     have d0 := hpA k a ha
     obtain ⟨ha0, ha1⟩ := hab b a (List.mem_of_getElem? ha)
     obtain ⟨z, rfl⟩ := Int.eq_ofNat_of_zero_le ha0
     have hz : z < g.blocks.length := by omega
     obtain ⟨Az, nz, hAz⟩ := HRow.out z hz
     have hrz := (hAz wr (turn_agree HLow.out HTk.out)).1
     have d1 : wr.cell? ⟨o.ba, 0, none⟩ = some (.slice (some ⟨rb, roff, none⟩) g.blocks.length rc) := by rw [← HVA.out]; exact HMk.out.cells.2.1
     have d2 := HMk.out.cells.2.2.1
     have HA := Lib.hid ha
     have hlz := hal z
     clear hib hpA ha hAz ha0 ha1
     by_cases hc : (ab z).length < (ab b).length
     ·have HGo := Lib.hid (ordTo_go hs hab f s b hb HOk.out.bound HSb.out k (by omega))
      have HFz : Hid ((ab z).length < f) := Lib.hid (by have := HF.out; omega)
      go_upto_region 5 with fail
      go_quiet (fail)
      go_wp2_with (go_at_call 77; refine (ih (ordTo g ab f b s k) z _ HFz.out hz (HGo.out.ok HOk.out) (HMk.out.drewN _)).mono ?_; rintro e w2 ⟨rfl, hm2, ht2⟩; have HM2 := Lib.hid hm2; have HT2 := Lib.hid ht2; clear hm2 ht2 d0 d1 d2 hrb hrz)
      go_roundw
      case rel =>
       refine ⟨k + 1, by go_num, by omega, Lib.hid ?_, Lib.hid (HTk.out.trans ?_)⟩
       ·rw [ordTo_step g ab f b s k _ HA.out]
        unfold ordStep
        rw [Int.toNat_natCast, if_pos hc]
        exact HM2.out
       ·exact ⟨HT2.out.os, HT2.out.tape, HT2.out.output, HT2.out.size, HT2.out.block⟩
      case measure => simp [intOf]; omega
     ·go_upto_region 5 with fail
      go_quiet (fail)
      go_wp2_with fail
      go_roundw
      case rel =>
       refine ⟨k + 1, by go_num, by omega, Lib.hid ?_, Lib.hid ⟨HTk.out.os, HTk.out.tape, HTk.out.output, HTk.out.size, HTk.out.block⟩⟩
       rw [ordTo_step g ab f b s k _ HA.out]
       unfold ordStep
       rw [Int.toNat_natCast, if_neg hc]
       exact HMk.out.drewN _
      case measure => simp [intOf]; omega
    ·have e : k = (ab b).length := by omega
     subst e
     obtain ⟨x, hx⟩ := getE hb
     obtain ⟨vn, vb, vs⟩ := xv
     have HGo := Lib.hid (ordTo_go hs hab f s b hb HOk.out.bound HSb.out _ (Nat.le_refl _))
     have HD := Lib.hid HMk.out.drew
     obtain ⟨Ab, cb, e0, _, _, hpb⟩ := HD.out.gr.gr.2.1
     simp only at e0
     subst e0
     obtain ⟨bm, offm, rfl, hbm, hpm⟩ := hpb (by omega)
     obtain ⟨y, hy, g0, _⟩ := (hpm b x hx).parts
     obtain ⟨v0, v2, v3, v4⟩ := y
     simp only at g0
     have hp0 : IntsV wr.drew o.B v0 x.nodes := hy.p0
     obtain ⟨vo, hv1, hv2⟩ := HD.out.out
     have hn : ordNodes g b = x.nodes := by unfold ordNodes; rw [hx]
     have hl1 := HGo.out.lim hs HOk.out.len
     have hl2 := (hs.block hx).1
     obtain ⟨v', w2, hrun, hown, hgrow⟩ := run_append_ints wr.drew o.base vo v0 _ x.nodes 34 hv2 (hp0.mono HD.out.gr.hB) (by omega) HD.out.base
     obtain ⟨b1, hm2, ht2⟩ := HD.out.out_ hv1 hv2 hown hgrow
     have HM2 := Lib.hid hm2; have HT2 := Lib.hid ht2
     obtain ⟨A0, c0, e0⟩ := hp0.shape
     have e0' : v0 = .slice A0 x.nodes.length c0 := e0
     subst e0'
     obtain ⟨Av, nv, cv, rfl⟩ := OwnInts.form hown
     have HRun := Lib.hid hrun
     clear hrun
     have f3 : wr.drew.cell? ⟨o.bx, 4, none⟩ = some (.slice (some ⟨bm, offm, none⟩) g.blocks.length cb) := HD.out.cells.2.2.2
     have fo := hv1.cell
     have fb := b1.cell
     have fz := b1.frozen
     have hS : wr.drew.cell? ⟨o.bx, 4, none⟩ = some (.slice (some ⟨bm, offm, none⟩) g.blocks.length cb) ∧ wr.drew.cell? ⟨bm, offm + b * 6, none⟩ = some (.slice A0 x.nodes.length c0) := ⟨f3, g0⟩
     obtain ⟨fS1, fS2⟩ := hS
     clear hpm hpb hy hp0 hv1 hv2 b1 hown hgrow hm2 ht2 e0 f3 g0
     go_upto_region 8 with fail
     go_region_law ((refine step_append_run (by rfl) _ _ (by rfl) vo (.slice A0 x.nodes.length c0) (.slice Av nv cv) w2 (by rfl) (by rfl) HRun.out ?_))
     all_goals
      go_end0
      refine ⟨rfl, ?_, ?_⟩
      ·rw [ordB_new HSb.out, hn]
       exact HM2.out
      ·refine HTk.out.trans ?_
       have t := HT2.out
       exact ⟨t.os, t.tape, t.output, t.size, fun k h1 h2 => t.block k h1 (fun hm => h2 (by simp only [List.mem_cons, List.not_mem_nil, or_false] at hm; simp [hm]))⟩
  ·rw [setF_getD s.seen _ hsb] at hlook
   have HSb := Lib.hid hsb
   clear hm hok hsb
   go_enter Tryz.func77, Tryz.ntmps77
   go_wp2_with fail
   refine bodyPost_ret (results_none rfl _ _ _) rfl ?_
   rw [ordB_seen HSb.out]
   exact ⟨rfl, HM.out, TurnB.refl _ _ _⟩
end Go.Proofs.YtkmfdiboekoioaaGreat
