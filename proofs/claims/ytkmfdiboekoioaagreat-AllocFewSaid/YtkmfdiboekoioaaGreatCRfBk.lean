/- The spots of a block as the reference 21 lists them: as plain data, and their memory. No condition. -/
import Derived.Test.YtkmfdiboekoioaaGreatCRfOf
import Derived.Test.YtkmfdiboekoioaaGreatCRfLess
import Derived.Test.YtkmfdiboekoioaaGreatCOrder
import Derived.Test.YtkmfdiboekoioaaGreatCRfPl1
set_option linter.unusedSimpArgs false
set_option linter.unusedVariables false
namespace Go.Proofs.YtkmfdiboekoioaaGreat
open Go.RowKit
/-- Where one stands in a block, as the reference has it: what is live, the phis, how many were together so far. -/
structure RSt where
 now : List Int
 phis : List Int
 out : List (List Int)
def rStep (g : GraphP) (s : RSt) (n : Int) : RSt := match nodeAt g n with
 | none => s
 | some y => if y.op = 2 then ⟨lessP s.now n, s.phis ++ [n], s.out⟩
  else ⟨moreP g.nodes.length (moreP g.nodes.length (lessP s.now n) y.args) (slotsOf g y.state), s.phis, s.out ++ [n :: lessP s.now n]⟩
theorem rStep_none {g : GraphP} {s : RSt} {n : Int} (h : nodeAt g n = none) : rStep g s n = s := by unfold rStep; rw [h]
theorem rStep_phi {g : GraphP} {s : RSt} {n : Int} {y : NodeP} (h : nodeAt g n = some y) (ho : y.op = 2) : rStep g s n = ⟨lessP s.now n, s.phis ++ [n], s.out⟩ := by unfold rStep; rw [h]; simp only [if_pos ho]
theorem rStep_other {g : GraphP} {s : RSt} {n : Int} {y : NodeP} (h : nodeAt g n = some y) (ho : y.op ≠ 2) : rStep g s n = ⟨moreP g.nodes.length (moreP g.nodes.length (lessP s.now n) y.args) (slotsOf g y.state), s.phis, s.out ++ [n :: lessP s.now n]⟩ := by unfold rStep; rw [h]; simp only [if_neg ho]
def rFirst (g : GraphP) (O : Sets) (b : Nat) (x : BlockP) : RSt := ⟨moreP g.nodes.length (moreP g.nodes.length (moreP g.nodes.length [] (listOf g.nodes.length (O.at_ b))) x.args) (slotsOf g x.state), [], []⟩
/-- Ahead of the node i. -/
def rAt (g : GraphP) (O : Sets) (b : Nat) (x : BlockP) (i : Nat) : RSt := ((x.nodes.drop i).reverse).foldl (rStep g) (rFirst g O b x)
theorem rAt_len (g : GraphP) (O : Sets) (b : Nat) (x : BlockP) {i : Nat} (h : x.nodes.length ≤ i) : rAt g O b x i = rFirst g O b x := by
 unfold rAt; rw [List.drop_eq_nil_of_le h]; rfl
theorem rAt_step (g : GraphP) (O : Sets) (b : Nat) (x : BlockP) {i : Nat} {n : Int} (h : x.nodes[i]? = some n) : rAt g O b x i = rStep g (rAt g O b x (i + 1)) n := by
 obtain ⟨hi, e⟩ := List.getElem?_eq_some_iff.1 h
 unfold rAt; rw [List.drop_eq_getElem_cons hi, e, List.reverse_cons, List.foldl_append]; rfl
def rEnd (g : GraphP) (I : Sets) (b : Nat) (s : RSt) : List (List Int) := s.out ++ [moreP g.nodes.length (moreP g.nodes.length [] s.phis) (listOf g.nodes.length (I.at_ b))]
/-- The spots of a block. -/
def blockSpots (g : GraphP) (I O : Sets) (b : Nat) (x : BlockP) : List (List Int) := rEnd g I b (rAt g O b x 0)
/-- Numbers of nodes, once each. -/
def NowOk (N : Nat) (l : List Int) : Prop := l.Nodup ∧ ∀ z ∈ l, 0 ≤ z ∧ z < (N : Int)
theorem NowOk.nil (N : Nat) : NowOk N [] := ⟨List.nodup_nil, fun _ h => by cases h⟩
theorem NowOk.len {N : Nat} {l : List Int} (h : NowOk N l) : l.length ≤ N := bounded_len h.1 h.2
theorem NowOk.more {N : Nat} : ∀ {m l : List Int}, NowOk N l → NowOk N (moreP N l m)
 | [], _, h => h
 | x :: m, l, h => by
  show NowOk N (moreP N (if 0 ≤ x ∧ x < (N : Int) ∧ x ∉ l then l ++ [x] else l) m)
  refine NowOk.more ?_
  split
  ·rename_i hx
   refine ⟨?_, fun z hz => ?_⟩
   ·rw [List.nodup_append]
    exact ⟨h.1, by simp, fun a ha b hb => by simp at hb; subst hb; exact fun e => hx.2.2 (e ▸ ha)⟩
   ·rcases List.mem_append.1 hz with hz | hz
    ·exact h.2 z hz
    ·simp at hz; subst hz; exact ⟨hx.1, hx.2.1⟩
  ·exact h
theorem NowOk.less {N : Nat} {l : List Int} (h : NowOk N l) (n : Int) : NowOk N (lessP l n) := ⟨h.1.filter _, fun z hz => h.2 z (List.mem_filter.1 hz).1⟩
theorem mem_more {N : Nat} {z : Int} : ∀ {m l : List Int}, z ∈ moreP N l m ↔ z ∈ l ∨ (0 ≤ z ∧ z < (N : Int) ∧ z ∈ m)
 | [], l => by simp [moreP]
 | x :: m, l => by
  show z ∈ moreP N (if 0 ≤ x ∧ x < (N : Int) ∧ x ∉ l then l ++ [x] else l) m ↔ _
  rw [mem_more]
  by_cases hx : 0 ≤ x ∧ x < (N : Int) ∧ x ∉ l
  ·rw [if_pos hx]
   simp only [List.mem_append, List.mem_cons, List.not_mem_nil, or_false]
   constructor
   ·rintro ((h | rfl) | ⟨h0, h1, h2⟩)
    ·exact .inl h
    ·exact .inr ⟨hx.1, hx.2.1, .inl rfl⟩
    ·exact .inr ⟨h0, h1, .inr h2⟩
   ·rintro (h | ⟨h0, h1, rfl | h2⟩)
    ·exact .inl (.inl h)
    ·exact .inl (.inr rfl)
    ·exact .inr ⟨h0, h1, h2⟩
  ·rw [if_neg hx]
   simp only [List.mem_cons]
   constructor
   ·rintro (h | ⟨h0, h1, h2⟩)
    ·exact .inl h
    ·exact .inr ⟨h0, h1, .inr h2⟩
   ·rintro (h | ⟨h0, h1, rfl | h2⟩)
    ·exact .inl h
    ·exact .inl (Classical.byContradiction fun q => hx ⟨h0, h1, q⟩)
    ·exact .inr ⟨h0, h1, h2⟩
theorem mem_less {l : List Int} {n z : Int} : z ∈ lessP l n ↔ z ∈ l ∧ z ≠ n := by
 unfold lessP
 rw [List.mem_filter]
 simp
/-- What holds of a place. -/
structure RStOk (g : GraphP) (x : BlockP) (i : Nat) (s : RSt) : Prop where
 now : NowOk g.nodes.length s.now
 phis : s.phis.length + i ≤ x.nodes.length
 out : s.out.length + i ≤ x.nodes.length
theorem RStOk.at_ (g : GraphP) (O : Sets) (b : Nat) (x : BlockP) : ∀ (d i : Nat), i + d = x.nodes.length → RStOk g x i (rAt g O b x i)
 | 0, i, h => by
  rw [rAt_len g O b x (by omega)]
  exact ⟨(((NowOk.nil _).more).more).more, by simp [rFirst]; omega, by simp [rFirst]; omega⟩
 | d + 1, i, h => by
  obtain ⟨n, hn⟩ := getE (l := x.nodes) (k := i) (by omega)
  have ih := RStOk.at_ g O b x d (i + 1) (by omega)
  rw [rAt_step g O b x hn]
  cases hna : nodeAt g n with
  | none => rw [rStep_none hna]; exact ⟨ih.now, by have := ih.phis; omega, by have := ih.out; omega⟩
  | some y =>
   by_cases ho : y.op = 2
   ·rw [rStep_phi hna ho]; exact ⟨ih.now.less n, by have := ih.phis; simp; omega, by have := ih.out; simp only; omega⟩
   ·rw [rStep_other hna ho]; exact ⟨((ih.now.less n).more).more, by have := ih.phis; simp only; omega, by have := ih.out; simp; omega⟩
/-- The cells of spots. -/
def spCells (L : List (Option Addr × Nat × Nat × Bool)) : List Value := L.flatMap (fun p => [.slice p.1 p.2.1 p.2.2.1, .bool p.2.2.2])
theorem spCells_len (L : List (Option Addr × Nat × Nat × Bool)) : (spCells L).length = L.length * 2 := by
 induction L with
 | nil => rfl
 | cons p L ih => simp [spCells] at ih ⊢; omega
theorem spCells_one {L : List (Option Addr × Nat × Nat × Bool)} : ∀ u ∈ spCells L, u.oneCell' = true := fun u hu => by
 obtain ⟨p, _, h⟩ := List.mem_flatMap.1 hu
 simp at h
 rcases h with rfl | rfl <;> rfl
theorem spCells_get : ∀ {L : List (Option Addr × Nat × Nat × Bool)} {j : Nat} {p}, L[j]? = some p → (spCells L)[j * 2]? = some (.slice p.1 p.2.1 p.2.2.1)
 | q :: L, 0, p, h => by simp at h; subst h; simp [spCells]
 | q :: L, j + 1, p, h => by
  have := spCells_get (L := L) (j := j) (p := p) (by simpa using h)
  simp only [spCells, List.flatMap_cons] at this ⊢
  rw [List.getElem?_append_right (by simp; omega)]
  simpa [show (j + 1) * 2 - 2 = j * 2 by omega] using this
/-- An own row of spots, of which so many nodes are together each. -/
def SpotsOwn (w : World) (base : Nat) (v : Value) (ns : List Nat) : Prop := ∃ L : List (Option Addr × Nat × Nat × Bool), L.map (fun p => p.2.1) = ns ∧ w.ownsRow base 80 2 v L.length (spCells L)
theorem spot_info : (Tryz.prog.info? 80).map (fun i => (i.zero, i.size, i.bytes)) = some (some (.agg #[.slice none 0 0, .bool false]), 2, 32) := by kernel_rfl
theorem SpotsOwn.nil (w : World) (base : Nat) : SpotsOwn w base (.slice none 0 0) [] := ⟨[], rfl, World.ownsRow_nil _ _ _ _⟩
theorem SpotsOwn.len {w : World} {base : Nat} {v : Value} {ns : List Nat} (h : SpotsOwn w base v ns) : ∃ A c, v = .slice A ns.length c := by
 obtain ⟨L, h1, h2⟩ := h
 have : L.length = ns.length := by rw [← h1]; simp
 rw [this] at h2
 rcases h2.2 with ⟨rfl, h0⟩ | ⟨g, cap, cur, rfl, _⟩
 ·exact ⟨none, 0, by rw [h0]⟩
 ·exact ⟨_, _, rfl⟩
theorem SpotsOwn.lt {w : World} {base : Nat} {v : Value} {ns : List Nat} (h : SpotsOwn w base v ns) : ∀ k, v.ownBlock = some k → base ≤ k ∧ k < w.heap.size := by
 obtain ⟨L, _, h2⟩ := h
 exact World.ownsRow.lt h2
theorem SpotsOwn.kept {w w' : World} {base : Nat} {v : Value} {ns : List Nat} {row : Option Nat} (h : SpotsOwn w base v ns) (hg : w.grownBy w' row) (hne : v.ownBlock = none ∨ v.ownBlock ≠ row) : SpotsOwn w' base v ns := by
 obtain ⟨L, h1, h2⟩ := h
 exact ⟨L, h1, World.ownsRow.kept h2 hg hne⟩
/-- Two rows lie apart. -/
def Ap (u v : Value) : Prop := u.ownBlock = none ∨ u.ownBlock ≠ v.ownBlock
theorem Ap.symm {u v : Value} (h : Ap u v) : Ap v u := by
 unfold Ap at *
 cases hv : v.ownBlock with
 | none => exact .inl rfl
 | some q =>
  refine .inr fun e => ?_
  rcases h with h | h
  ·rw [h] at e; cases e
  ·exact h (e.symm.trans hv.symm)
theorem Ap.nil (v : Value) : Ap (.slice none 0 0) v := .inl rfl
theorem Ap.fresh {u v : Value} {n : Nat} (hu : ∀ k, u.ownBlock = some k → k < n) (hv : ∀ k, v.ownBlock = some k → n ≤ k) : Ap u v := by
 unfold Ap
 cases h : u.ownBlock with
 | none => exact .inl rfl
 | some k =>
  refine .inr fun e => ?_
  have := hu k h
  have := hv k e.symm
  omega
/-- The memory of the spots of a block, between its steps. -/
structure BkM (w1 : World) (N : Nat) (nv pv ov : Value) (s : RSt) (wr : World) : Prop where
 low : Below w1.heap.size w1 wr
 now : OwnInts wr w1.heap.size nv s.now
 phis : OwnInts wr w1.heap.size pv s.phis
 out : SpotsOwn wr w1.heap.size ov (s.out.map List.length)
 a1 : Ap pv nv
 a2 : Ap ov nv
 a3 : Ap ov pv
section
variable {w1 : World} {N : Nat} {nv pv ov u : Value} {s : RSt} {wr w2 : World} {l : List Int}
theorem BkM.below (h : BkM w1 N nv pv ov s wr) (hb : Below wr.heap.size wr w2) : BkM w1 N nv pv ov s w2 := by
 have hg : wr.grownBy w2 (some wr.heap.size) := ⟨hb.os, hb.tape, hb.output, hb.size, fun k hk _ => hb.block k hk⟩
 have ne : ∀ {v : Value}, (∀ k, v.ownBlock = some k → k < wr.heap.size) → v.ownBlock = none ∨ v.ownBlock ≠ some wr.heap.size := fun hv => by
  rename_i v
  cases hk : v.ownBlock with
  | none => exact .inl rfl
  | some k => exact .inr fun e => by injection e with e; have := hv k hk; omega
 exact ⟨h.low.trans (hb.mono h.low.size), World.ownsRow.kept h.now hg (ne fun k e => (World.ownsRow.lt h.now k e).2), World.ownsRow.kept h.phis hg (ne fun k e => (World.ownsRow.lt h.phis k e).2), h.out.kept hg (ne fun k e => (h.out.lt k e).2), h.a1, h.a2, h.a3⟩
theorem BkM.more (h : BkM w1 N nv pv ov s wr) (hg : wr.grownBy w2 nv.ownBlock) (hn : OwnInts w2 w1.heap.size u l) (hb : u.ownBlock = nv.ownBlock ∨ ∃ q, u.ownBlock = some q ∧ wr.heap.size ≤ q) : BkM w1 N u pv ov ⟨l, s.phis, s.out⟩ w2 := by
 have ap : ∀ {v : Value}, Ap v nv → (∀ k, v.ownBlock = some k → k < wr.heap.size) → Ap v u := fun ha hv => by
  rcases hb with hb | ⟨q, hb, hq⟩
  ·unfold Ap at *; rw [hb]; exact ha
  ·exact Ap.fresh hv (fun k e => by rw [hb] at e; injection e with e; omega)
 exact ⟨h.low.grown hg h.low.size (fun k e => (World.ownsRow.lt h.now k e).1), hn, World.ownsRow.kept h.phis hg h.a1, h.out.kept hg h.a2, ap h.a1 fun k e => (World.ownsRow.lt h.phis k e).2, ap h.a2 fun k e => (h.out.lt k e).2, h.a3⟩
theorem BkM.forget (h : BkM w1 N nv pv ov s wr) : BkM w1 N (.slice none 0 0) pv ov ⟨[], s.phis, s.out⟩ wr :=
 ⟨h.low, OwnInts.nil _ _, h.phis, h.out, (Ap.nil pv).symm, (Ap.nil ov).symm, h.a3⟩
theorem BkM.less (h : BkM w1 N nv pv ov s wr) (hb : Below wr.heap.size wr w2) (hn : OwnInts w2 wr.heap.size u l) : BkM w1 N u pv ov ⟨l, s.phis, s.out⟩ w2 := by
 have h2 := h.below hb
 exact ⟨h2.low, hn.mono h.low.size, h2.phis, h2.out, Ap.fresh (fun k e => (World.ownsRow.lt h.phis k e).2) fun k e => (World.ownsRow.lt hn k e).1, Ap.fresh (fun k e => (h.out.lt k e).2) fun k e => (World.ownsRow.lt hn k e).1, h.a3⟩
theorem BkM.phi (h : BkM w1 N nv pv ov s wr) (hg : wr.grownBy w2 pv.ownBlock) (hn : OwnInts w2 w1.heap.size u l) (hb : u.ownBlock = pv.ownBlock ∨ ∃ q, u.ownBlock = some q ∧ wr.heap.size ≤ q) : BkM w1 N nv u ov ⟨s.now, l, s.out⟩ w2 := by
 have ap : ∀ {v : Value}, Ap v pv → (∀ k, v.ownBlock = some k → k < wr.heap.size) → Ap v u := fun ha hv => by
  rcases hb with hb | ⟨q, hb, hq⟩
  ·unfold Ap at *; rw [hb]; exact ha
  ·exact Ap.fresh hv (fun k e => by rw [hb] at e; injection e with e; omega)
 exact ⟨h.low.grown hg h.low.size (fun k e => (World.ownsRow.lt h.phis k e).1), World.ownsRow.kept h.now hg h.a1.symm, hn, h.out.kept hg h.a3, (ap h.a1.symm fun k e => (World.ownsRow.lt h.now k e).2).symm, h.a2, ap h.a3 fun k e => (h.out.lt k e).2⟩
theorem BkM.spot (h : BkM w1 N nv pv ov s wr) (hg : wr.grownBy w2 ov.ownBlock) {o : List (List Int)} (hn : SpotsOwn w2 w1.heap.size u (o.map List.length)) (hb : u.ownBlock = ov.ownBlock ∨ ∃ q, u.ownBlock = some q ∧ wr.heap.size ≤ q) : BkM w1 N nv pv u ⟨s.now, s.phis, o⟩ w2 := by
 have ap : ∀ {v : Value}, Ap v ov → (∀ k, v.ownBlock = some k → k < wr.heap.size) → Ap v u := fun ha hv => by
  rcases hb with hb | ⟨q, hb, hq⟩
  ·unfold Ap at *; rw [hb]; exact ha
  ·exact Ap.fresh hv (fun k e => by rw [hb] at e; injection e with e; omega)
 exact ⟨h.low.grown hg h.low.size (fun k e => (h.out.lt k e).1), World.ownsRow.kept h.now hg h.a2.symm, World.ownsRow.kept h.phis hg h.a3.symm, hn, h.a1, (ap h.a2.symm fun k e => (World.ownsRow.lt h.now k e).2).symm, (ap h.a3.symm fun k e => (World.ownsRow.lt h.phis k e).2).symm⟩
end
/-- 'append(v, u...)' where the run is known. -/
theorem wpList_append_run {P : Program} {ops : Array Oper} {rest : List Oper} {o : Oper} {a : Act} {w : World} {Q : Exit → Act → World → Prop} (hgd : o.guard = none) (s x : Operand) (t : TypeId)
  (ho : o.op = .call { callee := .builtin .append, args := #[s, x], argTypes := #[t, t] }) (v u v' : Value) (w' : World) (hs : a.eval s = v) (hx : a.eval x = u)
  (hr : (Builtin.append_ #[t, t] o.type #[v, u]).run P w = .ok v' w') (h : wpList P ops Q rest (a.put o.dst v') w') : wpList P ops Q (o :: rest) a w := by
 refine wpList_plain hgd fun K hK => ?_
 unfold Oper.wp execOp
 simp only [ho, resolve, invoke, builtin, Sem.run_bind, Sem.run_pure, Result.andThen_ok, List.map_toArray, List.map_cons, List.map_nil, hs, hx, hr]
 exact hK _ _ h
theorem step_append_runT {ops : Array Oper} {o : Oper} {a : Act} {K : Act → World → Prop} {Q : Exit → Act → World → Prop} {E : Prop} {W : World} (hgd : o.guard = none) (s x : Operand) (t : TypeId)
  (ho : o.op = .call { callee := .builtin .append, args := #[s, x], argTypes := #[t, t] }) (v u v' : Value) (w' : World) (hs : a.eval s = v) (hx : a.eval x = u)
  (hrun : (Builtin.append_ #[t, t] o.type #[v, u]).run Tryz.prog W = .ok v' w') (hK : K (a.put o.dst v') w') : if Region.wanted o (yielded ops a.tmps) = true then Oper.wp Tryz.prog o a W K Q else E := by
 have hw : Region.wanted o (yielded ops a.tmps) = true := by simp [Region.wanted, hgd]
 rw [if_pos hw]
 unfold Oper.wp
 simp only [execOp, ho, resolve, invoke, builtin, hs, hx, List.map_toArray, List.map_cons, List.map_nil, Sem.run_bind, Sem.run_pure, Result.andThen, hrun, Oper.upon_value, pure_bind, bind_pure_comp, Sem.run_map]
 exact hK
theorem OwnInts.lit1 (w : World) (x : Int) {base : Nat} (hb : base ≤ w.heap.size) : OwnInts (w.alloc (.cells #[.int .i64 x] 3)) base (.slice (some ⟨w.heap.size, 0, none⟩) 1 1) [x] :=
 World.ownsRow_lit (size := 1) w #[.int .i64 x] 1 hb (by decide) (by simp)
/-- '[]int{n}' lengthened by an own list: the run. -/
theorem run_spot_list (w : World) (n : Int) (base : Nat) (nv : Value) (l : List Int) (hn : OwnInts w base nv l) (hl : l.length ≤ 10000000) (ty : TypeId) :
  ∃ A c w', (Builtin.append_ #[34, 34] ty #[.slice (some ⟨w.heap.size, 0, none⟩) 1 1, nv]).run Tryz.prog (w.alloc (.cells #[.int .i64 n] 3)) = .ok (.slice A (n :: l).length c) w' ∧ Below w.heap.size w w' := by
 have h1 := OwnInts.lit1 w n (Nat.le_refl _)
 have h2 : OwnInts (w.alloc (.cells #[.int .i64 n] 3)) base nv l := World.ownsRow.alloc hn _
 obtain ⟨v', w', hr, ho, hg⟩ := run_append_ints (w.alloc (.cells #[.int .i64 n] 3)) w.heap.size (.slice (some ⟨w.heap.size, 0, none⟩) 1 1) nv [n] l ty h1 (h2.ints (by unfold lim; omega)) (by simp; omega) (by simp)
 obtain ⟨A, c, e, _⟩ := ho.ints (by simp; unfold lim; omega)
 refine ⟨A, c, w', ?_, ((Below.refl _ _).alloc (Nat.le_refl _) _).grown hg (by simp) (fun k e => by simp [Value.ownBlock] at e; omega)⟩
 rw [hr, e]; rfl
/-- A spot is laid behind others: the run. -/
theorem run_spot_add (w : World) (base : Nat) (ov : Value) (ns : List Nat) (A : Option Addr) (n c : Nat) (t : Bool) (h : SpotsOwn w base ov ns) (hb : base ≤ w.heap.size) (hl : ns.length ≤ 10000000) (ty : TypeId) :
  ∃ v' w', (Builtin.append_ #[77, 77] ty #[ov, .slice (some ⟨w.heap.size, 0, none⟩) 1 1]).run Tryz.prog (w.alloc (.cells #[.slice A n c, .bool t] 80)) = .ok v' w' ∧ SpotsOwn w' base v' (ns ++ [n]) ∧ (w.alloc (.cells #[.slice A n c, .bool t] 80)).grownBy w' ov.ownBlock ∧ (v'.ownBlock = ov.ownBlock ∨ ∃ q, v'.ownBlock = some q ∧ (w.alloc (.cells #[.slice A n c, .bool t] 80)).heap.size ≤ q) := by
 obtain ⟨L, h1, h2⟩ := h
 obtain ⟨i, hi, hz0, hz1, hz2⟩ := info_parts spot_info
 have hL : L.length = ns.length := by rw [← h1]; simp
 obtain ⟨v', w', hr, ho, hg, _, hbk⟩ := run_append_own_at (P := Tryz.prog) (w.alloc (.cells #[.slice A n c, .bool t] 80)) base 77 ty 80 i (.agg #[.slice none 0 0, .bool false]) 2 32 Tryz.underlying77 hi hz0 hz1 hz2 rfl (by decide) ov L.length (spCells L) (World.ownsRow.alloc h2 _) ⟨w.heap.size, 0, none⟩ 1 1 [.slice A n c, .bool t] rfl
  (fun j u hu => by
   have hc : (w.alloc (.cells #[.slice A n c, .bool t] 80)).cell? ⟨w.heap.size, j, none⟩ = #[Value.slice A n c, .bool t][j]? := (Blk.new w 80 #[.slice A n c, .bool t]).cell j
   have ha : (⟨w.heap.size, 0, none⟩ : Addr).add j = ⟨w.heap.size, j, none⟩ := by unfold Addr.add; split <;> simp_all
   rw [ha, hc]
   simpa using hu)
  (fun u hu => by simp at hu; rcases hu with rfl | rfl <;> rfl) (by unfold maxLen; omega) (by omega) (by simp; omega)
 refine ⟨v', w', hr, ⟨L ++ [(A, n, c, t)], by rw [List.map_append, h1]; rfl, ?_⟩, hg, hbk.imp id fun h => ⟨_, h, Nat.le_refl _⟩⟩
 have e : spCells (L ++ [(A, n, c, t)]) = spCells L ++ [.slice A n c, .bool t] := by simp [spCells]
 rw [e, List.length_append]
 exact ho
end Go.Proofs.YtkmfdiboekoioaaGreat

/- Where nodes are live in a graph that may be, and that two that are live together meet. Conditions: the facts of a graph that may be. -/
namespace Go.Proofs.YtkmfdiboekoioaaGreat
open Go.RowKit
theorem add_in {p : ISet} (N : Nat) (l : List Int) {z : Int} (h : p z = true ∨ (0 ≤ z ∧ z < (N : Int) ∧ z ∈ l)) : p.add N l z = true := by
 simp only [ISet.add, Bool.or_eq_true, Bool.and_eq_true, decide_eq_true_eq, List.contains_iff_mem]
 rcases h with h | ⟨h1, h2, h3⟩
 ·exact .inl h
 ·exact .inr ⟨⟨h1, h2⟩, h3⟩
theorem del_in {p : ISet} {n z : Int} (h : p z = true) (hn : z ≠ n) : p.del n z = true := by
 simp only [ISet.del, Bool.and_eq_true, Bool.not_eq_true', beq_eq_false_iff_ne]
 exact ⟨h, hn⟩
theorem del_true {p : ISet} {n z : Int} (h : p.del n z = true) : p z = true ∧ z ≠ n := by
 simp only [ISet.del, Bool.and_eq_true, Bool.not_eq_true', beq_eq_false_iff_ne] at h
 exact h
theorem dels_in : ∀ {l : List Int} {p : ISet} {z : Int}, p z = true → z ∉ l → l.foldl ISet.del p z = true
 | [], _, _, h, _ => h
 | n :: l, p, z, h, hn => dels_in (l := l) (del_in h (fun e => hn (by simp [e]))) (fun hm => hn (by simp [hm]))
theorem nodeUse_le (g : GraphP) (p : ISet) (n : Int) : p.le (nodeUse g p n) := fun z hz => by
 cases hn : nodeAt g n with
 | none => rw [nodeUse_none hn]; exact hz
 | some y =>
  by_cases ho : y.op = 2
  ·rw [nodeUse_phi hn ho]; exact hz
  ·rw [nodeUse_some hn ho]; exact add_in _ _ (.inl (add_in _ _ (.inl hz)))
theorem uses_le (g : GraphP) : ∀ (l : List Int) (p : ISet), p.le (l.foldl (nodeUse g) p)
 | [], _ => fun _ h => h
 | n :: l, p => ISet.le_trans (nodeUse_le g p n) (uses_le g l _)
theorem uses_in (g : GraphP) {z n : Int} {y : NodeP} (h0 : 0 ≤ z) (h1 : z < (g.nodes.length : Int)) (hy : nodeAt g n = some y) (ho : y.op ≠ 2) (hz : z ∈ y.args ∨ z ∈ slotsOf g y.state) : ∀ (l : List Int) (p : ISet), n ∈ l → l.foldl (nodeUse g) p z = true
 | [], _, hn => by cases hn
 | m :: l, p, hn => by
  rcases List.mem_cons.1 hn with rfl | hn
  ·refine uses_le g l _ z ?_
   rw [nodeUse_some hy ho]
   rcases hz with hz | hz
   ·exact add_in _ _ (.inl (add_in _ _ (.inr ⟨h0, h1, hz⟩)))
   ·exact add_in _ _ (.inr ⟨h0, h1, hz⟩)
  ·exact uses_in g h0 h1 hy ho hz l _ hn
theorem outStep_le (g : GraphP) (I : Sets) (b : Int) (p : ISet) (n : Int) : p.le (outStep g I b p n) := fun z hz => by
 cases hn : blockAt g n with
 | none => rw [outStep_none hn]; exact hz
 | some y => rw [outStep_some hn]; exact add_in _ _ (.inl (add_in _ _ (.inl hz)))
theorem outs_in (g : GraphP) (I : Sets) (b : Int) {z n : Int} {y : BlockP} (h0 : 0 ≤ z) (h1 : z < (g.nodes.length : Int)) (hy : blockAt g n = some y) (hz : z ∈ listOf g.nodes.length (I.at_ n.toNat)) : ∀ (l : List Int) (p : ISet), n ∈ l → l.foldl (outStep g I b) p z = true
 | [], _, hn => by cases hn
 | m :: l, p, hn => by
  rcases List.mem_cons.1 hn with rfl | hn
  ·have key : ∀ (l : List Int) (p : ISet), p.le (l.foldl (outStep g I b) p) := fun l => by
    induction l with
    | nil => exact fun _ _ h => h
    | cons m l ih => exact fun p => ISet.le_trans (outStep_le g I b p m) (ih _)
   refine key l _ z ?_
   rw [outStep_some hy]
   exact add_in _ _ (.inl (add_in _ _ (.inr ⟨h0, h1, hz⟩)))
  ·exact outs_in g I b h0 h1 hy hz l _ hn
section
variable {g : GraphP} {A : Nat → Nat × Nat} {I O : Sets} {b : Nat} {x : BlockP}
theorem nowFirst_true (hl : LiveIs g I O) {z : Int} (h : nowFirst g O b x z = true) : O.at_ b z = true ∨ (0 ≤ z ∧ z < (g.nodes.length : Int) ∧ z ∈ x.args) ∨ (0 ≤ z ∧ z < (g.nodes.length : Int) ∧ z ∈ slotsOf g x.state) := by
 unfold nowFirst at h
 rcases add_true h with h | h
 ·rcases add_true h with h | h
  ·rcases add_true h with h | ⟨_, _, h⟩
   ·cases h
   ·exact .inl ((mem_listOf (hl.boundO b) z).1 h)
  ·exact .inr (.inl h)
 ·exact .inr (.inr h)
theorem nowFirst_out (hl : LiveIs g I O) {z : Int} (h : O.at_ b z = true) : nowFirst g O b x z = true := by
 have hb := hl.boundO b z h
 exact add_in _ _ (.inl (add_in _ _ (.inl (add_in _ _ (.inr ⟨hb.1, hb.2, (mem_listOf (hl.boundO b) z).2 h⟩)))))
theorem out_stands (h : GOk g A) (hl : LiveIs g I O) (hx : g.blocks[b]? = some x) {z : Int} (hz : O.at_ b z = true) : standsP g A z b x.nodes.length := by
 have hb := hl.boundO b z hz
 rw [Sets.at_some (hl.isO b x hx)] at hz
 unfold outF at hz
 rcases outs_true g I b hz with hz | ⟨m, hm, y, hy, hz⟩
 ·cases hz
 ·obtain ⟨m1, m2⟩ := h.next b x hx m hm
  obtain ⟨c, rfl⟩ : ∃ c : Nat, m = (c : Int) := ⟨m.toNat, by omega⟩
  rw [blockAt_nat] at hy
  rcases hz with hz | hz
  ·rw [mem_listOf (hl.boundI _), Int.toNat_natCast] at hz
   obtain ⟨k, rfl, hk, h1, h2⟩ := live_above h hl c z hz
   have h3 := abv_edge hx hm (by omega) h1 h2
   refine ⟨hb.1, hb.2, ?_⟩
   rw [Int.toNat_natCast]
   by_cases e : (A k).1 = b
   ·obtain ⟨x', hx', hi⟩ := h.pl.has k hk
    rw [e, hx] at hx'; injection hx' with hx'; subst hx'
    exact .inl ⟨e, (List.getElem?_eq_some_iff.1 hi).1⟩
   ·exact .inr ⟨e, h3⟩
  ·obtain ⟨k, hk, w, hw, ho, i, ha, hc⟩ := phis_true hz
   obtain ⟨j, hj⟩ := List.mem_iff_getElem?.1 hk
   obtain ⟨q, rfl, hq, hA⟩ := h.pl.put c y j k hy hj
   rw [nodeAt_nat] at hw
   obtain ⟨z', hz', _, hs⟩ := h.phi q w hw ho y (by rw [hA]; exact hy) i z _ ha hc
   rw [Int.toNat_natCast] at hz' hs
   rw [hx] at hz'; injection hz' with hz'; subst hz'
   exact hs
theorem live_stands (h : GOk g A) (hl : LiveIs g I O) (hx : g.blocks[b]? = some x) {z : Int} : ∀ (d i : Nat), i + d = x.nodes.length → liveAt g O b x i z = true → standsP g A z b i
 | 0, i, hi, hz => by
  rw [liveAt_len g O b x (by omega)] at hz
  obtain rfl : i = x.nodes.length := by omega
  rcases nowFirst_true hl hz with hz | ⟨_, _, hz⟩ | ⟨h0, _, hz⟩
  ·exact out_stands h hl hx hz
  ·exact (h.fin b x hx).1 z hz
  ·exact (h.fin b x hx).2 z hz h0
 | d + 1, i, hi, hz => by
  obtain ⟨n, hn⟩ := getE (l := x.nodes) (k := i) (by omega)
  rw [liveAt_step g O b x hn] at hz
  obtain ⟨k, rfl, hk, hA⟩ := h.pl.put b x i n hx hn
  obtain ⟨y, hy⟩ := getE hk
  have less : standsP g A z b (i + 1) → z ≠ (k : Int) → standsP g A z b i := by
   rintro ⟨h0, h1, h2⟩ hne
   refine ⟨h0, h1, ?_⟩
   rcases h2 with ⟨h2, h3⟩ | h2
   ·refine .inl ⟨h2, ?_⟩
    have : (A z.toNat).2 ≠ i := fun e => by
     have := h.pl.inj (x := z.toNat) (y := k) (by omega) hk ((Prod.ext (by rw [h2, hA]) (by rw [e, hA])))
     omega
    omega
   ·exact .inr h2
  have ih := live_stands h hl hx (z := z) d (i + 1) (by omega)
  have hyn : nodeAt g (k : Int) = some y := by rw [nodeAt_nat]; exact hy
  by_cases ho : y.op = 2
  ·rw [nowStep_phi hyn ho] at hz
   obtain ⟨hz, hne⟩ := del_true hz
   exact less (ih hz) hne
  ·rw [nowStep_other hyn ho] at hz
   have hno := h.node k y hy ho
   rw [hA] at hno
   rcases add_true hz with hz | ⟨h0, _, hz⟩
   ·rcases add_true hz with hz | ⟨_, _, hz⟩
    ·obtain ⟨hz, hne⟩ := del_true hz
     exact less (ih hz) hne
    ·exact hno.1 z hz
   ·exact hno.2 z hz h0
theorem live_back {z : Int} : ∀ (d j : Nat), liveAt g O b x (j + d) z = true → (∀ m, j ≤ m → m < j + d → x.nodes[m]? = some z → False) → liveAt g O b x j z = true
 | 0, _, h, _ => h
 | d + 1, j, h, hn => by
  have ih := live_back (z := z) d (j + 1) (by rw [show j + 1 + d = j + (d + 1) by omega]; exact h) (fun m h1 h2 => hn m (by omega) (by omega))
  rcases Nat.lt_or_ge j x.nodes.length with q | q
  ·obtain ⟨n, hj⟩ := getE q
   have hne : z ≠ n := fun e => hn j (Nat.le_refl _) (by omega) (by rw [e]; exact hj)
   rw [liveAt_step g O b x hj]
   cases hna : nodeAt g n with
   | none => rw [nowStep_none hna]; exact ih
   | some y =>
    by_cases ho : y.op = 2
    ·rw [nowStep_phi hna ho]; exact del_in ih hne
    ·rw [nowStep_other hna ho]; exact add_in _ _ (.inl (add_in _ _ (.inl (del_in ih hne))))
  ·rw [liveAt_len g O b x q]
   rwa [liveAt_len g O b x (by omega)] at ih
theorem live_back' {z : Int} {i j : Nat} (hij : j ≤ i) (h : liveAt g O b x i z = true) (hn : ∀ m, j ≤ m → m < i → x.nodes[m]? = some z → False) : liveAt g O b x j z = true :=
 live_back (i - j) j (by rw [show j + (i - j) = i by omega]; exact h) (fun m h1 h2 => hn m h1 (by omega))
theorem live_use (hl : LiveIs g I O) {z : Int} : ∀ (d i : Nat), i + d = x.nodes.length → liveAt g O b x i z = true → nowFirst g O b x z = true ∨ (0 ≤ z ∧ z < (g.nodes.length : Int) ∧ ∃ n ∈ x.nodes, ∃ y, nodeAt g n = some y ∧ y.op ≠ 2 ∧ (z ∈ y.args ∨ z ∈ slotsOf g y.state))
 | 0, i, hi, hz => .inl (by rwa [liveAt_len g O b x (by omega)] at hz)
 | d + 1, i, hi, hz => by
  obtain ⟨n, hn⟩ := getE (l := x.nodes) (k := i) (by omega)
  rw [liveAt_step g O b x hn] at hz
  have ih := live_use hl (z := z) d (i + 1) (by omega)
  cases hna : nodeAt g n with
  | none => rw [nowStep_none hna] at hz; exact ih hz
  | some y =>
   by_cases ho : y.op = 2
   ·rw [nowStep_phi hna ho] at hz; exact ih (del_true hz).1
   ·rw [nowStep_other hna ho] at hz
    rcases add_true hz with hz | ⟨h0, h1, hz⟩
    ·rcases add_true hz with hz | ⟨h0, h1, hz⟩
     ·exact ih (del_true hz).1
     ·exact .inr ⟨h0, h1, n, List.mem_of_getElem? hn, y, hna, ho, .inl hz⟩
    ·exact .inr ⟨h0, h1, n, List.mem_of_getElem? hn, y, hna, ho, .inr hz⟩
theorem out_in (hl : LiveIs g I O) (hx : g.blocks[b]? = some x) {z : Int} (hz : O.at_ b z = true) (hn : z ∉ x.nodes) : I.at_ b z = true := by
 rw [Sets.at_some (hl.isI b x hx)]
 unfold inF
 exact dels_in (uses_le g _ _ z (add_in _ _ (.inl (add_in _ _ (.inl hz))))) hn
theorem live_in (hl : LiveIs g I O) (hx : g.blocks[b]? = some x) {z : Int} (hz : liveAt g O b x 0 z = true) (hn : z ∉ x.nodes) : I.at_ b z = true := by
 rw [Sets.at_some (hl.isI b x hx)]
 unfold inF
 refine dels_in ?_ hn
 rcases live_use hl x.nodes.length 0 (by omega) hz with hz | ⟨h0, h1, n, hm, y, h2, h3, h4⟩
 ·refine uses_le g _ _ z ?_
  rcases nowFirst_true hl hz with hz | hz | hz
  ·exact add_in _ _ (.inl (add_in _ _ (.inl hz)))
  ·exact add_in _ _ (.inl (add_in _ _ (.inr hz)))
  ·exact add_in _ _ (.inr hz)
 ·exact uses_in g h0 h1 h2 h3 h4 _ _ hm
/-- What is live at a block's beginning is live at the end of each block on the way. -/
theorem live_through (h : GOk g A) (hl : LiveIs g I O) (hr : AllReach g) {n m c : Nat} (hn : n < g.nodes.length) (hm : m < g.blocks.length) (hc : c < g.blocks.length) (hI : I.at_ c (n : Int) = true) (hmc : m ≠ c) (hab : abv g m c) (hb : (A n).1 = m ∨ ((A n).1 ≠ m ∧ abv g (A n).1 m)) : O.at_ m (n : Int) = true := by
 refine Classical.byContradiction fun hO => ?_
 have key := reach_ind (g := g) (wo := -1) (P := fun z => I.at_ z.toNat (n : Int) = true → z ≠ (m : Int) → Reach g (m : Int) 0 z) (fun h _ hne => .refl 0 ⟨h.1, h.2.1, hne⟩) (fun c' n' hc' ih hn' ho hI' hne => by
  have ok := hc'.ok
  obtain ⟨d, rfl⟩ : ∃ d : Nat, c' = (d : Int) := ⟨c'.toNat, by have := ok.1; omega⟩
  have hd : d < g.blocks.length := by have := ok.2.1; omega
  obtain ⟨x, hx⟩ := getE hd
  have hnx : n' ∈ x.next := by unfold nextOf at hn'; rw [blockAt_nat, hx] at hn'; exact hn'
  obtain ⟨e, rfl⟩ : ∃ e : Nat, n' = (e : Int) := ⟨n'.toNat, by have := ho.1; omega⟩
  obtain ⟨y, hy⟩ := getE (l := g.blocks) (k := e) (by have := ho.2.1; omega)
  have hOd : O.at_ d (n : Int) = true := by
   rw [Sets.at_some (hl.isO d x hx)]
   unfold outF
   exact outs_in g I d (by omega) (by omega) (by rw [blockAt_nat]; exact hy) ((mem_listOf (hl.boundI _) _).2 hI') _ _ hnx
  have hdm : d ≠ m := fun q => hO (q ▸ hOd)
  have hRd : Reach g (m : Int) 0 (d : Int) := by
   by_cases q : (A n).1 = d
   ·rcases hb with hb | ⟨hb, hb2⟩
    ·exact absurd (q.symm.trans hb) hdm
    ·refine Classical.byContradiction fun hno => ?_
     refine abv_anti (hr _ (h.pl.blk hn)) (hr m hm) hb hb2 (.inr (.inr ?_))
     rw [q]; exact hno
   ·refine ih ?_ (by omega)
    rw [Int.toNat_natCast]
    refine out_in hl hx hOd fun hmem => ?_
    obtain ⟨j, hj⟩ := List.mem_iff_getElem?.1 hmem
    exact q (by rw [h.pl.at_ hn hx hj])
  exact hRd.snoc hn' ⟨ho.1, ho.2.1, hne⟩) (c : Int) (hr c hc) (by rw [Int.toNat_natCast]; exact hI) (by omega)
 rcases hab with q | q | q
 ·exact q (hr c hc)
 ·exact hmc q
 ·exact q key
theorem out_at_def (h : GOk g A) (hl : LiveIs g I O) {n k : Nat} {xk : BlockP} (hn : n < g.nodes.length) (hxk : g.blocks[(A k).1]? = some xk) (hk : xk.nodes[(A k).2]? = some (k : Int)) (hbe : Before g A n k) (hO : O.at_ (A k).1 (n : Int) = true) : liveAt g O (A k).1 xk ((A k).2 + 1) (n : Int) = true := by
 refine live_back' (i := xk.nodes.length) (by have := (List.getElem?_eq_some_iff.1 hk).1; omega) (by rw [liveAt_len _ _ _ _ (Nat.le_refl _)]; exact nowFirst_out hl hO) (fun m h1 _ hm => ?_)
 have e := h.pl.at_ hn hxk hm
 rcases hbe with ⟨_, q⟩ | ⟨q, _⟩
 ·rw [e] at q; simp at q; omega
 ·rw [e] at q; exact q rfl
theorem live_at_def (h : GOk g A) (hl : LiveIs g I O) (hr : AllReach g) {n k i : Nat} {xk : BlockP} (hx : g.blocks[b]? = some x) (hi : i ≤ x.nodes.length) (h1 : liveAt g O b x i (n : Int) = true) (h2 : liveAt g O b x i (k : Int) = true) (hbe : Before g A n k) (hxk : g.blocks[(A k).1]? = some xk) (hk : xk.nodes[(A k).2]? = some (k : Int)) : liveAt g O (A k).1 xk ((A k).2 + 1) (n : Int) = true := by
 obtain ⟨_, hnl, s1⟩ := live_stands h hl hx (x.nodes.length - i) i (by omega) h1
 obtain ⟨_, hkl, s2⟩ := live_stands h hl hx (x.nodes.length - i) i (by omega) h2
 rw [Int.toNat_natCast] at s1 s2
 have hbl : b < g.blocks.length := (List.getElem?_eq_some_iff.1 hx).1
 by_cases e : (A k).1 = b
 ·rw [e] at hxk ⊢
  rw [hx] at hxk; injection hxk with hxk; subst hxk
  have hki : (A k).2 < i := by
   rcases s2 with ⟨_, q⟩ | ⟨q, _⟩
   ·exact q
   ·exact absurd e q
  refine live_back' (by omega) h1 (fun m hm1 hm2 hm => ?_)
  have e2 := h.pl.at_ (by omega) hx hm
  rcases hbe with ⟨_, q⟩ | ⟨q, _⟩
  ·rw [e2] at q; simp at q; omega
  ·rw [e2, e] at q; exact q rfl
 ·have hab : abv g (A k).1 b := by
   rcases s2 with ⟨q, _⟩ | ⟨_, q⟩
   ·exact absurd q e
   ·exact q
  have hnb : (A n).1 ≠ b := fun q => by
   rcases hbe with ⟨q2, _⟩ | ⟨_, q2⟩
   ·exact e (q2.symm.trans q)
   ·rw [q] at q2
    exact abv_anti (hr _ (h.pl.blk (by omega))) (hr b hbl) e hab q2
  have hnot : ∀ m, x.nodes[m]? = some (n : Int) → False := fun m hm => hnb (by rw [h.pl.at_ (by omega) hx hm])
  have hI := live_in hl hx (live_back' (Nat.zero_le i) h1 (fun m _ _ hm => hnot m hm)) (fun hm => by
   obtain ⟨j, hj⟩ := List.mem_iff_getElem?.1 hm
   exact hnot j hj)
  refine out_at_def h hl (by omega) hxk hk hbe (live_through h hl hr (by omega) (h.pl.blk (by omega)) hbl hI e hab ?_)
  rcases hbe with ⟨q, _⟩ | q
  ·exact .inl q
  ·exact .inr q
theorem in_at_def (h : GOk g A) (hl : LiveIs g I O) (hr : AllReach g) {n k : Nat} {xk : BlockP} (hb : b < g.blocks.length) (h1 : I.at_ b (n : Int) = true) (h2 : I.at_ b (k : Int) = true) (hbe : Before g A n k) (hxk : g.blocks[(A k).1]? = some xk) (hk : xk.nodes[(A k).2]? = some (k : Int)) : liveAt g O (A k).1 xk ((A k).2 + 1) (n : Int) = true := by
 obtain ⟨n', e1, hn, _, _⟩ := live_above h hl b _ h1
 obtain ⟨k', e2, hkl, hne, hab⟩ := live_above h hl b _ h2
 obtain rfl : n = n' := by omega
 obtain rfl : k = k' := by omega
 refine out_at_def h hl hn hxk hk hbe (live_through h hl hr hn (h.pl.blk hkl) hb h1 hne hab ?_)
 rcases hbe with ⟨q, _⟩ | q
 ·exact .inl q
 ·exact .inr q
/-- Phis stand first in their blocks. -/
def PhiFirst (g : GraphP) (A : Nat → Nat × Nat) : Prop := ∀ (k : Nat) y, g.nodes[k]? = some y → y.op = 2 → ∀ x, g.blocks[(A k).1]? = some x → ∀ (j m : Nat) z, j < (A k).2 → x.nodes[j]? = some (m : Int) → g.nodes[m]? = some z → z.op = 2
/-- In whose spot one is: at its own making, or at its block's beginning. -/
def InSpot (g : GraphP) (I O : Sets) (A : Nat → Nat × Nat) (k : Nat) (z : Int) : Prop := ∃ xk y, g.blocks[(A k).1]? = some xk ∧ g.nodes[k]? = some y ∧
 ((y.op ≠ 2 ∧ (liveAt g O (A k).1 xk ((A k).2 + 1)).del k z = true) ∨ (y.op = 2 ∧ InCl g I (A k).1 xk 0 z))
theorem inSpot_of (h : GOk g A) (hl : LiveIs g I O) (hp : PhiFirst g A) {n k : Nat} {xk : BlockP} (hn : n < g.nodes.length) (hkl : k < g.nodes.length) (hne : n ≠ k) (hxk : g.blocks[(A k).1]? = some xk) (hk : xk.nodes[(A k).2]? = some (k : Int)) (hbe : Before g A n k) (hlv : liveAt g O (A k).1 xk ((A k).2 + 1) (n : Int) = true) : InSpot g I O A k (n : Int) := by
 obtain ⟨y, hy⟩ := getE hkl
 refine ⟨xk, y, hxk, hy, ?_⟩
 by_cases ho : y.op = 2
 ·refine .inr ⟨ho, ?_⟩
  by_cases e : (A n).1 = (A k).1
  ·obtain ⟨x', hx', hi⟩ := h.pl.has n hn
   rw [e, hxk] at hx'; injection hx' with hx'; subst hx'
   obtain ⟨z, hz⟩ := getE hn
   have hlt : (A n).2 < (A k).2 := by
    rcases hbe with ⟨_, q⟩ | ⟨q, _⟩
    ·exact q
    ·exact absurd e q
   exact .inr ⟨(A n).2, z, Nat.zero_le _, hi, by rw [nodeAt_nat]; exact hz, hp k y hy ho xk hxk _ n z hlt hi hz⟩
  ·have hnot : ∀ m, xk.nodes[m]? = some (n : Int) → False := fun m hm => e (by rw [h.pl.at_ hn hxk hm])
   have hI := live_in hl hxk (live_back' (Nat.zero_le _) hlv (fun m _ _ hm => hnot m hm)) (fun hm => by
    obtain ⟨j, hj⟩ := List.mem_iff_getElem?.1 hm
    exact hnot j hj)
   exact .inl ((mem_listOf (hl.boundI _) _).2 hI)
 ·exact .inl ⟨ho, del_in hlv (by omega)⟩
theorem InSpot.meets (h : GOk g A) {k : Nat} {z : Int} (hkl : k < g.nodes.length) (hne : z ≠ (k : Int)) (hs : InSpot g I O A k z) : meetAll g I O k z = true ∧ meetAll g I O z k = true := by
 obtain ⟨xk, y, hxk, hy, hs⟩ := hs
 obtain ⟨x', hx', hi⟩ := h.pl.has k hkl
 rw [hxk] at hx'; injection hx' with hx'; subst hx'
 have hyn : nodeAt g (k : Int) = some y := by rw [nodeAt_nat]; exact hy
 rw [meetAll_iff, meetAll_iff]
 rcases hs with ⟨ho, hs⟩ | ⟨ho, hs⟩
 ·exact ⟨⟨_, xk, hxk, .inl ⟨_, y, Nat.zero_le _, hi, hyn, ho, hs⟩⟩, ⟨_, xk, hxk, .inr (.inl ⟨_, y, Nat.zero_le _, hi, hyn, ho, hs⟩)⟩⟩
 ·have hc : InCl g I (A k).1 xk 0 (k : Int) := .inr ⟨_, y, Nat.zero_le _, hi, hyn, ho⟩
  exact ⟨⟨_, xk, hxk, .inr (.inr ⟨hc, hs, hne.symm⟩)⟩, ⟨_, xk, hxk, .inr (.inr ⟨hs, hc, hne⟩)⟩⟩
/-- Two that are live at one place meet. -/
theorem live_meet (h : GOk g A) (hl : LiveIs g I O) (hr : AllReach g) (hp : PhiFirst g A) {n k i : Nat} (hx : g.blocks[b]? = some x) (hi : i ≤ x.nodes.length) (hne : n ≠ k) (h1 : liveAt g O b x i (n : Int) = true) (h2 : liveAt g O b x i (k : Int) = true) : meetAll g I O n k = true := by
 have s1 := live_stands h hl hx (x.nodes.length - i) i (by omega) h1
 have s2 := live_stands h hl hx (x.nodes.length - i) i (by omega) h2
 have hnl : n < g.nodes.length := by have := s1.2.1; omega
 have hkl : k < g.nodes.length := by have := s2.2.1; omega
 have hbl : b < g.blocks.length := (List.getElem?_eq_some_iff.1 hx).1
 obtain ⟨xn, hxn, hin⟩ := h.pl.has n hnl
 obtain ⟨xk, hxk, hik⟩ := h.pl.has k hkl
 rcases before_or h hr hbl hne s1 s2 with hb | hb
 ·exact ((inSpot_of h hl hp hnl hkl hne hxk hik hb (live_at_def h hl hr hx hi h1 h2 hb hxk hik)).meets h hkl (by omega)).2
 ·exact ((inSpot_of h hl hp hkl hnl hne.symm hxn hin hb (live_at_def h hl hr hx hi h2 h1 hb hxn hin)).meets h hnl (by omega)).1
/-- Of two that meet the later one has the other in its spot. -/
theorem meet_spot (h : GOk g A) (hl : LiveIs g I O) (hr : AllReach g) (hp : PhiFirst g A) {n k : Nat} (hn : n < g.nodes.length) (hk : k < g.nodes.length) (hne : n ≠ k) (hm : meetAll g I O n k = true) : InSpot g I O A n (k : Int) ∨ Before g A n k := by
 obtain ⟨b, x, hx, hm⟩ := (meetAll_iff g I O n k).1 hm
 have hbl : b < g.blocks.length := (List.getElem?_eq_some_iff.1 hx).1
 obtain ⟨xn, hxn, hin⟩ := h.pl.has n hn
 rcases hm with ⟨j, y, _, hj, hy, ho, hs⟩ | ⟨j, y, _, hj, hy, ho, hs⟩ | ⟨h1, h2, _⟩
 ·have hA := h.pl.at_ hn hx hj
  refine .inl ⟨x, y, by rw [hA]; exact hx, by rwa [nodeAt_nat] at hy, .inl ⟨ho, ?_⟩⟩
  rw [hA]; exact hs
 ·have hA := h.pl.at_ hk hx hj
  obtain ⟨hs, hnk⟩ := del_true hs
  have hjl := (List.getElem?_eq_some_iff.1 hj).1
  obtain ⟨_, _, s⟩ := live_stands h hl hx (x.nodes.length - (j + 1)) (j + 1) (by omega) hs
  rw [Int.toNat_natCast] at s
  refine .inr ?_
  unfold Before
  rw [hA]
  rcases s with ⟨s1, s2⟩ | s
  ·refine .inl ⟨s1, ?_⟩
   have : (A n).2 ≠ j := fun e => hne (h.pl.inj hn hk (Prod.ext (by rw [s1, hA]) (by rw [e, hA])))
   simp only; omega
  ·exact .inr s
 ·have phiI : ∀ {u : Nat}, u < g.nodes.length → InCl g I b x 0 (u : Int) → I.at_ b (u : Int) = true ∨ ((A u).1 = b ∧ ∃ y, g.nodes[u]? = some y ∧ y.op = 2) := fun {u} hu hc => by
   rcases hc with hc | ⟨j, y, _, hj, hy, ho⟩
   ·exact .inl ((mem_listOf (hl.boundI _) _).1 hc)
   ·exact .inr ⟨by rw [h.pl.at_ hu hx hj], y, by rwa [nodeAt_nat] at hy, ho⟩
  rcases phiI hn h1 with q1 | ⟨q1, y, q2, q3⟩
  ·obtain ⟨n', e1, _, n1, n2⟩ := live_above h hl b _ q1
   obtain rfl : n = n' := by omega
   rcases phiI hk h2 with r1 | ⟨r1, _⟩
   ·obtain ⟨k', e2, _, k1, k2⟩ := live_above h hl b _ r1
    obtain rfl : k = k' := by omega
    have s1 : standsP g A (n : Int) b 0 := ⟨by omega, by omega, .inr (by rw [Int.toNat_natCast]; exact ⟨n1, n2⟩)⟩
    have s2 : standsP g A (k : Int) b 0 := ⟨by omega, by omega, .inr (by rw [Int.toNat_natCast]; exact ⟨k1, k2⟩)⟩
    rcases before_or h hr hbl hne s1 s2 with hb | hb
    ·exact .inr hb
    ·exact .inl (inSpot_of h hl hp hk hn hne.symm hxn hin hb (in_at_def h hl hr hbl r1 q1 hb hxn hin))
   ·exact .inr (.inr (by rw [r1]; exact ⟨n1, n2⟩))
  ·subst q1
   exact .inl ⟨x, y, hx, q2, .inr ⟨q3, h2⟩⟩
end
end Go.Proofs.YtkmfdiboekoioaaGreat
