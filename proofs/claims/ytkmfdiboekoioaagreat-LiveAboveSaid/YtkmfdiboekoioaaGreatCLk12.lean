/- graph.look.places: does each node stand in just one block? Conditions: a graph that is looked at. -/
import Derived.Test.YtkmfdiboekoioaaGreatCLk11
import Derived.Test.YtkmfdiboekoioaaGreatCNod1
set_option linter.unusedSimpArgs false
set_option linter.unusedVariables false
namespace Go.Proofs.YtkmfdiboekoioaaGreat
open Go.RowKit Go.Shelf
attribute [local go_sem] Oper.semAt_some
theorem pair_info : (Tryz.prog.info? 92).map (fun i => (i.zero, i.size, i.bytes)) = some (some (.agg #[.int .i64 0, .int .i64 0]), 2, 16) := by kernel_rfl
def pairs (al : List (Int × Int)) : List Value := al.flatMap (fun q => [.int .i64 q.1, .int .i64 q.2])
def pairCells (al : List (Int × Int)) : Array Value := (pairs al).toArray
theorem pairs_get : ∀ (al : List (Int × Int)) (i : Nat), (pairs al)[i]? = (al[i / 2]?).map (fun q => Value.int .i64 (if i % 2 = 0 then q.1 else q.2))
  | [], i => by simp [pairs]
  | q :: al, 0 => rfl
  | q :: al, 1 => rfl
  | q :: al, i + 2 => by
    have h := pairs_get al i
    have e : pairs (q :: al) = .int .i64 q.1 :: .int .i64 q.2 :: pairs al := rfl
    rw [e, List.getElem?_cons_succ, List.getElem?_cons_succ, h]
    have e1 : (i + 2) / 2 = i / 2 + 1 := by omega
    have e2 : (i + 2) % 2 = i % 2 := by omega
    rw [e1, e2, List.getElem?_cons_succ]
theorem pairCells_get (al : List (Int × Int)) (i : Nat) : (pairCells al)[i]? = (al[i / 2]?).map (fun q => Value.int .i64 (if i % 2 = 0 then q.1 else q.2)) := by
  rw [pairCells, List.getElem?_toArray, pairs_get]
theorem pairCells_at {al : List (Int × Int)} {k : Nat} {q : Int × Int} (h : al[k]? = some q) : (pairCells al)[k * 2]? = some (.int .i64 q.1) ∧ (pairCells al)[k * 2 + 1]? = some (.int .i64 q.2) := by
  have e1 : k * 2 / 2 = k := by omega
  have e2 : k * 2 % 2 = 0 := by omega
  have e3 : (k * 2 + 1) / 2 = k := by omega
  have e4 : (k * 2 + 1) % 2 = 1 := by omega
  rw [pairCells_get, pairCells_get, e1, e2, e3, e4, h]
  exact ⟨rfl, rfl⟩
theorem pairCells_set {al : List (Int × Int)} {k : Nat} (h : k < al.length) (a b : Int) : ((pairCells al).setIfInBounds (k * 2) (.int .i64 a)).setIfInBounds (k * 2 + 1) (.int .i64 b) = pairCells (al.set k (a, b)) := by
  have hsz : k * 2 + 1 < (pairCells al).size := by
    have h1 := pairCells_get al (k * 2 + 1)
    have e3 : (k * 2 + 1) / 2 = k := by omega
    rw [e3, List.getElem?_eq_getElem h] at h1
    exact (Array.getElem?_eq_some_iff.1 h1).1
  apply Array.ext_getElem?
  intro i
  rw [pairCells_get, Array.getElem?_setIfInBounds, Array.getElem?_setIfInBounds, pairCells_get, List.getElem?_set]
  by_cases h1 : k * 2 + 1 = i
  · subst h1
    have e3 : (k * 2 + 1) / 2 = k := by omega
    have e4 : (k * 2 + 1) % 2 = 1 := by omega
    rw [e3, e4, if_pos rfl, if_pos rfl]
    rw [if_pos h, if_pos (by simpa using hsz)]; rfl
  · rw [if_neg h1]
    by_cases h2 : k * 2 = i
    · subst h2
      have e3 : k * 2 / 2 = k := by omega
      have e4 : k * 2 % 2 = 0 := by omega
      rw [e3, e4, if_pos rfl, if_pos rfl]
      rw [if_pos h, if_pos (by omega)]; rfl
    · rw [if_neg h2, if_neg (by omega)]
theorem made_pairs (N : Nat) : madeCells #[.int .i64 0, .int .i64 0] (N * 2) = pairCells (List.replicate N (0, 0)) := by
  apply Array.ext_getElem?
  intro i
  rw [pairCells_get, List.getElem?_replicate]
  rcases Nat.lt_or_ge i (N * 2) with h | h
  · rw [if_pos (by omega)]
    have : i % 2 = 0 ∨ i % 2 = 1 := by omega
    rcases this with e | e <;> simp [madeCells, h, e]
  · rw [if_neg (by omega)]
    simp [madeCells]; omega
def firstTo (N k : Nat) : List (Int × Int) := (List.range N).map (fun i => if i < k then (-1, 0) else (0, 0))
theorem firstTo_len (N k : Nat) : (firstTo N k).length = N := by simp [firstTo]
theorem firstTo_zero (N : Nat) : firstTo N 0 = List.replicate N (0, 0) := by
  apply List.ext_getElem?
  intro i
  rcases Nat.lt_or_ge i N with h | h
  · simp [firstTo, h]
  · simp [firstTo, h]
theorem firstTo_all (N : Nat) : firstTo N N = List.replicate N (-1, 0) := by
  apply List.ext_getElem?
  intro i
  rcases Nat.lt_or_ge i N with h | h
  · simp [firstTo, h]
  · simp [firstTo, h]
theorem firstTo_set {N k : Nat} (_h : k < N) : (firstTo N k).set k (-1, 0) = firstTo N (k + 1) := by
  apply List.ext_getElem?
  intro i
  rw [List.getElem?_set]
  unfold firstTo
  simp only [List.length_map, List.length_range, List.getElem?_map]
  rcases Nat.lt_or_ge i N with hi | hi
  · rw [List.getElem?_range hi]
    by_cases e : k = i
    · subst e
      simp [hi]
    · rw [if_neg e]
      simp only [Option.map_some]
      by_cases h2 : i < k
      · rw [if_pos h2, if_pos (by omega)]
      · rw [if_neg h2, if_neg (by omega)]
  · rw [List.getElem?_eq_none (by simpa using hi)]
    rw [if_neg (by omega)]; rfl
theorem grown_trans {a b c : World} {r r' : Option Nat} (h : a.grownBy b r) (k : b.grownBy c r') (hr : ∀ x, r' = some x → r = some x ∨ a.heap.size ≤ x) : a.grownBy c r :=
  ⟨k.os.trans h.os, k.tape.trans h.tape, k.output.trans h.output, Nat.le_trans h.size k.size, fun i hi hn => (k.block i (Nat.lt_of_lt_of_le hi h.size) (fun e => by
    rcases hr i e.symm with q | q
    · exact hn q.symm
    · omega)).trans (h.block i hi hn)⟩
theorem grown_setCell (w : World) (p : Addr) (u : Value) : w.grownBy (w.setCell p u) (some p.block) :=
  ⟨rfl, rfl, rfl, by simp [World.setCell], fun k _ hn => Below.heap_setCell w p u k (fun e => hn (by rw [e]))⟩
theorem LkBox.far {w : World} {B bl : Nat} {pv : Value} {p : List FnP} {xv : GVals} {g : GraphP} {dv av bv : Value} (h : LkBox w B bl pv p xv g dv av bv) {a : Addr} (ha : B ≤ a.block) (hb : bl ≠ a.block) (u : Value) : LkBox (w.setCell a u) B bl pv p xv g dv av bv :=
  have hS : Same B w (w.setCell a u) := Same.of_below ((Below.refl B w).setCell (p := a) ha u)
  ⟨h.pr.keep hS, h.gr.keep hS, by simpa [World.setCell] using h.hB, h.box.far hb u, h.hbl⟩
/-- The memory of places. -/
structure PMem (w : World) (B bl : Nat) (pv : Value) (p : List FnP) (xv : GVals) (g : GraphP) (dv bv : Value) (al : List (Int × Int)) (r : Bool) (W : World) : Prop where
  lk : LkBox W B bl pv p xv g dv (.slice (some ⟨w.heap.size + 2, 0, none⟩) g.nodes.length g.nodes.length) bv
  arr : Blk W (w.heap.size + 2) 92 (pairCells al)
  len : al.length = g.nodes.length
  lb : Blk W w.heap.size 84 #[.pointer (some ⟨bl, 0, none⟩)]
  rs : Blk W (w.heap.size + 1) 4 #[.bool r]
  low : w.grownBy W (some bl)
  B0 : B ≤ w.heap.size
  b0 : bl < w.heap.size
section
variable {w : World} {B bl : Nat} {pv : Value} {p : List FnP} {xv : GVals} {g : GraphP} {dv bv : Value} {al : List (Int × Int)} {r : Bool} {W W' : World}
theorem PMem.below (h : PMem w B bl pv p xv g dv bv al r W) (hb : Below W.heap.size W W') : PMem w B bl pv p xv g dv bv al r W' :=
  ⟨h.lk.below hb, h.arr.below hb h.arr.lt, h.len, h.lb.below hb h.lb.lt, h.rs.below hb h.rs.lt, grown_trans h.low (grown_of_below hb none) (fun x e => by cases e), h.B0, h.b0⟩
theorem PMem.put (h : PMem w B bl pv p xv g dv bv al r W) {k : Nat} (hk : k < g.nodes.length) (a b : Int) : PMem w B bl pv p xv g dv bv (al.set k (a, b)) r ((W.setCell ⟨w.heap.size + 2, k * 2, none⟩ (.int .i64 a)).setCell ⟨w.heap.size + 2, k * 2 + 1, none⟩ (.int .i64 b)) := by
  have b0 := h.b0
  have B0 := h.B0
  refine ⟨(h.lk.far (by simp only; omega) (by simp only; omega) _).far (by simp only; omega) (by simp only; omega) _, ?_, by rw [List.length_set]; exact h.len, (h.lb.far (by simp only; omega) _).far (by simp only; omega) _, (h.rs.far (by simp only; omega) _).far (by simp only; omega) _, ?_, B0, b0⟩
  · rw [← pairCells_set (by rw [h.len]; exact hk)]
    exact (h.arr.set_ _ _).set_ _ _
  · exact grown_trans (grown_trans h.low (grown_setCell _ _ _) (fun x e => .inr (by injection e with e; subst e; simp only; omega))) (grown_setCell _ _ _) (fun x e => .inr (by injection e with e; subst e; simp only; omega))
theorem PMem.res (h : PMem w B bl pv p xv g dv bv al r W) (r' : Bool) : PMem w B bl pv p xv g dv bv al r' (W.setCell ⟨w.heap.size + 1, 0, none⟩ (.bool r')) := by
  have b0 := h.b0
  have B0 := h.B0
  exact ⟨h.lk.far (by simp only; omega) (by simp only; omega) _, h.arr.far (by simp only; omega) _, h.len, h.lb.far (by simp only; omega) _, h.rs.set_ 0 _, grown_trans h.low (grown_setCell _ _ _) (fun x e => .inr (by injection e with e; subst e; simp only; omega)), B0, b0⟩
/-- A store at a block beyond. -/
theorem PMem.far (h : PMem w B bl pv p xv g dv bv al r W) {a : Addr} (ha : w.heap.size + 2 < a.block) (u : Value) : PMem w B bl pv p xv g dv bv al r (W.setCell a u) := by
  have b0 := h.b0
  have B0 := h.B0
  exact ⟨h.lk.far (by omega) (by omega) _, h.arr.far (by omega) _, h.len, h.lb.far (by omega) _, h.rs.far (by omega) _, grown_trans h.low (grown_setCell _ _ _) (fun x e => .inr (by injection e with e; omega)), B0, b0⟩
theorem blk_not_row {W : World} {b n : Nat} {t : TypeId} {cs : Array Value} {row : Option Nat} (h : Blk W b t cs) (hr : ∀ r, row = some r → n ≤ r ∧ ∃ o : Obj, W.heap[r]? = some o ∧ o.isCells = false) : some b ≠ row := fun e => by
  obtain ⟨_, o, ho, hc⟩ := hr b e.symm
  rw [show W.heap[b]? = some (.cells cs t (0, 0)) from h] at ho
  injection ho with ho
  subst ho
  cases hc
theorem PMem.kept (h : PMem w B bl pv p xv g dv bv al r W) {n : Nat} (hn : w.heap.size ≤ n) {row : Option Nat} (hg : W.grownBy W' row) (hr : ∀ r, row = some r → n ≤ r ∧ ∃ o : Obj, W.heap[r]? = some o ∧ o.isCells = false) : PMem w B bl pv p xv g dv bv al r W' := by
  have B0 := h.B0
  have hS : Same B W W' := by
    intro a ha
    exact World.cell?_of_block (hg.block a.block (by have := h.lk.hB; omega) (fun e => by have := (hr _ e.symm).1; omega))
  exact ⟨⟨h.lk.pr.keep hS, h.lk.gr.keep hS, Nat.le_trans h.lk.hB hg.size, h.lk.box.grown hg (blk_not_row h.lk.box hr), h.lk.hbl⟩, h.arr.grown hg (blk_not_row h.arr hr), h.len, h.lb.grown hg (blk_not_row h.lb hr), h.rs.grown hg (blk_not_row h.rs hr), grown_trans h.low hg (fun x e => .inr (by have := (hr x e).1; omega)), B0, h.b0⟩
theorem PMem.first {av : Value} (h : LkBox w B bl pv p xv g dv av bv) (hN : g.nodes.length = g.nodes.length) {w1 : World} (hw1 : w1 = (w.alloc (.cells #[.pointer (some ⟨bl, 0, none⟩)] 84)).alloc (.cells #[.bool false] 4)) :
    PMem w B bl pv p xv g dv bv (firstTo g.nodes.length 0) false ((w1.setCell ⟨bl, 8, none⟩ (.slice (some ⟨w.heap.size + 2, 0, none⟩) g.nodes.length g.nodes.length)).alloc (.cells (madeCells #[.int .i64 0, .int .i64 0] (g.nodes.length * 2)) 92)).drew := by
  have b0 := h.box.lt
  have B0 := h.hB
  have hb1 : Below w.heap.size w w1 := by rw [hw1]; exact ((Below.refl _ _).alloc (Nat.le_refl _) _).alloc (by simp) _
  have hs1 : w1.heap.size = w.heap.size + 2 := by rw [hw1]; simp
  have hX1 : Blk w1 w.heap.size 84 #[.pointer (some ⟨bl, 0, none⟩)] := by rw [hw1]; exact (Blk.new _ _ _).alloc _
  have hX2 : Blk w1 (w.heap.size + 1) 4 #[.bool false] := by
    have := Blk.new (w.alloc (.cells #[.pointer (some ⟨bl, 0, none⟩)] 84)) 4 #[.bool false]
    rw [World.size_alloc, ← hw1] at this
    exact this
  have h1 := h.below hb1
  obtain ⟨V, hV⟩ : ∃ V : Value, V = .slice (some ⟨w.heap.size + 2, 0, none⟩) g.nodes.length g.nodes.length := ⟨_, rfl⟩
  rw [← hV]
  have hS : Same B w1 (w1.setCell ⟨bl, 8, none⟩ V) := Same.of_below ((Below.refl B w1).setCell (p := ⟨bl, 8, none⟩) h.hbl _)
  have hz : (w1.setCell ⟨bl, 8, none⟩ V).heap.size = w.heap.size + 2 := by simp [World.setCell, hs1]
  have h2 : LkBox (w1.setCell ⟨bl, 8, none⟩ V) B bl pv p xv g dv V bv := ⟨h1.pr.keep hS, h1.gr.keep hS, by omega, h1.box.set_ 8 V, h.hbl⟩
  have hb2 : Below (w1.setCell ⟨bl, 8, none⟩ V).heap.size (w1.setCell ⟨bl, 8, none⟩ V) (((w1.setCell ⟨bl, 8, none⟩ V).alloc (.cells (madeCells #[.int .i64 0, .int .i64 0] (g.nodes.length * 2)) 92)).drew) := ((Below.refl _ _).alloc (Nat.le_refl _) _).drew
  refine ⟨hV ▸ h2.below hb2, ?_, firstTo_len _ _, (hX1.far (by simp only; omega) _).below hb2 (by omega), (hX2.far (by simp only; omega) _).below hb2 (by omega), ?_, B0, b0⟩
  · have := Blk.new (w1.setCell ⟨bl, 8, none⟩ V) 92 (madeCells #[.int .i64 0, .int .i64 0] (g.nodes.length * 2))
    rw [hz, made_pairs, ← firstTo_zero] at this
    rw [made_pairs, ← firstTo_zero]
    exact this
  · exact grown_trans (grown_trans (grown_of_below hb1 (some bl)) (grown_setCell w1 ⟨bl, 8, none⟩ V) (fun x e => .inl (by injection e with e; rw [← e]))) (grown_of_below hb2 none) (fun x e => by cases e)
theorem PMem.cellA (h : PMem w B bl pv p xv g dv bv al r W) {k : Nat} {q : Int × Int} (hk : al[k]? = some q) : W.cell? ⟨w.heap.size + 2, k * 2, none⟩ = some (.int .i64 q.1) ∧ W.cell? ⟨w.heap.size + 2, k * 2 + 1, none⟩ = some (.int .i64 q.2) := by
  rw [h.arr.cell, h.arr.cell]
  exact pairCells_at hk
end
/-- What is told of the nodes' places when so many have come. -/
structure PlOk (pre : List Spot1) (al : List (Int × Int)) : Prop where
  cnt : al.countP (fun q => decide (0 ≤ q.1)) = pre.length
  mem : ∀ x ∈ pre, 0 ≤ x.2 ∧ al[x.2.toNat]? = some ((x.1.1 : Int), (x.1.2 : Int))
  rev : ∀ (k : Nat) q, al[k]? = some q → 0 ≤ q.1 → ∃ x ∈ pre, x.2 = (k : Int) ∧ q = ((x.1.1 : Int), (x.1.2 : Int))
theorem PlOk.first (N : Nat) : PlOk [] (firstTo N N) := by
  rw [firstTo_all]
  refine ⟨?_, by simp, fun k q hk h0 => ?_⟩
  · rw [List.countP_replicate]; simp
  · rw [List.getElem?_replicate] at hk
    split at hk
    · injection hk with hk; subst hk; simp at h0
    · cases hk
theorem PlOk.step {pre : List Spot1} {al : List (Int × Int)} (h : PlOk pre al) {x : Spot1} {k : Nat} {q : Int × Int} (hx : x.2 = (k : Int)) (hk : al[k]? = some q) (hq : q.1 < 0) : PlOk (pre ++ [x]) (al.set k ((x.1.1 : Int), (x.1.2 : Int))) := by
  obtain ⟨hlt, hq2⟩ := List.getElem?_eq_some_iff.1 hk
  refine ⟨?_, fun y hy => ?_, fun j c hj h0 => ?_⟩
  · rw [List.countP_set hlt, h.cnt, hq2, List.length_append]
    have : ¬ (0 ≤ q.1) := by omega
    simp [this]
  · rcases List.mem_append.1 hy with hy | hy
    · obtain ⟨h1, h2⟩ := h.mem y hy
      refine ⟨h1, ?_⟩
      rw [List.getElem?_set_ne ?_]
      · exact h2
      · rintro rfl
        rw [h2] at hk
        injection hk with hk
        rw [← hk] at hq
        simp only at hq
        omega
    · simp only [List.mem_singleton] at hy
      subst hy
      rw [hx]
      exact ⟨by omega, by rw [Int.toNat_natCast, List.getElem?_set_self hlt]⟩
  · by_cases e : k = j
    · subst e
      rw [List.getElem?_set_self hlt] at hj
      injection hj with hj
      exact ⟨x, by simp, hx, hj.symm⟩
    · rw [List.getElem?_set_ne e] at hj
      obtain ⟨y, hy, h1, h2⟩ := h.rev j c hj h0
      exact ⟨y, by simp [hy], h1, h2⟩
def alA (al : List (Int × Int)) (k : Nat) : Nat × Nat := ((al.getD k (0, 0)).1.toNat, (al.getD k (0, 0)).2.toNat)
theorem PlOk.places {g : GraphP} {al : List (Int × Int)} (h : PlOk (allTo g g.blocks.length) al) (hl : al.length = g.nodes.length) (hc : (allTo g g.blocks.length).length = g.nodes.length) : Places g (alA al) ∧ ∀ q ∈ al, 0 ≤ q.1 ∧ 0 ≤ q.2 := by
  have hall : ∀ q ∈ al, decide (0 ≤ q.1) = true := by
    have := h.cnt
    rw [hc, ← hl, List.countP_eq_length] at this
    exact this
  have hget : ∀ k : Nat, k < g.nodes.length → ∃ x ∈ allTo g g.blocks.length, x.2 = (k : Int) ∧ al[k]? = some ((x.1.1 : Int), (x.1.2 : Int)) := fun k hk => by
    obtain ⟨q, hq⟩ := getE (l := al) (k := k) (by omega)
    have h0 := of_decide_eq_true (hall q (List.mem_of_getElem? hq))
    obtain ⟨x, hx, h1, h2⟩ := h.rev k q hq h0
    exact ⟨x, hx, h1, h2 ▸ hq⟩
  have hA : ∀ (k : Nat) (a b : Nat), al[k]? = some ((a : Int), (b : Int)) → alA al k = (a, b) := fun k a b hk => by
    unfold alA
    rw [List.getD_eq_getElem?_getD, hk]
    simp
  refine ⟨⟨fun b x i n hx hi => ?_, fun k hk => ?_⟩, fun q hq => ?_⟩
  · have hm : ((b, i), n) ∈ allTo g g.blocks.length := mem_allTo.2 ⟨(List.getElem?_eq_some_iff.1 hx).1, by simp only [nodesOf, hx]; exact hi⟩
    obtain ⟨h1, h2⟩ := h.mem _ hm
    simp only at h1 h2
    refine ⟨n.toNat, by omega, ?_, hA _ _ _ h2⟩
    have := (List.getElem?_eq_some_iff.1 h2).1
    omega
  · obtain ⟨x, hx, h1, h2⟩ := hget k hk
    obtain ⟨m1, m2⟩ := mem_allTo.1 hx
    rw [hA k _ _ h2]
    obtain ⟨y, hy⟩ := getE m1
    refine ⟨y, hy, ?_⟩
    simp only [nodesOf, hy] at m2
    rw [← h1]
    exact m2
  · obtain ⟨k, hk⟩ := List.mem_iff_getElem?.1 hq
    obtain ⟨x, _, _, h2⟩ := hget k (by have := (List.getElem?_eq_some_iff.1 hk).1; omega)
    rw [hk] at h2
    injection h2 with h2
    subst h2
    exact ⟨by simp, by simp⟩
/-- What places answers: where each node stands, if each stands in just one place. -/
def PlacesIs (B bl : Nat) (pv : Value) (p : List FnP) (xv : GVals) (g : GraphP) (dv bv : Value) (w : World) (e : Ending) (w' : World) : Prop :=
  ∃ (t : Bool) (al : List (Int × Int)), e = .returned (.bool t) ∧ LkBox w' B bl pv p xv g dv (.slice (some ⟨w.heap.size + 2, 0, none⟩) g.nodes.length g.nodes.length) bv ∧ PairsV w' (.slice (some ⟨w.heap.size + 2, 0, none⟩) g.nodes.length g.nodes.length) al ∧ w.grownBy w' (some bl) ∧
    al.length = g.nodes.length ∧ (t = true → Places g (alA al) ∧ ∀ q ∈ al, 0 ≤ q.1 ∧ 0 ≤ q.2)
theorem PMem.is {w : World} {B bl : Nat} {pv : Value} {p : List FnP} {xv : GVals} {g : GraphP} {dv bv : Value} {al : List (Int × Int)} {r : Bool} {W : World} (h : PMem w B bl pv p xv g dv bv al r W) (hl : g.nodes.length ≤ 17592186044416) (hr : r = true → Places g (alA al) ∧ ∀ q ∈ al, 0 ≤ q.1 ∧ 0 ≤ q.2) :
    PlacesIs B bl pv p xv g dv bv w (.returned (.bool r)) W :=
  ⟨r, al, rfl, h.lk, ⟨w.heap.size + 2, g.nodes.length, by rw [h.len], by rw [h.len]; exact Nat.le_refl _, by rw [h.len]; exact hl, h.arr.lt, fun k q hq => h.cellA hq⟩, h.low, h.len, hr⟩
set_option maxRecDepth 100000 in
set_option maxHeartbeats 8000000 in
theorem places_any (w : World) (B bl : Nat) (pv : Value) (p : List FnP) (xv : GVals) (g : GraphP) (dv av bv : Value) (h : LkBox w B bl pv p xv g dv av bv) (hsm : Small g) :
    Calls Tryz.prog 41 #[.pointer (some ⟨bl, 0, none⟩)] w (PlacesIs B bl pv p xv g dv bv w) := by
  have HL := Lib.hid h
  obtain ⟨vn, vb, vs⟩ := xv
  obtain ⟨An, cn, rfl, _, hln, _⟩ := h.gr.1
  have hlim : g.nodes.length ≤ 5000 := hsm.lens.1
  obtain ⟨i0, hi, hz0, hz1, hz2⟩ := info_parts pair_info
  obtain ⟨w1, hw1⟩ : ∃ w1, w1 = (w.alloc (.cells #[.pointer (some ⟨bl, 0, none⟩)] 84)).alloc (.cells #[.bool false] 4) := ⟨_, rfl⟩
  have hb1 : Below w.heap.size w w1 := by rw [hw1]; exact ((Below.refl _ _).alloc (Nat.le_refl _) _).alloc (by simp) _
  have hX1 : Blk w1 w.heap.size 84 #[.pointer (some ⟨bl, 0, none⟩)] := by rw [hw1]; exact (Blk.new _ _ _).alloc _
  have x1 : w1.cell? ⟨w.heap.size, 0, none⟩ = some (.pointer (some ⟨bl, 0, none⟩)) := hX1.cell 0
  have l1 := hX1.lt
  obtain ⟨c0, c1, c2, c3, c4, c5, c6, c7, c8, c9⟩ := (h.below hb1).cells
  have ll := (h.below hb1).box.lt
  have fz := fun i => (h.below hb1).box.frozen i
  have hmk := fun W : World => run_make (P := Tryz.prog) W 85 92 i0 (.agg #[.int .i64 0, .int .i64 0]) Tryz.underlying85 hi hz0 .i64 .i64 (g.nodes.length : Int) (g.nodes.length : Int) (by omega) (Int.le_refl _) (by rw [hz2]; omega) (by omega)
  simp only [hz1, Int.toNat_natCast, Value.cells] at hmk
  refine (callsIn_wide (n := 3)).1 ?_
  refine callsIn_of_wp_marks Tryz.func41 rfl trivial ?_ rfl
  refine wpIn_wide.2 ?_
  simp only [Tryz.ntmps41, List.size_toArray, List.length_cons, List.length_nil, Nat.reduceAdd, Nat.reduceSub, Array.replicate_succ, Array.replicate_zero, List.push_toArray, List.append_toArray, List.nil_append, List.cons_append]
  go_upto_region 1 with fail
  rw [← hw1]
  have HS1 : Hid (w1.heap.size = w.heap.size + 2) := Lib.hid (by rw [hw1]; simp)
  have HW1 := Lib.hid hw1
  clear hw1 h hb1 hX1 hln
  simp only at c4
  go_upto_region 2 with go_region
  have hs1 : w1.heap.size = w.heap.size + 2 := HS1.out
  rw [hs1]
  obtain ⟨w2, hw2⟩ : ∃ w2, w2 = ((w1.setCell ⟨bl, 8, none⟩ (.slice (some ⟨w.heap.size + 2, 0, none⟩) g.nodes.length g.nodes.length)).alloc (.cells (madeCells #[.int .i64 0, .int .i64 0] (g.nodes.length * 2)) 92)).drew := ⟨_, rfl⟩
  rw [← hw2]
  have HM2 : Hid (PMem w B bl pv p ⟨.slice An g.nodes.length cn, vb, vs⟩ g dv bv (firstTo g.nodes.length 0) false w2) := Lib.hid (by rw [hw2]; exact PMem.first HL.out rfl HW1.out)
  clear hw2 hs1
  have x1 := HM2.out.lb.cell 0
  have c8 := HM2.out.lk.cells.2.2.2.2.2.2.2.2.1
  go_upto_region 3 with fail
  clear x1 c8
  go_loopw [22] (fun i wr => ∃ k : Nat, k ≤ g.nodes.length ∧ i = .int .i64 k ∧ Hid (PMem w B bl pv p ⟨.slice An g.nodes.length cn, vb, vs⟩ g dv bv (firstTo g.nodes.length k) false wr)) (fun i _ => g.nodes.length - (intOf i).toNat)
  case atStart => exact ⟨0, Nat.zero_le _, rfl, HM2⟩
  case round =>
    obtain ⟨k, hk, rfl, HM⟩ := hrel
    by_cases hlt : k < g.nodes.length
    · have x1 := HM.out.lb.cell 0
      have c8 := HM.out.lk.cells.2.2.2.2.2.2.2.2.1
      have ll := HM.out.lk.box.lt
      have l1 := HM.out.lb.lt
      have la := HM.out.arr.lt
      have fa := HM.out.arr.frozen
      obtain ⟨q, hq⟩ := getE (l := firstTo g.nodes.length k) (k := k) (by rw [firstTo_len]; exact hlt)
      obtain ⟨f0, f1⟩ := HM.out.cellA hq
      clear hq
      go_wp2_with fail
      go_roundw
      case rel => exact ⟨k + 1, by omega, by go_num, Lib.hid (by rw [← firstTo_set hlt]; exact HM.out.put hlt _ _)⟩
      case measure => simp [intOf]; omega
    · have ek : k = g.nodes.length := by omega
      subst ek
      have HMx := HM.out
      clear hlt hk
      obtain ⟨w3, hw3⟩ : ∃ w3, w3 = wr := ⟨_, rfl⟩
      rw [← hw3] at HMx ⊢
      clear HM hw3 c0 c1 c2 c3 c4 c5 c6 c7 c9 hmk hi hz0 hz1 hz2 HW1 HS1 fz ll l1 x1 HM2 c8
      have HM := Lib.hid HMx
      have x1 := HM.out.lb.cell 0
      have l1 := HM.out.lb.lt
      have ll := HM.out.lk.box.lt
      obtain ⟨w4, hw4⟩ : ∃ w4, w4 = w3.alloc (.cells #[.int .i64 0] 3) := ⟨_, rfl⟩
      have hb4 : Below w3.heap.size w3 w4 := by rw [hw4]; exact (Below.refl _ _).alloc (Nat.le_refl _) _
      have HX4 : Hid (Blk w4 w3.heap.size 3 #[.int .i64 0]) := Lib.hid (by rw [hw4]; exact Blk.new _ _ _)
      have HM4 := Lib.hid (HMx.below hb4)
      have x14 := HM4.out.lb.cell 0
      have l14 := HM4.out.lb.lt
      obtain ⟨d0, d1, d2, d3, d4, d5, d6, _⟩ := HM4.out.lk.cells
      have ll4 := HM4.out.lk.box.lt
      simp only at d4 d5 d6
      clear hb4 HMx
      go_upto_region 8 with fail
      rw [← hw4]
      clear hw4
      go_wp2_with (go_at_call 88; refine (callsIn_wide.1 (nodes_in Fence.wide 3 trivial rfl g ⟨.slice An g.nodes.length cn, vb, vs⟩ _)).mono ?_; rintro e w' ⟨rfl, rfl⟩)
      obtain ⟨w5, hw5⟩ : ∃ w5, w5 = w4.alloc (.cells (gbox g ⟨.slice An g.nodes.length cn, vb, vs⟩) 28) := ⟨_, rfl⟩
      rw [← hw5]
      have hb5 : Below w4.heap.size w4 w5 := by rw [hw5]; exact (Below.refl _ _).alloc (Nat.le_refl _) _
      have HG5 : Hid (Blk w5 w4.heap.size 28 (gbox g ⟨.slice An g.nodes.length cn, vb, vs⟩)) := Lib.hid (by rw [hw5]; exact Blk.new _ _ _)
      have HM5 := Lib.hid (HM4.out.below hb5)
      have HX5 := Lib.hid (HX4.out.below hb5 HX4.out.lt)
      have hz5 : w5.heap.size = w4.heap.size + 1 := by rw [hw5]; simp
      have hx3 := HX4.out.lt
      have h3 := HM.out.arr.lt
      have hB0 := HM.out.B0
      have HZ : Hid (w5.heap.size = w4.heap.size + 1 ∧ w3.heap.size < w4.heap.size ∧ w.heap.size + 2 < w3.heap.size ∧ B ≤ w.heap.size) := Lib.hid ⟨hz5, hx3, h3, hB0⟩
      clear hw5 hb5 x1 l1 ll x14 l14 d0 d1 d2 d3 d4 d5 d6 ll4
      refine (wpIn_wide (n := 3)).1 ?_
      generalize hfr : Act.mk _ _ = fr
      refine wpIn_rangeFunc_ownH (F := Fence.wide) (n := 3) (w := w5) rfl (by omega) (gf := 133) (lb := #[.pointer (some ⟨w4.heap.size, 0, none⟩)]) (by subst hfr; rfl) trivial (enters_of Tryz.func133 (by kernel_rfl) rfl)
        (nodes_stops Fence.wide (3 - 1) trivial rfl (by omega) w4.heap.size B (fun k => k < B ∨ k = w4.heap.size) (fun _ h => .inl h) (.inr rfl) vb g w5 (by omega) (by omega) (HG5.out.cell 4) HM5.out.lk.gr.2.1)
        (fun h k => KeepS.trans h k) (fun W' l o' o'' _ hW hc _ => KeepS.putObj W' l o' o'' hW hc) (Below.refl _ _) (fun _ => rfl)
        (fun pre W' => ∃ al, PMem w B bl pv p ⟨.slice An g.nodes.length cn, vb, vs⟩ g dv bv al false W' ∧ PlOk pre al ∧ Blk W' w3.heap.size 3 #[.int .i64 (pre.length : Int)])
        (fun c _ W' => c = .ret ∧ ∃ al, PMem w B bl pv p ⟨.slice An g.nodes.length cn, vb, vs⟩ g dv bv al false W')
        (fun pre W' W'' row hs hg hr => by obtain ⟨al, h1, h2, h3⟩ := hs; exact ⟨al, h1.kept (n := w5.heap.size) (by omega) hg hr, h2, h3.grown hg (blk_not_row h3 hr)⟩)
        (fun c pre W' W'' row hs hg hr => by obtain ⟨hc, al, h1⟩ := hs; exact ⟨hc, al, h1.kept (n := w5.heap.size) (by omega) hg hr⟩)
        ⟨_, HM5.out, PlOk.first _, HX5.out⟩
        (fun x a' W' => ∃ Bx, w.heap.size + 2 < Bx ∧ Blk W' Bx 92 #[.int .i64 (x.1.1 : Int), .int .i64 (x.1.2 : Int)] ∧ a' = ⟨(((fr.tmps.setIfInBounds 38 (.agg #[.int .i64 (x.1.1 : Int), .int .i64 (x.1.2 : Int)])).setIfInBounds 39 (.int .i64 x.2)).setIfInBounds 5 (.pointer (some ⟨Bx, 0, none⟩))).setIfInBounds 6 (.int .i64 x.2), []⟩)
        (fun x a' _ W' W'' row hs hg hr => by obtain ⟨Bx, h1, h2, h3⟩ := hs; exact ⟨Bx, h1, h2.grown hg (blk_not_row h2 hr), h3⟩)
        ?assign ?body ?done ?stop
      case assign =>
        rintro l pre x W' K ⟨al, h1, h2, h3⟩ hK
        subst hfr
        simp only [List.setIfInBounds_toArray, List.set_cons_zero, List.set_cons_succ] at hK
        unfold spotEnc
        gi_wp2
        have hba : Below W'.heap.size W' (W'.alloc (.cells #[.int .i64 (x.1.1 : Int), .int .i64 (x.1.2 : Int)] 92)) := (Below.refl _ _).alloc (Nat.le_refl _) _
        exact hK _ _ ((KeepsOthers.alloc _ _).from _) (KeepS.alloc _ _ _) ⟨al, h1.below hba, h2, h3.alloc _⟩ ⟨W'.heap.size, h1.arr.lt, Blk.new _ _ _, rfl⟩
      case body =>
        rintro l pre ⟨⟨b, i⟩, n⟩ a' W' hl ⟨lr, hr⟩ ⟨al, h1, h2, h3⟩ ⟨Bx, hBx, hX, rfl⟩ hlt
        subst hfr
        simp only [List.setIfInBounds_toArray, List.set_cons_zero, List.set_cons_succ]
        have HM1 := Lib.hid h1; have HP1 := Lib.hid h2; have HC1 := Lib.hid h3; have HXb := Lib.hid hX
        have x1 := h1.lb.cell 0
        have l1 := h1.lb.lt
        have c8 := h1.lk.cells.2.2.2.2.2.2.2.2.1
        have ll := h1.lk.box.lt
        have la := h1.arr.lt
        have fa := h1.arr.frozen
        have c3 := h3.cell 0
        have l3 := h3.lt
        have f3 := h3.frozen 0
        have r0 := h1.rs.cell 0
        have lr' := h1.rs.lt
        have fr := h1.rs.frozen 0
        have xX0 := hX.cell 0
        have xX1 := hX.cell 1
        have lX := hX.lt
        have hal := h1.len
        clear h1 h2 h3 hX
        obtain ⟨t, ht⟩ : ∃ t, t = (decide (0 ≤ n) && decide (n < (g.nodes.length : Int))) := ⟨_, rfl⟩
        have HT := Lib.hid ht
        clear ht
        cases t
        · gi_wp2_with (first | (refine ⟨trivial, ?_⟩; gi_at_call 38; refine (CallsIn.inRound l (callsIn_wide.2 (within_any n g.nodes.length false HT.out _))).mono ?_; rintro e w' ⟨rfl, hw'⟩; have hw2 := hw'.symm; subst hw2))
          exact ⟨(KeepsOthers.setCell _ _ _).from _, rfl, al, HM1.out.res false⟩
        · obtain ⟨m, rfl⟩ : ∃ m : Nat, n = (m : Int) := ⟨n.toNat, by have := HT.out; simp only [Bool.true_eq, Bool.and_eq_true, decide_eq_true_eq] at this; omega⟩
          have hm : m < g.nodes.length := by have := HT.out; simp only [Bool.true_eq, Bool.and_eq_true, decide_eq_true_eq] at this; omega
          obtain ⟨q, hq⟩ := getE (l := al) (k := m) (by omega)
          obtain ⟨f0, f1⟩ := HM1.out.cellA hq
          have HQ := Lib.hid hq
          obtain ⟨q0, q1⟩ := q
          simp only at f0 f1
          clear hq
          by_cases h0 : 0 ≤ q0
          · gi_wp2_with (first | (refine ⟨trivial, ?_⟩; gi_at_call 38; refine (CallsIn.inRound l (callsIn_wide.2 (within_any m g.nodes.length true HT.out _))).mono ?_; rintro e w' ⟨rfl, hw'⟩; have hw2 := hw'.symm; subst hw2))
            exact ⟨(KeepsOthers.setCell _ _ _).from _, rfl, al, HM1.out.res false⟩
          · have HQ0 : Hid (q0 < 0) := Lib.hid (by omega)
            gi_wp2_with (first | (refine ⟨trivial, ?_⟩; gi_at_call 38; refine (CallsIn.inRound l (callsIn_wide.2 (within_any m g.nodes.length true HT.out _))).mono ?_; rintro e w' ⟨rfl, hw'⟩; have hw2 := hw'.symm; subst hw2))
            have HS5 : Hid ((fun W : World => W.cell? ⟨w.heap.size, 0, none⟩ = some (.pointer (some ⟨bl, 0, none⟩)) ∧ W.cell? ⟨bl, 8, none⟩ = some (.slice (some ⟨w.heap.size + 2, 0, none⟩) g.nodes.length g.nodes.length) ∧ W.cell? ⟨Bx, 0, none⟩ = some (.int .i64 (b : Int)) ∧ W.cell? ⟨Bx, 1, none⟩ = some (.int .i64 (i : Int)) ∧ w.heap.size < W.heap.size ∧ bl < W.heap.size ∧ Bx < W.heap.size) W'.drew) := Lib.hid ⟨x1, c8, xX0, xX1, l1, ll, lX⟩
            refine RegX.wpIn_region_roundH (fun W => W.cell? ⟨w.heap.size, 0, none⟩ = some (.pointer (some ⟨bl, 0, none⟩)) ∧ W.cell? ⟨bl, 8, none⟩ = some (.slice (some ⟨w.heap.size + 2, 0, none⟩) g.nodes.length g.nodes.length) ∧ W.cell? ⟨Bx, 0, none⟩ = some (.int .i64 (b : Int)) ∧ W.cell? ⟨Bx, 1, none⟩ = some (.int .i64 (i : Int)) ∧ w.heap.size < W.heap.size ∧ bl < W.heap.size ∧ Bx < W.heap.size) (by kernel_rfl) (by kernel_rfl) (by rintro ⟨a, w, h⟩; exact h) HS5.out (fun HSn => ?_)
            clear HSn
            refine wpAnyH_take (i := 0) (oi := _) (v := ?_) rfl (by kernel_rfl) (by kernel_rfl) (by kernel_rfl) (fun _ _ _ h => h) (Or.inl ⟨by rfl, ?_⟩) HS5.out ?_
            rotate_left
            · intro w hSw; (try dsimp only at hSw); go_simp; (try with_reducible rfl)
            try simp only [Act.put, List.setIfInBounds_toArray, List.set_cons_zero, List.set_cons_succ]
            refine wpAnyH_take (i := 1) (oi := _) (v := ?_) rfl (by kernel_rfl) (by kernel_rfl) (by kernel_rfl) (fun _ _ _ h => h) (Or.inl ⟨by rfl, ?_⟩) HS5.out ?_
            rotate_left
            · intro w hSw; (try dsimp only at hSw); go_simp; (try with_reducible rfl)
            try simp only [Act.put, List.setIfInBounds_toArray, List.set_cons_zero, List.set_cons_succ]
            refine wpAnyH_take (i := 2) (oi := _) (v := ?_) rfl (by kernel_rfl) (by kernel_rfl) (by kernel_rfl) (fun _ _ _ h => h) (Or.inl ⟨by rfl, ?_⟩) HS5.out ?_
            rotate_left
            · intro w hSw; (try dsimp only at hSw); go_simp; (try with_reducible rfl)
            try simp only [Act.put, List.setIfInBounds_toArray, List.set_cons_zero, List.set_cons_succ]
            refine wpAnyH_take (i := 3) (oi := _) (v := ?_) rfl (by kernel_rfl) (by kernel_rfl) (by kernel_rfl) (fun _ _ _ h => h) (Or.inl ⟨by rfl, ?_⟩) HS5.out ?_
            rotate_left
            · intro w hSw; (try dsimp only at hSw); go_simp; (try with_reducible rfl)
            try simp only [Act.put, List.setIfInBounds_toArray, List.set_cons_zero, List.set_cons_succ]
            refine wpAnyH_take (i := 4) (oi := _) (v := ?_) rfl (by kernel_rfl) (by kernel_rfl) (by kernel_rfl) (fun _ _ _ h => h) (Or.inl ⟨by rfl, ?_⟩) HS5.out ?_
            rotate_left
            · intro w hSw; (try dsimp only at hSw); go_simp; (try with_reducible rfl)
            try simp only [Act.put, List.setIfInBounds_toArray, List.set_cons_zero, List.set_cons_succ]
            refine wpAnyH_take (i := 5) (oi := _) (v := ?_) rfl (by kernel_rfl) (by kernel_rfl) (by kernel_rfl) (fun _ _ _ h => h) (Or.inl ⟨by rfl, ?_⟩) HS5.out ?_
            rotate_left
            · intro w hSw; (try dsimp only at hSw); go_simp; (try with_reducible rfl)
            try simp only [Act.put, List.setIfInBounds_toArray, List.set_cons_zero, List.set_cons_succ]
            refine wpAnyH_take (i := 6) (oi := _) (v := ?_) rfl (by kernel_rfl) (by kernel_rfl) (by kernel_rfl) (fun _ _ _ h => h) (Or.inl ⟨by rfl, ?_⟩) HS5.out ?_
            rotate_left
            · intro w hSw; (try dsimp only at hSw); go_simp; (try with_reducible rfl)
            try simp only [Act.put, List.setIfInBounds_toArray, List.set_cons_zero, List.set_cons_succ]
            refine wpAnyH_ready (rs := [7]) (by kernel_rfl) (by simp) (AllReadyH.cons (o := _) rfl (fun K hK => ?_) AllReadyH.nil)
            have HMd := Lib.hid (HM1.out.below (Below.refl _ W').drew)
            have HXd : Hid (Blk W'.drew Bx 92 #[.int .i64 (b : Int), .int .i64 (i : Int)]) := Lib.hid HXb.out.drew
            have HK := Lib.hid hK
            clear hK x1 c8 c3 f3 r0 fr xX0 xX1 HS5
            go_simp
            obtain ⟨W2, hW2⟩ : ∃ W2, W2 = ((W'.setCell ⟨w.heap.size + 2, m * 2, none⟩ (.int .i64 (b : Int))).setCell ⟨w.heap.size + 2, m * 2 + 1, none⟩ (.int .i64 (i : Int))).drew := ⟨_, rfl⟩
            rw [← hW2]
            have HM2 : Hid (PMem w B bl pv p ⟨.slice An g.nodes.length cn, vb, vs⟩ g dv bv (al.set m ((b : Int), (i : Int))) false W2) := Lib.hid (by rw [hW2]; exact (HM1.out.put hm _ _).below (Below.refl _ _).drew)
            have HX2 : Hid (Blk W2 Bx 92 #[.int .i64 (b : Int), .int .i64 (i : Int)]) := Lib.hid (by rw [hW2]; exact ((HXb.out.far (by simp only; omega) _).far (by simp only; omega) _).drew)
            have HC2 : Hid (Blk W2 w3.heap.size 3 #[.int .i64 (pre.length : Int)]) := Lib.hid (by rw [hW2]; exact ((HC1.out.far (by have := HZ.out; simp only; omega) _).far (by have := HZ.out; simp only; omega) _).drew)
            have HKF : Hid (KeepsFrom w5.heap.size W' W2) := Lib.hid (by rw [hW2]; exact (((KeepsOthers.setCell _ _ _).trans (KeepsOthers.setCell _ _ _)).trans (KeepsOthers.drew _)).from _)
            have HKS : Hid (KeepS (fun k => k < B ∨ k = w4.heap.size) W' W2) := Lib.hid (by
              rw [hW2]
              have hz := HZ.out
              refine KeepS.trans ((KeepS.grown (grown_setCell _ _ _) (fun r e => .inr ?_)).trans (KeepS.grown (grown_setCell _ _ _) (fun r e => .inr ?_))) (fun _ _ _ h => h) <;> (injection e with e; subst e; simp only; omega))
            have hpl : pre.length ≤ 5000 := by
              rw [← HP1.out.cnt]
              refine Nat.le_trans List.countP_le_length ?_
              omega
            have x1 := HM2.out.lb.cell 0
            have l1 := HM2.out.lb.lt
            have c8 := HM2.out.lk.cells.2.2.2.2.2.2.2.2.1
            have ll := HM2.out.lk.box.lt
            refine HK.out _ _ ⟨x1, c8, HX2.out.cell 0, HX2.out.cell 1, l1, ll, HX2.out.lt⟩ (fun HSn => ?_)
            clear HSn HK HMd HXd f0 f1 fa x1 c8 hW2
            try simp only [Act.put, List.setIfInBounds_toArray, List.set_cons_zero, List.set_cons_succ]
            refine wpAnyH_done (by kernel_rfl) ?_ _
            have c3 := HC2.out.cell 0
            have l3 := HC2.out.lt
            have f3 := HC2.out.frozen 0
            gi_wp2_with fail
            refine ⟨HKF.out.trans ((KeepsOthers.setCell _ _ _).from _), HKS.out.trans (KeepS.grown (grown_setCell _ _ _) (fun r e => .inr ?_)), _, HM2.out.far (by have := HZ.out; simp only; omega) _, HP1.out.step (k := m) rfl HQ.out HQ0.out, ?_⟩
            · injection e with e; subst e; have := HZ.out; simp only; omega
            · have := HC2.out.set_ 0 (.int .i64 ((pre.length : Int) + 1))
              have e : ((pre ++ [(((b, i), (m : Int)) : Spot1)]).length : Int) = (pre.length : Int) + 1 := by simp
              rw [e]
              exact this
      case done =>
        rintro D ys W' hD rfl ⟨al, h1, h2, h3⟩ hK
        subst hfr
        dsimp only
        have HM1 := Lib.hid h1; have HP1 := Lib.hid h2; have HK := Lib.hid hK; have HD := Lib.hid hD
        have x1 := h1.lb.cell 0
        have l1 := h1.lb.lt
        have c8 := h1.lk.cells.2.2.2.2.2.2.2.2.1
        have ll := h1.lk.box.lt
        have c3 := h3.cell 0
        have l3 := h3.lt
        have r0 := h1.rs.cell 0
        have lr' := h1.rs.lt
        have fr := h1.rs.frozen 0
        clear h1 h2 h3 hK hD
        go_wp2_with go_region
        obtain ⟨r, hr⟩ : ∃ r : Bool, r = (((allTo g g.blocks.length).length : Int) == (g.nodes.length : Int)) := ⟨_, rfl⟩
        rw [← hr]
        have HM2 := Lib.hid ((HM1.out.res r).below (Below.refl _ _).drew)
        have HK2 := Lib.hid (((KeepsOthers.setCell W' ⟨w.heap.size + 1, 0, none⟩ (.bool r)).trans (KeepsOthers.drew _)).same D _ HK.out rfl)
        clear x1 l1 c8 ll c3 l3 r0 lr' fr
        refine ⟨by simp, .inl ⟨_, _, rfl, run_takeDeferred HK2.out, ?_⟩⟩
        have HM3 := Lib.hid (HM2.out.kept (n := w5.heap.size) (by have := HZ.out; omega) (grownBy_putObj' _ D (.deferred none)) (fun r e => by injection e with e; subst e; exact ⟨HD.out, _, HK2.out, rfl⟩))
        have rc := HM3.out.rs.cell 0
        have rl := HM3.out.rs.lt
        generalize World.putObj _ D (.deferred none) = W3 at HM3 rc rl ⊢
        have rc2 : W3.cell? ⟨w.heap.size + 1, 0, none⟩ = some (.bool r) := rc
        have hld : (loadVar 4 ⟨w.heap.size + 1, 0, none⟩).run Tryz.prog W3 = .ok (.bool r) W3 := by go_simp
        refine ⟨_, results_cell (fn := Tryz.f41) rfl rfl hld, HM3.out.is (by omega) (fun h => ?_)⟩
        rw [hr] at h
        have hN : (allTo g g.blocks.length).length = g.nodes.length := by have := eq_of_beq h; omega
        exact HP1.out.places HM1.out.len hN
      case stop =>
        rintro D c pre W' hD _ ⟨rfl, al, h1⟩ hK
        subst hfr
        dsimp only
        have HM2 := Lib.hid h1; have HK2 := Lib.hid hK; have HD := Lib.hid hD
        clear h1 hK hD
        gi_wp2
        refine ⟨by simp, .inl ⟨_, _, rfl, run_takeDeferred HK2.out, ?_⟩⟩
        have HM3 := Lib.hid (HM2.out.kept (n := w5.heap.size) (by have := HZ.out; omega) (grownBy_putObj' _ D (.deferred none)) (fun r e => by injection e with e; subst e; exact ⟨HD.out, _, HK2.out, rfl⟩))
        have rc := HM3.out.rs.cell 0
        have rl := HM3.out.rs.lt
        generalize World.putObj _ D (.deferred none) = W3 at HM3 rc rl ⊢
        have rc2 : W3.cell? ⟨w.heap.size + 1, 0, none⟩ = some (.bool false) := rc
        have hld : (loadVar 4 ⟨w.heap.size + 1, 0, none⟩).run Tryz.prog W3 = .ok (.bool false) W3 := by go_simp
        exact ⟨_, results_cell (fn := Tryz.f41) rfl rfl hld, HM3.out.is (by omega) (fun h => by cases h)⟩
end Go.Proofs.YtkmfdiboekoioaaGreat
