/- Where each node of a graph stands, as the reference 16 lists it. Conditions: a small graph that lies in memory. -/
import Derived.Test.YtkmfdiboekoioaaGreatCRfStands
import Derived.Test.YtkmfdiboekoioaaGreatCAbvPure
import Derived.Laws.MakeOwn
import Derived.Test.YtkmfdiboekoioaaGreatCRfDep
import Derived.Test.YtkmfdiboekoioaaGreatCTold
set_option linter.unusedSimpArgs false
set_option linter.unusedVariables false
namespace Go.Proofs.YtkmfdiboekoioaaGreat
open Go.RowKit
theorem place_info : (Tryz.prog.info? 64).map (fun i => (i.zero, i.size, i.bytes)) = some (some (.agg #[.int .i64 0, .int .i64 0]), 2, 16) := by kernel_rfl
def pairs (al : List (Int × Int)) : List Value := al.flatMap (fun q => [.int .i64 q.1, .int .i64 q.2])
def pairCells (al : List (Int × Int)) : Array Value := (pairs al).toArray
theorem pairs_get : ∀ (al : List (Int × Int)) (i : Nat), (pairs al)[i]? = (al[i / 2]?).map (fun q => Value.int .i64 (if i % 2 = 0 then q.1 else q.2))
 | [], i => by simp [pairs]
 | q :: al, 0 => rfl
 | q :: al, 1 => rfl
 | q :: al, i + 2 => by
  have h := pairs_get al i
  have e : pairs (q :: al) = .int .i64 q.1 :: .int .i64 q.2 :: pairs al := rfl
  rw [e, List.getElem?_cons_succ, List.getElem?_cons_succ, h]
  have e1 : (i + 2) / 2 = i / 2 + 1 := by omega
  have e2 : (i + 2) % 2 = i % 2 := by omega
  rw [e1, e2, List.getElem?_cons_succ]
theorem pairCells_get (al : List (Int × Int)) (i : Nat) : (pairCells al)[i]? = (al[i / 2]?).map (fun q => Value.int .i64 (if i % 2 = 0 then q.1 else q.2)) := by
 rw [pairCells, List.getElem?_toArray, pairs_get]
theorem pairCells_at {al : List (Int × Int)} {k : Nat} {q : Int × Int} (h : al[k]? = some q) : (pairCells al)[k * 2]? = some (.int .i64 q.1) ∧ (pairCells al)[k * 2 + 1]? = some (.int .i64 q.2) := by
 have e1 : k * 2 / 2 = k := by omega
 have e2 : k * 2 % 2 = 0 := by omega
 have e3 : (k * 2 + 1) / 2 = k := by omega
 have e4 : (k * 2 + 1) % 2 = 1 := by omega
 rw [pairCells_get, pairCells_get, e1, e2, e3, e4, h]
 exact ⟨rfl, rfl⟩
theorem pairCells_set {al : List (Int × Int)} {k : Nat} (h : k < al.length) (a b : Int) : ((pairCells al).setIfInBounds (k * 2) (.int .i64 a)).setIfInBounds (k * 2 + 1) (.int .i64 b) = pairCells (al.set k (a, b)) := by
 have hsz : k * 2 + 1 < (pairCells al).size := by
  have h1 := pairCells_get al (k * 2 + 1)
  have e3 : (k * 2 + 1) / 2 = k := by omega
  rw [e3, List.getElem?_eq_getElem h] at h1
  exact (Array.getElem?_eq_some_iff.1 h1).1
 apply Array.ext_getElem?
 intro i
 rw [pairCells_get, Array.getElem?_setIfInBounds, Array.getElem?_setIfInBounds, pairCells_get, List.getElem?_set]
 by_cases h1 : k * 2 + 1 = i
 ·subst h1
  have e3 : (k * 2 + 1) / 2 = k := by omega
  have e4 : (k * 2 + 1) % 2 = 1 := by omega
  rw [e3, e4, if_pos rfl, if_pos rfl]
  rw [if_pos h, if_pos (by simpa using hsz)]; rfl
 ·rw [if_neg h1]
  by_cases h2 : k * 2 = i
  ·subst h2
   have e3 : k * 2 / 2 = k := by omega
   have e4 : k * 2 % 2 = 0 := by omega
   rw [e3, e4, if_pos rfl, if_pos rfl]
   rw [if_pos h, if_pos (by omega)]; rfl
  ·rw [if_neg h2, if_neg (by omega)]
theorem made_pairs (N : Nat) : madeCells #[.int .i64 0, .int .i64 0] (N * 2) = pairCells (List.replicate N (0, 0)) := by
 apply Array.ext_getElem?
 intro i
 rw [pairCells_get, List.getElem?_replicate]
 rcases Nat.lt_or_ge i (N * 2) with h | h
 ·rw [if_pos (by omega)]
  have : i % 2 = 0 ∨ i % 2 = 1 := by omega
  rcases this with e | e <;> simp [madeCells, h, e]
 ·rw [if_neg (by omega)]
  simp [madeCells]; omega
def firstTo (N k : Nat) : List (Int × Int) := (List.range N).map (fun i => if i < k then (-1, 0) else (0, 0))
theorem firstTo_len (N k : Nat) : (firstTo N k).length = N := by simp [firstTo]
theorem firstTo_zero (N : Nat) : firstTo N 0 = List.replicate N (0, 0) := by
 apply List.ext_getElem?
 intro i
 rcases Nat.lt_or_ge i N with h | h
 ·simp [firstTo, h]
 ·simp [firstTo, h]
theorem firstTo_all (N : Nat) : firstTo N N = List.replicate N (-1, 0) := by
 apply List.ext_getElem?
 intro i
 rcases Nat.lt_or_ge i N with h | h
 ·simp [firstTo, h]
 ·simp [firstTo, h]
theorem firstTo_set {N k : Nat} (_h : k < N) : (firstTo N k).set k (-1, 0) = firstTo N (k + 1) := by
 apply List.ext_getElem?
 intro i
 rw [List.getElem?_set]
 unfold firstTo
 simp only [List.length_map, List.length_range, List.getElem?_map]
 rcases Nat.lt_or_ge i N with hi | hi
 ·rw [List.getElem?_range hi]
  by_cases e : k = i
  ·subst e
   simp [hi]
  ·rw [if_neg e]
   simp only [Option.map_some]
   by_cases h2 : i < k
   ·rw [if_pos h2, if_pos (by omega)]
   ·rw [if_neg h2, if_neg (by omega)]
 ·rw [List.getElem?_eq_none (by simpa using hi)]
  rw [if_neg (by omega)]; rfl
theorem pairCells_fst {al : List (Int × Int)} {k : Nat} {q : Int × Int} (h : al[k]? = some q) (a : Int) : (pairCells al).setIfInBounds (k * 2) (.int .i64 a) = pairCells (al.set k (a, q.2)) := by
 have hk : k < al.length := (List.getElem?_eq_some_iff.1 h).1
 rw [← pairCells_set hk]
 obtain ⟨_, h2⟩ := pairCells_at h
 apply Array.ext_getElem?
 intro i
 rw [Array.getElem?_setIfInBounds (xs := (pairCells al).setIfInBounds (k * 2) _)]
 by_cases e : k * 2 + 1 = i
 ·subst e
  rw [if_pos rfl, Array.getElem?_setIfInBounds, if_neg (by omega), h2]
  have : k * 2 + 1 < (pairCells al).size := (Array.getElem?_eq_some_iff.1 h2).1
  rw [if_pos (by simpa using this)]
 ·rw [if_neg e]
/-- What is told of places when the blocks below b, and k nodes of b, are gone through. -/
structure PlI (g : GraphP) (b k : Nat) (al : List (Int × Int)) : Prop where
 done : ∀ (b' i : Nat) x n, (b' < b ∨ b' = b ∧ i < k) → g.blocks[b']? = some x → x.nodes[i]? = some n → 0 ≤ n ∧ al[n.toNat]? = some ((b' : Int), (i : Int))
 rev : ∀ (m : Nat) q, al[m]? = some q → 0 ≤ q.1 → ∃ (b' i : Nat) (x : BlockP), q = ((b' : Int), (i : Int)) ∧ g.blocks[b']? = some x ∧ x.nodes[i]? = some (m : Int)
theorem PlI.first (g : GraphP) (N : Nat) : PlI g 0 0 (firstTo N N) := by
 refine ⟨fun b' i x n h => by omega, fun m q hm h0 => ?_⟩
 rw [firstTo_all, List.getElem?_replicate] at hm
 split at hm
 ·injection hm with hm; subst hm; simp at h0
 ·cases hm
theorem PlI.next {g : GraphP} {b k : Nat} {al : List (Int × Int)} {x : BlockP} (h : PlI g b k al) (hx : g.blocks[b]? = some x) (hk : x.nodes.length ≤ k) : PlI g (b + 1) 0 al :=
 ⟨fun b' i y n hb hy hn => by
  rcases hb with hb | ⟨_, hb⟩
  ·rcases Nat.lt_or_ge b' b with q | q
   ·exact h.done b' i y n (.inl q) hy hn
   ·obtain rfl : b' = b := by omega
    rw [hx] at hy; injection hy with hy; subst hy
    refine h.done b' i x n (.inr ⟨rfl, ?_⟩) hx hn
    have := (List.getElem?_eq_some_iff.1 hn).1
    omega
  ·omega, h.rev⟩
theorem PlI.put {g : GraphP} {b k : Nat} {al : List (Int × Int)} {x : BlockP} {m : Nat} {q : Int × Int} (h : PlI g b k al) (hx : g.blocks[b]? = some x) (hn : x.nodes[k]? = some (m : Int)) (hm : al[m]? = some q) (hq : q.1 < 0) : PlI g b (k + 1) (al.set m ((b : Int), (k : Int))) := by
 obtain ⟨hlt, _⟩ := List.getElem?_eq_some_iff.1 hm
 refine ⟨fun b' i y n hb hy hn' => ?_, fun j c hj h0 => ?_⟩
 ·by_cases e : b' = b ∧ i = k
  ·obtain ⟨rfl, rfl⟩ := e
   rw [hx] at hy; injection hy with hy; subst hy
   rw [hn] at hn'; injection hn' with hn'; subst hn'
   exact ⟨by omega, by rw [Int.toNat_natCast, List.getElem?_set_self hlt]⟩
  ·obtain ⟨h1, h2⟩ := h.done b' i y n (by omega) hy hn'
   refine ⟨h1, ?_⟩
   rw [List.getElem?_set_ne ?_]
   ·exact h2
   ·rintro rfl
    rw [h2] at hm; injection hm with hm; rw [← hm] at hq; simp only at hq; omega
 ·by_cases e : m = j
  ·subst e
   rw [List.getElem?_set_self hlt] at hj
   injection hj with hj
   exact ⟨b, k, x, hj.symm, hx, hn⟩
  ·rw [List.getElem?_set_ne e] at hj
   exact h.rev j c hj h0
def natP (al : List (Int × Int)) : List (Nat × Nat) := al.map (fun q => (q.1.toNat, q.2.toNat))
/-- The places of all nodes. -/
structure PlOk2 (g : GraphP) (P : List (Nat × Nat)) : Prop where
 len : P.length = g.nodes.length
 pl : Places g (fun k => P.getD k (0, 0))
theorem PlI.all {g : GraphP} {b k : Nat} {al : List (Int × Int)} (h : PlI g b k al) (hb : g.blocks.length ≤ b) (hl : al.length = g.nodes.length) (ha : ∀ q ∈ al, 0 ≤ q.1) : PlOk2 g (natP al) ∧ ∀ q ∈ al, 0 ≤ q.1 ∧ 0 ≤ q.2 := by
 have hg : ∀ (m : Nat) (c d : Nat), al[m]? = some ((c : Int), (d : Int)) → (natP al).getD m (0, 0) = (c, d) := fun m c d hm => by
  rw [List.getD_eq_getElem?_getD]; unfold natP; rw [List.getElem?_map, hm]; simp
 refine ⟨⟨by simp [natP, hl], ⟨fun b' x i n hx hn => ?_, fun m hm => ?_⟩⟩, fun q hq => ?_⟩
 ·have hbl := (List.getElem?_eq_some_iff.1 hx).1
  obtain ⟨h1, h2⟩ := h.done b' i x n (.inl (by omega)) hx hn
  have := (List.getElem?_eq_some_iff.1 h2).1
  exact ⟨n.toNat, by omega, by omega, hg _ _ _ h2⟩
 ·obtain ⟨q, hq⟩ := rget (l := al) (k := m) (by omega)
  obtain ⟨b', i, x, e, hx, hn⟩ := h.rev m q hq (ha q (List.mem_of_getElem? hq))
  rw [e] at hq
  rw [hg _ _ _ hq]
  exact ⟨x, hx, hn⟩
 ·obtain ⟨m, hm⟩ := List.mem_iff_getElem?.1 hq
  obtain ⟨b', i, x, e, _, _⟩ := h.rev m q hm (ha q hq)
  rw [e]; simp
structure PlM (w : World) (xv : GVals) (g : GraphP) (al : List (Int × Int)) (wr : World) : Prop where
 gr : Blk wr w.heap.size 28 #[.int .i64 g.fn, .int .i64 g.pc, .int .i64 g.slots, xv.vn, xv.vb, xv.vs]
 ar : Blk wr (w.heap.size + 1) 64 (pairCells al)
 low : Below w.heap.size w wr
section
variable {w wr w2 : World} {xv : GVals} {g : GraphP} {al : List (Int × Int)}
theorem PlM.below (h : PlM w xv g al wr) (hb : Below wr.heap.size wr w2) : PlM w xv g al w2 := ⟨h.gr.below hb h.gr.lt, h.ar.below hb h.ar.lt, h.low.trans (hb.mono h.low.size)⟩
theorem PlM.cells (h : PlM w xv g al wr) : wr.cell? ⟨w.heap.size, 3, none⟩ = some xv.vn ∧ wr.cell? ⟨w.heap.size, 4, none⟩ = some xv.vb ∧ w.heap.size + 1 < wr.heap.size ∧ w.heap.size < wr.heap.size := ⟨h.gr.cell 3, h.gr.cell 4, h.ar.lt, h.gr.lt⟩
theorem PlM.at_ (h : PlM w xv g al wr) {k : Nat} {q : Int × Int} (hk : al[k]? = some q) : wr.cell? ⟨w.heap.size + 1, k * 2, none⟩ = some (.int .i64 q.1) ∧ wr.cell? ⟨w.heap.size + 1, k * 2 + 1, none⟩ = some (.int .i64 q.2) := by
 rw [h.ar.cell, h.ar.cell]; exact pairCells_at hk
theorem PlM.fr (h : PlM w xv g al wr) (k : Nat) : wr.frozen? ⟨w.heap.size + 1, k, none⟩ = false := h.ar.frozen k
theorem PlM.fst (h : PlM w xv g al wr) {k : Nat} {q : Int × Int} (hk : al[k]? = some q) (a : Int) : PlM w xv g (al.set k (a, q.2)) (wr.setCell ⟨w.heap.size + 1, k * 2, none⟩ (.int .i64 a)) := by
 refine ⟨h.gr.far (by simp) _, ?_, h.low.setCell (p := ⟨w.heap.size + 1, k * 2, none⟩) (show w.heap.size ≤ w.heap.size + 1 by omega) _⟩
 rw [← pairCells_fst hk]
 exact h.ar.set_ _ _
theorem PlM.put (h : PlM w xv g al wr) {k : Nat} (hk : k < al.length) (a b : Int) : PlM w xv g (al.set k (a, b)) ((wr.setCell ⟨w.heap.size + 1, k * 2, none⟩ (.int .i64 a)).setCell ⟨w.heap.size + 1, k * 2 + 1, none⟩ (.int .i64 b)) := by
 refine ⟨(h.gr.far (by simp) _).far (by simp) _, ?_, (h.low.setCell (p := ⟨w.heap.size + 1, k * 2, none⟩) (show w.heap.size ≤ w.heap.size + 1 by omega) _).setCell (p := ⟨w.heap.size + 1, k * 2 + 1, none⟩) (show w.heap.size ≤ w.heap.size + 1 by omega) _⟩
 rw [← pairCells_set hk]
 exact (h.ar.set_ _ _).set_ _ _
end
end Go.Proofs.YtkmfdiboekoioaaGreat

/- What meets in a graph, said plainly. No condition. -/
namespace Go.Proofs.YtkmfdiboekoioaaGreat
open Go.RowKit
def nowStep (g : GraphP) (p : ISet) (n : Int) : ISet := match nodeAt g n with
 | none => p
 | some y => if y.op = 2 then p.del n else ((p.del n).add g.nodes.length y.args).add g.nodes.length (slotsOf g y.state)
theorem nowStep_none {g : GraphP} {p : ISet} {n : Int} (h : nodeAt g n = none) : nowStep g p n = p := by unfold nowStep; rw [h]
theorem nowStep_phi {g : GraphP} {p : ISet} {n : Int} {y : NodeP} (h : nodeAt g n = some y) (ho : y.op = 2) : nowStep g p n = p.del n := by unfold nowStep; rw [h]; simp only [if_pos ho]
theorem nowStep_other {g : GraphP} {p : ISet} {n : Int} {y : NodeP} (h : nodeAt g n = some y) (ho : y.op ≠ 2) : nowStep g p n = ((p.del n).add g.nodes.length y.args).add g.nodes.length (slotsOf g y.state) := by unfold nowStep; rw [h]; simp only [if_neg ho]
def nowFirst (g : GraphP) (O : Sets) (b : Nat) (x : BlockP) : ISet := ((ISet.empty.add g.nodes.length (listOf g.nodes.length (O.at_ b))).add g.nodes.length x.args).add g.nodes.length (slotsOf g x.state)
/-- What is live ahead of the node i of a block. -/
def liveAt (g : GraphP) (O : Sets) (b : Nat) (x : BlockP) (i : Nat) : ISet := ((x.nodes.drop i).reverse).foldl (nowStep g) (nowFirst g O b x)
theorem drop_get {l : List Int} {i : Nat} {n : Int} (h : l[i]? = some n) : l.drop i = n :: l.drop (i + 1) := by
 obtain ⟨hi, e⟩ := List.getElem?_eq_some_iff.1 h
 rw [List.drop_eq_getElem_cons hi, e]
theorem liveAt_len (g : GraphP) (O : Sets) (b : Nat) (x : BlockP) {i : Nat} (h : x.nodes.length ≤ i) : liveAt g O b x i = nowFirst g O b x := by
 unfold liveAt; rw [List.drop_eq_nil_of_le h]; rfl
theorem liveAt_step (g : GraphP) (O : Sets) (b : Nat) (x : BlockP) {i : Nat} {n : Int} (h : x.nodes[i]? = some n) : liveAt g O b x i = nowStep g (liveAt g O b x (i + 1)) n := by
 unfold liveAt; rw [drop_get h, List.reverse_cons, List.foldl_append]; rfl
theorem spotTo_now (g : GraphP) (I O : Sets) (b : Nat) (x : BlockP) (R : Meets) : ∀ pre, (spotTo g I O b x R pre).now = pre.foldl (nowStep g) (nowFirst g O b x) := by
 unfold spotTo
 have key : ∀ (pre : List Int) (s : Spot), (pre.foldl (spotStep g) s).now = pre.foldl (nowStep g) s.now := fun pre => by
  induction pre with
  | nil => exact fun _ => rfl
  | cons n pre ih =>
   intro s
   rw [List.foldl_cons, List.foldl_cons, ih]
   congr 1
   cases hn : nodeAt g n with
   | none => rw [spotStep_none hn, nowStep_none hn]
   | some y =>
    by_cases ho : y.op = 2
    ·rw [spotStep_phi hn ho, nowStep_phi hn ho]
    ·rw [spotStep_other hn ho, nowStep_other hn ho]
 exact fun pre => key pre _
/-- z is live where n is made. -/
def StarAt (g : GraphP) (O : Sets) (b : Nat) (x : BlockP) (i : Nat) (n z : Int) : Prop := ∃ (j : Nat) (y : NodeP), i ≤ j ∧ x.nodes[j]? = some n ∧ nodeAt g n = some y ∧ y.op ≠ 2 ∧ (liveAt g O b x (j + 1)).del n z = true
def InCl (g : GraphP) (I : Sets) (b : Nat) (x : BlockP) (i : Nat) (z : Int) : Prop := z ∈ listOf g.nodes.length (I.at_ b) ∨ ∃ (j : Nat) (y : NodeP), i ≤ j ∧ x.nodes[j]? = some z ∧ nodeAt g z = some y ∧ y.op = 2
theorem spot_meet (g : GraphP) (I O : Sets) (b : Nat) (x : BlockP) (R : Meets) : ∀ (d i : Nat), i + d = x.nodes.length → ∀ u v,
  ((spotTo g I O b x R (x.nodes.drop i).reverse).meet u v = true ↔ (R u v = true ∨ StarAt g O b x i u v ∨ StarAt g O b x i v u)) ∧ (u ∈ (spotTo g I O b x R (x.nodes.drop i).reverse).phis ↔ InCl g I b x i u)
 | 0, i, hi => fun u v => by
  rw [List.drop_eq_nil_of_le (by omega)]
  have no : ∀ (j : Nat) (n : Int), i ≤ j → x.nodes[j]? = some n → False := fun j n h h2 => by rw [List.getElem?_eq_none (by omega)] at h2; cases h2
  refine ⟨⟨fun h => .inl h, fun h => ?_⟩, ⟨fun h => .inl h, fun h => ?_⟩⟩
  ·rcases h with h | ⟨j, y, h1, h2, _⟩ | ⟨j, y, h1, h2, _⟩
   ·exact h
   ·exact (no j _ h1 h2).elim
   ·exact (no j _ h1 h2).elim
  ·rcases h with h | ⟨j, y, h1, h2, _⟩
   ·exact h
   ·exact (no j _ h1 h2).elim
 | d + 1, i, hi => fun u v => by
  obtain ⟨n, hn⟩ := getE (l := x.nodes) (k := i) (by omega)
  have ih := spot_meet g I O b x R d (i + 1) (by omega) u v
  rw [drop_get hn, List.reverse_cons, spotTo_snoc]
  have hnow : (spotTo g I O b x R (x.nodes.drop (i + 1)).reverse).now = liveAt g O b x (i + 1) := spotTo_now g I O b x R _
  have st : ∀ u v, StarAt g O b x i u v ↔ (StarAt g O b x (i + 1) u v ∨ (u = n ∧ ∃ y, nodeAt g n = some y ∧ y.op ≠ 2 ∧ (liveAt g O b x (i + 1)).del n v = true)) := fun u v => by
   constructor
   ·rintro ⟨j, y, h1, h2, h3, h4, h5⟩
    rcases Nat.lt_or_ge i j with q | q
    ·exact .inl ⟨j, y, q, h2, h3, h4, h5⟩
    ·obtain rfl : j = i := by omega
     rw [hn] at h2; injection h2 with h2; subst h2
     exact .inr ⟨rfl, y, h3, h4, h5⟩
   ·rintro (⟨j, y, h1, h2, h3, h4, h5⟩ | ⟨rfl, y, h3, h4, h5⟩)
    ·exact ⟨j, y, by omega, h2, h3, h4, h5⟩
    ·exact ⟨i, y, Nat.le_refl _, hn, h3, h4, h5⟩
  have cl : InCl g I b x i u ↔ (InCl g I b x (i + 1) u ∨ (u = n ∧ ∃ y, nodeAt g n = some y ∧ y.op = 2)) := by
   constructor
   ·rintro (h | ⟨j, y, h1, h2, h3, h4⟩)
    ·exact .inl (.inl h)
    ·rcases Nat.lt_or_ge i j with q | q
     ·exact .inl (.inr ⟨j, y, q, h2, h3, h4⟩)
     ·obtain rfl : j = i := by omega
      rw [hn] at h2; injection h2 with h2; subst h2
      exact .inr ⟨rfl, y, h3, h4⟩
   ·rintro ((h | ⟨j, y, h1, h2, h3, h4⟩) | ⟨rfl, y, h3, h4⟩)
    ·exact .inl h
    ·exact .inr ⟨j, y, by omega, h2, h3, h4⟩
    ·exact .inr ⟨i, y, Nat.le_refl _, hn, h3, h4⟩
  rw [st u v, st v u, cl]
  cases hna : nodeAt g n with
  | none =>
   rw [spotStep_none hna]
   refine ⟨ih.1.trans ⟨fun h => ?_, fun h => ?_⟩, ih.2.trans ⟨fun h => .inl h, fun h => ?_⟩⟩
   ·rcases h with h | h | h
    ·exact .inl h
    ·exact .inr (.inl (.inl h))
    ·exact .inr (.inr (.inl h))
   ·rcases h with h | (h | ⟨_, y, h, _⟩) | (h | ⟨_, y, h, _⟩)
    ·exact .inl h
    ·exact .inr (.inl h)
    ·cases h
    ·exact .inr (.inr h)
    ·cases h
   ·rcases h with h | ⟨_, y, h, _⟩
    ·exact h
    ·cases h
  | some y =>
   by_cases ho : y.op = 2
   ·rw [spotStep_phi hna ho]
    refine ⟨ih.1.trans ⟨fun h => ?_, fun h => ?_⟩, ?_⟩
    ·rcases h with h | h | h
     ·exact .inl h
     ·exact .inr (.inl (.inl h))
     ·exact .inr (.inr (.inl h))
    ·rcases h with h | (h | ⟨_, y', h, h', _⟩) | (h | ⟨_, y', h, h', _⟩)
     ·exact .inl h
     ·exact .inr (.inl h)
     ·injection h with h; subst h; exact absurd ho h'
     ·exact .inr (.inr h)
     ·injection h with h; subst h; exact absurd ho h'
    ·show u ∈ (if n ∈ (spotTo g I O b x R (x.nodes.drop (i + 1)).reverse).phis then (spotTo g I O b x R (x.nodes.drop (i + 1)).reverse).phis else (spotTo g I O b x R (x.nodes.drop (i + 1)).reverse).phis ++ [n]) ↔ _
     constructor
     ·intro h
      split at h
      ·exact .inl (ih.2.1 h)
      ·rcases List.mem_append.1 h with h | h
       ·exact .inl (ih.2.1 h)
       ·simp only [List.mem_singleton] at h
        exact .inr ⟨h, y, rfl, ho⟩
     ·intro h
      split
      ·rename_i hm
       rcases h with h | ⟨rfl, _⟩
       ·exact ih.2.2 h
       ·exact hm
      ·rcases h with h | ⟨rfl, _⟩
       ·exact List.mem_append_left _ (ih.2.2 h)
       ·simp
   ·rw [spotStep_other hna ho]
    refine ⟨?_, ih.2.trans ⟨fun h => .inl h, fun h => ?_⟩⟩
    ·show star _ n _ u v = true ↔ _
     unfold star
     rw [hnow]
     simp only [Bool.or_eq_true, Bool.and_eq_true, beq_iff_eq]
     rw [ih.1]
     constructor
     ·rintro ((h | ⟨rfl, h⟩) | ⟨rfl, h⟩)
      ·rcases h with h | h | h
       ·exact .inl h
       ·exact .inr (.inl (.inl h))
       ·exact .inr (.inr (.inl h))
      ·exact .inr (.inl (.inr ⟨rfl, y, rfl, ho, h⟩))
      ·exact .inr (.inr (.inr ⟨rfl, y, rfl, ho, h⟩))
     ·rintro (h | (h | ⟨rfl, y', h, h', h2⟩) | (h | ⟨rfl, y', h, h', h2⟩))
      ·exact .inl (.inl (.inl h))
      ·exact .inl (.inl (.inr (.inl h)))
      ·exact .inl (.inr ⟨rfl, h2⟩)
      ·exact .inl (.inl (.inr (.inr h)))
      ·exact .inr ⟨rfl, h2⟩
    ·rcases h with h | ⟨_, y', h, h'⟩
     ·exact h
     ·injection h with h; subst h; exact absurd h' ho
/-- What meets in a block, R being what met so far. -/
def MeetIn1 (g : GraphP) (I O : Sets) (b : Nat) (x : BlockP) (u v : Int) : Prop := StarAt g O b x 0 u v ∨ StarAt g O b x 0 v u ∨ (InCl g I b x 0 u ∧ InCl g I b x 0 v ∧ u ≠ v)
theorem meetBlock_iff (g : GraphP) (I O : Sets) (b : Nat) (x : BlockP) (R : Meets) (u v : Int) : meetBlock g I O b x R u v = true ↔ (R u v = true ∨ MeetIn1 g I O b x u v) := by
 have h1 := spot_meet g I O b x R x.nodes.length 0 (by omega) u v
 have h2 := spot_meet g I O b x R x.nodes.length 0 (by omega) v u
 rw [List.drop_zero] at h1 h2
 unfold meetBlock clique MeetIn1
 simp only [Bool.or_eq_true, Bool.and_eq_true, List.contains_iff_mem, Bool.not_eq_true', beq_eq_false_iff_ne]
 rw [h1.1, h1.2, h2.2]
 constructor
 ·rintro ((h | h | h) | ⟨⟨h, h'⟩, h2⟩)
  ·exact .inl h
  ·exact .inr (.inl h)
  ·exact .inr (.inr (.inl h))
  ·exact .inr (.inr (.inr ⟨h, h', h2⟩))
 ·rintro (h | h | h | ⟨h, h', h2⟩)
  ·exact .inl (.inl h)
  ·exact .inl (.inr (.inl h))
  ·exact .inl (.inr (.inr h))
  ·exact .inr ⟨⟨h, h'⟩, h2⟩
theorem meetTo_iff (g : GraphP) (I O : Sets) (u v : Int) : ∀ k, k ≤ g.blocks.length → (meetTo g I O k u v = true ↔ ∃ b x, b < k ∧ g.blocks[b]? = some x ∧ MeetIn1 g I O b x u v)
 | 0, _ => by
  constructor
  ·intro h; cases h
  ·rintro ⟨b, _, h, _⟩; omega
 | k + 1, hk => by
  obtain ⟨x, hx⟩ := getE (l := g.blocks) (k := k) (by omega)
  rw [meetTo_step g I O k x hx, meetBlock_iff, meetTo_iff g I O u v k (by omega)]
  constructor
  ·rintro (⟨b, y, h1, h2, h3⟩ | h)
   ·exact ⟨b, y, by omega, h2, h3⟩
   ·exact ⟨k, x, by omega, hx, h⟩
  ·rintro ⟨b, y, h1, h2, h3⟩
   rcases Nat.lt_or_ge b k with q | q
   ·exact .inl ⟨b, y, q, h2, h3⟩
   ·obtain rfl : b = k := by omega
    rw [hx] at h2; injection h2 with h2; subst h2
    exact .inr h3
theorem meetAll_iff (g : GraphP) (I O : Sets) (u v : Int) : meetAll g I O u v = true ↔ ∃ b x, g.blocks[b]? = some x ∧ MeetIn1 g I O b x u v := by
 unfold meetAll
 rw [meetTo_iff g I O u v _ (Nat.le_refl _)]
 constructor
 ·rintro ⟨b, x, _, h⟩; exact ⟨b, x, h⟩
 ·rintro ⟨b, x, h1, h2⟩; exact ⟨b, x, (List.getElem?_eq_some_iff.1 h1).1, h1, h2⟩
end Go.Proofs.YtkmfdiboekoioaaGreat
