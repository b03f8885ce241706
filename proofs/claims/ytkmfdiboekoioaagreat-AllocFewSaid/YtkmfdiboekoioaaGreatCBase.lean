/- Words for memory: slices of integers and the parts of a graph as they lie in the world; what is kept of them. No condition. -/
import Derived.Below
import Derived.Laws.OwnMore
import Derived.Deep.AppendLies
import Derived.Deep.Draws
import Derived.Laws.Rows
import Derived.Test.YtkmfdiboekoioaaGreatRows
import Derived.WalkKit
import Derived.WalkSpells
import Derived.WalkLawsBesides
import Derived.Outline
import Derived.Lib.Hide
set_option linter.unusedSimpArgs false
set_option linter.unusedVariables false
namespace Go.Proofs.YtkmfdiboekoioaaGreat
open Go.RowKit

/-- A graph as plain data. -/
structure NodeP where
 op : Int
 args : List Int
 N : Int
 kind : Int
 state : Int
structure BlockP where
 nodes : List Int
 fin : Int
 args : List Int
 next : List Int
 ahead : List Int
 state : Int
structure StateP where
 pc : Int
 slots : List Int
structure GraphP where
 fn : Int
 pc : Int
 slots : Int
 nodes : List NodeP
 blocks : List BlockP
 states : List StateP

/-- How long a slice may be. -/
def lim : Nat := 17592186044416

/-- Cells of the world w' below B are as in w. -/
def Same (B : Nat) (w w' : World) : Prop := ∀ p : Addr, p.block < B → w'.cell? p = w.cell? p
theorem Same.refl (B : Nat) (w : World) : Same B w w := fun _ _ => rfl
theorem Same.trans {B : Nat} {a b c : World} (h : Same B a b) (k : Same B b c) : Same B a c := fun p hp => (k p hp).trans (h p hp)
theorem Same.mono {B B' : Nat} {w w' : World} (h : Same B w w') (hB : B' ≤ B) : Same B' w w' := fun p hp => h p (by omega)
theorem Same.of_below {B : Nat} {w w' : World} (h : Below B w w') : Same B w w' := fun _ hp => h.cell hp
theorem Same.of_grown {w w' : World} {r B : Nat} (h : w.grownBy w' (some r)) (hB : B ≤ w.heap.size) (hr : B ≤ r) : Same B w w' := fun p hp =>
 World.cell?_of_block (h.block p.block (by omega) (fun e => by injection e with e; omega))

/-- A slice value that holds the integers l, in blocks below B. -/
def IntsV (w : World) (B : Nat) (v : Value) (l : List Int) : Prop :=
 ∃ A c, v = .slice A l.length c ∧ l.length ≤ c ∧ l.length ≤ lim ∧ (0 < l.length → ∃ b off, A = some ⟨b, off, none⟩ ∧ b < B ∧ ∀ j x, l[j]? = some x → w.cell? ⟨b, off + j, none⟩ = some (.int .i64 x))
theorem IntsV.keep {w w' : World} {B : Nat} {v : Value} {l : List Int} (h : IntsV w B v l) (hk : Same B w w') : IntsV w' B v l := by
 obtain ⟨A, c, hv, hc, hl, h⟩ := h
 refine ⟨A, c, hv, hc, hl, fun h0 => ?_⟩
 obtain ⟨b, off, hA, hb, h⟩ := h h0
 exact ⟨b, off, hA, hb, fun j x hx => (hk _ hb).trans (h j x hx)⟩
theorem IntsV.mono {w : World} {B B' : Nat} {v : Value} {l : List Int} (h : IntsV w B v l) (hB : B ≤ B') : IntsV w B' v l := by
 obtain ⟨A, c, hv, hc, hl, h⟩ := h
 refine ⟨A, c, hv, hc, hl, fun h0 => ?_⟩
 obtain ⟨b, off, hA, hb, h⟩ := h h0
 exact ⟨b, off, hA, by omega, h⟩
theorem IntsV.cells {w : World} {B n c k : Nat} {A : Option Addr} {l : List Int} (h : IntsV w B (.slice A n c) l) (hk : k < l.length) : ∃ b off, A = some ⟨b, off, none⟩ ∧ b < B ∧ ∀ j x, l[j]? = some x → w.cell? ⟨b, off + j, none⟩ = some (.int .i64 x) := by
 obtain ⟨A', c', hv, _, _, h⟩ := h
 injection hv with h1 h2 h3
 subst h1
 exact h (by omega)
theorem IntsV.nil (w : World) (B : Nat) : IntsV w B (.slice none 0 0) [] := ⟨none, 0, rfl, by simp, by simp, fun h => by simp at h⟩

def NodeAt (w : World) (B b o : Nat) (x : NodeP) : Prop :=
 w.cell? ⟨b, o, none⟩ = some (.int .u8 x.op) ∧ (∃ v, w.cell? ⟨b, o + 1, none⟩ = some v ∧ IntsV w B v x.args) ∧ w.cell? ⟨b, o + 2, none⟩ = some (.int .i64 x.N) ∧
  w.cell? ⟨b, o + 3, none⟩ = some (.int .u8 x.kind) ∧ w.cell? ⟨b, o + 4, none⟩ = some (.int .i64 x.state)
def BlockAt (w : World) (B b o : Nat) (x : BlockP) : Prop :=
 (∃ v, w.cell? ⟨b, o, none⟩ = some v ∧ IntsV w B v x.nodes) ∧ w.cell? ⟨b, o + 1, none⟩ = some (.int .u8 x.fin) ∧ (∃ v, w.cell? ⟨b, o + 2, none⟩ = some v ∧ IntsV w B v x.args) ∧
  (∃ v, w.cell? ⟨b, o + 3, none⟩ = some v ∧ IntsV w B v x.next) ∧ (∃ v, w.cell? ⟨b, o + 4, none⟩ = some v ∧ IntsV w B v x.ahead) ∧ w.cell? ⟨b, o + 5, none⟩ = some (.int .i64 x.state)
def StateAt (w : World) (B b o : Nat) (x : StateP) : Prop :=
 w.cell? ⟨b, o, none⟩ = some (.int .i64 x.pc) ∧ (∃ v, w.cell? ⟨b, o + 1, none⟩ = some v ∧ IntsV w B v x.slots)

/-- A slice value of n parts of size cells each, of which each is at its place as At says. -/
def PartsV {α : Type} (B : Nat) (At : Nat → Nat → α → Prop) (size : Nat) (v : Value) (l : List α) : Prop :=
 ∃ A c, v = .slice A l.length c ∧ l.length ≤ c ∧ l.length ≤ lim ∧ (0 < l.length → ∃ b off, A = some ⟨b, off, none⟩ ∧ b < B ∧ ∀ j x, l[j]? = some x → At b (off + j * size) x)
theorem PartsV.imp {α : Type} {B B' : Nat} {At At' : Nat → Nat → α → Prop} {size : Nat} {v : Value} {l : List α} (h : PartsV B At size v l) (hB : B ≤ B') (hi : ∀ b o x, b < B → At b o x → At' b o x) : PartsV B' At' size v l := by
 obtain ⟨A, c, hv, hc, hl, h⟩ := h
 refine ⟨A, c, hv, hc, hl, fun h0 => ?_⟩
 obtain ⟨b, off, hA, hb, h⟩ := h h0
 exact ⟨b, off, hA, by omega, fun j x hx => hi _ _ _ hb (h j x hx)⟩

abbrev NodesV (w : World) (B : Nat) := PartsV B (NodeAt w B) 5
abbrev BlocksV (w : World) (B : Nat) := PartsV B (BlockAt w B) 6
abbrev StatesV (w : World) (B : Nat) := PartsV B (StateAt w B) 2

theorem NodeAt.keep {w w' : World} {B b o : Nat} {x : NodeP} (hk : Same B w w') (hb : b < B) (h : NodeAt w B b o x) : NodeAt w' B b o x := by
 obtain ⟨h0, ⟨v, h1, h1'⟩, h2, h3, h4⟩ := h
 exact ⟨(hk _ hb).trans h0, ⟨v, (hk _ hb).trans h1, h1'.keep hk⟩, (hk _ hb).trans h2, (hk _ hb).trans h3, (hk _ hb).trans h4⟩
theorem BlockAt.keep {w w' : World} {B b o : Nat} {x : BlockP} (hk : Same B w w') (hb : b < B) (h : BlockAt w B b o x) : BlockAt w' B b o x := by
 obtain ⟨⟨v0, h0, h0'⟩, h1, ⟨v2, h2, h2'⟩, ⟨v3, h3, h3'⟩, ⟨v4, h4, h4'⟩, h5⟩ := h
 exact ⟨⟨v0, (hk _ hb).trans h0, h0'.keep hk⟩, (hk _ hb).trans h1, ⟨v2, (hk _ hb).trans h2, h2'.keep hk⟩, ⟨v3, (hk _ hb).trans h3, h3'.keep hk⟩, ⟨v4, (hk _ hb).trans h4, h4'.keep hk⟩, (hk _ hb).trans h5⟩
theorem StateAt.keep {w w' : World} {B b o : Nat} {x : StateP} (hk : Same B w w') (hb : b < B) (h : StateAt w B b o x) : StateAt w' B b o x := by
 obtain ⟨h0, ⟨v1, h1, h1'⟩⟩ := h
 exact ⟨(hk _ hb).trans h0, ⟨v1, (hk _ hb).trans h1, h1'.keep hk⟩⟩
theorem NodeAt.mono {w : World} {B B' b o : Nat} {x : NodeP} (hB : B ≤ B') (h : NodeAt w B b o x) : NodeAt w B' b o x := by
 obtain ⟨h0, ⟨v, h1, h1'⟩, h2, h3, h4⟩ := h
 exact ⟨h0, ⟨v, h1, h1'.mono hB⟩, h2, h3, h4⟩
theorem BlockAt.mono {w : World} {B B' b o : Nat} {x : BlockP} (hB : B ≤ B') (h : BlockAt w B b o x) : BlockAt w B' b o x := by
 obtain ⟨⟨v0, h0, h0'⟩, h1, ⟨v2, h2, h2'⟩, ⟨v3, h3, h3'⟩, ⟨v4, h4, h4'⟩, h5⟩ := h
 exact ⟨⟨v0, h0, h0'.mono hB⟩, h1, ⟨v2, h2, h2'.mono hB⟩, ⟨v3, h3, h3'.mono hB⟩, ⟨v4, h4, h4'.mono hB⟩, h5⟩
theorem StateAt.mono {w : World} {B B' b o : Nat} {x : StateP} (hB : B ≤ B') (h : StateAt w B b o x) : StateAt w B' b o x := by
 obtain ⟨h0, ⟨v1, h1, h1'⟩⟩ := h
 exact ⟨h0, ⟨v1, h1, h1'.mono hB⟩⟩

theorem NodesV.keep {w w' : World} {B : Nat} {v : Value} {l : List NodeP} (h : NodesV w B v l) (hk : Same B w w') : NodesV w' B v l := h.imp (Nat.le_refl _) fun _ _ _ hb h => h.keep hk hb
theorem BlocksV.keep {w w' : World} {B : Nat} {v : Value} {l : List BlockP} (h : BlocksV w B v l) (hk : Same B w w') : BlocksV w' B v l := h.imp (Nat.le_refl _) fun _ _ _ hb h => h.keep hk hb
theorem StatesV.keep {w w' : World} {B : Nat} {v : Value} {l : List StateP} (h : StatesV w B v l) (hk : Same B w w') : StatesV w' B v l := h.imp (Nat.le_refl _) fun _ _ _ hb h => h.keep hk hb
theorem NodesV.mono {w : World} {B B' : Nat} {v : Value} {l : List NodeP} (h : NodesV w B v l) (hB : B ≤ B') : NodesV w B' v l := h.imp hB fun _ _ _ _ h => h.mono hB
theorem BlocksV.mono {w : World} {B B' : Nat} {v : Value} {l : List BlockP} (h : BlocksV w B v l) (hB : B ≤ B') : BlocksV w B' v l := h.imp hB fun _ _ _ _ h => h.mono hB
theorem StatesV.mono {w : World} {B B' : Nat} {v : Value} {l : List StateP} (h : StatesV w B v l) (hB : B ≤ B') : StatesV w B' v l := h.imp hB fun _ _ _ _ h => h.mono hB

/-- The six values of a graph's fields. -/
structure GVals where
 vn : Value
 vb : Value
 vs : Value
/-- A graph's value, below B. -/
def gval (g : GraphP) (x : GVals) : Value := .agg #[.int .i64 g.fn, .int .i64 g.pc, .int .i64 g.slots, x.vn, x.vb, x.vs]
def GraphV (w : World) (B : Nat) (x : GVals) (g : GraphP) : Prop := NodesV w B x.vn g.nodes ∧ BlocksV w B x.vb g.blocks ∧ StatesV w B x.vs g.states
theorem GraphV.keep {w w' : World} {B : Nat} {x : GVals} {g : GraphP} (h : GraphV w B x g) (hk : Same B w w') : GraphV w' B x g := ⟨NodesV.keep h.1 hk, BlocksV.keep h.2.1 hk, StatesV.keep h.2.2 hk⟩
theorem GraphV.mono {w : World} {B B' : Nat} {x : GVals} {g : GraphP} (h : GraphV w B x g) (hB : B ≤ B') : GraphV w B' x g := ⟨NodesV.mono h.1 hB, BlocksV.mono h.2.1 hB, StatesV.mono h.2.2 hB⟩

/-- What lies below B lies below the end of a later world's heap. -/
theorem IntsV.later {w w' : World} {B : Nat} {v : Value} {l : List Int} (h : IntsV w B v l) (hb : Below B w w') (hB : B ≤ w.heap.size) : IntsV w' w'.heap.size v l := (h.keep (Same.of_below hb)).mono (Nat.le_trans hB hb.size)
theorem NodesV.later {w w' : World} {B : Nat} {v : Value} {l : List NodeP} (h : NodesV w B v l) (hb : Below B w w') (hB : B ≤ w.heap.size) : NodesV w' w'.heap.size v l := NodesV.mono (NodesV.keep h (Same.of_below hb)) (Nat.le_trans hB hb.size)
theorem BlocksV.later {w w' : World} {B : Nat} {v : Value} {l : List BlockP} (h : BlocksV w B v l) (hb : Below B w w') (hB : B ≤ w.heap.size) : BlocksV w' w'.heap.size v l := BlocksV.mono (BlocksV.keep h (Same.of_below hb)) (Nat.le_trans hB hb.size)
theorem StatesV.later {w w' : World} {B : Nat} {v : Value} {l : List StateP} (h : StatesV w B v l) (hb : Below B w w') (hB : B ≤ w.heap.size) : StatesV w' w'.heap.size v l := StatesV.mono (StatesV.keep h (Same.of_below hb)) (Nat.le_trans hB hb.size)
theorem GraphV.later {w w' : World} {B : Nat} {x : GVals} {g : GraphP} (h : GraphV w B x g) (hb : Below B w w') (hB : B ≤ w.heap.size) : GraphV w' w'.heap.size x g := (h.keep (Same.of_below hb)).mono (Nat.le_trans hB hb.size)

/-- The cells and marks below B in a later world, as rules for a walk. -/
theorem bcell {B : Nat} {w w1 : World} (hb : Below B w w1) : (∀ b o, b < B → w1.cell? ⟨b, o, none⟩ = w.cell? ⟨b, o, none⟩) ∧ (∀ b o, b < B → w1.frozen? ⟨b, o, none⟩ = w.frozen? ⟨b, o, none⟩) :=
 ⟨fun b o h => hb.cell (p := ⟨b, o, none⟩) h, fun b o h => hb.frozen (p := ⟨b, o, none⟩) h⟩

/-- Block b is just these cells of type t. -/
def Blk (w : World) (g : Nat) (t : TypeId) (cs : Array Value) : Prop := w.heap[g]? = some (.cells cs t (0, 0))
section
variable {w w' : World} {g : Nat} {t : TypeId} {cs : Array Value}
theorem Blk.lt (h : Blk w g t cs) : g < w.heap.size := by
 rcases Nat.lt_or_ge g w.heap.size with hlt | hge
 ·exact hlt
 ·unfold Blk at h; rw [Array.getElem?_eq_none hge] at h; cases h
theorem Blk.cell (h : Blk w g t cs) (i : Nat) : w.cell? ⟨g, i, none⟩ = cs[i]? := cell_of_row w g i cs t (0, 0) h
theorem Blk.frozen (h : Blk w g t cs) (i : Nat) : w.frozen? ⟨g, i, none⟩ = false := by
 unfold Blk at h
 simp [World.frozen?, h]
theorem Blk.new (w : World) (t : TypeId) (cs : Array Value) : Blk (w.alloc (.cells cs t)) w.heap.size t cs := heap_alloc_new w _
theorem Blk.drew (h : Blk w g t cs) : Blk w.drew g t cs := h
theorem Blk.drewN (h : Blk w g t cs) (n : Nat) : Blk (w.drewN n) g t cs := h
theorem Blk.alloc (h : Blk w g t cs) (o : Obj) : Blk (w.alloc o) g t cs := (Below.heap_alloc w o g h.lt).trans h
theorem Blk.set_ (h : Blk w g t cs) (i : Nat) (u : Value) : Blk (w.setCell ⟨g, i, none⟩ u) g t (cs.setIfInBounds i u) := by
 unfold Blk at h ⊢
 simp [World.setCell, Array.getElem?_modify, h]
theorem Blk.far (h : Blk w g t cs) {p : Addr} (hp : g ≠ p.block) (u : Value) : Blk (w.setCell p u) g t cs := (Below.heap_setCell w p u g hp).trans h
theorem Blk.below {B : Nat} (h : Blk w g t cs) (hb : Below B w w') (hg : g < B) : Blk w' g t cs := (hb.block g hg).trans h
theorem Blk.grown {row : Option Nat} (h : Blk w g t cs) (hb : w.grownBy w' row) (hg : some g ≠ row) : Blk w' g t cs := (hb.block g h.lt hg).trans h
end
end Go.Proofs.YtkmfdiboekoioaaGreat

/- The walks of the functions that count how much a graph has in it. Conditions: each slice within the reach of the model. -/
namespace Go.Proofs.YtkmfdiboekoioaaGreat
open Go.RowKit

/-- N is the size n, or both are beyond what is counted. -/
def SzOf (U : Int) (n : Nat) (N : Int) : Prop := 0 ≤ N ∧ N ≤ U ∧ (N ≤ 1048576 → N = n)
def SomeSz (U : Int) (n : Nat) (w : World) (e : Ending) (w' : World) : Prop := ∃ N : Int, e = .returned (.int .i64 N) ∧ SzOf U n N ∧ Below w.heap.size w w'

def sumSz {α : Type} (f : α → Nat) (l : List α) : Nat := (l.map f).foldr (· + ·) 0
theorem sumSz_append {α : Type} (f : α → Nat) (l m : List α) : sumSz f (l ++ m) = sumSz f l + sumSz f m := by
 induction l with
 | nil => simp [sumSz]
 | cons a l ih => simp only [sumSz, List.cons_append, List.map_cons, List.foldr_cons] at *; omega
theorem sumSz_take {α : Type} (f : α → Nat) (l : List α) (k : Nat) (x : α) (h : l[k]? = some x) : sumSz f (l.take (k + 1)) = sumSz f (l.take k) + f x := by
 rw [List.take_add_one, h, sumSz_append]; simp [sumSz]

def nodeSz (x : NodeP) : Nat := 1 + x.args.length
def blockSz (x : BlockP) : Nat := 1 + x.nodes.length + x.args.length + x.next.length + x.ahead.length
def stateSz (x : StateP) : Nat := 1 + x.slots.length
def nodesSz (l : List NodeP) : Nat := l.length + sumSz nodeSz l
def blocksSz (l : List BlockP) : Nat := l.length + sumSz blockSz l
def statesSz (l : List StateP) : Nat := l.length + sumSz stateSz l
def graphSz (g : GraphP) : Nat := 1 + nodesSz g.nodes + blocksSz g.blocks + statesSz g.states

theorem getE {α : Type} {l : List α} {k : Nat} (h : k < l.length) : ∃ x, l[k]? = some x := ⟨l[k], List.getElem?_eq_getElem h⟩

theorem intsSize (a : Option Addr) (n c : Nat) (w : World) :
  Calls Tryz.prog 104 #[.slice a n c] w fun e w' => e = .returned (.int .i64 n) ∧ w = w' := by
 go_enter Tryz.func104, Tryz.ntmps104
 go_wp2
 go_ret
 exact ⟨rfl, rfl⟩

theorem nodeSize (a : Option Addr) (n c : Nat) (c0 c2 c3 c4 : Value) (w : World) (_hn : n ≤ lim) :
  Calls Tryz.prog 80 #[.agg #[c0, .slice a n c, c2, c3, c4]] w (SomeSz 70368744177700 (1 + n) w) := by
 unfold lim at _hn
 go_enter Tryz.func80, Tryz.ntmps80
 go_wp2_with (go_at_call 104; refine (intsSize _ _ _ _).mono ?_; rintro e w' ⟨rfl, rfl⟩)
 go_ret
 exact ⟨_, rfl, ⟨by omega, by omega, fun _ => by omega⟩, (Below.refl _ _).alloc (Nat.le_refl _) _⟩

theorem stateSize (a : Option Addr) (n c : Nat) (c0 : Value) (w : World) (_hn : n ≤ lim) :
  Calls Tryz.prog 82 #[.agg #[c0, .slice a n c]] w (SomeSz 70368744177700 (1 + n) w) := by
 unfold lim at _hn
 go_enter Tryz.func82, Tryz.ntmps82
 go_wp2_with (go_at_call 104; refine (intsSize _ _ _ _).mono ?_; rintro e w' ⟨rfl, rfl⟩)
 go_ret
 exact ⟨_, rfl, ⟨by omega, by omega, fun _ => by omega⟩, (Below.refl _ _).alloc (Nat.le_refl _) _⟩

theorem blockSize (a0 a2 a3 a4 : Option Addr) (n0 d0 n2 d2 n3 d3 n4 d4 : Nat) (c1 c5 : Value) (w : World) (_h0 : n0 ≤ lim) (_h2 : n2 ≤ lim) (_h3 : n3 ≤ lim) (_h4 : n4 ≤ lim) :
  Calls Tryz.prog 81 #[.agg #[.slice a0 n0 d0, c1, .slice a2 n2 d2, .slice a3 n3 d3, .slice a4 n4 d4, c5]] w (SomeSz 70368744177700 (1 + n0 + n2 + n3 + n4) w) := by
 unfold lim at _h0 _h2 _h3 _h4
 go_enter Tryz.func81, Tryz.ntmps81
 go_wp2_with (go_at_call 104; refine (intsSize _ _ _ _).mono ?_; rintro e w' ⟨rfl, rfl⟩)
 all_goals
  go_ret
  exact ⟨_, rfl, ⟨by omega, by omega, fun _ => by omega⟩, (Below.refl _ _).alloc (Nat.le_refl _) _⟩

set_option maxHeartbeats 1000000 in
theorem nodesSize (v : Value) (l : List NodeP) (w : World) (hw : NodesV w w.heap.size v l) : Calls Tryz.prog 34 #[v] w (SomeSz 80000000000000 (nodesSz l) w) := by
 obtain ⟨A, c, rfl, _hc, hl, hw⟩ := hw
 have hlim : l.length ≤ 17592186044416 := by unfold lim at hl; omega
 clear hl
 have HW := Lib.hid hw; clear hw
 go_enter Tryz.func34, Tryz.ntmps34
 go_wp2
 go_loopw [3, 4] (fun t i wr => ∃ (k : Nat) (N : Int), k ≤ l.length ∧ i = .int .i64 k ∧ t = .int .i64 N ∧ 0 ≤ N ∧ N ≤ 80000000000000 ∧ Hid (N ≤ 1048576 → N = l.length + sumSz nodeSz (l.take k)) ∧ Below w.heap.size w wr) (fun _ i _ => l.length - (intOf i).toNat)
 case atStart => exact ⟨0, _, Nat.zero_le _, rfl, rfl, by omega, by omega, Lib.hid (fun _ => by simp [sumSz]), Below.refl _ _⟩
 case round =>
  obtain ⟨k, N, hk, rfl, rfl, h0, h1, hN, hb⟩ := hrel
  by_cases hlt : k < l.length
  ·obtain ⟨b, off, rfl, hbB, hp⟩ := HW.out (by omega)
   obtain ⟨x, hx⟩ := getE hlt
   obtain ⟨f0, ⟨v1, f1, hv1⟩, f2, f3, f4⟩ := (hp k x hx).keep (Same.of_below hb) hbB
   obtain ⟨A1, c1, rfl, _hc1, hl1, _⟩ := hv1
   have HS := Lib.hid (sumSz_take nodeSz l k x hx)
   clear hp HW hx
   by_cases hm : N ≤ 1048576
   ·go_wp2_with (go_at_call 80; refine (nodeSize _ _ _ _ _ _ _ _ (by omega)).mono ?_; rintro e w1 ⟨M, rfl, ⟨hM0, hM1, hM2⟩, hb1⟩)
    go_wp2
    go_roundw
    case rel => exact ⟨k + 1, N + M, by omega, by go_num, rfl, by omega, by omega, Lib.hid (fun hh => by have h3 := hN.out (by omega); have h4 := hM2 (by omega); rw [HS.out]; simp only [nodeSz]; omega), hb.trans (hb1.mono hb.size)⟩
    case measure => simp [intOf]; omega
   ·go_wp2
    go_ret
    exact ⟨N, rfl, ⟨h0, by omega, fun hh => absurd hh (by omega)⟩, hb⟩
  ·go_wp2
   go_ret
   exact ⟨N, rfl, ⟨h0, by omega, fun hh => by have := hN.out hh; rw [List.take_of_length_le (by omega)] at this; rw [this]; simp [nodesSz]⟩, hb⟩

set_option maxHeartbeats 1000000 in
theorem statesSize (v : Value) (l : List StateP) (w : World) (hw : StatesV w w.heap.size v l) : Calls Tryz.prog 36 #[v] w (SomeSz 80000000000000 (statesSz l) w) := by
 obtain ⟨A, c, rfl, _hc, hl, hw⟩ := hw
 have hlim : l.length ≤ 17592186044416 := by unfold lim at hl; omega
 clear hl
 have HW := Lib.hid hw; clear hw
 go_enter Tryz.func36, Tryz.ntmps36
 go_wp2
 go_loopw [3, 4] (fun t i wr => ∃ (k : Nat) (N : Int), k ≤ l.length ∧ i = .int .i64 k ∧ t = .int .i64 N ∧ 0 ≤ N ∧ N ≤ 80000000000000 ∧ Hid (N ≤ 1048576 → N = l.length + sumSz stateSz (l.take k)) ∧ Below w.heap.size w wr) (fun _ i _ => l.length - (intOf i).toNat)
 case atStart => exact ⟨0, _, Nat.zero_le _, rfl, rfl, by omega, by omega, Lib.hid (fun _ => by simp [sumSz]), Below.refl _ _⟩
 case round =>
  obtain ⟨k, N, hk, rfl, rfl, h0, h1, hN, hb⟩ := hrel
  by_cases hlt : k < l.length
  ·obtain ⟨b, off, rfl, hbB, hp⟩ := HW.out (by omega)
   obtain ⟨x, hx⟩ := getE hlt
   obtain ⟨f0, ⟨v1, f1, hv1⟩⟩ := (hp k x hx).keep (Same.of_below hb) hbB
   obtain ⟨A1, c1, rfl, _hc1, hl1, _⟩ := hv1
   have HS := Lib.hid (sumSz_take stateSz l k x hx)
   clear hp HW hx
   by_cases hm : N ≤ 1048576
   ·go_wp2_with (go_at_call 82; refine (stateSize _ _ _ _ _ (by omega)).mono ?_; rintro e w1 ⟨M, rfl, ⟨hM0, hM1, hM2⟩, hb1⟩)
    go_wp2
    go_roundw
    case rel => exact ⟨k + 1, N + M, by omega, by go_num, rfl, by omega, by omega, Lib.hid (fun hh => by have h3 := hN.out (by omega); have h4 := hM2 (by omega); rw [HS.out]; simp only [stateSz]; omega), hb.trans (hb1.mono hb.size)⟩
    case measure => simp [intOf]; omega
   ·go_wp2
    go_ret
    exact ⟨N, rfl, ⟨h0, by omega, fun hh => absurd hh (by omega)⟩, hb⟩
  ·go_wp2
   go_ret
   exact ⟨N, rfl, ⟨h0, by omega, fun hh => by have := hN.out hh; rw [List.take_of_length_le (by omega)] at this; rw [this]; simp [statesSz]⟩, hb⟩

set_option maxHeartbeats 1000000 in
theorem blocksSize (v : Value) (l : List BlockP) (w : World) (hw : BlocksV w w.heap.size v l) : Calls Tryz.prog 35 #[v] w (SomeSz 80000000000000 (blocksSz l) w) := by
 obtain ⟨A, c, rfl, _hc, hl, hw⟩ := hw
 have hlim : l.length ≤ 17592186044416 := by unfold lim at hl; omega
 clear hl
 have HW := Lib.hid hw; clear hw
 go_enter Tryz.func35, Tryz.ntmps35
 go_wp2
 go_loopw [3, 4] (fun t i wr => ∃ (k : Nat) (N : Int), k ≤ l.length ∧ i = .int .i64 k ∧ t = .int .i64 N ∧ 0 ≤ N ∧ N ≤ 80000000000000 ∧ Hid (N ≤ 1048576 → N = l.length + sumSz blockSz (l.take k)) ∧ Below w.heap.size w wr) (fun _ i _ => l.length - (intOf i).toNat)
 case atStart => exact ⟨0, _, Nat.zero_le _, rfl, rfl, by omega, by omega, Lib.hid (fun _ => by simp [sumSz]), Below.refl _ _⟩
 case round =>
  obtain ⟨k, N, hk, rfl, rfl, h0, h1, hN, hb⟩ := hrel
  by_cases hlt : k < l.length
  ·obtain ⟨b, off, rfl, hbB, hp⟩ := HW.out (by omega)
   obtain ⟨x, hx⟩ := getE hlt
   obtain ⟨⟨v0, f0, hv0⟩, f1, ⟨v2, f2, hv2⟩, ⟨v3, f3, hv3⟩, ⟨v4, f4, hv4⟩, f5⟩ := (hp k x hx).keep (Same.of_below hb) hbB
   obtain ⟨A0, c0, rfl, _hc0, hl0, _⟩ := hv0
   obtain ⟨A2, c2, rfl, _hc2, hl2, _⟩ := hv2
   obtain ⟨A3, c3, rfl, _hc3, hl3, _⟩ := hv3
   obtain ⟨A4, c4, rfl, _hc4, hl4, _⟩ := hv4
   have HS := Lib.hid (sumSz_take blockSz l k x hx)
   clear hp HW hx
   by_cases hm : N ≤ 1048576
   ·go_wp2_with (go_at_call 81; refine (blockSize _ _ _ _ _ _ _ _ _ _ _ _ _ _ _ (by omega) (by omega) (by omega) (by omega)).mono ?_; rintro e w1 ⟨M, rfl, ⟨hM0, hM1, hM2⟩, hb1⟩)
    go_wp2
    go_roundw
    case rel => exact ⟨k + 1, N + M, by omega, by go_num, rfl, by omega, by omega, Lib.hid (fun hh => by have h3 := hN.out (by omega); have h4 := hM2 (by omega); rw [HS.out]; simp only [blockSz]; omega), hb.trans (hb1.mono hb.size)⟩
    case measure => simp [intOf]; omega
   ·go_wp2
    go_ret
    exact ⟨N, rfl, ⟨h0, by omega, fun hh => absurd hh (by omega)⟩, hb⟩
  ·go_wp2
   go_ret
   exact ⟨N, rfl, ⟨h0, by omega, fun hh => by have := hN.out hh; rw [List.take_of_length_le (by omega)] at this; rw [this]; simp [blocksSz]⟩, hb⟩

set_option maxHeartbeats 1000000 in
theorem graphSize (x : GVals) (g : GraphP) (w : World) (hg : GraphV w w.heap.size x g) : Calls Tryz.prog 11 #[gval g x] w (SomeSz 90000000000000 (graphSz g) w) := by
 obtain ⟨vn, vb, vs⟩ := x
 obtain ⟨h1, h2, h3⟩ := hg
 simp only at h1 h2 h3
 have H1 := Lib.hid h1; have H2 := Lib.hid h2; have H3 := Lib.hid h3
 clear h1 h2 h3
 unfold gval
 go_enter Tryz.func11, Tryz.ntmps11
 go_wp2_with fail
 have b0 : Below w.heap.size w (w.alloc (.cells #[.int .i64 g.fn, .int .i64 g.pc, .int .i64 g.slots, vn, vb, vs] 28)) := (Below.refl _ _).alloc (Nat.le_refl _) _
 refine (nodesSize vn g.nodes _ (NodesV.later H1.out b0 (Nat.le_refl _))).mono ?_
 rintro e w1 ⟨N1, rfl, ⟨hM0, hM1, hM2⟩, hb1⟩
 obtain ⟨hc1, hf1⟩ := bcell hb1
 have b1 := b0.trans (hb1.mono b0.size)
 go_wp2_with fail
 ·refine (blocksSize vb g.blocks _ (BlocksV.later H2.out b1 (Nat.le_refl _))).mono ?_
  rintro e w2 ⟨N2, rfl, ⟨hN0, hN1, hN2⟩, hb2⟩
  have b2 := b1.trans (hb2.mono b1.size)
  obtain ⟨hc2, hf2⟩ := bcell (hb2.mono hb1.size)
  go_wp2_with fail
  ·refine (statesSize vs g.states _ (StatesV.later H3.out b2 (Nat.le_refl _))).mono ?_
   rintro e w3 ⟨N3, rfl, ⟨hQ0, hQ1, hQ2⟩, hb3⟩
   go_wp2_with fail
   go_ret
   refine ⟨_, rfl, ⟨by omega, by omega, fun hh => ?_⟩, b2.trans (hb3.mono b2.size)⟩
   rw [hM2 (by omega), hN2 (by omega), hQ2 (by omega)]; simp only [graphSz]; omega
  ·go_ret
   exact ⟨_, rfl, ⟨by omega, by omega, fun hh => by omega⟩, b2⟩
 ·go_ret
  exact ⟨_, rfl, ⟨by omega, by omega, fun hh => by omega⟩, b1⟩
end Go.Proofs.YtkmfdiboekoioaaGreat
