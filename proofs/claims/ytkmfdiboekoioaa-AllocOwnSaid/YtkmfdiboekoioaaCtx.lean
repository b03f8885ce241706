/- A graph in a box, and a block in a box, as they stay while other things are made or maps are written. No condition. -/
import Derived.Test.YtkmfdiboekoioaaLivePure
namespace Go.Proofs.Ytkmfdiboekoioaa
open Go.RowKit

/-- The cells of a graph's box. -/
def gbox (g : GraphP) (x : GVals) : Array Value := #[.int .i64 g.fn, .int .i64 g.pc, .int .i64 g.slots, x.vn, x.vb, x.vs]
structure GCtx (w : World) (B bx : Nat) (xv : GVals) (g : GraphP) : Prop where
  gr : GraphV w B xv g
  hB : B ≤ w.heap.size
  box : Blk w bx 26 (gbox g xv)
section
variable {w w' : World} {B bx : Nat} {xv : GVals} {g : GraphP}
theorem GCtx.below (h : GCtx w B bx xv g) (hb : Below w.heap.size w w') : GCtx w' B bx xv g :=
  ⟨h.gr.keep (Same.of_below (hb.mono h.hB)), Nat.le_trans h.hB hb.size, h.box.below hb h.box.lt⟩
theorem GCtx.lt (h : GCtx w B bx xv g) : bx < w.heap.size := h.box.lt
theorem SetM.ne {r : Nat} {p : ISet} {g : Nat} {t : TypeId} {cs : Array Value} (h : SetM w r p) (hb : Blk w g t cs) : g ≠ r := by
  rintro rfl
  obtain ⟨es, clock, hh, _⟩ := h
  unfold Blk at hb
  rw [hh] at hb; cases hb
theorem GCtx.turn {r : Nat} {p q : ISet} (h : GCtx w B bx xv g) (hp : SetM w r p) (hq : SetM w' r q) (hg : w.grownBy w' (some r)) : GCtx w' B bx xv g :=
  ⟨h.gr.keep fun a ha => cell_mapturn hp (.inr ⟨_, hq⟩) hg (Nat.lt_of_lt_of_le ha h.hB), Nat.le_trans h.hB hg.size, h.box.grown hg (fun e => by injection e with e; exact hp.ne h.box e)⟩
theorem GCtx.graph (h : GCtx w B bx xv g) : GraphV w w.heap.size xv g := h.gr.mono h.hB
theorem GCtx.cells (h : GCtx w B bx xv g) : w.cell? ⟨bx, 0, none⟩ = some (.int .i64 g.fn) ∧ w.cell? ⟨bx, 1, none⟩ = some (.int .i64 g.pc) ∧ w.cell? ⟨bx, 2, none⟩ = some (.int .i64 g.slots) ∧
    w.cell? ⟨bx, 3, none⟩ = some xv.vn ∧ w.cell? ⟨bx, 4, none⟩ = some xv.vb ∧ w.cell? ⟨bx, 5, none⟩ = some xv.vs :=
  ⟨h.box.cell 0, h.box.cell 1, h.box.cell 2, h.box.cell 3, h.box.cell 4, h.box.cell 5⟩
theorem GCtx.alloc (h : GCtx w B bx xv g) (o : Obj) : GCtx (w.alloc o) B bx xv g := h.below ((Below.refl _ _).alloc (Nat.le_refl _) _)
theorem GCtx.setCell (h : GCtx w B bx xv g) {p : Addr} (hp : B ≤ p.block) (hne : bx ≠ p.block) (u : Value) : GCtx (w.setCell p u) B bx xv g :=
  ⟨h.gr.keep fun a ha => World.cell?_setCell_other w p a u (fun e => by subst e; omega), by simpa [World.setCell] using h.hB, h.box.far hne u⟩
end

/-- The values of a block's slices. -/
structure BVals where
  v0 : Value
  v2 : Value
  v3 : Value
  v4 : Value
def bbox (x : BlockP) (y : BVals) : Array Value := #[y.v0, .int .u8 x.fin, y.v2, y.v3, y.v4, .int .i64 x.state]
structure BParts (w : World) (B : Nat) (y : BVals) (x : BlockP) : Prop where
  p0 : IntsV w B y.v0 x.nodes
  p2 : IntsV w B y.v2 x.args
  p3 : IntsV w B y.v3 x.next
  p4 : IntsV w B y.v4 x.ahead
structure BCtx (w : World) (B bx : Nat) (y : BVals) (x : BlockP) : Prop where
  parts : BParts w B y x
  hB : B ≤ w.heap.size
  box : Blk w bx 50 (bbox x y)
section
variable {w w' : World} {B bx : Nat} {y : BVals} {x : BlockP}
theorem BParts.keep (h : BParts w B y x) (hk : Same B w w') : BParts w' B y x := ⟨h.p0.keep hk, h.p2.keep hk, h.p3.keep hk, h.p4.keep hk⟩
theorem BCtx.below (h : BCtx w B bx y x) (hb : Below w.heap.size w w') : BCtx w' B bx y x :=
  ⟨h.parts.keep (Same.of_below (hb.mono h.hB)), Nat.le_trans h.hB hb.size, h.box.below hb h.box.lt⟩
theorem BCtx.turn {r : Nat} {p q : ISet} (h : BCtx w B bx y x) (hp : SetM w r p) (hq : SetM w' r q) (hg : w.grownBy w' (some r)) : BCtx w' B bx y x :=
  ⟨h.parts.keep fun a ha => cell_mapturn hp (.inr ⟨_, hq⟩) hg (Nat.lt_of_lt_of_le ha h.hB), Nat.le_trans h.hB hg.size, h.box.grown hg (fun e => by injection e with e; exact hp.ne h.box e)⟩
theorem BCtx.cells (h : BCtx w B bx y x) : w.cell? ⟨bx, 0, none⟩ = some y.v0 ∧ w.cell? ⟨bx, 2, none⟩ = some y.v2 ∧ w.cell? ⟨bx, 3, none⟩ = some y.v3 ∧ w.cell? ⟨bx, 4, none⟩ = some y.v4 ∧ w.cell? ⟨bx, 5, none⟩ = some (.int .i64 x.state) :=
  ⟨h.box.cell 0, h.box.cell 2, h.box.cell 3, h.box.cell 4, h.box.cell 5⟩
theorem BlockAt.parts {b o : Nat} (h : BlockAt w B b o x) : ∃ y : BVals, BParts w B y x ∧ w.cell? ⟨b, o, none⟩ = some y.v0 ∧ w.cell? ⟨b, o + 1, none⟩ = some (.int .u8 x.fin) ∧ w.cell? ⟨b, o + 2, none⟩ = some y.v2 ∧ w.cell? ⟨b, o + 3, none⟩ = some y.v3 ∧
    w.cell? ⟨b, o + 4, none⟩ = some y.v4 ∧ w.cell? ⟨b, o + 5, none⟩ = some (.int .i64 x.state) := by
  obtain ⟨⟨v0, h0, h0'⟩, h1, ⟨v2, h2, h2'⟩, ⟨v3, h3, h3'⟩, ⟨v4, h4, h4'⟩, h5⟩ := h
  exact ⟨⟨v0, v2, v3, v4⟩, ⟨h0', h2', h3', h4'⟩, h0, h1, h2, h3, h4, h5⟩
theorem IntsV.shape {v : Value} {l : List Int} (h : IntsV w B v l) : ∃ A c, v = .slice A l.length c := by
  obtain ⟨A, c, hv, _⟩ := h
  exact ⟨A, c, hv⟩
end
theorem grown_of_below {w w' : World} (h : Below w.heap.size w w') (row : Option Nat) : w.grownBy w' row := ⟨h.os, h.tape, h.output, h.size, fun i hi _ => h.block i hi⟩
theorem grown_undrew {w w' : World} {row : Option Nat} (h : w.drew.grownBy w' row) : w.grownBy w' row := ⟨h.os, h.tape, h.output, h.size, h.block⟩
theorem below_undrew {B : Nat} {w w' : World} (h : Below B w.drew w') : Below B w w' := ⟨h.os, h.tape, h.output, h.size, h.block⟩
/-- Sets stay while another map is written, or things are made. -/
theorem SetM.below {w w' : World} {r : Nat} {p : ISet} (h : SetM w r p) (hb : Below w.heap.size w w') : SetM w' r p := IMap.below h hb h.lt
theorem SetM.other {w w' : World} {r r' : Nat} {p : ISet} (h : SetM w r p) (hg : w.grownBy w' (some r')) (hne : r ≠ r') : SetM w' r p := IMap.grown h hg (fun e => hne (by injection e))
end Go.Proofs.Ytkmfdiboekoioaa
