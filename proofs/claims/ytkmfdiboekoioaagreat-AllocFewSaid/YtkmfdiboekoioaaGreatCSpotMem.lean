/- The memory of alloc.spots while a block is gone through: what it holds, and how it stays so at each kind of turn. No condition. -/
import Derived.Test.YtkmfdiboekoioaaGreatCRfPass
import Derived.Maps.AppendAt
import Derived.RangeFuncWrites
import Derived.Sort.LoopGhostIn
set_option linter.unusedSimpArgs false
set_option linter.unusedVariables false
namespace Go.Proofs.YtkmfdiboekoioaaGreat
open Go.RowKit

/-- Below B nothing but the blocks L has turned. -/
structure TurnB (B : Nat) (w w' : World) (L : List Nat) : Prop where
 os : w'.os = w.os
 tape : w'.tape = w.tape
 output : w'.output = w.output
 size : w.heap.size ≤ w'.heap.size
 block : ∀ k, k < B → k ∉ L → w'.heap[k]? = w.heap[k]?
section
variable {w w' w'' : World} {B : Nat} {L : List Nat}
theorem TurnB.refl (B : Nat) (w : World) (L : List Nat) : TurnB B w w L := ⟨rfl, rfl, rfl, Nat.le_refl _, fun _ _ _ => rfl⟩
theorem TurnB.trans (h : TurnB B w w' L) (k : TurnB B w' w'' L) : TurnB B w w'' L :=
 ⟨k.os.trans h.os, k.tape.trans h.tape, k.output.trans h.output, Nat.le_trans h.size k.size, fun i hi hn => (k.block i hi hn).trans (h.block i hi hn)⟩
theorem TurnB.of_turned {ro : List Nat} (h : Turned w w' ro) (hB : B ≤ w.heap.size) (hL : ∀ r ∈ ro, r ∈ L) : TurnB B w w' L :=
 ⟨h.os, h.tape, h.output, h.size, fun k hk hn => h.block k (by omega) (fun hr => hn (hL k hr))⟩
theorem TurnB.of_grown {row : Option Nat} (h : w.grownBy w' row) (hB : B ≤ w.heap.size) (hr : ∀ r, row = some r → r ∈ L ∨ B ≤ r) : TurnB B w w' L :=
 ⟨h.os, h.tape, h.output, h.size, fun k hk hn => h.block k (by omega) (fun e => by rcases hr k e.symm with h | h; exact hn h; omega)⟩
theorem TurnB.of_below (h : Below B w w') : TurnB B w w' L := ⟨h.os, h.tape, h.output, h.size, fun k hk _ => h.block k hk⟩
theorem TurnB.mono {B' : Nat} {L' : List Nat} (h : TurnB B w w' L) (hB : B' ≤ B) (hL : ∀ r ∈ L, r ∈ L' ∨ B' ≤ r) : TurnB B' w w' L' :=
 ⟨h.os, h.tape, h.output, h.size, fun k hk hn => h.block k (by omega) (fun hr => by rcases hL k hr with h | h; exact hn h; omega)⟩
end

/-- What a round may do: no cells from B0 on turn but cells; the cells of S stay; below base the blocks L alone turn. -/
structure Moves (B0 base : Nat) (S : Nat → Prop) (L : List Nat) (W W' : World) : Prop where
 from_ : KeepsFrom B0 W W'
 cells : KeepS S W W'
 turn : TurnB base W W' L
section
variable {B0 base : Nat} {S : Nat → Prop} {L : List Nat} {W W' W'' : World}
theorem Moves.refl (B0 base : Nat) (S : Nat → Prop) (L : List Nat) (W : World) : Moves B0 base S L W W := ⟨KeepsFrom.refl _ _, KeepS.refl _ _, TurnB.refl _ _ _⟩
theorem Moves.trans (h : Moves B0 base S L W W') (k : Moves B0 base S L W' W'') : Moves B0 base S L W W'' := ⟨h.from_.trans k.from_, h.cells.trans k.cells, h.turn.trans k.turn⟩
theorem Moves.grown {row : Option Nat} (hg : W.grownBy W' row) (hb : base ≤ W.heap.size) (hr : ∀ r, row = some r → r ∈ L ∧ r < B0 ∧ ∃ o : Obj, W.heap[r]? = some o ∧ o.isCells = false) : Moves B0 base S L W W' :=
 ⟨KeepsFrom.of_grownBy hg fun j e => (hr j e).2.1, KeepS.grown hg fun r e => .inl (hr r e).2.2, TurnB.of_grown hg hb fun r e => .inl (hr r e).1⟩
theorem Moves.below (h : Below W.heap.size W W') (hb : base ≤ W.heap.size) : Moves B0 base S L W W' := Moves.grown (grown_of_below h none) hb (fun r e => by cases e)
theorem Moves.drew (W : World) : Moves B0 base S L W W.drew := ⟨⟨Nat.le_refl _, fun _ _ _ h _ => h⟩, fun _ _ _ h => h, ⟨rfl, rfl, rfl, Nat.le_refl _, fun _ _ _ => rfl⟩⟩
theorem Moves.told {bo : Nat} {ro : List Nat} {R : Meets} (hm : MRow W bo ro R) (ht : Turned W W' ro) (hb : base ≤ W.heap.size) (hL : ∀ r ∈ ro, r ∈ L ∧ r < B0) : Moves B0 base S L W W' :=
 ⟨⟨ht.size, fun k o hk ho _ => (ht.block k (Array.getElem?_eq_some_iff.1 ho).1 (fun hr => by have := (hL k hr).2; omega)).trans ho⟩,
  fun _ _ _ hv => hm.cell ht hv, TurnB.of_turned ht hb fun r hr => (hL r hr).1⟩
end

theorem cells_of_map {w : World} {r : Nat} {m : FMap} (h : IMap w r m) : ∃ o : Obj, w.heap[r]? = some o ∧ o.isCells = false := by
 obtain ⟨es, clock, hb, _⟩ := h
 exact ⟨_, hb, rfl⟩

/-- The blocks of alloc.spots. -/
structure SpotNums where
 B : Nat
 g2 : Nat
 t3 : Nat
 h5 : Nat
 x7 : Nat
 n8 : Nat
 p9 : Nat
 f10 : Nat
 rn : Nat
 bo : Nat
 bm : Nat
 base : Nat
 ro : List Nat
 Bs : Nat
 sv : Value
structure SpotLow (q : SpotNums) : Prop where
 B : q.B ≤ q.base
 g2 : q.g2 < q.base
 t3 : q.t3 < q.base
 h5 : q.h5 < q.base
 x7 : q.x7 < q.base
 n8 : q.n8 < q.base
 p9 : q.p9 < q.base
 f10 : q.base ≤ q.f10
 rn : q.rn < q.base
 bo : q.bo < q.base
 bm : q.bm < q.base
 ro : ∀ r ∈ q.ro, r < q.base
 Bs : q.base ≤ q.Bs
 ne : q.f10 ≠ q.Bs
structure SpotMem (q : SpotNums) (xv : GVals) (g : GraphP) (y : BVals) (x : BlockP) (W : World) (s : Spot) : Prop where
 gr : GCtx W q.B q.g2 xv g
 bl : BCtx W q.B q.x7 y x
 told : Blk W q.t3 122 #[.func (.func 76) #[] #[.pointer (some ⟨q.bm, 0, none⟩)]]
 there : Blk W q.h5 90 #[.func (.func 117) #[] #[.pointer (some ⟨q.g2, 0, none⟩)]]
 now : Blk W q.n8 76 #[.map (some q.rn)]
 put : Blk W q.p9 178 #[.func (.func 118) #[] #[.pointer (some ⟨q.h5, 0, none⟩), .pointer (some ⟨q.n8, 0, none⟩)]]
 set : SetM W q.rn s.now
 phis : ∃ v, Boxed W q.f10 34 v ∧ OwnInts W q.base v s.phis
 out : Blk W q.bm 73 #[.slice (some ⟨q.bo, 0, none⟩) q.ro.length q.ro.length]
 rows : MRow W q.bo q.ro s.meet
 low : SpotLow q
 base : q.base ≤ W.heap.size
 far : q.rn ∉ q.ro
 bs : Boxed W q.Bs 34 q.sv
section
variable {q : SpotNums} {xv : GVals} {g : GraphP} {y : BVals} {x : BlockP} {W W' : World} {s : Spot}
theorem OwnInts.below {w w' : World} {base : Nat} {v : Value} {l : List Int} (h : OwnInts w base v l) (hb : Below w.heap.size w w') : OwnInts w' base v l :=
 World.ownsRow.kept h (grown_of_below hb none) (by cases hv : v.ownBlock <;> simp)
theorem _root_.Go.Boxed.below_ {w w' : World} {b : Nat} {t : TypeId} {v : Value} (h : Boxed w b t v) (hb : Below w.heap.size w w') : Boxed w' b t v := h.kept (grown_of_below hb none) (by simp)
theorem SpotMem.below (h : SpotMem q xv g y x W s) (hb : Below W.heap.size W W') : SpotMem q xv g y x W' s where
 gr := h.gr.below hb
 bl := h.bl.below hb
 told := h.told.below hb h.told.lt
 there := h.there.below hb h.there.lt
 now := h.now.below hb h.now.lt
 put := h.put.below hb h.put.lt
 set := h.set.below hb
 phis := by obtain ⟨v, h1, h2⟩ := h.phis; exact ⟨v, h1.below_ hb, h2.below hb⟩
 out := h.out.below hb h.out.lt
 rows := h.rows.later hb
 low := h.low
 base := Nat.le_trans h.base hb.size
 far := h.far
 bs := h.bs.below_ hb
theorem SpotMem.drew (h : SpotMem q xv g y x W s) : SpotMem q xv g y x W.drew s := h.below ((Below.refl _ _).drew)
theorem SpotMem.alloc (h : SpotMem q xv g y x W s) (o : Obj) : SpotMem q xv g y x (W.alloc o) s := h.below ((Below.refl _ _).alloc (Nat.le_refl _) _)
theorem _root_.Go.Boxed.blk {w : World} {b : Nat} {t : TypeId} {v : Value} (h : Boxed w b t v) : Blk w b t #[v] := h
theorem blk_ne_map {w : World} {b r : Nat} {t : TypeId} {cs : Array Value} {m : FMap} (h : Blk w b t cs) (hm : IMap w r m) : some b ≠ some r := fun e => by
 injection e with e
 subst e
 obtain ⟨es, clock, hb, _⟩ := hm
 unfold Blk at h
 rw [h] at hb; cases hb
theorem own_ne_map {w : World} {base r : Nat} {v : Value} {l : List Int} {m : FMap} (h : OwnInts w base v l) (hm : IMap w r m) : v.ownBlock = none ∨ v.ownBlock ≠ some r := by
 rcases h.2 with ⟨rfl, _⟩ | ⟨g, cap, cur, rfl, _, hgb, _⟩
 ·exact .inl rfl
 ·refine .inr fun e' => ?_
  obtain rfl : g = r := by simpa [Value.ownBlock] using e'
  obtain ⟨es, clock, hb, _⟩ := hm
  rw [hgb] at hb; cases hb
theorem MRow.other {w w' : World} {bo r : Nat} {ro : List Nat} {R : Meets} {p : ISet} (h : MRow w bo ro R) (hp : SetM w r p) (hg : w.grownBy w' (some r)) (hr : r ∉ ro) : MRow w' bo ro R :=
 ⟨h.row.grown hg (blk_ne_map h.row hp), h.one, fun j k hj => SetM.other (h.maps j k hj) hg (fun e => hr (e ▸ List.mem_of_getElem? hj))⟩
/-- The set of what is live has turned. -/
theorem SpotMem.set_ (h : SpotMem q xv g y x W s) {p : ISet} (hq : SetM W' q.rn p) (hg : W.grownBy W' (some q.rn)) : SpotMem q xv g y x W' ⟨p, s.phis, s.meet⟩ where
 gr := h.gr.turn h.set hq hg
 bl := h.bl.turn h.set hq hg
 told := h.told.grown hg (blk_ne_map h.told h.set)
 there := h.there.grown hg (blk_ne_map h.there h.set)
 now := h.now.grown hg (blk_ne_map h.now h.set)
 put := h.put.grown hg (blk_ne_map h.put h.set)
 set := hq
 phis := by obtain ⟨v, h1, h2⟩ := h.phis; exact ⟨v, h1.kept hg (blk_ne_map (Go.Boxed.blk h1) h.set), World.ownsRow.kept h2 hg (own_ne_map h2 h.set)⟩
 out := h.out.grown hg (blk_ne_map h.out h.set)
 rows := h.rows.other h.set hg h.far
 low := h.low
 base := Nat.le_trans h.base hg.size
 far := h.far
 bs := h.bs.kept hg (blk_ne_map (Go.Boxed.blk h.bs) h.set)
theorem same_told {w w' : World} {bo B : Nat} {ro : List Nat} {R R' : Meets} (h : MRow w bo ro R) (h' : MRow w' bo ro R') (ht : Turned w w' ro) (hB : B ≤ w.heap.size) : Same B w w' := fun p hp => by
 by_cases hm : p.block ∈ ro
 ·obtain ⟨j, hj⟩ := List.mem_iff_getElem?.1 hm
  obtain ⟨es, clock, hb, _⟩ := h.maps j _ hj
  obtain ⟨es', clock', hb', _⟩ := h'.maps j _ hj
  simp [World.cell?, hb, hb']
 ·exact World.cell?_of_block (ht.block p.block (by omega) hm)
theorem MRow.boxed {bo : Nat} {ro : List Nat} {R : Meets} (h : MRow W bo ro R) (ht : Turned W W' ro) {b : Nat} {t : TypeId} {v : Value} (hb : Boxed W b t v) : Boxed W' b t v := h.blk ht (Go.Boxed.blk hb)
theorem MRow.own {bo : Nat} {ro : List Nat} {R : Meets} (h : MRow W bo ro R) (ht : Turned W W' ro) {base : Nat} {v : Value} {l : List Int} (hb : OwnInts W base v l) : OwnInts W' base v l := by
 refine ⟨hb.1, ?_⟩
 rcases hb.2 with hn | ⟨g, cap, cur, rfl, h1, hgb, rest⟩
 ·exact .inl hn
 ·exact .inr ⟨g, cap, cur, rfl, h1, h.blk ht (show Blk W g _ _ from hgb), rest⟩
/-- What meets has been told. -/
theorem SpotMem.told_ (h : SpotMem q xv g y x W s) {R : Meets} (hm : MRow W' q.bo q.ro R) (ht : Turned W W' q.ro) : SpotMem q xv g y x W' ⟨s.now, s.phis, R⟩ where
 gr := ⟨h.gr.gr.keep (same_told h.rows hm ht h.gr.hB), Nat.le_trans h.gr.hB ht.size, h.rows.blk ht h.gr.box⟩
 bl := ⟨h.bl.parts.keep (same_told h.rows hm ht h.bl.hB), Nat.le_trans h.bl.hB ht.size, h.rows.blk ht h.bl.box⟩
 told := h.rows.blk ht h.told
 there := h.rows.blk ht h.there
 now := h.rows.blk ht h.now
 put := h.rows.blk ht h.put
 set := IMap.same h.set (ht.block q.rn h.set.lt h.far)
 phis := by obtain ⟨v, h1, h2⟩ := h.phis; exact ⟨v, h.rows.boxed ht h1, h.rows.own ht h2⟩
 out := h.rows.blk ht h.out
 rows := hm
 low := h.low
 base := Nat.le_trans h.base ht.size
 far := h.far
 bs := h.rows.boxed ht h.bs
/-- What lies from base on has turned; the phis are l. -/
theorem SpotMem.far_ (h : SpotMem q xv g y x W s) (hb : Below q.base W W') {l : List Int} (hl : ∃ v, Boxed W' q.f10 34 v ∧ OwnInts W' q.base v l) (hbs : Boxed W' q.Bs 34 q.sv) : SpotMem q xv g y x W' ⟨s.now, l, s.meet⟩ where
 gr := ⟨h.gr.gr.keep (Same.of_below (hb.mono h.low.B)), Nat.le_trans h.gr.hB hb.size, h.gr.box.below hb h.low.g2⟩
 bl := ⟨h.bl.parts.keep (Same.of_below (hb.mono h.low.B)), Nat.le_trans h.bl.hB hb.size, h.bl.box.below hb h.low.x7⟩
 told := h.told.below hb h.low.t3
 there := h.there.below hb h.low.h5
 now := h.now.below hb h.low.n8
 put := h.put.below hb h.low.p9
 set := IMap.below h.set hb h.low.rn
 phis := hl
 out := h.out.below hb h.low.bm
 rows := ⟨h.rows.row.below hb h.low.bo, h.rows.one, fun j r hj => IMap.below (h.rows.maps j r hj) hb (h.low.ro r (List.mem_of_getElem? hj))⟩
 low := h.low
 base := Nat.le_trans h.base hb.size
 far := h.far
 bs := hbs
theorem SpotMem.ownFrom {β : Type} {q : SpotNums} {xv : GVals} {g : GraphP} {y : BVals} {x : BlockP} {B0 : Nat} (hB : q.base ≤ B0) (f : β → Spot) : OwnFrom B0 (fun b W => SpotMem q xv g y x W (f b)) := fun s A C row hs hg hr => by
 have hb : Below q.base A C := ⟨hg.os, hg.tape, hg.output, hg.size, fun k hk => hg.block k (Nat.lt_of_lt_of_le hk hs.base) (fun e => by have := (hr k e.symm).1; omega)⟩
 obtain ⟨v, h1, h2⟩ := hs.phis
 have nc : ∀ k c e z, A.heap[k]? = some (.cells c e z) → some k ≠ row := fun k c e z hk e' => by
  obtain ⟨_, o, ho, hc⟩ := hr k e'.symm
  rw [hk] at ho; cases ho; cases hc
 exact hs.far_ hb ⟨v, h1.kept hg (nc _ _ _ _ h1), World.ownsRow.kept h2 hg (by
  rcases h2.2 with ⟨rfl, _⟩ | ⟨g', cap, cur, rfl, _, hgb, _⟩
  ·exact .inl rfl
  ·exact .inr (fun e' => nc _ _ _ _ hgb (by simpa [Value.ownBlock] using e')))⟩ (hs.bs.kept hg (nc _ _ _ _ hs.bs))
theorem TurnB.ownFrom {β : Type} {B B0 : Nat} {w : World} {L : List Nat} (hB : B ≤ B0) (hw : B ≤ w.heap.size) : OwnFrom B0 (fun (_ : β) W => TurnB B w W L) := fun _ A C row hs hg hr =>
 hs.trans (TurnB.of_grown hg (Nat.le_trans hw hs.size) (fun r e => .inr (by have := (hr r e).1; omega)))
end
end Go.Proofs.YtkmfdiboekoioaaGreat

/- The loop of alloc.spots over what is live at a node: the node and all of these in a list, in whatever order. Conditions: that they are numbers of nodes, the node not among them. -/
namespace Go.Proofs.YtkmfdiboekoioaaGreat
open Go.RowKit Go.Shelf
attribute [local go_sem] Oper.semAt_some
def roundsOf : Code → List Code
 | .loop c => roundsOf c
 | .seq a b => roundsOf a ++ roundsOf b
 | .block _ c => roundsOf c
 | .scope c => roundsOf c
 | .cond _ a b => roundsOf a ++ roundsOf b
 | .rangeFunc _ _ _ c => [c]
 | _ => []
noncomputable def spotRound : Code := ((Tryz.f75.body.map roundsOf).getD []).getD 0 .skip
noncomputable def nowLoop : Code := (loopsOf spotRound).getD 0 .skip

theorem own_ne_iter {w : World} {base it r : Nat} {v : Value} {l : List Int} {m : FMap} {left : Int → Bool} {cnt : Nat} (h : OwnInts w base v l) (hi : Iter w it r m left cnt) : v.ownBlock ≠ some it := by
 rcases h.2 with ⟨rfl, _⟩ | ⟨g, cap, cur, rfl, _, hgb, _⟩
 ·simp [Value.ownBlock]
 ·intro e'
  obtain rfl : g = it := by simpa [Value.ownBlock] using e'
  obtain ⟨es, clock, _, _, _, _, _, hi, _⟩ := hi
  rw [hgb] at hi; cases hi
theorem own_ne_map' {w : World} {base r : Nat} {v : Value} {l : List Int} {m : FMap} (h : OwnInts w base v l) (hm : IMap w r m) : v.ownBlock ≠ some r := by
 rcases own_ne_map h hm with e | e
 ·rw [e]; simp
 ·exact e

def NowAt (w : World) (base it rn : Nat) (p : ISet) (n : Int) (k : Nat) (v : Value) (wr : World) : Prop :=
 ∃ (left : Int → Bool) (ks : List Int), Iter wr it rn (setF p) left k ∧ OwnInts wr base v (n :: ks) ∧ (n :: ks).Nodup ∧ (∀ x, p x = true → left x = true ∨ x ∈ ks) ∧ (∀ x ∈ ks, p x = true ∧ left x = false) ∧ Below base w wr
def NowEnd (w : World) (base : Nat) (p : ISet) (n : Int) (v : Value) (w' : World) : Prop :=
 ∃ ks : List Int, OwnInts w' base v (n :: ks) ∧ (n :: ks).Nodup ∧ (∀ x, x ∈ ks ↔ p x = true) ∧ Below base w w'
set_option maxRecDepth 100000 in
set_option maxHeartbeats 4000000 in
theorem nowLoop_any (lr m N : Nat) (w : World) (base it rn cnt : Nat) (p : ISet) (n : Int) (v0 : Value) (hN : N ≤ 5000) (hn : 0 ≤ n ∧ n < (N : Int)) (hb : Bounded N p) (hpn : p n = false) (hbase : base ≤ w.heap.size) (hit0 : base ≤ it)
  (hi : Iter w it rn (setF p) (fun x => (setF p x).isSome) cnt) (hv : OwnInts w base v0 [n])
  (u0 u1 u2 u3 u4 u5 u6 u7 u8 u9 u10 u11 u12 u14 u15 u16 u17 u18 u19 u20 u21 u22 u23 u24 u25 u26 u27 u28 u29 u30 u31 u32 u33 u34 u35 u36 u37 u38 u39 u40 u41 u42 u43 u44 u45 u46 u47 u48 u49 u50 u51 u52 u53 u54 u55 u56 u57 u58 u59 u60 u61 u62 u63 u64 u65 u66 u67 u68 u69 u70 u71 u72 u73 u74 u75 u76 u77 u78 u79 u81 u82 u83 u84 u85 u86 u87 u88 u89 u90 u91 u92 u93 u94 u95 u96 u97 u98 u99 u100 u101 u102 u103 u104 u105 u106 u107 u108 u109 u110 u111 u112 u113 : Value) (Q : Exit → Act → World → Prop)
  (hexit : ∀ (x13 x14 x81 x82 x83 x84 x85 x86 x87 x88 : Value) (w' : World), NowEnd w base p n x13 w' → Q (.exit 4) ⟨#[u0, u1, u2, u3, u4, u5, u6, u7, u8, u9, u10, u11, u12, x13, x14, u15, u16, u17, u18, u19, u20, u21, u22, u23, u24, u25, u26, u27, u28, u29, u30, u31, u32, u33, u34, u35, u36, u37, u38, u39, u40, u41, u42, u43, u44, u45, u46, u47, u48, u49, u50, u51, u52, u53, u54, u55, u56, u57, u58, u59, u60, u61, u62, u63, u64, u65, u66, u67, u68, u69, u70, u71, u72, u73, u74, u75, u76, u77, u78, u79, .pointer (some ⟨it, 0, none⟩), x81, x82, x83, x84, x85, x86, x87, x88, u89, u90, u91, u92, u93, u94, u95, u96, u97, u98, u99, u100, u101, u102, u103, u104, u105, u106, u107, u108, u109, u110, u111, u112, u113], []⟩ w') :
  Code.wpIn (Fence.wide.inRound lr) m Tryz.prog (Code.loop nowLoop) Q ⟨#[u0, u1, u2, u3, u4, u5, u6, u7, u8, u9, u10, u11, u12, v0, u14, u15, u16, u17, u18, u19, u20, u21, u22, u23, u24, u25, u26, u27, u28, u29, u30, u31, u32, u33, u34, u35, u36, u37, u38, u39, u40, u41, u42, u43, u44, u45, u46, u47, u48, u49, u50, u51, u52, u53, u54, u55, u56, u57, u58, u59, u60, u61, u62, u63, u64, u65, u66, u67, u68, u69, u70, u71, u72, u73, u74, u75, u76, u77, u78, u79, .pointer (some ⟨it, 0, none⟩), u81, u82, u83, u84, u85, u86, u87, u88, u89, u90, u91, u92, u93, u94, u95, u96, u97, u98, u99, u100, u101, u102, u103, u104, u105, u106, u107, u108, u109, u110, u111, u112, u113], []⟩ w := by
 have H0 : Hid (NowAt w base it rn p n cnt v0 w) := Lib.hid ⟨_, [], hi, hv, by simp, fun x hx => .inl (by rw [setF_some]; exact hx), fun x hx => by simp at hx, Below.refl _ _⟩
 have HB := Lib.hid hb; have hpn0 := Lib.hid hpn
 obtain ⟨i0, hinf, hz0, hz1, hz2⟩ := info_parts int_info
 clear hi hv hb hpn
 conv => arg 4; arg 1; whnf
 dsimp only
 gi_loopg [13] cnt (fun k v wr => NowAt w base it rn p n k v wr)
 case atStart => exact H0.out
 case round =>
  obtain ⟨left, ks, hit, hown, hnd, hall, hin, hbe⟩ := hrel
  have hlen : (n :: ks).length ≤ N := bounded_len hnd (fun x hx => by
   rcases List.mem_cons.1 hx with rfl | hx
   ·exact hn
   ·exact HB.out x (hin x hx).1)
  rcases Iter.next (P := Tryz.prog) hit 0 with ⟨hdone, hrun⟩ | ⟨x, y, w2, cnt', hlx, hmx, hrun, hit2, hlt, hg2, hs, hent⟩
  ·have HE : Hid (NowEnd w base p n _ wr) := Lib.hid ⟨ks, hown, hnd, fun x => ⟨fun hx => (hin x hx).1, fun hx => (hall x hx).resolve_left (by rw [hdone x]; simp)⟩, hbe⟩
   clear hit hown hall hin hbe hlen hnd hdone
   gi_wp2_with fail
   exact HE.out
  ·obtain ⟨hpx, rfl⟩ := setF_val hmx
   have hown2 : OwnInts w2 base u13 (n :: ks) := World.ownsRow.kept hown hg2 (.inr (own_ne_iter hown hit))
   have hbe2 : Below base w w2 := hbe.grown hg2 (Nat.le_trans hbase hbe.size) (fun k e => by injection e with e; omega)
   have HIt := Lib.hid hit2; have HOwn := Lib.hid hown2; have HBe := Lib.hid hbe2; have HIn := Lib.hid hin; have HAll := Lib.hid hall; have HNd := Lib.hid hnd; have HPx := Lib.hid hpx; have HLx := Lib.hid hlx
   have hsz : base ≤ w2.heap.size := Nat.le_trans hbase hbe2.size
   have hlen2 : ks.length + 1 ≤ N := by simpa using hlen
   clear hit hown hall hin hbe hlen hnd hit2 hown2 hbe2 hpx hlx hmx hg2 hs
   gi_wp2_with (gi_at_builtin; refine wpListIn_append_own _ rfl _ _ 34 rfl base 3 i0 (.int .i64 0) 1 8 Tryz.underlying34 hinf hz0 hz1 hz2 rfl (by decide) _ _ _ rfl (World.ownsRow.alloc HOwn.out _) ⟨w2.heap.size, 0, none⟩ 1 1 [.int .i64 x] rfl rfl (cell_one_new _ _ _) (by simp [Value.oneCell']) (by simp only [List.length_cons]; unfold maxLen; omega) (by simp only [List.length_cons]; omega) (by simp; omega) ?_; intro v' w1 hown' hgrow _)
   gi_roundg cnt'
   case measure => exact hlt
   case rel =>
    have h1 : OwnInts w1 base v' ((n :: ks) ++ [x]) := OwnInts.snoc hown'
    have hne1 : some rn ≠ u13.ownBlock := fun e => own_ne_map' HOwn.out HIt.out.map e.symm
    have hne2 : some it ≠ u13.ownBlock := fun e => own_ne_iter HOwn.out HIt.out e.symm
    refine ⟨_, ks ++ [x], (HIt.out.below ((Below.refl _ _).alloc (Nat.le_refl _) _) HIt.out.map.lt HIt.out.lt).grown hgrow hne1 hne2, h1, ?_, fun z hz => ?_, fun z hz => ?_, (HBe.out.alloc hsz _).grown hgrow (by simp; omega) (fun k e => (World.ownsRow.lt HOwn.out k e).1)⟩
    ·have hx0 : x ∉ n :: ks := fun hm => by
      rcases List.mem_cons.1 hm with e | hm
      ·subst e; exact absurd HPx.out (by rw [hpn0.out]; simp)
      ·have := (HIn.out x hm).2
       rw [HLx.out] at this; cases this
     show ((n :: ks) ++ [x]).Nodup
     rw [List.nodup_append]
     refine ⟨HNd.out, by simp, fun a ha b hb' => ?_⟩
     simp only [List.mem_singleton] at hb'
     subst hb'
     exact fun e => hx0 (e ▸ ha)
    ·rcases HAll.out z hz with h | h
     ·by_cases e : z = x
      ·exact .inr (by simp [e])
      ·exact .inl (by simp [h, e])
     ·exact .inr (by simp [h])
    ·rcases List.mem_append.1 hz with h | h
     ·exact ⟨(HIn.out z h).1, by simp [(HIn.out z h).2]⟩
     ·simp only [List.mem_singleton] at h
      subst h
      exact ⟨HPx.out, by simp⟩
end Go.Proofs.YtkmfdiboekoioaaGreat
