/- A list without a number, as the reference 21 has it. Conditions: a slice that lies in memory, not great. -/
import Derived.Test.YtkmfdiboekoioaaGreatCRfHas
import Derived.RangeFuncBox
import Derived.Test.YtkmfdiboekoioaaGreatCRfNode
set_option linter.unusedSimpArgs false
set_option linter.unusedVariables false
namespace Go.Proofs.YtkmfdiboekoioaaGreat
open Go.RowKit
def lessP (l : List Int) (n : Int) : List Int := l.filter (fun x => x != n)
theorem lessP_take {l : List Int} {n x : Int} {k : Nat} (h : l[k]? = some x) : lessP (l.take (k + 1)) n = lessP (l.take k) n ++ (if (x != n) = true then [x] else []) := by
 unfold lessP
 rw [List.take_add_one, h, List.filter_append]
 congr 1
 simp [List.filter_cons]
set_option maxHeartbeats 4000000 in
theorem less21_any (w : World) (v : Value) (l : List Int) (n : Int) (hl : IntsV w w.heap.size v l) (hs : l.length ≤ 100000000) :
  Calls Tryz.prog 125 #[v, .int .i64 n] w (fun e w' => ∃ u, e = .returned u ∧ OwnInts w' w.heap.size u (lessP l n) ∧ Below w.heap.size w w') := by
 have HL := Lib.hid hl
 obtain ⟨A, c, rfl, _, _, _⟩ := hl
 obtain ⟨i0, hi, hz0, hz1, hz2⟩ := info_parts int_info
 go_enter Tryz.func125, Tryz.ntmps125
 go_wp2_with fail
 go_loopw [5, 6] (fun u t wr => ∃ k : Nat, k ≤ l.length ∧ t = .int .i64 k ∧ Hid (OwnInts wr w.heap.size u (lessP (l.take k) n)) ∧ Hid (Below w.heap.size w wr)) (fun _ t _ => l.length - (intOf t).toNat)
 case atStart => exact ⟨0, Nat.zero_le _, rfl, Lib.hid (by simpa [lessP] using OwnInts.nil _ _), Lib.hid (Below.refl _ _)⟩
 case round =>
  obtain ⟨k, hk, rfl, HOw, HB⟩ := hrel
  obtain ⟨wq, rfl⟩ : ∃ wq : World, wq = wr := ⟨_, rfl⟩
  have hbs := HB.out.size
  by_cases hlt : k < l.length
  ·obtain ⟨b, off, rfl, hbB, hp⟩ := (HL.out.keep (Same.of_below HB.out)).cells hlt
   obtain ⟨x, hx⟩ := rget hlt
   have c0 := hp k x hx
   have HX := Lib.hid hx
   clear hp hx
   rcases d : (x != n) with _ | _
   ·have D := Lib.hid d
    go_wp2_with fail
    go_roundw
    case rel => exact ⟨k + 1, by omega, by go_num, Lib.hid (by rw [lessP_take HX.out, D.out]; simpa using HOw.out), HB⟩
    case measure => simp [intOf]; omega
   ·have D := Lib.hid d
    have hlen : (lessP (l.take k) n).length ≤ 100000000 := Nat.le_trans (List.length_filter_le _ _) (by simp; omega)
    go_wp2_with (at_builtin; refine wpList_append_own_at _ rfl (.tmp 19) (.tmp 24) 34 rfl w.heap.size 3 i0 (.int .i64 0) 1 8 Tryz.underlying34 hi hz0 hz1 hz2 rfl (by decide) _ _ _ rfl (HOw.out.alloc _) ⟨wq.heap.size, 0, none⟩ 1 1 [.int .i64 x] rfl rfl (cell_one_new _ _ _) (ints_oneCell .i64 [x]) (by unfold maxLen; omega) (by omega) (by simp; omega) ?_; intro v' w5 hown' hgrow _ _)
    go_roundw
    case rel => exact ⟨k + 1, by omega, by go_num, Lib.hid (by rw [lessP_take HX.out, D.out]; exact OwnInts.snoc hown'), Lib.hid ((HB.out.alloc hbs _).grown hgrow (by simp; omega) (fun q e => (HOw.out.lt q e).1))⟩
    case measure => simp [intOf]; omega
  ·go_wp2_with fail
   go_ret
   exact ⟨_, rfl, by have := HOw.out; rwa [List.take_of_length_le (by omega)] at this, HB.out⟩
/-- Numbers of nodes that are not there yet. -/
def moreP (N : Nat) (l m : List Int) : List Int := m.foldl (fun l x => if 0 ≤ x ∧ x < (N : Int) ∧ x ∉ l then l ++ [x] else l) l
theorem moreP_take {N : Nat} {l m : List Int} {k : Nat} {x : Int} (h : m[k]? = some x) : moreP N l (m.take (k + 1)) = (if 0 ≤ x ∧ x < (N : Int) ∧ x ∉ moreP N l (m.take k) then moreP N l (m.take k) ++ [x] else moreP N l (m.take k)) := by
 unfold moreP
 rw [List.take_add_one, h, List.foldl_append]
 rfl
theorem moreP_len (N : Nat) : ∀ (m l : List Int), (moreP N l m).length ≤ l.length + m.length
 | [], l => by simp [moreP]
 | x :: m, l => by
  have h := moreP_len N m (if 0 ≤ x ∧ x < (N : Int) ∧ x ∉ l then l ++ [x] else l)
  have e : moreP N l (x :: m) = moreP N (if 0 ≤ x ∧ x < (N : Int) ∧ x ∉ l then l ++ [x] else l) m := rfl
  rw [e]
  have : (if 0 ≤ x ∧ x < (N : Int) ∧ x ∉ l then l ++ [x] else l).length ≤ l.length + 1 := by split <;> simp
  rw [List.length_cons]
  omega
end Go.Proofs.YtkmfdiboekoioaaGreat

/- The teller of the reference 9: a depth is told of a place. Conditions: a teller in memory, a place of it. -/
namespace Go.Proofs.YtkmfdiboekoioaaGreat
open Go.RowKit
/-- The memory of a teller. -/
structure TlM (tb lb base n cap : Nat) (L : List Int) (bad : Bool) (w : World) : Prop where
 tb_ : Blk w tb 167 #[.slice (some ⟨lb, 0, none⟩) n cap, .bool bad]
 own : OwnInts w base (.slice (some ⟨lb, 0, none⟩) n cap) L
 len : L.length = n
 ne : tb ≠ lb
/-- Only the blocks a and b are other than they were. -/
structure Only2 (a b : Nat) (w w' : World) : Prop where
 os : w'.os = w.os
 tape : w'.tape = w.tape
 output : w'.output = w.output
 size : w'.heap.size = w.heap.size
 block : ∀ k, k ≠ a → k ≠ b → w'.heap[k]? = w.heap[k]?
theorem Only2.refl (a b : Nat) (w : World) : Only2 a b w w := ⟨rfl, rfl, rfl, rfl, fun _ _ _ => rfl⟩
theorem Only2.set1 {a b : Nat} {w w' : World} (h : Only2 a b w w') (j : Nat) (u : Value) : Only2 a b w (w'.setCell ⟨a, j, none⟩ u) :=
 ⟨h.os, h.tape, h.output, by simpa [World.setCell] using h.size, fun k h1 h2 => (Below.heap_setCell w' ⟨a, j, none⟩ u k h1).trans (h.block k h1 h2)⟩
theorem Only2.set2 {a b : Nat} {w w' : World} (h : Only2 a b w w') (j : Nat) (u : Value) : Only2 a b w (w'.setCell ⟨b, j, none⟩ u) :=
 ⟨h.os, h.tape, h.output, by simpa [World.setCell] using h.size, fun k h1 h2 => (Below.heap_setCell w' ⟨b, j, none⟩ u k h2).trans (h.block k h1 h2)⟩
def Tell09 (tb lb base n cap : Nat) (w : World) (e : Ending) (w' : World) : Prop := ∃ L bad, e = .returned (.tuple #[]) ∧ TlM tb lb base n cap L bad w' ∧ Only2 tb lb w w'
set_option maxRecDepth 100000 in
set_option maxHeartbeats 4000000 in
theorem tell09_any (w : World) (tb lb base n cap : Nat) (L : List Int) (bad : Bool) (pc : Nat) (d : Int) (h : TlM tb lb base n cap L bad w) (hpc : pc < n) (hn : n ≤ 17592186044416) :
  Calls Tryz.prog 111 #[.pointer (some ⟨tb, 0, none⟩), .int .i64 pc, .int .i64 d] w (Tell09 tb lb base n cap w) := by
 have H := Lib.hid h
 obtain ⟨z, hz⟩ := rget (l := L) (k := pc) (by have := h.len; omega)
 have hown : w.ownsRow base 3 1 (.slice (some ⟨lb, 0, none⟩) n cap) n (L.map (Value.int .i64)) := by have := h.own; unfold OwnInts at this; rw [h.len] at this; exact this
 have c0 : w.cell? ⟨tb, 0, none⟩ = some (.slice (some ⟨lb, 0, none⟩) n cap) := h.tb_.cell 0
 have c1 : w.cell? ⟨tb, 1, none⟩ = some (.bool bad) := h.tb_.cell 1
 have f1 := h.tb_.frozen 1
 have tl := h.tb_.lt
 have z0 : w.cell? ⟨lb, pc, none⟩ = some (.int .i64 z) := by
  rw [World.ownsRow.cellAt hown pc (by omega), List.getElem?_map, hz]; rfl
 have zf := World.ownsRow.frozenAt hown pc
 have zl := (World.ownsRow.lt hown lb rfl).2
 have HBad : Hid (TlM tb lb base n cap L true (w.setCell ⟨tb, 1, none⟩ (.bool true))) := Lib.hid ⟨by
   have := h.tb_.set_ 1 (.bool true)
   simpa using this, World.ownsRow.kept (row := some tb) h.own ⟨rfl, rfl, rfl, by simp [World.setCell], fun k _ hk => Below.heap_setCell _ _ _ k (fun e => hk (by rw [e]))⟩ (.inr (by simp [Value.ownBlock]; exact fun e => h.ne e.symm)), h.len, h.ne⟩
 have HPut : Hid (TlM tb lb base n cap (L.set pc d) bad (w.setCell ⟨lb, pc, none⟩ (.int .i64 d))) := Lib.hid ⟨h.tb_.far h.ne _, by
   unfold OwnInts
   rw [List.length_set, h.len, List.map_set]
   exact (World.ownsRow.stored hown pc (.int .i64 d)).1, by rw [List.length_set]; exact h.len, h.ne⟩
 clear h hz hown
 rcases d1 : decide (0 ≤ z) with _ | _
 ·go_enter Tryz.func111, Tryz.ntmps111
  go_wp2_with fail
  refine bodyPost_ret (results_none rfl _ _ _) rfl ?_
  exact ⟨_, _, rfl, HPut.out, (Only2.refl _ _ _).set2 _ _⟩
 ·rcases d2 : (z != d) with _ | _
  ·go_enter Tryz.func111, Tryz.ntmps111
   go_wp2_with fail
   refine bodyPost_ret (results_none rfl _ _ _) rfl ?_
   exact ⟨_, _, rfl, HPut.out, (Only2.refl _ _ _).set2 _ _⟩
  ·go_enter Tryz.func111, Tryz.ntmps111
   go_wp2_with fail
   refine bodyPost_ret (results_none rfl _ _ _) rfl ?_
   exact ⟨_, _, rfl, HBad.out, (Only2.refl _ _ _).set1 _ _⟩
end Go.Proofs.YtkmfdiboekoioaaGreat

/- The slots of a state, as the reference 20 has them. Conditions: a graph that lies in memory. -/
namespace Go.Proofs.YtkmfdiboekoioaaGreat
open Go.RowKit
def Sl20 (g : GraphP) (s : Int) (B : Nat) (w : World) (e : Ending) (w' : World) : Prop := ∃ v, e = .returned v ∧ IntsV w B v (slotsOf g s) ∧ Below w.heap.size w w'
set_option maxHeartbeats 4000000 in
theorem slots20_any (w : World) (B : Nat) (xv : GVals) (g : GraphP) (s : Int) (hg : GraphV w B xv g) (hB : B ≤ w.heap.size) : Calls Tryz.prog 150 #[gval g xv, .int .i64 s] w (Sl20 g s B w) := by
 obtain ⟨vn, vb, vs⟩ := xv
 obtain ⟨⟨An, cn, en, _⟩, ⟨Ab, cb, eb, _⟩, ⟨As, cs, es, _, hls, hqs⟩⟩ := hg
 simp only at en eb es
 subst en eb es
 have hls2 : g.states.length ≤ 17592186044416 := by unfold lim at hls; omega
 have HQS := Lib.hid hqs
 clear hls hqs
 have ee : gval g ⟨.slice An g.nodes.length cn, .slice Ab g.blocks.length cb, .slice As g.states.length cs⟩ = .agg #[.int .i64 g.fn, .int .i64 g.pc, .int .i64 g.slots, .slice An g.nodes.length cn, .slice Ab g.blocks.length cb, .slice As g.states.length cs] := rfl
 have E0 := Lib.hid ee; clear ee
 rw [E0.out]
 by_cases h0 : 0 ≤ s ∧ s < (g.states.length : Int)
 ·obtain ⟨k, rfl⟩ : ∃ k : Nat, s = (k : Int) := ⟨s.toNat, by omega⟩
  have hk : k < g.states.length := by omega
  obtain ⟨bz, oz, rfl, hbz, hqz⟩ := HQS.out (by omega)
  obtain ⟨y, hy⟩ := rget hk
  obtain ⟨t0, u, t1, hi⟩ := hqz k y hy
  have HI := Lib.hid hi
  obtain ⟨A9, c9, rfl, _⟩ := hi
  have HS : Hid (slotsOf g (k : Int) = y.slots) := Lib.hid (slotsOf_some hy)
  have hbz2 : bz < w.heap.size := by omega
  clear hqz hy h0
  go_enter Tryz.func150, Tryz.ntmps150
  go_wp2_with fail
  go_ret
  exact ⟨_, rfl, by rw [HS.out]; exact HI.out, (Below.refl _ _).alloc (Nat.le_refl _) _⟩
 ·have HS : Hid (slotsOf g s = []) := Lib.hid (by
   unfold slotsOf
   by_cases hs : s < 0
   ·rw [if_pos hs]
   ·rw [if_neg hs, List.getElem?_eq_none (by omega)])
  rcases d1 : decide (s < 0) with _ | _
  ·have d2 : decide ((g.states.length : Int) ≤ s) = true := decide_eq_true (by have := of_decide_eq_false d1; omega)
   clear h0
   go_enter Tryz.func150, Tryz.ntmps150
   go_wp2_with fail
   go_ret
   exact ⟨_, rfl, by rw [HS.out]; exact IntsV.nil _ _, (Below.refl _ _).alloc (Nat.le_refl _) _⟩
  ·clear h0
   go_enter Tryz.func150, Tryz.ntmps150
   go_wp2_with fail
   go_ret
   exact ⟨_, rfl, by rw [HS.out]; exact IntsV.nil _ _, (Below.refl _ _).alloc (Nat.le_refl _) _⟩
theorem slots20 (w : World) (B : Nat) (xv : GVals) (g : GraphP) (s : Int) (hg : GraphV w B xv g) (hB : B ≤ w.heap.size) : Calls Tryz.prog 124 #[gval g xv, .int .i64 s] w (Sl20 g s B w) := by
 obtain ⟨vn, vb, vs⟩ := xv
 have HG := Lib.hid hg
 obtain ⟨⟨An, cn, en, _⟩, ⟨Ab, cb, eb, _⟩, ⟨As, cs, es, _, _, _⟩⟩ := hg
 simp only at en eb es
 subst en eb es
 have ee : gval g ⟨.slice An g.nodes.length cn, .slice Ab g.blocks.length cb, .slice As g.states.length cs⟩ = .agg #[.int .i64 g.fn, .int .i64 g.pc, .int .i64 g.slots, .slice An g.nodes.length cn, .slice Ab g.blocks.length cb, .slice As g.states.length cs] := rfl
 obtain ⟨w1, hw1⟩ : ∃ w1, w1 = w.alloc (.cells #[.int .i64 g.fn, .int .i64 g.pc, .int .i64 g.slots, .slice An g.nodes.length cn, .slice Ab g.blocks.length cb, .slice As g.states.length cs] 28) := ⟨_, rfl⟩
 have hk : Blk w1 w.heap.size 28 #[.int .i64 g.fn, .int .i64 g.pc, .int .i64 g.slots, .slice An g.nodes.length cn, .slice Ab g.blocks.length cb, .slice As g.states.length cs] := by rw [hw1]; exact Blk.new _ _ _
 have hb1 : Below w.heap.size w w1 := by rw [hw1]; exact (Below.refl _ _).alloc (Nat.le_refl _) _
 have hsame : Same B w w1 := fun p hp => hb1.cell (Nat.lt_of_lt_of_le hp hB)
 have HC := Lib.hid (slots20_any w1 B _ g s (GraphV.keep HG.out hsame) (Nat.le_trans hB hb1.size))
 rw [ee] at HC
 have HB1 := Lib.hid hb1
 have HBs : Hid (Same B w1 w) := Lib.hid (fun p hp => (hsame p hp).symm)
 have q0 : w1.cell? ⟨w.heap.size, 0, none⟩ = some (.int .i64 g.fn) := hk.cell 0
 have q1 : w1.cell? ⟨w.heap.size, 1, none⟩ = some (.int .i64 g.pc) := hk.cell 1
 have q2 : w1.cell? ⟨w.heap.size, 2, none⟩ = some (.int .i64 g.slots) := hk.cell 2
 have q3 : w1.cell? ⟨w.heap.size, 3, none⟩ = some (.slice An g.nodes.length cn) := hk.cell 3
 have q4 : w1.cell? ⟨w.heap.size, 4, none⟩ = some (.slice Ab g.blocks.length cb) := hk.cell 4
 have q5 : w1.cell? ⟨w.heap.size, 5, none⟩ = some (.slice As g.states.length cs) := hk.cell 5
 have ql := hk.lt
 have E0 := Lib.hid ee
 clear ee hk hb1 hsame
 rw [E0.out]
 go_enter Tryz.func124, Tryz.ntmps124
 go_upto_region 1 with fail
 rw [← hw1]
 clear hw1
 go_wp2_with (go_at_call 150; refine HC.out.mono ?_; rintro e w9 ⟨v, rfl, h1, h2⟩; have H1 := Lib.hid h1; clear h1)
 go_ret
 exact ⟨_, rfl, H1.out.keep HBs.out, HB1.out.trans (h2.mono HB1.out.size)⟩
end Go.Proofs.YtkmfdiboekoioaaGreat

/- Are slots of unlike places, as the reference 16 looks at it: some answer. Conditions: a small graph that lies in memory. -/
namespace Go.Proofs.YtkmfdiboekoioaaGreat
open Go.RowKit
set_option maxRecDepth 100000 in
set_option maxHeartbeats 16000000 in
theorem ref16slots_any (w : World) (xv : GVals) (g : GraphP) (hs : Small g) (hg : GraphV w w.heap.size xv g) : Calls Tryz.prog 21 #[gval g xv] w (SomeBool w) := by
 have HG := Lib.hid hg
 obtain ⟨vn, vb, vs⟩ := xv
 obtain ⟨⟨An, cn, en, _, _, hqn⟩, ⟨Ab, cb, eb, _⟩, ⟨As, cs, es, _⟩⟩ := hg
 simp only at en eb es
 subst en eb es
 have HQN := Lib.hid hqn
 obtain ⟨l1, l2, l3⟩ := hs.lens
 obtain ⟨i0, hi, hz0, hz1, hz2⟩ := info_parts int_info
 clear hqn
 have ee : gval g ⟨.slice An g.nodes.length cn, .slice Ab g.blocks.length cb, .slice As g.states.length cs⟩ = .agg #[.int .i64 g.fn, .int .i64 g.pc, .int .i64 g.slots, .slice An g.nodes.length cn, .slice Ab g.blocks.length cb, .slice As g.states.length cs] := rfl
 have E0 := Lib.hid ee; clear ee
 rw [E0.out]
 obtain ⟨w1, hw1⟩ : ∃ w1, w1 = w.alloc (.cells #[.int .i64 g.fn, .int .i64 g.pc, .int .i64 g.slots, .slice An g.nodes.length cn, .slice Ab g.blocks.length cb, .slice As g.states.length cs] 28) := ⟨_, rfl⟩
 have HK1 : Hid (Blk w1 w.heap.size 28 #[.int .i64 g.fn, .int .i64 g.pc, .int .i64 g.slots, .slice An g.nodes.length cn, .slice Ab g.blocks.length cb, .slice As g.states.length cs]) := Lib.hid (by rw [hw1]; exact Blk.new _ _ _)
 have HB1 : Hid (Below w.heap.size w w1) := Lib.hid (by rw [hw1]; exact (Below.refl _ _).alloc (Nat.le_refl _) _)
 have HSZ1 : Hid (w1.heap.size = w.heap.size + 1) := Lib.hid (by rw [hw1]; simp)
 go_enter Tryz.func21, Tryz.ntmps21
 go_upto_region 1 with fail
 rw [← hw1]
 clear hw1
 go_wp2_with fail
 go_loopw [3, 4] (fun v t wr => ∃ (k : Nat) (l : List Int), k ≤ g.nodes.length ∧ t = .int .i64 k ∧ Hid (OwnInts wr (w.heap.size + 1) v l) ∧ l.length ≤ k ∧ Hid (Below (w.heap.size + 1) w1 wr)) (fun _ t _ => g.nodes.length - (intOf t).toNat)
 case atStart => exact ⟨0, [], Nat.zero_le _, rfl, Lib.hid (OwnInts.nil _ _), Nat.le_refl _, Lib.hid (Below.refl _ _)⟩
 case round =>
  obtain ⟨k, l, hk, rfl, HOw, hlk, HBr⟩ := hrel
  obtain ⟨wq, rfl⟩ : ∃ wq : World, wq = wr := ⟨_, rfl⟩
  have hk4 := HK1.out.below HBr.out (by have := HSZ1.out; omega)
  have r3 : wq.cell? ⟨w.heap.size, 3, none⟩ = some (.slice An g.nodes.length cn) := hk4.cell 3
  have rl := hk4.lt
  clear hk4
  have HBw : Hid (Below w.heap.size w wq) := Lib.hid (HB1.out.trans (HBr.out.mono (by omega)))
  have hbs : w.heap.size + 1 ≤ wq.heap.size := by have := HBr.out.size; have := HSZ1.out; omega
  by_cases hlt : k < g.nodes.length
  ·obtain ⟨bn, on, rfl, hbn, hqn⟩ := HQN.out (by omega)
   obtain ⟨y, hy⟩ := rget hlt
   obtain ⟨f0, _, f2, _, _⟩ := (hqn k y hy).keep (Same.of_below HBw.out) hbn
   clear hqn hy
   rcases ho : (y.op != 1) with _ | _
   ·rcases d : decide (y.N ∈ l) with _ | _
    ·have HC : Hid (∀ u, OwnInts wq (w.heap.size + 1) u l → Calls Tryz.prog 60 #[u, .int .i64 y.N] wq (fun e w' => e = .returned (.bool false) ∧ w' = wq)) := Lib.hid (fun u hu => by
      have := has16_any wq u l y.N (hu.ints (by unfold lim; omega))
      rw [d] at this; exact this)
     clear d
     go_wp2_with first
      | (go_at_call 60; refine (HC.out _ HOw.out).mono ?_; rintro e w9 ⟨rfl, hw9⟩; have hw92 := hw9.symm; subst hw92)
      | (at_builtin; refine wpList_append_own_at _ rfl (.tmp 27) (.tmp 34) 34 rfl (w.heap.size + 1) 3 i0 (.int .i64 0) 1 8 Tryz.underlying34 hi hz0 hz1 hz2 rfl (by decide) _ _ _ rfl (HOw.out.alloc _) ⟨wq.heap.size, 0, none⟩ 1 1 [.int .i64 y.N] rfl rfl (cell_one_new _ _ _) (ints_oneCell .i64 [y.N]) (by unfold maxLen; omega) (by omega) (by simp; omega) ?_; intro v' w5 hown' hgrow _ _)
      | fail
     go_roundw
     case rel => exact ⟨k + 1, l ++ [y.N], by omega, by go_num, Lib.hid (OwnInts.snoc (by simpa using hown')), by simp; omega, Lib.hid ((HBr.out.alloc hbs _).grown hgrow (by simp; omega) (fun q e => (HOw.out.lt q e).1))⟩
     case measure => simp [intOf]; omega
    ·have HC : Hid (∀ u, OwnInts wq (w.heap.size + 1) u l → Calls Tryz.prog 60 #[u, .int .i64 y.N] wq (fun e w' => e = .returned (.bool true) ∧ w' = wq)) := Lib.hid (fun u hu => by
      have := has16_any wq u l y.N (hu.ints (by unfold lim; omega))
      rw [d] at this; exact this)
     clear d
     go_wp2_with (go_at_call 60; refine (HC.out _ HOw.out).mono ?_; rintro e w9 ⟨rfl, hw9⟩; have hw92 := hw9.symm; subst hw92)
     go_ret
     exact ⟨_, rfl, HBw.out⟩
   ·go_wp2_with fail
    go_roundw
    case rel => exact ⟨k + 1, l, by omega, by go_num, HOw, by omega, HBr⟩
    case measure => simp [intOf]; omega
  ·go_wp2_with fail
   go_ret
   exact ⟨_, rfl, HBw.out⟩
end Go.Proofs.YtkmfdiboekoioaaGreat

/- The blocks ahead of a block, as the reference 16 looks at them: some answer; yes: they are there. Conditions: a small graph that lies in memory, a block of it. -/
namespace Go.Proofs.YtkmfdiboekoioaaGreat
open Go.RowKit
structure AhF (g : GraphP) (x : BlockP) (n : Nat) : Prop where
 rng : ∀ a ∈ x.ahead, 0 ≤ a ∧ a < (g.blocks.length : Int)
 pred : 0 < n → ∃ (m : Nat) (y : BlockP), m < n ∧ g.blocks[m]? = some y ∧ (n : Int) ∈ y.next
set_option maxRecDepth 100000 in
set_option maxHeartbeats 16000000 in
theorem ref16ahead_any (w : World) (xv : GVals) (g : GraphP) (n : Nat) (x : BlockP) (hs : Small g) (hg : GraphV w w.heap.size xv g) (hx : g.blocks[n]? = some x) :
  Calls Tryz.prog 23 #[gval g xv, .int .i64 n] w (BoolIf (AhF g x n) w) := by
 have HG := Lib.hid hg; have HX := Lib.hid hx
 obtain ⟨vn, vb, vs⟩ := xv
 obtain ⟨⟨An, cn, en, _⟩, ⟨Ab, cb, eb, _, hlb, hqb⟩, ⟨As, cs, es, _⟩⟩ := hg
 simp only at en eb es
 subst en eb es
 obtain ⟨l1, l2, l3⟩ := hs.lens
 have hbl : n < g.blocks.length := by
  rcases Nat.lt_or_ge n g.blocks.length with h | h
  ·exact h
  ·rw [List.getElem?_eq_none h] at hx; cases hx
 have hal := (hs.block hx).2.2.2
 obtain ⟨bb, ob, rfl, hbb, hqb⟩ := hqb (by omega)
 obtain ⟨⟨v0, f0, i0⟩, f1, ⟨v2, f2, i2⟩, ⟨v3, f3, i3⟩, ⟨v4, f4, i4⟩, f5⟩ := hqb n x hx
 have HI4 := Lib.hid i4; have HF4 := Lib.hid f4
 obtain ⟨A4, e4, rfl, _, m4, _⟩ := i4
 have HQB := Lib.hid hqb
 obtain ⟨i0', hi, hz0, hz1, hz2⟩ := info_parts int_info
 clear hlb hqb hx f0 f1 f2 f3 f4 f5 i0 i2 i3 m4
 have ee : gval g ⟨.slice An g.nodes.length cn, .slice (some ⟨bb, ob, none⟩) g.blocks.length cb, .slice As g.states.length cs⟩ = .agg #[.int .i64 g.fn, .int .i64 g.pc, .int .i64 g.slots, .slice An g.nodes.length cn, .slice (some ⟨bb, ob, none⟩) g.blocks.length cb, .slice As g.states.length cs] := rfl
 have E0 := Lib.hid ee; clear ee
 rw [E0.out]
 obtain ⟨w1, hw1⟩ : ∃ w1, w1 = w.alloc (.cells #[.int .i64 g.fn, .int .i64 g.pc, .int .i64 g.slots, .slice An g.nodes.length cn, .slice (some ⟨bb, ob, none⟩) g.blocks.length cb, .slice As g.states.length cs] 28) := ⟨_, rfl⟩
 have HK1 : Hid (Blk w1 w.heap.size 28 #[.int .i64 g.fn, .int .i64 g.pc, .int .i64 g.slots, .slice An g.nodes.length cn, .slice (some ⟨bb, ob, none⟩) g.blocks.length cb, .slice As g.states.length cs]) := Lib.hid (by rw [hw1]; exact Blk.new _ _ _)
 have HB1 : Hid (Below w.heap.size w w1) := Lib.hid (by rw [hw1]; exact (Below.refl _ _).alloc (Nat.le_refl _) _)
 have hsz1 : w1.heap.size = w.heap.size + 1 := by rw [hw1]; simp
 have HSZ1 := Lib.hid hsz1
 clear hsz1
 go_enter Tryz.func23, Tryz.ntmps23
 go_upto_region 1 with fail
 rw [← hw1]
 clear hw1
 go_wp2_with fail
 go_loopw [5, 6] (fun v t wr => ∃ (k : Nat) (l : List Int), k ≤ g.blocks.length ∧ t = .int .i64 k ∧ Hid (OwnInts wr (w.heap.size + 1) v l) ∧ l.length ≤ k ∧ Hid (∀ a ∈ l, (0 ≤ a ∧ a < (g.blocks.length : Int)) ∧ ∃ y, g.blocks[a.toNat]? = some y ∧ (n : Int) ∈ y.next) ∧ (v = .slice none 0 0 ∧ l = [] ∨ 0 < l.length ∧ ∃ b c, v = .slice (some ⟨b, 0, none⟩) l.length c) ∧ Hid (Below (w.heap.size + 1) w1 wr)) (fun _ t _ => g.blocks.length - (intOf t).toNat)
 case atStart => exact ⟨0, [], Nat.zero_le _, rfl, Lib.hid (OwnInts.nil _ _), Nat.le_refl _, Lib.hid (fun a h => by cases h), .inl ⟨rfl, rfl⟩, Lib.hid (Below.refl _ _)⟩
 case round =>
  obtain ⟨k, l, hk, rfl, HOw, hlk, HRg, hv5, HBr⟩ := hrel
  obtain ⟨wq, rfl⟩ : ∃ wq : World, wq = wr := ⟨_, rfl⟩
  have hk4 := HK1.out.below HBr.out (by have := HSZ1.out; omega)
  have r4 := hk4.cell 4
  have rl := hk4.lt
  clear hk4
  have HBw : Hid (Below w.heap.size w wq) := Lib.hid (HB1.out.trans (HBr.out.mono (by omega)))
  have hbs : w.heap.size + 1 ≤ wq.heap.size := by have := HBr.out.size; have := HSZ1.out; omega
  by_cases hlt : k < g.blocks.length
  ·obtain ⟨y, hy⟩ := rget hlt
   obtain ⟨⟨v0, f0, i0⟩, f1, ⟨v2, f2, i2⟩, ⟨v3, f3, i3⟩, ⟨v4, f4, i4⟩, f5⟩ := (HQB.out k y hy).keep (Same.of_below HBw.out) hbb
   have HI3 := Lib.hid (i3.mono HBw.out.size)
   have HYy := Lib.hid hy
   clear f0 f1 f2 f4 f5 i0 i2 i4 hy i3
   rcases d : decide ((n : Int) ∈ y.next) with _ | _
   ·have HC : Hid (Calls Tryz.prog 60 #[v3, .int .i64 n] wq (fun e w' => e = .returned (.bool false) ∧ w' = wq)) := Lib.hid (by
     have := has16_any wq _ y.next n HI3.out
     rw [d] at this; exact this)
    clear d
    go_wp2_with (go_at_call 60; refine HC.out.mono ?_; rintro e w9 ⟨rfl, rfl⟩)
    go_roundw
    case rel => exact ⟨k + 1, l, by omega, by go_num, HOw, by omega, HRg, hv5, HBr⟩
    case measure => simp [intOf]; omega
   ·have HDn : Hid ((n : Int) ∈ y.next) := Lib.hid (of_decide_eq_true d)
    have HC : Hid (Calls Tryz.prog 60 #[v3, .int .i64 n] wq (fun e w' => e = .returned (.bool true) ∧ w' = wq)) := Lib.hid (by
     have := has16_any wq _ y.next n HI3.out
     rw [d] at this; exact this)
    clear d
    go_wp2_with first
     | (go_at_call 60; refine HC.out.mono ?_; rintro e w9 ⟨rfl, hw9⟩; have hw92 := hw9.symm; subst hw92)
     | (at_builtin; refine wpList_append_own_at _ rfl (.tmp 23) (.tmp 25) 34 rfl (w.heap.size + 1) 3 i0' (.int .i64 0) 1 8 Tryz.underlying34 hi hz0 hz1 hz2 rfl (by decide) _ _ _ rfl (HOw.out.alloc _) ⟨wq.heap.size, 0, none⟩ 1 1 [.int .i64 k] rfl rfl (cell_one_new _ _ _) (ints_oneCell .i64 [(k : Int)]) (by unfold maxLen; omega) (by omega) (by simp; omega) ?_; intro v' w5 hown' hgrow _ _)
     | fail
    obtain ⟨b8, c8, rfl⟩ : ∃ b c, v' = .slice (some ⟨b, 0, none⟩) (l ++ [(k : Int)]).length c := by
     obtain ⟨b8, c8, h8⟩ := ownsRow_succ hown'
     exact ⟨b8, c8, by rw [h8]; simp⟩
    go_roundw
    case rel => exact ⟨k + 1, l ++ [(k : Int)], by omega, by go_num, Lib.hid (OwnInts.snoc (by simpa using hown')), by simp; omega, Lib.hid (fun a ha => by
     rcases List.mem_append.1 ha with ha | ha
     ·exact HRg.out a ha
     ·simp at ha; subst ha; exact ⟨by omega, y, by rw [Int.toNat_natCast]; exact HYy.out, HDn.out⟩), .inr ⟨by simp, _, _, rfl⟩, Lib.hid ((HBr.out.alloc hbs _).grown hgrow (by simp; omega) (fun q e => (HOw.out.lt q e).1))⟩
    case measure => simp [intOf]; omega
  ·have f4 := (HBw.out.cell (p := ⟨bb, ob + n * 6 + 4, none⟩) hbb).trans HF4.out
   rcases hv5 with ⟨rfl, rfl⟩ | ⟨hl0, b5, c5, rfl⟩
   ·by_cases hll : x.ahead.length = 0
    ·have hx0 : x.ahead = [] := List.eq_nil_of_length_eq_zero hll
     have HF2 : Hid (¬ 0 < n → AhF g x n) := Lib.hid (fun hn => ⟨(fun a ha => by rw [hx0] at ha; cases ha), (fun h => absurd h hn)⟩)
     have b1 : ((0 : Int) != (x.ahead.length : Int)) = false := by simp [hll]
     clear hx0 hll
     by_cases hn0 : 0 < n
     ·go_wp2_with fail
      go_ret
      exact ⟨⟨false, rfl, fun h => by cases h⟩, HBw.out⟩
     ·go_wp2_with fail
      go_loopw [7] (fun t wr => t = .int .i64 0 ∧ wr = wq) (fun _ _ => 0)
      case atStart => exact ⟨rfl, by trivial⟩
      case round =>
       obtain ⟨rfl, hw⟩ := hrel
       subst hw
       go_wp2_with fail
       go_ret
       exact ⟨⟨true, rfl, fun _ => HF2.out (by omega)⟩, HBw.out⟩
    ·have b1 : ((0 : Int) != (x.ahead.length : Int)) = true := by simp; omega
     clear hll
     go_wp2_with fail
     go_ret
     exact ⟨⟨false, rfl, fun h => by cases h⟩, HBw.out⟩
   ·by_cases hll : l.length = x.ahead.length
    ·have HLL := Lib.hid hll
     have c1 : ((l.length : Int) == 0) = false := beq_eq_false_iff_ne.2 (by omega)
     have b1 : ((l.length : Int) != (x.ahead.length : Int)) = false := by simp [hll]
     clear hll
     obtain ⟨a0, ha0⟩ := rget hl0
     obtain ⟨B5, o5, e5, _, hp5⟩ := (HOw.out.ints (by unfold lim; omega)).cells hl0
     injection e5 with e5
     injection e5 with e5 e6
     subst e5 e6
     have z0 : wq.cell? ⟨b5, 0, none⟩ = some (.int .i64 a0) := hp5 0 _ ha0
     have HP5 := Lib.hid hp5
     have HA0 := Lib.hid ha0
     clear ha0 hp5
     by_cases hbad : 0 < n ∧ (n : Int) ≤ a0
     ·obtain ⟨hb1, hb2⟩ := hbad
      go_wp2_with fail
      go_ret
      exact ⟨⟨false, rfl, fun h => by cases h⟩, HBw.out⟩
     ·have hgo : (0 < n → a0 < (n : Int)) := fun h => by omega
      have HW : Hid (Below wq.heap.size wq wq) := Lib.hid (Below.refl _ _)
      have HLp : ∀ (K : Prop), K → K := fun _ h => h
      clear HLp hbad
      by_cases hn0 : 0 < n
      ·have hgo2 := hgo hn0
       clear hgo
       go_wp2_with fail
       go_loopw [7] (fun t wr => ∃ j : Nat, j ≤ l.length ∧ t = .int .i64 j ∧ Hid (Below wq.heap.size wq wr) ∧ Hid (∀ i, i < j → l[i]? = x.ahead[i]?)) (fun t _ => l.length - (intOf t).toNat)
       case atStart => exact ⟨0, Nat.zero_le _, rfl, HW, Lib.hid (fun i h => by omega)⟩
       case round =>
        obtain ⟨j, hj, rfl, HW3, HE⟩ := hrel
        have s4 : wr.cell? ⟨w.heap.size, 4, none⟩ = some (.slice (some ⟨bb, ob, none⟩) g.blocks.length cb) := (HW3.out.cell (p := ⟨w.heap.size, 4, none⟩) rl).trans r4
        have t4 : wr.cell? ⟨bb, ob + n * 6 + 4, none⟩ = some (.slice A4 x.ahead.length e4) := (HW3.out.cell (p := ⟨bb, ob + n * 6 + 4, none⟩) (show bb < wq.heap.size by omega)).trans f4
        by_cases hjl : j < l.length
        ·obtain ⟨a, ha⟩ := rget hjl
         have hjx : j < x.ahead.length := by have := HLL.out; omega
         obtain ⟨c, hc⟩ := rget hjx
         have u0 : wr.cell? ⟨b5, j, none⟩ = some (.int .i64 a) := by
          have h1 := HP5.out j a ha
          rw [Nat.zero_add] at h1
          exact (HW3.out.cell (p := ⟨b5, j, none⟩) (by have := (HOw.out.lt b5 rfl).2; exact this)).trans h1
         obtain ⟨B6, o6, rfl, hb6, hp6⟩ := HI4.out.cells hjx
         have u1 : wr.cell? ⟨B6, o6 + j, none⟩ = some (.int .i64 c) := (HW3.out.cell (p := ⟨B6, o6 + j, none⟩) (show B6 < wq.heap.size by omega)).trans ((HBw.out.cell (p := ⟨B6, o6 + j, none⟩) hb6).trans (hp6 j c hc))
         have HA := Lib.hid ha; have HC := Lib.hid hc
         clear hp6 ha hc
         rcases d : (a != c) with _ | _
         ·have D := Lib.hid d
          go_wp2_with go_quiet (fail)
          go_roundw
          case rel => exact ⟨j + 1, by omega, by go_num, Lib.hid (bdrew HW3.out), Lib.hid (fun i hi => by
           rcases Nat.lt_or_ge i j with h | h
           ·exact HE.out i h
           ·obtain rfl : i = j := by omega
            rw [HA.out, HC.out, bne_eq_false_iff_eq.1 D.out])⟩
          case measure => simp [intOf]; omega
         ·go_wp2_with go_quiet (fail)
          go_ret
          exact ⟨⟨false, rfl, fun h => by cases h⟩, HBw.out.trans ((bdrew HW3.out).mono HBw.out.size)⟩
        ·have HF2 : Hid (AhF g x n) := Lib.hid ⟨(fun a ha => by
          obtain ⟨i, hi⟩ := List.mem_iff_getElem?.1 ha
          have hil : i < x.ahead.length := by
           rcases Nat.lt_or_ge i x.ahead.length with q | q
           ·exact q
           ·rw [List.getElem?_eq_none q] at hi; cases hi
          have := HE.out i (by have := HLL.out; omega)
          rw [hi] at this
          exact (HRg.out a (List.mem_of_getElem? this)).1), (fun _ => by
          obtain ⟨⟨q1, q2⟩, y, q3, q4⟩ := HRg.out a0 (List.mem_of_getElem? HA0.out)
          exact ⟨a0.toNat, y, by omega, q3, q4⟩)⟩
         go_wp2_with fail
         go_ret
         exact ⟨⟨true, rfl, fun _ => HF2.out⟩, HBw.out.trans (HW3.out.mono HBw.out.size)⟩
      ·clear hgo
       go_wp2_with fail
       go_loopw [7] (fun t wr => ∃ j : Nat, j ≤ l.length ∧ t = .int .i64 j ∧ Hid (Below wq.heap.size wq wr) ∧ Hid (∀ i, i < j → l[i]? = x.ahead[i]?)) (fun t _ => l.length - (intOf t).toNat)
       case atStart => exact ⟨0, Nat.zero_le _, rfl, HW, Lib.hid (fun i h => by omega)⟩
       case round =>
        obtain ⟨j, hj, rfl, HW3, HE⟩ := hrel
        have s4 : wr.cell? ⟨w.heap.size, 4, none⟩ = some (.slice (some ⟨bb, ob, none⟩) g.blocks.length cb) := (HW3.out.cell (p := ⟨w.heap.size, 4, none⟩) rl).trans r4
        have t4 : wr.cell? ⟨bb, ob + n * 6 + 4, none⟩ = some (.slice A4 x.ahead.length e4) := (HW3.out.cell (p := ⟨bb, ob + n * 6 + 4, none⟩) (show bb < wq.heap.size by omega)).trans f4
        by_cases hjl : j < l.length
        ·obtain ⟨a, ha⟩ := rget hjl
         have hjx : j < x.ahead.length := by have := HLL.out; omega
         obtain ⟨c, hc⟩ := rget hjx
         have u0 : wr.cell? ⟨b5, j, none⟩ = some (.int .i64 a) := by
          have h1 := HP5.out j a ha
          rw [Nat.zero_add] at h1
          exact (HW3.out.cell (p := ⟨b5, j, none⟩) (by have := (HOw.out.lt b5 rfl).2; exact this)).trans h1
         obtain ⟨B6, o6, rfl, hb6, hp6⟩ := HI4.out.cells hjx
         have u1 : wr.cell? ⟨B6, o6 + j, none⟩ = some (.int .i64 c) := (HW3.out.cell (p := ⟨B6, o6 + j, none⟩) (show B6 < wq.heap.size by omega)).trans ((HBw.out.cell (p := ⟨B6, o6 + j, none⟩) hb6).trans (hp6 j c hc))
         have HA := Lib.hid ha; have HC := Lib.hid hc
         clear hp6 ha hc
         rcases d : (a != c) with _ | _
         ·have D := Lib.hid d
          go_wp2_with go_quiet (fail)
          go_roundw
          case rel => exact ⟨j + 1, by omega, by go_num, Lib.hid (bdrew HW3.out), Lib.hid (fun i hi => by
           rcases Nat.lt_or_ge i j with h | h
           ·exact HE.out i h
           ·obtain rfl : i = j := by omega
            rw [HA.out, HC.out, bne_eq_false_iff_eq.1 D.out])⟩
          case measure => simp [intOf]; omega
         ·go_wp2_with go_quiet (fail)
          go_ret
          exact ⟨⟨false, rfl, fun h => by cases h⟩, HBw.out.trans ((bdrew HW3.out).mono HBw.out.size)⟩
        ·have HF2 : Hid (AhF g x n) := Lib.hid ⟨(fun a ha => by
          obtain ⟨i, hi⟩ := List.mem_iff_getElem?.1 ha
          have hil : i < x.ahead.length := by
           rcases Nat.lt_or_ge i x.ahead.length with q | q
           ·exact q
           ·rw [List.getElem?_eq_none q] at hi; cases hi
          have := HE.out i (by have := HLL.out; omega)
          rw [hi] at this
          exact (HRg.out a (List.mem_of_getElem? this)).1), (fun h => absurd h (by omega))⟩
         go_wp2_with fail
         go_ret
         exact ⟨⟨true, rfl, fun _ => HF2.out⟩, HBw.out.trans (HW3.out.mono HBw.out.size)⟩
    ·have b1 : ((l.length : Int) != (x.ahead.length : Int)) = true := by simp; omega
     clear hll
     go_wp2_with fail
     go_ret
     exact ⟨⟨false, rfl, fun h => by cases h⟩, HBw.out⟩
end Go.Proofs.YtkmfdiboekoioaaGreat

/- Numbers of nodes that are not there yet are laid behind a list, as the reference 21 has it. Conditions: a list of the caller's own, a slice that the lengthening keeps. -/
namespace Go.Proofs.YtkmfdiboekoioaaGreat
open Go.RowKit
theorem grown_trans2 {a b c : World} {r r' : Option Nat} (h : a.grownBy b r) (k : b.grownBy c r') (hr : ∀ x, r' = some x → r = some x ∨ a.heap.size ≤ x) : a.grownBy c r :=
 ⟨k.os.trans h.os, k.tape.trans h.tape, k.output.trans h.output, Nat.le_trans h.size k.size, fun i hi hn => (k.block i (Nat.lt_of_lt_of_le hi h.size) (fun e => by
  rcases hr i e.symm with q | q
  ·exact hn q.symm
  ·omega)).trans (h.block i hi hn)⟩
def More21 (w : World) (base : Nat) (lv : Value) (ls : List Int) (e : Ending) (w' : World) : Prop :=
 ∃ u, e = .returned u ∧ OwnInts w' base u ls ∧ w.grownBy w' lv.ownBlock ∧ (u.ownBlock = lv.ownBlock ∨ ∃ q, u.ownBlock = some q ∧ w.heap.size ≤ q)
set_option maxRecDepth 100000 in
set_option maxHeartbeats 8000000 in
theorem more21_any (w : World) (base : Nat) (xv : GVals) (g : GraphP) (lv mv : Value) (l m : List Int) (hg : NodesV w w.heap.size xv.vn g.nodes) (hl : OwnInts w base lv l) (hb : base ≤ w.heap.size) (hlen : l.length + m.length ≤ 10000000)
  (hm : ∀ wr, w.grownBy wr lv.ownBlock → IntsV wr wr.heap.size mv m) :
  Calls Tryz.prog 123 #[gval g xv, lv, mv] w (More21 w base lv (moreP g.nodes.length l m)) := by
 have HM := Lib.hid hm; have HL := Lib.hid hl
 obtain ⟨vn, vb, vs⟩ := xv
 obtain ⟨An, cn, en, _, hln, _⟩ := hg
 simp only at en
 subst en
 have hln2 : g.nodes.length ≤ 17592186044416 := by unfold lim at hln; omega
 obtain ⟨Am, cm, rfl, _, _, _⟩ := hm w (World.grownBy.refl _ _)
 obtain ⟨i0, hi, hz0, hz1, hz2⟩ := info_parts int_info
 have ee : gval g ⟨.slice An g.nodes.length cn, vb, vs⟩ = .agg #[.int .i64 g.fn, .int .i64 g.pc, .int .i64 g.slots, .slice An g.nodes.length cn, vb, vs] := rfl
 have E0 := Lib.hid ee
 obtain ⟨w1, hw1⟩ : ∃ w1, w1 = w.alloc (.cells #[.int .i64 g.fn, .int .i64 g.pc, .int .i64 g.slots, .slice An g.nodes.length cn, vb, vs] 28) := ⟨_, rfl⟩
 have HK1 : Hid (Blk w1 w.heap.size 28 #[.int .i64 g.fn, .int .i64 g.pc, .int .i64 g.slots, .slice An g.nodes.length cn, vb, vs]) := Lib.hid (by rw [hw1]; exact Blk.new _ _ _)
 have HG1 : Hid (w.grownBy w1 lv.ownBlock) := Lib.hid (by rw [hw1]; exact World.grownBy_alloc _ _ _)
 have HO1 : Hid (OwnInts w1 base lv l) := Lib.hid (by rw [hw1]; exact World.ownsRow.alloc hl _)
 clear hm hl hln ee
 rw [E0.out]
 go_enter Tryz.func123, Tryz.ntmps123
 go_upto_region 1 with fail
 rw [← hw1]
 clear hw1
 go_wp2_with fail
 go_loopw [1, 7] (fun u t wr => ∃ (k : Nat) (u' : Value), u = u' ∧ k ≤ m.length ∧ t = .int .i64 k ∧ Hid (OwnInts wr base u' (moreP g.nodes.length l (m.take k))) ∧ Hid (w.grownBy wr lv.ownBlock) ∧ Hid (Blk wr w.heap.size 28 #[.int .i64 g.fn, .int .i64 g.pc, .int .i64 g.slots, .slice An g.nodes.length cn, vb, vs]) ∧ Hid (u'.ownBlock = lv.ownBlock ∨ ∃ q, u'.ownBlock = some q ∧ w.heap.size < q)) (fun _ t _ => m.length - (intOf t).toNat)
 case atStart => exact ⟨0, _, rfl, Nat.zero_le _, rfl, HO1, HG1, HK1, Lib.hid (.inl rfl)⟩
 case round =>
  obtain ⟨k, uu, hu1, hk, rfl, HOw, HGr, HKr, HUb⟩ := hrel
  have hu2 := hu1.symm
  subst hu2
  clear hu1
  obtain ⟨wq, rfl⟩ : ∃ wq : World, wq = wr := ⟨_, rfl⟩
  have r3 : wq.cell? ⟨w.heap.size, 3, none⟩ = some (.slice An g.nodes.length cn) := HKr.out.cell 3
  have rl := HKr.out.lt
  have hgs := HGr.out.size
  have hlm := moreP_len g.nodes.length (m.take k) l
  rw [List.length_take] at hlm
  by_cases hlt : k < m.length
  ·obtain ⟨b, off, rfl, hbB, hp⟩ := (HM.out wq HGr.out).cells hlt
   obtain ⟨x, hx⟩ := rget hlt
   have c0 := hp k x hx
   have HX := Lib.hid hx
   clear hp hx
   have HC : Hid (∀ n, Calls Tryz.prog 149 #[uu, .int .i64 x] (wq.drewN n) (fun e w' => e = .returned (.bool (decide (x ∈ moreP g.nodes.length l (m.take k)))) ∧ w' = wq.drewN n)) := Lib.hid (fun n => has21_any (wq.drewN n) uu _ x ((HOw.out.ints (by unfold lim; omega)).keep (fun _ _ => rfl)))
   rcases d1 : decide (0 ≤ x) with _ | _
   ·have D1 := Lib.hid d1
    go_wp2_with go_quiet (fail)
    go_roundw
    case rel => exact ⟨k + 1, _, rfl, by omega, by go_num, Lib.hid (by rw [moreP_take HX.out, if_neg (fun h => of_decide_eq_false D1.out h.1)]; exact HOw.out), Lib.hid ⟨HGr.out.os, HGr.out.tape, HGr.out.output, HGr.out.size, HGr.out.block⟩, Lib.hid HKr.out, HUb⟩
    case measure => simp [intOf]; omega
   ·rcases d2 : decide (x < (g.nodes.length : Int)) with _ | _
    ·have D2 := Lib.hid d2
     go_wp2_with go_quiet (fail)
     go_roundw
     case rel => exact ⟨k + 1, _, rfl, by omega, by go_num, Lib.hid (by rw [moreP_take HX.out, if_neg (fun h => of_decide_eq_false D2.out h.2.1)]; exact HOw.out), Lib.hid ⟨HGr.out.os, HGr.out.tape, HGr.out.output, HGr.out.size, HGr.out.block⟩, Lib.hid HKr.out, HUb⟩
     case measure => simp [intOf]; omega
    ·rcases d3 : decide (x ∈ moreP g.nodes.length l (m.take k)) with _ | _
     ·have D1 := Lib.hid d1; have D2 := Lib.hid d2; have D3 := Lib.hid d3
      have HC0 : Hid (∀ n, Calls Tryz.prog 149 #[uu, .int .i64 x] (wq.drewN n) (fun e w' => e = .returned (.bool false) ∧ w' = wq.drewN n)) := Lib.hid (fun n => by have := HC.out n; rw [D3.out] at this; exact this)
      clear d3
      go_upto_region 5 with go_quiet ((go_at_call 149; exact (HC0.out _).mono (fun e w'' h => ⟨h.1, _, h.2⟩)))
      obtain ⟨wd, hwd⟩ : ∃ wd, wd = wq.drewN nq := ⟨_, rfl⟩
      have HOd : Hid (OwnInts wd base uu (moreP g.nodes.length l (m.take k))) := Lib.hid (by rw [hwd]; exact HOw.out)
      have HGd : Hid (w.grownBy wd lv.ownBlock) := Lib.hid (by rw [hwd]; exact ⟨HGr.out.os, HGr.out.tape, HGr.out.output, HGr.out.size, HGr.out.block⟩)
      have HKd : Hid (Blk wd w.heap.size 28 #[.int .i64 g.fn, .int .i64 g.pc, .int .i64 g.slots, .slice An g.nodes.length cn, vb, vs]) := Lib.hid (by rw [hwd]; exact HKr.out)
      have nd : wd.cell? ⟨b, off + k, none⟩ = some (.int .i64 x) := by rw [hwd]; exact c0
      have hds : w.heap.size < wd.heap.size := HKd.out.lt
      rw [← hwd]
      clear hwd c0 r3 rl hgs
      go_wp2_with (at_builtin; refine wpList_append_own_at _ rfl (.tmp 38) (.tmp 43) 34 rfl base 3 i0 (.int .i64 0) 1 8 Tryz.underlying34 hi hz0 hz1 hz2 rfl (by decide) _ _ _ rfl (World.ownsRow.alloc HOd.out _) ⟨wd.heap.size, 0, none⟩ 1 1 [.int .i64 x] rfl rfl (cell_one_new _ _ _) (ints_oneCell .i64 [x]) (by unfold maxLen; omega) (by omega) (by simp; omega) ?_; intro v' w5 hown' hgrow _ hblk)
      have hne : ∀ q, uu.ownBlock = some q → lv.ownBlock = some q ∨ w.heap.size < q := fun q hq => by
       rcases HUb.out with h | ⟨q', h1, h2⟩
       ·exact .inl (h ▸ hq)
       ·rw [h1] at hq; injection hq with hq; exact .inr (hq ▸ h2)
      have hlv : ∀ q, lv.ownBlock = some q → q < w.heap.size := fun q hq => (World.ownsRow.lt HL.out q hq).2
      have HNe := Lib.hid hne; have HLv := Lib.hid hlv; have HBk := Lib.hid hblk; have HGw := Lib.hid hgrow; have HOn := Lib.hid hown'
      clear hne hlv hblk hgrow hown'
      go_roundw
      case rel => exact ⟨k + 1, _, rfl, by omega, by go_num, Lib.hid (by rw [moreP_take HX.out, if_pos ⟨of_decide_eq_true D1.out, of_decide_eq_true D2.out, of_decide_eq_false D3.out⟩]; exact OwnInts.snoc HOn.out), Lib.hid (grown_trans2 (grown_trans2 HGd.out (World.grownBy_alloc wd _ none) (fun _ h => by cases h)) HGw.out (fun q hq => (HNe.out q hq).imp id (fun h => Nat.le_of_lt h))), Lib.hid ((HKd.out.alloc _).grown HGw.out (fun e => by
        rcases HNe.out _ e.symm with h | h
        ·exact absurd (HLv.out _ h) (Nat.lt_irrefl _)
        ·exact absurd h (Nat.lt_irrefl _))), Lib.hid (by
        rcases HBk.out with h | h
        ·rcases HUb.out with h2 | h2
         ·exact .inl (h.trans h2)
         ·exact .inr (h ▸ h2)
        ·exact .inr ⟨_, h, by simp; omega⟩)⟩
      case measure => simp [intOf]; omega
     ·have D3 := Lib.hid d3
      have HC0 : Hid (∀ n, Calls Tryz.prog 149 #[uu, .int .i64 x] (wq.drewN n) (fun e w' => e = .returned (.bool true) ∧ w' = wq.drewN n)) := Lib.hid (fun n => by have := HC.out n; rw [D3.out] at this; exact this)
      clear d3
      go_wp2_with go_quiet ((go_at_call 149; exact (HC0.out _).mono (fun e w'' h => ⟨h.1, _, h.2⟩)))
      go_roundw
      case rel => exact ⟨k + 1, _, rfl, by omega, by go_num, Lib.hid (by rw [moreP_take HX.out, if_neg (fun h => h.2.2 (of_decide_eq_true D3.out))]; exact HOw.out), Lib.hid ⟨HGr.out.os, HGr.out.tape, HGr.out.output, HGr.out.size, HGr.out.block⟩, Lib.hid HKr.out, HUb⟩
      case measure => simp [intOf]; omega
  ·go_wp2_with fail
   go_ret
   refine ⟨_, rfl, by have := HOw.out; rwa [List.take_of_length_le (by omega)] at this, HGr.out, ?_⟩
   rcases HUb.out with h | ⟨q, h1, h2⟩
   ·exact .inl h
   ·exact .inr ⟨q, h1, by omega⟩
end Go.Proofs.YtkmfdiboekoioaaGreat
