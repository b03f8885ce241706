/- What is used in a block, as the reference 20 has it. Conditions: a small graph that lies in memory. -/
import Derived.Test.YtkmfdiboekoioaaGreatCRfRow
import Derived.Test.YtkmfdiboekoioaaGreatCLivePure
import Derived.Laws.MakeOwn
import Derived.Test.YtkmfdiboekoioaaGreatCRfGrow
set_option linter.unusedSimpArgs false
set_option linter.unusedVariables false
namespace Go.Proofs.YtkmfdiboekoioaaGreat
open Go.RowKit
theorem bool_info : (Tryz.prog.info? 4).map (fun i => (i.zero, i.size, i.bytes)) = some (some (.bool false), 1, 1) := by kernel_rfl
/-- The memory: a row, a graph's box, other boxes. -/
structure U20M (w : World) (xv : GVals) (g : GraphP) (xb : Nat) (xc : Array Value) (L : List (Value × List Int)) (rb : Nat) (p : ISet) (wr : World) : Prop where
 gr : GCtx wr w.heap.size w.heap.size xv g
 xb_ : Blk wr xb 41 xc
 row : BRow wr rb g.nodes.length p
 low : Below w.heap.size w wr
 rb_ : w.heap.size < rb
 ne : xb ≠ rb
 ints : ∀ v l, (v, l) ∈ L → IntsV wr w.heap.size v l
section
variable {w : World} {xv : GVals} {g : GraphP} {xb : Nat} {xc : Array Value} {L : List (Value × List Int)} {rb : Nat} {p q : ISet} {wr w2 : World}
theorem U20M.below (h : U20M w xv g xb xc L rb p wr) (hb : Below wr.heap.size wr w2) : U20M w xv g xb xc L rb p w2 :=
 ⟨h.gr.below hb, h.xb_.below hb h.xb_.lt, h.row.below hb h.row.lt, h.low.trans (hb.mono h.low.size), h.rb_, h.ne, fun v l hm => (h.ints v l hm).keep (Same.of_below (hb.mono h.low.size))⟩
theorem U20M.drewN (h : U20M w xv g xb xc L rb p wr) {n : Nat} : U20M w xv g xb xc L rb p (wr.drewN n) := h.below (bdrew (Below.refl _ _))
theorem U20M.put (h : U20M w xv g xb xc L rb p wr) (hr : BRow w2 rb g.nodes.length q) (hg : wr.grownBy w2 (some rb)) : U20M w xv g xb xc L rb q w2 :=
 ⟨⟨h.gr.gr.keep (Same.of_grown hg h.low.size (Nat.le_of_lt h.rb_)), Nat.le_trans h.low.size hg.size, h.gr.box.grown hg (fun e => by injection e with e; have := h.rb_; omega)⟩, h.xb_.grown hg (fun e => by injection e with e; exact h.ne e), hr,
  h.low.grown hg h.low.size (fun k e => by injection e with e; have := h.rb_; omega), h.rb_, h.ne, fun v l hm => (h.ints v l hm).keep (Same.of_grown hg h.low.size (Nat.le_of_lt h.rb_))⟩
end
theorem nodes_at {w : World} {B b off n c : Nat} {l : List NodeP} (h : NodesV w B (.slice (some ⟨b, off, none⟩) n c) l) {k : Nat} {y : NodeP} (hy : l[k]? = some y) : b < B ∧ NodeAt w B b (off + k * 5) y := by
 obtain ⟨A, c', e, _, _, h⟩ := h
 injection e with e1 e2 e3
 obtain ⟨b', o', e4, hb, h⟩ := h (by have := (List.getElem?_eq_some_iff.1 hy).1; omega)
 rw [← e1] at e4
 injection e4 with e4
 injection e4 with e4 e5
 subst e4 e5
 exact ⟨hb, h k y hy⟩
def usedP (g : GraphP) (x : BlockP) : ISet := ((x.nodes.foldl (nodeUse g) ISet.empty).add g.nodes.length x.args).add g.nodes.length (slotsOf g x.state)
def Used20 (g : GraphP) (x : BlockP) (w : World) (e : Ending) (w' : World) : Prop := ∃ rb, e = .returned (.slice (some ⟨rb, 0, none⟩) g.nodes.length g.nodes.length) ∧ w.heap.size ≤ rb ∧ BRow w' rb g.nodes.length (usedP g x) ∧ Below w.heap.size w w'
set_option maxRecDepth 100000 in
set_option maxHeartbeats 8000000 in
theorem used20_any (w : World) (xv : GVals) (g : GraphP) (o : Nat) (x : BlockP) (hg : GraphV w w.heap.size xv g) (hs : Small g) (hx : g.blocks[o]? = some x) :
  Calls Tryz.prog 148 #[gval g xv, .int .i64 (o : Int)] w (Used20 g x w) := by
 have HG := Lib.hid hg
 obtain ⟨vn, vb, vs⟩ := xv
 obtain ⟨⟨An, cn, en, _, hln, _⟩, ⟨Ab, cb, eb, _, hlb, hqb⟩, ⟨As, cs, es, _⟩⟩ := hg
 simp only at en eb es
 subst en eb es
 have hol : o < g.blocks.length := (List.getElem?_eq_some_iff.1 hx).1
 obtain ⟨bb, ob, rfl, hbb, hqb⟩ := hqb (by omega)
 obtain ⟨l1, l2, l3⟩ := hs.lens
 obtain ⟨m1, m2, m3, m4⟩ := hs.block hx
 have ee : gval g ⟨.slice An g.nodes.length cn, .slice (some ⟨bb, ob, none⟩) g.blocks.length cb, .slice As g.states.length cs⟩ = .agg #[.int .i64 g.fn, .int .i64 g.pc, .int .i64 g.slots, .slice An g.nodes.length cn, .slice (some ⟨bb, ob, none⟩) g.blocks.length cb, .slice As g.states.length cs] := rfl
 have E0 := Lib.hid ee; clear ee
 obtain ⟨i1, hi1, hy0, hy1, hy2⟩ := info_parts bool_info
 have hmk := fun W : World => run_make (P := Tryz.prog) W 168 4 i1 (.bool false) Tryz.underlying168 hi1 hy0 .i64 .i64 (g.nodes.length : Int) (g.nodes.length : Int) (by omega) (Int.le_refl _) (by rw [hy2]; omega) (by omega)
 simp only [hy1, Int.toNat_natCast, Value.cells, Nat.mul_one, bcells_made] at hmk
 obtain ⟨w0, hw0⟩ : ∃ w0, w0 = w.alloc (.cells #[.int .i64 g.fn, .int .i64 g.pc, .int .i64 g.slots, .slice An g.nodes.length cn, .slice (some ⟨bb, ob, none⟩) g.blocks.length cb, .slice As g.states.length cs] 28) := ⟨_, rfl⟩
 have HB0 : Hid (Below w.heap.size w w0) := Lib.hid (by rw [hw0]; exact (Below.refl _ _).alloc (Nat.le_refl _) _)
 have hc0 : GCtx w0 w.heap.size w.heap.size ⟨.slice An g.nodes.length cn, .slice (some ⟨bb, ob, none⟩) g.blocks.length cb, .slice As g.states.length cs⟩ g := ⟨HG.out.keep (Same.of_below HB0.out), HB0.out.size, by rw [hw0]; exact Blk.new _ _ _⟩
 obtain ⟨wm, hwm⟩ : ∃ wm, wm = w0.alloc (.cells (bcells g.nodes.length ISet.empty) 4) := ⟨_, rfl⟩
 have hbm : Below w0.heap.size w0 wm := by rw [hwm]; exact (Below.refl _ _).alloc (Nat.le_refl _) _
 have hrow : BRow wm w0.heap.size g.nodes.length ISet.empty := by rw [hwm]; exact Blk.new _ _ _
 have hcm := hc0.below hbm
 obtain ⟨⟨v0, f0, hv0⟩, f1, ⟨v2, f2, hv2⟩, ⟨v3, f3, hv3⟩, ⟨v4, f4, hv4⟩, f5⟩ := ((hqb o x hx).keep (Same.of_below HB0.out) hbb).keep (Same.of_below (hbm.mono HB0.out.size)) hbb
 have HV0 := Lib.hid hv0; have HV2 := Lib.hid hv2
 obtain ⟨A0, c0, rfl, _, _, _⟩ := hv0
 obtain ⟨A2, c2, rfl, _, _, _⟩ := hv2
 obtain ⟨A3, c3, rfl, _, _, _⟩ := hv3
 obtain ⟨A4, c4, rfl, _, _, _⟩ := hv4
 obtain ⟨w1, hw1⟩ : ∃ w1, w1 = wm.alloc (.cells #[.slice A0 x.nodes.length c0, .int .u8 x.fin, .slice A2 x.args.length c2, .slice A3 x.next.length c3, .slice A4 x.ahead.length c4, .int .i64 x.state] 41) := ⟨_, rfl⟩
 have hb1 : Below wm.heap.size wm w1 := by rw [hw1]; exact (Below.refl _ _).alloc (Nat.le_refl _) _
 have hz0' : w.heap.size < w0.heap.size := hc0.lt
 have hzm' : w0.heap.size < wm.heap.size := hrow.lt
 have HM1 : Hid (U20M w ⟨.slice An g.nodes.length cn, .slice (some ⟨bb, ob, none⟩) g.blocks.length cb, .slice As g.states.length cs⟩ g wm.heap.size #[.slice A0 x.nodes.length c0, .int .u8 x.fin, .slice A2 x.args.length c2, .slice A3 x.next.length c3, .slice A4 x.ahead.length c4, .int .i64 x.state] [(.slice A0 x.nodes.length c0, x.nodes), (.slice A2 x.args.length c2, x.args)] w0.heap.size ISet.empty w1) :=
  Lib.hid ⟨hcm.below hb1, by rw [hw1]; exact Blk.new _ _ _, hrow.below hb1 hrow.lt, HB0.out.trans ((hbm.trans (hb1.mono hbm.size)).mono HB0.out.size), hz0', Nat.ne_of_gt hzm', fun v l hm => by
   rcases List.mem_cons.1 hm with e | hm
   ·injection e with e1 e2; subst e1 e2
    exact HV0.out.keep (Same.of_below (hb1.mono (by omega)))
   ·simp only [List.mem_singleton] at hm
    injection hm with e1 e2; subst e1 e2
    exact HV2.out.keep (Same.of_below (hb1.mono (by omega)))⟩
 have HX := Lib.hid hx
 have q3 : w0.cell? ⟨w.heap.size, 3, none⟩ = some (.slice An g.nodes.length cn) := hc0.box.cell 3
 have ql := hc0.lt
 have q4 : wm.cell? ⟨w.heap.size, 4, none⟩ = some (.slice (some ⟨bb, ob, none⟩) g.blocks.length cb) := hcm.box.cell 4
 have qm := hcm.lt
 have HZ0 := Lib.hid hz0'; have HZm := Lib.hid hzm'
 have HSm : Hid (Same w.heap.size wm w1) := Lib.hid (Same.of_below (hb1.mono (by omega)))
 clear hc0 hcm hb1 hbm hrow hqb hlb hln hx hz0' hzm'
 rw [E0.out]
 go_enter Tryz.func148, Tryz.ntmps148
 go_upto_region 1 with fail
 rw [← hw0]
 clear hw0
 go_upto_region 2 with fail
 rw [← hwm]
 clear hwm hmk q3 ql
 go_upto_region 3 with fail
 rw [← hw1]
 clear hw1 q4 qm f0 f1 f2 f3 f4 f5
 obtain ⟨rb, hrb⟩ : ∃ rb, rb = w0.heap.size := ⟨_, rfl⟩
 obtain ⟨xb, hxb⟩ : ∃ xb, xb = wm.heap.size := ⟨_, rfl⟩
 rw [← hrb, ← hxb] at HM1 ⊢
 clear hrb hxb
 have HA : Hid (∀ wr p l v, U20M w ⟨.slice An g.nodes.length cn, .slice (some ⟨bb, ob, none⟩) g.blocks.length cb, .slice As g.states.length cs⟩ g xb #[.slice A0 x.nodes.length c0, .int .u8 x.fin, .slice A2 x.args.length c2, .slice A3 x.next.length c3, .slice A4 x.ahead.length c4, .int .i64 x.state] [(.slice A0 x.nodes.length c0, x.nodes), (.slice A2 x.args.length c2, x.args)] rb p wr → IntsV wr wr.heap.size v l →
   Calls Tryz.prog 146 #[.agg #[.int .i64 g.fn, .int .i64 g.pc, .int .i64 g.slots, .slice An g.nodes.length cn, .slice (some ⟨bb, ob, none⟩) g.blocks.length cb, .slice As g.states.length cs], .slice (some ⟨rb, 0, none⟩) g.nodes.length g.nodes.length, v] wr (fun e w' => e = .returned (.tuple #[]) ∧ U20M w ⟨.slice An g.nodes.length cn, .slice (some ⟨bb, ob, none⟩) g.blocks.length cb, .slice As g.states.length cs⟩ g xb #[.slice A0 x.nodes.length c0, .int .u8 x.fin, .slice A2 x.args.length c2, .slice A3 x.next.length c3, .slice A4 x.ahead.length c4, .int .i64 x.state] [(.slice A0 x.nodes.length c0, x.nodes), (.slice A2 x.args.length c2, x.args)] rb (p.add g.nodes.length l) w')) := Lib.hid (fun wr p l v hm hv => by
  have := add20_any wr ⟨.slice An g.nodes.length cn, .slice (some ⟨bb, ob, none⟩) g.blocks.length cb, .slice As g.states.length cs⟩ g rb p v l hm.gr.graph.1 hm.row hv
  rw [E0.out] at this
  exact this.mono (fun e w' h => ⟨h.1, hm.put h.2.1 h.2.2⟩))
 have HSl : Hid (∀ wr p s, U20M w ⟨.slice An g.nodes.length cn, .slice (some ⟨bb, ob, none⟩) g.blocks.length cb, .slice As g.states.length cs⟩ g xb #[.slice A0 x.nodes.length c0, .int .u8 x.fin, .slice A2 x.args.length c2, .slice A3 x.next.length c3, .slice A4 x.ahead.length c4, .int .i64 x.state] [(.slice A0 x.nodes.length c0, x.nodes), (.slice A2 x.args.length c2, x.args)] rb p wr →
   Calls Tryz.prog 150 #[.agg #[.int .i64 g.fn, .int .i64 g.pc, .int .i64 g.slots, .slice An g.nodes.length cn, .slice (some ⟨bb, ob, none⟩) g.blocks.length cb, .slice As g.states.length cs], .int .i64 s] wr (fun e w' => ∃ v, e = .returned v ∧ IntsV w' w'.heap.size v (slotsOf g s) ∧ U20M w ⟨.slice An g.nodes.length cn, .slice (some ⟨bb, ob, none⟩) g.blocks.length cb, .slice As g.states.length cs⟩ g xb #[.slice A0 x.nodes.length c0, .int .u8 x.fin, .slice A2 x.args.length c2, .slice A3 x.next.length c3, .slice A4 x.ahead.length c4, .int .i64 x.state] [(.slice A0 x.nodes.length c0, x.nodes), (.slice A2 x.args.length c2, x.args)] rb p w' ∧ Below wr.heap.size wr w')) := Lib.hid (fun wr p s hm => by
  have := slots20_any wr wr.heap.size ⟨.slice An g.nodes.length cn, .slice (some ⟨bb, ob, none⟩) g.blocks.length cb, .slice As g.states.length cs⟩ g s hm.gr.graph (Nat.le_refl _)
  rw [E0.out] at this
  exact this.mono (fun e w' h => by
   obtain ⟨v, h1, h2, h3⟩ := h
   exact ⟨v, h1, IntsV.later h2 h3 (Nat.le_refl _), hm.below h3, h3⟩))
 go_wp2_with fail
 go_loopw [7] (fun i wr => ∃ k : Nat, k ≤ x.nodes.length ∧ i = .int .i64 k ∧ Hid (U20M w ⟨.slice An g.nodes.length cn, .slice (some ⟨bb, ob, none⟩) g.blocks.length cb, .slice As g.states.length cs⟩ g xb #[.slice A0 x.nodes.length c0, .int .u8 x.fin, .slice A2 x.args.length c2, .slice A3 x.next.length c3, .slice A4 x.ahead.length c4, .int .i64 x.state] [(.slice A0 x.nodes.length c0, x.nodes), (.slice A2 x.args.length c2, x.args)] rb (usesTo g x ISet.empty k) wr)) (fun i _ => x.nodes.length - (intOf i).toNat)
 case atStart => exact ⟨0, Nat.zero_le _, rfl, HM1⟩
 case round =>
  obtain ⟨k, hk, rfl, HM⟩ := hrel
  obtain ⟨wo, rfl⟩ : ∃ wo : World, wo = wr := ⟨_, rfl⟩
  obtain ⟨q0, q1, q2, q3, q4, q5⟩ := HM.out.gr.cells
  have ql := HM.out.gr.lt
  simp only at q3 q4 q5
  have p0 : wo.cell? ⟨xb, 0, none⟩ = some (.slice A0 x.nodes.length c0) := HM.out.xb_.cell 0
  have pl := HM.out.xb_.lt
  by_cases hlt : k < x.nodes.length
  ·obtain ⟨bn, on, e1, _, hpn⟩ := (HM.out.ints (.slice A0 x.nodes.length c0) x.nodes (by simp)).cells hlt
   subst e1
   obtain ⟨z, hz⟩ := getE hlt
   have e0 := hpn k z hz
   have HZ := Lib.hid hz
   clear hz hpn
   rcases d1 : decide (z < 0) with _ | _
   rotate_left
   ·have D1 := Lib.hid d1
    go_wp2_with fail
    go_roundw
    case rel => exact ⟨k + 1, by omega, by go_num, Lib.hid (by rw [usesTo_step g x _ k z HZ.out, nodeUse_none (nodeAt_neg (of_decide_eq_true D1.out))]; exact HM.out)⟩
    case measure => simp [intOf]; omega
   ·obtain ⟨zk, rfl⟩ : ∃ m : Nat, z = (m : Int) := ⟨z.toNat, by have := of_decide_eq_false d1; omega⟩
    rcases d2 : decide (g.nodes.length ≤ zk) with _ | _
    rotate_left
    ·have D2 := Lib.hid d2
     go_wp2_with fail
     go_roundw
     case rel => exact ⟨k + 1, by omega, by go_num, Lib.hid (by rw [usesTo_step g x _ k _ HZ.out, nodeUse_none ((nodeAt_nat g zk).trans (List.getElem?_eq_none (of_decide_eq_true D2.out)))]; exact HM.out)⟩
     case measure => simp [intOf]; omega
    ·have h1 : zk < g.nodes.length := by have := of_decide_eq_false d2; omega
     obtain ⟨Am, cm, em, _, _, hqn⟩ := HM.out.gr.gr.1
     obtain ⟨bm, offm, em2, hbmB, hqn⟩ := hqn (by omega)
     simp only at em
     injection em with em3 em4 em5
     rw [em2] at em3
     subst em3
     obtain ⟨y, hy⟩ := getE h1
     obtain ⟨g0, ⟨vg, g1, hvg⟩, _, _, g4⟩ := hqn zk y hy
     have HVG := Lib.hid hvg
     obtain ⟨Ag, cg, rfl, _, _, _⟩ := hvg
     have m5 := hs.node hy
     have HY := Lib.hid hy
     clear hy hqn em4 em5 em2
     rcases ho : (y.op == 2) with _ | _
     rotate_left
     ·have HO := Lib.hid ho
      go_wp2_with fail
      go_roundw
      case rel => exact ⟨k + 1, by omega, by go_num, Lib.hid (by rw [usesTo_step g x _ k _ HZ.out, nodeUse_phi ((nodeAt_nat g zk).trans HY.out) (by simpa using HO.out)]; exact HM.out)⟩
      case measure => simp [intOf]; omega
     ·have HO := Lib.hid ho
      have HBm := Lib.hid hbmB
      have G4 := Lib.hid g4
      have HAd1 : Hid (∀ n, Calls Tryz.prog 146 #[.agg #[.int .i64 g.fn, .int .i64 g.pc, .int .i64 g.slots, .slice (some ⟨bm, offm, none⟩) g.nodes.length cn, .slice (some ⟨bb, ob, none⟩) g.blocks.length cb, .slice As g.states.length cs], .slice (some ⟨rb, 0, none⟩) g.nodes.length g.nodes.length, .slice Ag y.args.length cg] (wo.drewN n) _) := Lib.hid (fun n => HA.out (wo.drewN n) _ y.args _ HM.out.drewN (IntsV.later HVG.out (bdrew (Below.refl _ _)) HM.out.low.size))
      go_upto_region 9 with (go_region_with (go_at_call 146; refine (HAd1.out _).mono ?_; rintro e w6 ⟨rfl, hm6⟩; have HM6 := Lib.hid hm6; have r4n := (nodes_at hm6.gr.gr.1 HY.out).2.2.2.2.2; obtain ⟨r0, r1, r2, r3, r4, r5⟩ := hm6.gr.cells; simp only at r3 r4 r5; have rl := hm6.gr.lt; clear hm6))
      all_goals
       clear q0 q1 q2 q3 q4 q5 ql p0 pl e0 g0 g1 g4 hbmB d1 d2 ho
       have HS6 : Hid ((fun W : World => W.cell? ⟨w.heap.size, 0, none⟩ = some (.int .i64 g.fn) ∧ W.cell? ⟨w.heap.size, 1, none⟩ = some (.int .i64 g.pc) ∧ W.cell? ⟨w.heap.size, 2, none⟩ = some (.int .i64 g.slots) ∧ W.cell? ⟨w.heap.size, 3, none⟩ = some (.slice (some ⟨bm, offm, none⟩) g.nodes.length cn) ∧ W.cell? ⟨w.heap.size, 4, none⟩ = some (.slice (some ⟨bb, ob, none⟩) g.blocks.length cb) ∧ W.cell? ⟨w.heap.size, 5, none⟩ = some (.slice As g.states.length cs) ∧ W.cell? ⟨bm, offm + zk * 5 + 4, none⟩ = some (.int .i64 y.state)) w6.drew) := Lib.hid ⟨r0, r1, r2, r3, r4, r5, r4n⟩
       clear r0 r1 r2 r3 r4 r5 r4n
       refine wp_region_H2 (fun W : World => W.cell? ⟨w.heap.size, 0, none⟩ = some (.int .i64 g.fn) ∧ W.cell? ⟨w.heap.size, 1, none⟩ = some (.int .i64 g.pc) ∧ W.cell? ⟨w.heap.size, 2, none⟩ = some (.int .i64 g.slots) ∧ W.cell? ⟨w.heap.size, 3, none⟩ = some (.slice (some ⟨bm, offm, none⟩) g.nodes.length cn) ∧ W.cell? ⟨w.heap.size, 4, none⟩ = some (.slice (some ⟨bb, ob, none⟩) g.blocks.length cb) ∧ W.cell? ⟨w.heap.size, 5, none⟩ = some (.slice As g.states.length cs) ∧ W.cell? ⟨bm, offm + zk * 5 + 4, none⟩ = some (.int .i64 y.state)) (by kernel_rfl) HS6.out (fun HSn => ?_)
       clear HSn
       refine wpAnyH_take (i := 0) (oi := _) (v := ?_) rfl (by kernel_rfl) (by kernel_rfl) (by kernel_rfl) (fun _ _ _ h => h) (Or.inl ⟨by rfl, ?_⟩) HS6.out ?_
       rotate_left
       ·intro w hSw; (try dsimp only at hSw); go_simp; (try with_reducible rfl)
       try simp only [Act.put, List.setIfInBounds_toArray, List.set_cons_zero, List.set_cons_succ]
       refine wpAnyH_take (i := 1) (oi := _) (v := ?_) rfl (by kernel_rfl) (by kernel_rfl) (by kernel_rfl) (fun _ _ _ h => h) (Or.inl ⟨by rfl, ?_⟩) HS6.out ?_
       rotate_left
       ·intro w hSw; (try dsimp only at hSw); go_simp; (try with_reducible rfl)
       try simp only [Act.put, List.setIfInBounds_toArray, List.set_cons_zero, List.set_cons_succ]
       refine wpAnyH_take (i := 2) (oi := _) (v := ?_) rfl (by kernel_rfl) (by kernel_rfl) (by kernel_rfl) (fun _ _ _ h => h) (Or.inl ⟨by rfl, ?_⟩) HS6.out ?_
       rotate_left
       ·intro w hSw; (try dsimp only at hSw); go_simp; (try with_reducible rfl)
       try simp only [Act.put, List.setIfInBounds_toArray, List.set_cons_zero, List.set_cons_succ]
       refine wpAnyH_take (i := 3) (oi := _) (v := ?_) rfl (by kernel_rfl) (by kernel_rfl) (by kernel_rfl) (fun _ _ _ h => h) (Or.inl ⟨by rfl, ?_⟩) HS6.out ?_
       rotate_left
       ·intro w hSw; (try dsimp only at hSw); go_simp; (try with_reducible rfl)
       try simp only [Act.put, List.setIfInBounds_toArray, List.set_cons_zero, List.set_cons_succ]
       refine wpAnyH_take (i := 4) (oi := _) (v := ?_) rfl (by kernel_rfl) (by kernel_rfl) (by kernel_rfl) (fun _ _ _ h => h) (Or.inl ⟨by rfl, ?_⟩) HS6.out ?_
       rotate_left
       ·intro w hSw; (try dsimp only at hSw); go_simp; (try with_reducible rfl)
       try simp only [Act.put, List.setIfInBounds_toArray, List.set_cons_zero, List.set_cons_succ]
       refine wpAnyH_take (i := 5) (oi := _) (v := ?_) rfl (by kernel_rfl) (by kernel_rfl) (by kernel_rfl) (fun _ _ _ h => h) (Or.inl ⟨by rfl, ?_⟩) HS6.out ?_
       rotate_left
       ·intro w hSw; (try dsimp only at hSw); go_simp; (try with_reducible rfl)
       try simp only [Act.put, List.setIfInBounds_toArray, List.set_cons_zero, List.set_cons_succ]
       refine wpAnyH_take (i := 6) (oi := _) (v := ?_) rfl (by kernel_rfl) (by kernel_rfl) (by kernel_rfl) (fun _ _ _ h => h) (Or.inl ⟨by rfl, ?_⟩) HS6.out ?_
       rotate_left
       ·intro w hSw; (try dsimp only at hSw); go_simp; (try with_reducible rfl)
       try simp only [Act.put, List.setIfInBounds_toArray, List.set_cons_zero, List.set_cons_succ]
       refine wpAnyH_take (i := 7) (oi := _) (v := ?_) rfl (by kernel_rfl) (by kernel_rfl) (by kernel_rfl) (fun _ _ _ h => h) (Or.inl ⟨by rfl, ?_⟩) HS6.out ?_
       rotate_left
       ·intro w hSw; (try dsimp only at hSw); go_simp; (try with_reducible rfl)
       try simp only [Act.put, List.setIfInBounds_toArray, List.set_cons_zero, List.set_cons_succ]
       refine wpAnyH_take (i := 8) (oi := _) (v := ?_) rfl (by kernel_rfl) (by kernel_rfl) (by kernel_rfl) (fun _ _ _ h => h) (Or.inl ⟨by rfl, ?_⟩) HS6.out ?_
       rotate_left
       ·intro w hSw; (try dsimp only at hSw); go_simp; (try with_reducible rfl)
       try simp only [Act.put, List.setIfInBounds_toArray, List.set_cons_zero, List.set_cons_succ]
       refine wpAnyH_ready (rs := [9]) (by kernel_rfl) (by simp) (AllReadyH.cons (o := _) rfl (fun K hK => ?_) AllReadyH.nil)
       go_simp
       (go_at_call 150; refine (HSl.out w6.drew _ y.state (HM6.out.drewN (n := 1))).mono ?_; rintro e w7 ⟨v7, rfl, hv7, hm7, hb7⟩; have HV7 := Lib.hid hv7; have HM7 := Lib.hid hm7; obtain ⟨t0, t1, t2, t3, t4, t5⟩ := hm7.gr.cells; simp only at t3 t4 t5; have t4n := (nodes_at hm7.gr.gr.1 HY.out).2.2.2.2.2; clear hv7 hm7 hb7)
       try go_wp2_with fail
       have HS7 : Hid ((fun W : World => W.cell? ⟨w.heap.size, 0, none⟩ = some (.int .i64 g.fn) ∧ W.cell? ⟨w.heap.size, 1, none⟩ = some (.int .i64 g.pc) ∧ W.cell? ⟨w.heap.size, 2, none⟩ = some (.int .i64 g.slots) ∧ W.cell? ⟨w.heap.size, 3, none⟩ = some (.slice (some ⟨bm, offm, none⟩) g.nodes.length cn) ∧ W.cell? ⟨w.heap.size, 4, none⟩ = some (.slice (some ⟨bb, ob, none⟩) g.blocks.length cb) ∧ W.cell? ⟨w.heap.size, 5, none⟩ = some (.slice As g.states.length cs) ∧ W.cell? ⟨bm, offm + zk * 5 + 4, none⟩ = some (.int .i64 y.state)) w7) := Lib.hid ⟨t0, t1, t2, t3, t4, t5, t4n⟩
       clear t0 t1 t2 t3 t4 t5 t4n
       refine hK.out _ _ HS7.out (fun HSn => ?_)
       clear hK K HSn
       try simp only [Act.put, List.setIfInBounds_toArray, List.set_cons_zero, List.set_cons_succ]
       refine wpAnyH_ready (rs := [10]) (by kernel_rfl) (by simp) (AllReadyH.cons (o := _) rfl (fun K hK => ?_) AllReadyH.nil)
       go_simp
       (go_at_call 146; (with_reducible refine Calls.mono (HA.out _ _ _ _ HM7.out HV7.out) ?_); rintro e w8 ⟨rfl, hm8⟩; have HM8 := Lib.hid hm8; obtain ⟨t0, t1, t2, t3, t4, t5⟩ := hm8.gr.cells; simp only at t3 t4 t5; have t4n := (nodes_at hm8.gr.gr.1 HY.out).2.2.2.2.2; clear hm8)
       try go_wp2_with fail
       have HS8 : Hid ((fun W : World => W.cell? ⟨w.heap.size, 0, none⟩ = some (.int .i64 g.fn) ∧ W.cell? ⟨w.heap.size, 1, none⟩ = some (.int .i64 g.pc) ∧ W.cell? ⟨w.heap.size, 2, none⟩ = some (.int .i64 g.slots) ∧ W.cell? ⟨w.heap.size, 3, none⟩ = some (.slice (some ⟨bm, offm, none⟩) g.nodes.length cn) ∧ W.cell? ⟨w.heap.size, 4, none⟩ = some (.slice (some ⟨bb, ob, none⟩) g.blocks.length cb) ∧ W.cell? ⟨w.heap.size, 5, none⟩ = some (.slice As g.states.length cs) ∧ W.cell? ⟨bm, offm + zk * 5 + 4, none⟩ = some (.int .i64 y.state)) w8) := Lib.hid ⟨t0, t1, t2, t3, t4, t5, t4n⟩
       clear t0 t1 t2 t3 t4 t5 t4n
       refine hK.out _ _ HS8.out (fun HSn => ?_)
       clear hK K HSn
       try simp only [Act.put, List.setIfInBounds_toArray, List.set_cons_zero, List.set_cons_succ]
       refine wpAnyH_done (by kernel_rfl) ?_ _
       go_wp2_with fail
       go_roundw
       case rel => exact ⟨k + 1, by omega, by go_num, Lib.hid (by rw [usesTo_step g x _ k _ HZ.out, nodeUse_some ((nodeAt_nat g zk).trans HY.out) (by simpa using HO.out)]; exact HM8.out)⟩
       case measure => simp [intOf]; omega
  ·have hkl : k = x.nodes.length := by omega
   have HKl := Lib.hid hkl
   clear hkl
   have p2 : wo.cell? ⟨xb, 2, none⟩ = some (.slice A2 x.args.length c2) := HM.out.xb_.cell 2
   go_upto_region 11 with (go_at_call 146; (with_reducible refine Calls.mono (HA.out _ _ x.args (.slice A2 x.args.length c2) HM.out ((HM.out.ints _ _ (by simp)).mono HM.out.low.size)) ?_); rintro e w6 ⟨rfl, hm6⟩; have HM6 := Lib.hid hm6; obtain ⟨r0, r1, r2, r3, r4, r5⟩ := hm6.gr.cells; simp only at r3 r4 r5; have rs : w6.cell? ⟨xb, 5, none⟩ = some (.int .i64 x.state) := hm6.xb_.cell 5; clear hm6)
   clear q0 q1 q2 q3 q4 q5 ql p0 pl p2
   have HS6 : Hid ((fun W : World => W.cell? ⟨w.heap.size, 0, none⟩ = some (.int .i64 g.fn) ∧ W.cell? ⟨w.heap.size, 1, none⟩ = some (.int .i64 g.pc) ∧ W.cell? ⟨w.heap.size, 2, none⟩ = some (.int .i64 g.slots) ∧ W.cell? ⟨w.heap.size, 3, none⟩ = some (.slice An g.nodes.length cn) ∧ W.cell? ⟨w.heap.size, 4, none⟩ = some (.slice (some ⟨bb, ob, none⟩) g.blocks.length cb) ∧ W.cell? ⟨w.heap.size, 5, none⟩ = some (.slice As g.states.length cs) ∧ W.cell? ⟨xb, 5, none⟩ = some (.int .i64 x.state)) w6.drew) := Lib.hid ⟨r0, r1, r2, r3, r4, r5, rs⟩
   clear r0 r1 r2 r3 r4 r5 rs
   refine wp_region_H2 (fun W : World => W.cell? ⟨w.heap.size, 0, none⟩ = some (.int .i64 g.fn) ∧ W.cell? ⟨w.heap.size, 1, none⟩ = some (.int .i64 g.pc) ∧ W.cell? ⟨w.heap.size, 2, none⟩ = some (.int .i64 g.slots) ∧ W.cell? ⟨w.heap.size, 3, none⟩ = some (.slice An g.nodes.length cn) ∧ W.cell? ⟨w.heap.size, 4, none⟩ = some (.slice (some ⟨bb, ob, none⟩) g.blocks.length cb) ∧ W.cell? ⟨w.heap.size, 5, none⟩ = some (.slice As g.states.length cs) ∧ W.cell? ⟨xb, 5, none⟩ = some (.int .i64 x.state)) (by kernel_rfl) HS6.out (fun HSn => ?_)
   clear HSn
   refine wpAnyH_take (i := 0) (oi := _) (v := ?_) rfl (by kernel_rfl) (by kernel_rfl) (by kernel_rfl) (fun _ _ _ h => h) (Or.inl ⟨by rfl, ?_⟩) HS6.out ?_
   rotate_left
   ·intro w hSw; (try dsimp only at hSw); go_simp; (try with_reducible rfl)
   try simp only [Act.put, List.setIfInBounds_toArray, List.set_cons_zero, List.set_cons_succ]
   refine wpAnyH_take (i := 1) (oi := _) (v := ?_) rfl (by kernel_rfl) (by kernel_rfl) (by kernel_rfl) (fun _ _ _ h => h) (Or.inl ⟨by rfl, ?_⟩) HS6.out ?_
   rotate_left
   ·intro w hSw; (try dsimp only at hSw); go_simp; (try with_reducible rfl)
   try simp only [Act.put, List.setIfInBounds_toArray, List.set_cons_zero, List.set_cons_succ]
   refine wpAnyH_take (i := 2) (oi := _) (v := ?_) rfl (by kernel_rfl) (by kernel_rfl) (by kernel_rfl) (fun _ _ _ h => h) (Or.inl ⟨by rfl, ?_⟩) HS6.out ?_
   rotate_left
   ·intro w hSw; (try dsimp only at hSw); go_simp; (try with_reducible rfl)
   try simp only [Act.put, List.setIfInBounds_toArray, List.set_cons_zero, List.set_cons_succ]
   refine wpAnyH_take (i := 3) (oi := _) (v := ?_) rfl (by kernel_rfl) (by kernel_rfl) (by kernel_rfl) (fun _ _ _ h => h) (Or.inl ⟨by rfl, ?_⟩) HS6.out ?_
   rotate_left
   ·intro w hSw; (try dsimp only at hSw); go_simp; (try with_reducible rfl)
   try simp only [Act.put, List.setIfInBounds_toArray, List.set_cons_zero, List.set_cons_succ]
   refine wpAnyH_take (i := 4) (oi := _) (v := ?_) rfl (by kernel_rfl) (by kernel_rfl) (by kernel_rfl) (fun _ _ _ h => h) (Or.inl ⟨by rfl, ?_⟩) HS6.out ?_
   rotate_left
   ·intro w hSw; (try dsimp only at hSw); go_simp; (try with_reducible rfl)
   try simp only [Act.put, List.setIfInBounds_toArray, List.set_cons_zero, List.set_cons_succ]
   refine wpAnyH_ready (rs := [5]) (by kernel_rfl) (by simp) (AllReadyH.cons (o := _) rfl (fun K hK => ?_) AllReadyH.nil)
   go_simp
   (go_at_call 150; refine (HSl.out w6.drew _ x.state (HM6.out.drewN (n := 1))).mono ?_; rintro e w7 ⟨v7, rfl, hv7, hm7, hb7⟩; have HV7 := Lib.hid hv7; have HM7 := Lib.hid hm7; obtain ⟨t0, t1, t2, t3, t4, t5⟩ := hm7.gr.cells; simp only at t3 t4 t5; have ts : w7.cell? ⟨xb, 5, none⟩ = some (.int .i64 x.state) := hm7.xb_.cell 5; clear hv7 hm7 hb7)
   try go_wp2_with fail
   have HS7 : Hid ((fun W : World => W.cell? ⟨w.heap.size, 0, none⟩ = some (.int .i64 g.fn) ∧ W.cell? ⟨w.heap.size, 1, none⟩ = some (.int .i64 g.pc) ∧ W.cell? ⟨w.heap.size, 2, none⟩ = some (.int .i64 g.slots) ∧ W.cell? ⟨w.heap.size, 3, none⟩ = some (.slice An g.nodes.length cn) ∧ W.cell? ⟨w.heap.size, 4, none⟩ = some (.slice (some ⟨bb, ob, none⟩) g.blocks.length cb) ∧ W.cell? ⟨w.heap.size, 5, none⟩ = some (.slice As g.states.length cs) ∧ W.cell? ⟨xb, 5, none⟩ = some (.int .i64 x.state)) w7) := Lib.hid ⟨t0, t1, t2, t3, t4, t5, ts⟩
   clear t0 t1 t2 t3 t4 t5 ts
   refine hK.out _ _ HS7.out (fun HSn => ?_)
   clear hK K HSn
   try simp only [Act.put, List.setIfInBounds_toArray, List.set_cons_zero, List.set_cons_succ]
   refine wpAnyH_ready (rs := [6]) (by kernel_rfl) (by simp) (AllReadyH.cons (o := _) rfl (fun K hK => ?_) AllReadyH.nil)
   go_simp
   (go_at_call 146; (with_reducible refine Calls.mono (HA.out _ _ _ _ HM7.out HV7.out) ?_); rintro e w8 ⟨rfl, hm8⟩; have HM8 := Lib.hid hm8; obtain ⟨t0, t1, t2, t3, t4, t5⟩ := hm8.gr.cells; simp only at t3 t4 t5; have ts : w8.cell? ⟨xb, 5, none⟩ = some (.int .i64 x.state) := hm8.xb_.cell 5; clear hm8)
   try go_wp2_with fail
   have HS8 : Hid ((fun W : World => W.cell? ⟨w.heap.size, 0, none⟩ = some (.int .i64 g.fn) ∧ W.cell? ⟨w.heap.size, 1, none⟩ = some (.int .i64 g.pc) ∧ W.cell? ⟨w.heap.size, 2, none⟩ = some (.int .i64 g.slots) ∧ W.cell? ⟨w.heap.size, 3, none⟩ = some (.slice An g.nodes.length cn) ∧ W.cell? ⟨w.heap.size, 4, none⟩ = some (.slice (some ⟨bb, ob, none⟩) g.blocks.length cb) ∧ W.cell? ⟨w.heap.size, 5, none⟩ = some (.slice As g.states.length cs) ∧ W.cell? ⟨xb, 5, none⟩ = some (.int .i64 x.state)) w8) := Lib.hid ⟨t0, t1, t2, t3, t4, t5, ts⟩
   clear t0 t1 t2 t3 t4 t5 ts
   refine hK.out _ _ HS8.out (fun HSn => ?_)
   clear hK K HSn
   try simp only [Act.put, List.setIfInBounds_toArray, List.set_cons_zero, List.set_cons_succ]
   refine wpAnyH_done (by kernel_rfl) ?_ _
   go_wp2_with fail
   go_ret
   refine ⟨rb, rfl, Nat.le_of_lt HM8.out.rb_, ?_, HM8.out.low⟩
   have h1 := HM8.out.row
   rw [HKl.out] at h1
   unfold usesTo at h1
   rw [List.take_length] at h1
   exact h1
end Go.Proofs.YtkmfdiboekoioaaGreat
