/- A block's end, as the reference 16 looks at it: some answer; yes: its args, its state and the blocks next to it are there. Conditions: a graph that lies in memory, a block of it. -/
import Derived.Test.YtkmfdiboekoioaaGreatCRfNode
set_option linter.unusedSimpArgs false
set_option linter.unusedVariables false
namespace Go.Proofs.YtkmfdiboekoioaaGreat
open Go.RowKit
/-- What is known of a block's end that may be. -/
structure EdF (g : GraphP) (x : BlockP) : Prop where
 args : ∀ a ∈ x.args, 0 ≤ a ∧ a < (g.nodes.length : Int)
 next : ∀ a ∈ x.next, 1 ≤ a ∧ a < (g.blocks.length : Int)
 state : -1 ≤ x.state ∧ x.state < (g.states.length : Int)
structure EdM (w : World) (xv : GVals) (g : GraphP) (x : BlockP) (v0 v2 v3 v4 : Value) (wr : World) : Prop where
 gr : Blk wr w.heap.size 28 #[.int .i64 g.fn, .int .i64 g.pc, .int .i64 g.slots, xv.vn, xv.vb, xv.vs]
 bk : Blk wr (w.heap.size + 1) 41 #[v0, .int .u8 x.fin, v2, v3, v4, .int .i64 x.state]
 low : Below w.heap.size w wr
section
variable {w wr w2 : World} {xv : GVals} {g : GraphP} {x : BlockP} {v0 v2 v3 v4 : Value}
theorem EdM.below (h : EdM w xv g x v0 v2 v3 v4 wr) (hb : Below wr.heap.size wr w2) : EdM w xv g x v0 v2 v3 v4 w2 := ⟨h.gr.below hb h.gr.lt, h.bk.below hb h.bk.lt, h.low.trans (hb.mono h.low.size)⟩
theorem EdM.drew (h : EdM w xv g x v0 v2 v3 v4 wr) {n : Nat} : EdM w xv g x v0 v2 v3 v4 (wr.drewN n) := h.below (bdrew (Below.refl _ _))
theorem EdM.cells (h : EdM w xv g x v0 v2 v3 v4 wr) : wr.cell? ⟨w.heap.size, 3, none⟩ = some xv.vn ∧ wr.cell? ⟨w.heap.size, 4, none⟩ = some xv.vb ∧ wr.cell? ⟨w.heap.size, 5, none⟩ = some xv.vs ∧
  wr.cell? ⟨w.heap.size + 1, 1, none⟩ = some (.int .u8 x.fin) ∧ wr.cell? ⟨w.heap.size + 1, 2, none⟩ = some v2 ∧ wr.cell? ⟨w.heap.size + 1, 3, none⟩ = some v3 ∧ wr.cell? ⟨w.heap.size + 1, 5, none⟩ = some (.int .i64 x.state) ∧ w.heap.size + 1 < wr.heap.size :=
 ⟨h.gr.cell 3, h.gr.cell 4, h.gr.cell 5, h.bk.cell 1, h.bk.cell 2, h.bk.cell 3, h.bk.cell 5, h.bk.lt⟩
end
set_option maxRecDepth 100000 in
set_option maxHeartbeats 16000000 in
theorem ref16end_1 (w : World) (xv : GVals) (g : GraphP) (n : Nat) (x : BlockP) (hg : GraphV w w.heap.size xv g) (hx : g.blocks[n]? = some x) (hfin : x.fin = 1) :
  Calls Tryz.prog 22 #[gval g xv, .int .i64 n] w (BoolIf (EdF g x) w) := by
 have HFIN := Lib.hid hfin; clear hfin
 have HG := Lib.hid hg; have HX := Lib.hid hx
 obtain ⟨vn, vb, vs⟩ := xv
 obtain ⟨⟨An, cn, en, _, hln, _⟩, ⟨Ab, cb, eb, _, hlb, hqb⟩, ⟨As, cs, es, _, hls, _⟩⟩ := hg
 simp only at en eb es
 subst en eb es
 have hbl : n < g.blocks.length := by
  rcases Nat.lt_or_ge n g.blocks.length with h | h
  ·exact h
  ·rw [List.getElem?_eq_none h] at hx; cases hx
 obtain ⟨bb, ob, rfl, hbb, hqb⟩ := hqb (by omega)
 have hln2 : g.nodes.length ≤ 17592186044416 := by unfold lim at hln; omega
 have hlb2 : g.blocks.length ≤ 17592186044416 := by unfold lim at hlb; omega
 have hls2 : g.states.length ≤ 17592186044416 := by unfold lim at hls; omega
 obtain ⟨⟨v0, f0, i0⟩, f1, ⟨v2, f2, i2⟩, ⟨v3, f3, i3⟩, ⟨v4, f4, i4⟩, f5⟩ := hqb n x hx
 have HI2 := Lib.hid i2; have HI3 := Lib.hid i3
 obtain ⟨A0, e0, rfl, _, _, _⟩ := i0
 obtain ⟨A2, e2, rfl, _, m2, _⟩ := i2
 obtain ⟨A3, e3, rfl, _, m3, _⟩ := i3
 obtain ⟨A4, e4, rfl, _, _, _⟩ := i4
 have k2 : x.args.length ≤ 17592186044416 := by unfold lim at m2; omega
 have k3 : x.next.length ≤ 17592186044416 := by unfold lim at m3; omega
 clear hln hlb hls hqb hx m2 m3
 have ee : gval g ⟨.slice An g.nodes.length cn, .slice (some ⟨bb, ob, none⟩) g.blocks.length cb, .slice As g.states.length cs⟩ = .agg #[.int .i64 g.fn, .int .i64 g.pc, .int .i64 g.slots, .slice An g.nodes.length cn, .slice (some ⟨bb, ob, none⟩) g.blocks.length cb, .slice As g.states.length cs] := rfl
 have E0 := Lib.hid ee; clear ee
 rw [E0.out]
 obtain ⟨w1, hw1⟩ : ∃ w1, w1 = (w.alloc (.cells #[.int .i64 g.fn, .int .i64 g.pc, .int .i64 g.slots, .slice An g.nodes.length cn, .slice (some ⟨bb, ob, none⟩) g.blocks.length cb, .slice As g.states.length cs] 28)).alloc (.cells #[.slice A0 x.nodes.length e0, .int .u8 x.fin, .slice A2 x.args.length e2, .slice A3 x.next.length e3, .slice A4 x.ahead.length e4, .int .i64 x.state] 41) := ⟨_, rfl⟩
 have HM1 : Hid (EdM w ⟨.slice An g.nodes.length cn, .slice (some ⟨bb, ob, none⟩) g.blocks.length cb, .slice As g.states.length cs⟩ g x (.slice A0 x.nodes.length e0) (.slice A2 x.args.length e2) (.slice A3 x.next.length e3) (.slice A4 x.ahead.length e4) w1) := Lib.hid (by
  rw [hw1]
  exact ⟨(Blk.new _ _ _).alloc _, by simpa using Blk.new (w.alloc _) _ _, ((Below.refl _ _).alloc (Nat.le_refl _) _).alloc (by simp) _⟩)
 go_enter Tryz.func22, Tryz.ntmps22
 go_upto_region 2 with fail
 rw [← hw1]
 clear hw1 f0 f1 f2 f3 f4 f5
 obtain ⟨q3, q4, q5, q6, q7, q8, q9, ql⟩ := HM1.out.cells
 rw [HFIN.out] at q6
 have dst : decide (0 ≤ x.state) = decide (0 ≤ x.state) := rfl
 clear dst
 by_cases hL : (x.args.length = 0 ∧ x.next.length = 1) ∧ (-1 ≤ x.state ∧ x.state < (g.states.length : Int)) ∧ (0 ≤ x.state ↔ False)
 rotate_left
 ·have HL := Lib.hid (show ((x.args.length = 0 ∧ x.next.length = 1) ∧ (-1 ≤ x.state ∧ x.state < (g.states.length : Int)) ∧ (0 ≤ x.state ↔ False)) → False from hL)
  clear hL
  rcases h1 : ((x.args.length : Int) != 0) with _ | _
  ·rcases h2 : ((x.next.length : Int) != 1) with _ | _
   ·rcases h3 : decide (x.state < -1) with _ | _
    ·rcases h4 : decide ((g.states.length : Int) ≤ x.state) with _ | _
     ·rcases h5 : decide (0 ≤ x.state) with _ | _
      ·exfalso
       exact HL.out ⟨⟨by have := (bne_eq_false_iff_eq.1 h1); omega, by have := (bne_eq_false_iff_eq.1 h2); omega⟩, ⟨by have := of_decide_eq_false h3; omega, by have := of_decide_eq_false h4; omega⟩, by have := of_decide_eq_false h5; simp; try omega⟩
      ·go_wp2_with fail
       go_ret
       exact ⟨⟨false, rfl, fun h => by cases h⟩, HM1.out.low⟩
     ·go_wp2_with fail
      go_ret
      exact ⟨⟨false, rfl, fun h => by cases h⟩, HM1.out.low⟩
    ·go_wp2_with fail
     go_ret
     exact ⟨⟨false, rfl, fun h => by cases h⟩, HM1.out.low⟩
   ·go_wp2_with fail
    go_ret
    exact ⟨⟨false, rfl, fun h => by cases h⟩, HM1.out.low⟩
  ·go_wp2_with fail
   go_ret
   exact ⟨⟨false, rfl, fun h => by cases h⟩, HM1.out.low⟩
 ·obtain ⟨⟨ha, hn⟩, ⟨hs1, hs2⟩, hst⟩ := hL
  have HS1 := Lib.hid hs1; have HS2 := Lib.hid hs2; have HA := Lib.hid ha; have HN := Lib.hid hn
  have h1 : ((x.args.length : Int) != 0) = false := by simp [ha]
  have h2 : ((x.next.length : Int) != 1) = false := by simp [hn]
  have h3 : decide (x.state < -1) = false := decide_eq_false (by omega)
  have h4 : decide ((g.states.length : Int) ≤ x.state) = false := decide_eq_false (by omega)
  have h5 : decide (0 ≤ x.state) = false := by simp [hst]
  clear ha hn hs1 hs2 hst
  go_wp2_with fail
  go_loopw [9] (fun t wr => ∃ k : Nat, k ≤ 0 ∧ t = .int .i64 k ∧ Hid (EdM w ⟨.slice An g.nodes.length cn, .slice (some ⟨bb, ob, none⟩) g.blocks.length cb, .slice As g.states.length cs⟩ g x (.slice A0 x.nodes.length e0) (.slice A2 x.args.length e2) (.slice A3 x.next.length e3) (.slice A4 x.ahead.length e4) wr) ∧ Hid (∀ j a, j < k → x.args[j]? = some a → 0 ≤ a ∧ a < (g.nodes.length : Int))) (fun t _ => 0 - (intOf t).toNat)
  case atStart => exact ⟨0, Nat.zero_le _, rfl, HM1, Lib.hid (fun j a h => by omega)⟩
  case round =>
   obtain ⟨k, hk, rfl, HMr, HR⟩ := hrel
   clear q3 q4 q5 q6 q7 q8 q9 ql
   obtain ⟨q3, q4, q5, q6, q7, q8, q9, ql⟩ := HMr.out.cells
   rw [HFIN.out] at q6
   by_cases hlt : k < 0
   ·omega
   ·have hAll : ∀ a ∈ x.args, 0 ≤ a ∧ a < (g.nodes.length : Int) := fun a ha => by
     obtain ⟨j, hj⟩ := List.mem_iff_getElem?.1 ha
     refine HR.out j a ?_ hj
     rcases Nat.lt_or_ge j x.args.length with q | q
     ·have := HA.out; omega
     ·rw [List.getElem?_eq_none q] at hj; cases hj
    have HAL := Lib.hid hAll
    clear hAll
    go_wp2_with fail
    go_loopw [10] (fun t w3 => ∃ k3 : Nat, k3 ≤ 1 ∧ t = .int .i64 k3 ∧ w3 = wr ∧ Hid (∀ j a, j < k3 → x.next[j]? = some a → 1 ≤ a ∧ a < (g.blocks.length : Int))) (fun t _ => 1 - (intOf t).toNat)
    case atStart => exact ⟨0, Nat.zero_le _, rfl, by trivial, Lib.hid (fun j a h => by omega)⟩
    case round =>
     obtain ⟨k3, hk3, rfl, hw3, HR3⟩ := hrel
     subst hw3
     by_cases hlt3 : k3 < 1
     ·obtain ⟨B1, o1, rfl, _, hp1⟩ := (HI3.out.keep (Same.of_below HMr.out.low)).cells (show k3 < x.next.length by have := HN.out; omega)
      obtain ⟨a, ha⟩ := rget (show k3 < x.next.length by have := HN.out; omega)
      have hlt2 : k3 < x.next.length := by have := HN.out; omega
      have c0 := hp1 k3 a ha
      have HAa := Lib.hid ha
      clear hp1 ha
      rcases d1 : decide (a < 1) with _ | _
      ·rcases d2 : decide ((g.blocks.length : Int) ≤ a) with _ | _
       ·rcases d3 : decide (a ≤ (n : Int)) with _ | _
        ·have H1 := Lib.hid d1; have H2 := Lib.hid d2
         go_wp2_with fail
         go_roundw
         case rel => exact ⟨k3 + 1, by omega, by go_num, by trivial, Lib.hid (fun j z hj hz => by
          rcases Nat.lt_or_ge j k3 with h | h
          ·exact HR3.out j z h hz
          ·obtain rfl : j = k3 := by omega
           rw [HAa.out] at hz; injection hz with hz; subst hz
           have h3 := of_decide_eq_false H1.out
           have h4 := of_decide_eq_false H2.out
           omega)⟩
         case measure => simp [intOf]; omega
        ·have H1 := Lib.hid d1; have H2 := Lib.hid d2
         go_wp2_with fail
         go_ret
         exact ⟨⟨false, rfl, fun h => by cases h⟩, HMr.out.low⟩
       ·go_wp2_with fail
        go_ret
        exact ⟨⟨false, rfl, fun h => by cases h⟩, HMr.out.low⟩
      ·go_wp2_with fail
       go_ret
       exact ⟨⟨false, rfl, fun h => by cases h⟩, HMr.out.low⟩
     ·have hNx : ∀ a ∈ x.next, 1 ≤ a ∧ a < (g.blocks.length : Int) := fun a ha => by
       obtain ⟨j, hj⟩ := List.mem_iff_getElem?.1 ha
       refine HR3.out j a ?_ hj
       rcases Nat.lt_or_ge j x.next.length with q | q
       ·have := HN.out; omega
       ·rw [List.getElem?_eq_none q] at hj; cases hj
      have HF2 : Hid (EdF g x) := Lib.hid ⟨HAL.out, hNx, HS1.out, HS2.out⟩
      clear hNx
      skip
      go_wp2_with go_quiet (fail)
      go_ret
      exact ⟨⟨_, rfl, fun _ => HF2.out⟩, HMr.out.drew.low⟩
set_option maxRecDepth 100000 in
set_option maxHeartbeats 16000000 in
theorem ref16end_2 (w : World) (xv : GVals) (g : GraphP) (n : Nat) (x : BlockP) (hg : GraphV w w.heap.size xv g) (hx : g.blocks[n]? = some x) (hfin : x.fin = 2) :
  Calls Tryz.prog 22 #[gval g xv, .int .i64 n] w (BoolIf (EdF g x) w) := by
 have HFIN := Lib.hid hfin; clear hfin
 have HG := Lib.hid hg; have HX := Lib.hid hx
 obtain ⟨vn, vb, vs⟩ := xv
 obtain ⟨⟨An, cn, en, _, hln, _⟩, ⟨Ab, cb, eb, _, hlb, hqb⟩, ⟨As, cs, es, _, hls, _⟩⟩ := hg
 simp only at en eb es
 subst en eb es
 have hbl : n < g.blocks.length := by
  rcases Nat.lt_or_ge n g.blocks.length with h | h
  ·exact h
  ·rw [List.getElem?_eq_none h] at hx; cases hx
 obtain ⟨bb, ob, rfl, hbb, hqb⟩ := hqb (by omega)
 have hln2 : g.nodes.length ≤ 17592186044416 := by unfold lim at hln; omega
 have hlb2 : g.blocks.length ≤ 17592186044416 := by unfold lim at hlb; omega
 have hls2 : g.states.length ≤ 17592186044416 := by unfold lim at hls; omega
 obtain ⟨⟨v0, f0, i0⟩, f1, ⟨v2, f2, i2⟩, ⟨v3, f3, i3⟩, ⟨v4, f4, i4⟩, f5⟩ := hqb n x hx
 have HI2 := Lib.hid i2; have HI3 := Lib.hid i3
 obtain ⟨A0, e0, rfl, _, _, _⟩ := i0
 obtain ⟨A2, e2, rfl, _, m2, _⟩ := i2
 obtain ⟨A3, e3, rfl, _, m3, _⟩ := i3
 obtain ⟨A4, e4, rfl, _, _, _⟩ := i4
 have k2 : x.args.length ≤ 17592186044416 := by unfold lim at m2; omega
 have k3 : x.next.length ≤ 17592186044416 := by unfold lim at m3; omega
 clear hln hlb hls hqb hx m2 m3
 have ee : gval g ⟨.slice An g.nodes.length cn, .slice (some ⟨bb, ob, none⟩) g.blocks.length cb, .slice As g.states.length cs⟩ = .agg #[.int .i64 g.fn, .int .i64 g.pc, .int .i64 g.slots, .slice An g.nodes.length cn, .slice (some ⟨bb, ob, none⟩) g.blocks.length cb, .slice As g.states.length cs] := rfl
 have E0 := Lib.hid ee; clear ee
 rw [E0.out]
 obtain ⟨w1, hw1⟩ : ∃ w1, w1 = (w.alloc (.cells #[.int .i64 g.fn, .int .i64 g.pc, .int .i64 g.slots, .slice An g.nodes.length cn, .slice (some ⟨bb, ob, none⟩) g.blocks.length cb, .slice As g.states.length cs] 28)).alloc (.cells #[.slice A0 x.nodes.length e0, .int .u8 x.fin, .slice A2 x.args.length e2, .slice A3 x.next.length e3, .slice A4 x.ahead.length e4, .int .i64 x.state] 41) := ⟨_, rfl⟩
 have HM1 : Hid (EdM w ⟨.slice An g.nodes.length cn, .slice (some ⟨bb, ob, none⟩) g.blocks.length cb, .slice As g.states.length cs⟩ g x (.slice A0 x.nodes.length e0) (.slice A2 x.args.length e2) (.slice A3 x.next.length e3) (.slice A4 x.ahead.length e4) w1) := Lib.hid (by
  rw [hw1]
  exact ⟨(Blk.new _ _ _).alloc _, by simpa using Blk.new (w.alloc _) _ _, ((Below.refl _ _).alloc (Nat.le_refl _) _).alloc (by simp) _⟩)
 go_enter Tryz.func22, Tryz.ntmps22
 go_upto_region 2 with fail
 rw [← hw1]
 clear hw1 f0 f1 f2 f3 f4 f5
 obtain ⟨q3, q4, q5, q6, q7, q8, q9, ql⟩ := HM1.out.cells
 rw [HFIN.out] at q6
 have dst : decide (0 ≤ x.state) = decide (0 ≤ x.state) := rfl
 clear dst
 by_cases hL : (x.args.length = 1 ∧ x.next.length = 2) ∧ (-1 ≤ x.state ∧ x.state < (g.states.length : Int)) ∧ (0 ≤ x.state ↔ True)
 rotate_left
 ·have HL := Lib.hid (show ((x.args.length = 1 ∧ x.next.length = 2) ∧ (-1 ≤ x.state ∧ x.state < (g.states.length : Int)) ∧ (0 ≤ x.state ↔ True)) → False from hL)
  clear hL
  rcases h1 : ((x.args.length : Int) != 1) with _ | _
  ·rcases h2 : ((x.next.length : Int) != 2) with _ | _
   ·rcases h3 : decide (x.state < -1) with _ | _
    ·rcases h4 : decide ((g.states.length : Int) ≤ x.state) with _ | _
     ·rcases h5 : decide (0 ≤ x.state) with _ | _
      ·go_wp2_with fail
       go_ret
       exact ⟨⟨false, rfl, fun h => by cases h⟩, HM1.out.low⟩
      ·exfalso
       exact HL.out ⟨⟨by have := (bne_eq_false_iff_eq.1 h1); omega, by have := (bne_eq_false_iff_eq.1 h2); omega⟩, ⟨by have := of_decide_eq_false h3; omega, by have := of_decide_eq_false h4; omega⟩, by have := of_decide_eq_true h5; simp; try omega⟩
     ·go_wp2_with fail
      go_ret
      exact ⟨⟨false, rfl, fun h => by cases h⟩, HM1.out.low⟩
    ·go_wp2_with fail
     go_ret
     exact ⟨⟨false, rfl, fun h => by cases h⟩, HM1.out.low⟩
   ·go_wp2_with fail
    go_ret
    exact ⟨⟨false, rfl, fun h => by cases h⟩, HM1.out.low⟩
  ·go_wp2_with fail
   go_ret
   exact ⟨⟨false, rfl, fun h => by cases h⟩, HM1.out.low⟩
 ·obtain ⟨⟨ha, hn⟩, ⟨hs1, hs2⟩, hst⟩ := hL
  have HS1 := Lib.hid hs1; have HS2 := Lib.hid hs2; have HA := Lib.hid ha; have HN := Lib.hid hn
  have h1 : ((x.args.length : Int) != 1) = false := by simp [ha]
  have h2 : ((x.next.length : Int) != 2) = false := by simp [hn]
  have h3 : decide (x.state < -1) = false := decide_eq_false (by omega)
  have h4 : decide ((g.states.length : Int) ≤ x.state) = false := decide_eq_false (by omega)
  have h5 : decide (0 ≤ x.state) = true := by simp [hst]
  clear ha hn hs1 hs2 hst
  go_wp2_with fail
  go_loopw [9] (fun t wr => ∃ k : Nat, k ≤ 1 ∧ t = .int .i64 k ∧ Hid (EdM w ⟨.slice An g.nodes.length cn, .slice (some ⟨bb, ob, none⟩) g.blocks.length cb, .slice As g.states.length cs⟩ g x (.slice A0 x.nodes.length e0) (.slice A2 x.args.length e2) (.slice A3 x.next.length e3) (.slice A4 x.ahead.length e4) wr) ∧ Hid (∀ j a, j < k → x.args[j]? = some a → 0 ≤ a ∧ a < (g.nodes.length : Int))) (fun t _ => 1 - (intOf t).toNat)
  case atStart => exact ⟨0, Nat.zero_le _, rfl, HM1, Lib.hid (fun j a h => by omega)⟩
  case round =>
   obtain ⟨k, hk, rfl, HMr, HR⟩ := hrel
   clear q3 q4 q5 q6 q7 q8 q9 ql
   obtain ⟨q3, q4, q5, q6, q7, q8, q9, ql⟩ := HMr.out.cells
   rw [HFIN.out] at q6
   by_cases hlt : k < 1
   ·obtain ⟨B1, o1, rfl, _, hp1⟩ := (HI2.out.keep (Same.of_below HMr.out.low)).cells (show k < x.args.length by have := HA.out; omega)
    obtain ⟨a, ha⟩ := rget (show k < x.args.length by have := HA.out; omega)
    have hlt2 : k < x.args.length := by have := HA.out; omega
    have c0 := hp1 k a ha
    have HAa := Lib.hid ha
    clear hp1 ha
    rcases d1 : decide (a < 0) with _ | _
    ·rcases d2 : decide ((g.nodes.length : Int) ≤ a) with _ | _
     ·have H1 := Lib.hid d1; have H2 := Lib.hid d2
      go_wp2_with go_quiet (fail)
      go_roundw
      case rel => exact ⟨k + 1, by omega, by go_num, Lib.hid HMr.out.drew, Lib.hid (fun j z hj hz => by
       rcases Nat.lt_or_ge j k with h | h
       ·exact HR.out j z h hz
       ·obtain rfl : j = k := by omega
        rw [HAa.out] at hz; injection hz with hz; subst hz
        have h3 := of_decide_eq_false H1.out
        have h4 := of_decide_eq_false H2.out
        omega)⟩
      case measure => simp [intOf]; omega
     ·go_wp2_with go_quiet (fail)
      go_ret
      exact ⟨⟨false, rfl, fun h => by cases h⟩, HMr.out.drew.low⟩
    ·go_wp2_with go_quiet (fail)
     go_ret
     exact ⟨⟨false, rfl, fun h => by cases h⟩, HMr.out.drew.low⟩
   ·have hAll : ∀ a ∈ x.args, 0 ≤ a ∧ a < (g.nodes.length : Int) := fun a ha => by
     obtain ⟨j, hj⟩ := List.mem_iff_getElem?.1 ha
     refine HR.out j a ?_ hj
     rcases Nat.lt_or_ge j x.args.length with q | q
     ·have := HA.out; omega
     ·rw [List.getElem?_eq_none q] at hj; cases hj
    have HAL := Lib.hid hAll
    clear hAll
    go_wp2_with fail
    go_loopw [10] (fun t w3 => ∃ k3 : Nat, k3 ≤ 2 ∧ t = .int .i64 k3 ∧ w3 = wr ∧ Hid (∀ j a, j < k3 → x.next[j]? = some a → 1 ≤ a ∧ a < (g.blocks.length : Int))) (fun t _ => 2 - (intOf t).toNat)
    case atStart => exact ⟨0, Nat.zero_le _, rfl, by trivial, Lib.hid (fun j a h => by omega)⟩
    case round =>
     obtain ⟨k3, hk3, rfl, hw3, HR3⟩ := hrel
     subst hw3
     by_cases hlt3 : k3 < 2
     ·obtain ⟨B1, o1, rfl, _, hp1⟩ := (HI3.out.keep (Same.of_below HMr.out.low)).cells (show k3 < x.next.length by have := HN.out; omega)
      obtain ⟨a, ha⟩ := rget (show k3 < x.next.length by have := HN.out; omega)
      have hlt2 : k3 < x.next.length := by have := HN.out; omega
      have c0 := hp1 k3 a ha
      have HAa := Lib.hid ha
      clear hp1 ha
      rcases d1 : decide (a < 1) with _ | _
      ·rcases d2 : decide ((g.blocks.length : Int) ≤ a) with _ | _
       ·rcases d3 : decide (a ≤ (n : Int)) with _ | _
        ·have H1 := Lib.hid d1; have H2 := Lib.hid d2
         go_wp2_with fail
         go_roundw
         case rel => exact ⟨k3 + 1, by omega, by go_num, by trivial, Lib.hid (fun j z hj hz => by
          rcases Nat.lt_or_ge j k3 with h | h
          ·exact HR3.out j z h hz
          ·obtain rfl : j = k3 := by omega
           rw [HAa.out] at hz; injection hz with hz; subst hz
           have h3 := of_decide_eq_false H1.out
           have h4 := of_decide_eq_false H2.out
           omega)⟩
         case measure => simp [intOf]; omega
        ·have H1 := Lib.hid d1; have H2 := Lib.hid d2
         go_wp2_with fail
         go_ret
         exact ⟨⟨false, rfl, fun h => by cases h⟩, HMr.out.low⟩
       ·go_wp2_with fail
        go_ret
        exact ⟨⟨false, rfl, fun h => by cases h⟩, HMr.out.low⟩
      ·go_wp2_with fail
       go_ret
       exact ⟨⟨false, rfl, fun h => by cases h⟩, HMr.out.low⟩
     ·have hNx : ∀ a ∈ x.next, 1 ≤ a ∧ a < (g.blocks.length : Int) := fun a ha => by
       obtain ⟨j, hj⟩ := List.mem_iff_getElem?.1 ha
       refine HR3.out j a ?_ hj
       rcases Nat.lt_or_ge j x.next.length with q | q
       ·have := HN.out; omega
       ·rw [List.getElem?_eq_none q] at hj; cases hj
      have HF2 : Hid (EdF g x) := Lib.hid ⟨HAL.out, hNx, HS1.out, HS2.out⟩
      clear hNx
      obtain ⟨B5, o5, rfl, _, hp5⟩ := (HI3.out.keep (Same.of_below HMr.out.low)).cells (show 0 < x.next.length by have := HN.out; omega)
      obtain ⟨a5, ha5⟩ := rget (show 0 < x.next.length by have := HN.out; omega)
      obtain ⟨a6, ha6⟩ := rget (show 1 < x.next.length by have := HN.out; omega)
      have c5 : wr.cell? ⟨B5, o5, none⟩ = some (.int .i64 a5) := hp5 0 a5 ha5
      have c6 := hp5 1 a6 ha6
      have hl5 : 1 < x.next.length := by have := HN.out; omega
      clear hp5 ha5 ha6
      go_wp2_with go_quiet (fail)
      go_ret
      exact ⟨⟨_, rfl, fun _ => HF2.out⟩, HMr.out.drew.low⟩
set_option maxRecDepth 100000 in
set_option maxHeartbeats 16000000 in
theorem ref16end_3 (w : World) (xv : GVals) (g : GraphP) (n : Nat) (x : BlockP) (hg : GraphV w w.heap.size xv g) (hx : g.blocks[n]? = some x) (hfin : x.fin = 3) :
  Calls Tryz.prog 22 #[gval g xv, .int .i64 n] w (BoolIf (EdF g x) w) := by
 have HFIN := Lib.hid hfin; clear hfin
 have HG := Lib.hid hg; have HX := Lib.hid hx
 obtain ⟨vn, vb, vs⟩ := xv
 obtain ⟨⟨An, cn, en, _, hln, _⟩, ⟨Ab, cb, eb, _, hlb, hqb⟩, ⟨As, cs, es, _, hls, _⟩⟩ := hg
 simp only at en eb es
 subst en eb es
 have hbl : n < g.blocks.length := by
  rcases Nat.lt_or_ge n g.blocks.length with h | h
  ·exact h
  ·rw [List.getElem?_eq_none h] at hx; cases hx
 obtain ⟨bb, ob, rfl, hbb, hqb⟩ := hqb (by omega)
 have hln2 : g.nodes.length ≤ 17592186044416 := by unfold lim at hln; omega
 have hlb2 : g.blocks.length ≤ 17592186044416 := by unfold lim at hlb; omega
 have hls2 : g.states.length ≤ 17592186044416 := by unfold lim at hls; omega
 obtain ⟨⟨v0, f0, i0⟩, f1, ⟨v2, f2, i2⟩, ⟨v3, f3, i3⟩, ⟨v4, f4, i4⟩, f5⟩ := hqb n x hx
 have HI2 := Lib.hid i2; have HI3 := Lib.hid i3
 obtain ⟨A0, e0, rfl, _, _, _⟩ := i0
 obtain ⟨A2, e2, rfl, _, m2, _⟩ := i2
 obtain ⟨A3, e3, rfl, _, m3, _⟩ := i3
 obtain ⟨A4, e4, rfl, _, _, _⟩ := i4
 have k2 : x.args.length ≤ 17592186044416 := by unfold lim at m2; omega
 have k3 : x.next.length ≤ 17592186044416 := by unfold lim at m3; omega
 clear hln hlb hls hqb hx m2 m3
 have ee : gval g ⟨.slice An g.nodes.length cn, .slice (some ⟨bb, ob, none⟩) g.blocks.length cb, .slice As g.states.length cs⟩ = .agg #[.int .i64 g.fn, .int .i64 g.pc, .int .i64 g.slots, .slice An g.nodes.length cn, .slice (some ⟨bb, ob, none⟩) g.blocks.length cb, .slice As g.states.length cs] := rfl
 have E0 := Lib.hid ee; clear ee
 rw [E0.out]
 obtain ⟨w1, hw1⟩ : ∃ w1, w1 = (w.alloc (.cells #[.int .i64 g.fn, .int .i64 g.pc, .int .i64 g.slots, .slice An g.nodes.length cn, .slice (some ⟨bb, ob, none⟩) g.blocks.length cb, .slice As g.states.length cs] 28)).alloc (.cells #[.slice A0 x.nodes.length e0, .int .u8 x.fin, .slice A2 x.args.length e2, .slice A3 x.next.length e3, .slice A4 x.ahead.length e4, .int .i64 x.state] 41) := ⟨_, rfl⟩
 have HM1 : Hid (EdM w ⟨.slice An g.nodes.length cn, .slice (some ⟨bb, ob, none⟩) g.blocks.length cb, .slice As g.states.length cs⟩ g x (.slice A0 x.nodes.length e0) (.slice A2 x.args.length e2) (.slice A3 x.next.length e3) (.slice A4 x.ahead.length e4) w1) := Lib.hid (by
  rw [hw1]
  exact ⟨(Blk.new _ _ _).alloc _, by simpa using Blk.new (w.alloc _) _ _, ((Below.refl _ _).alloc (Nat.le_refl _) _).alloc (by simp) _⟩)
 go_enter Tryz.func22, Tryz.ntmps22
 go_upto_region 2 with fail
 rw [← hw1]
 clear hw1 f0 f1 f2 f3 f4 f5
 obtain ⟨q3, q4, q5, q6, q7, q8, q9, ql⟩ := HM1.out.cells
 rw [HFIN.out] at q6
 have dst : decide (0 ≤ x.state) = decide (0 ≤ x.state) := rfl
 clear dst
 by_cases hL : (x.args.length = 0 ∧ x.next.length = 1) ∧ (-1 ≤ x.state ∧ x.state < (g.states.length : Int)) ∧ (0 ≤ x.state ↔ True)
 rotate_left
 ·have HL := Lib.hid (show ((x.args.length = 0 ∧ x.next.length = 1) ∧ (-1 ≤ x.state ∧ x.state < (g.states.length : Int)) ∧ (0 ≤ x.state ↔ True)) → False from hL)
  clear hL
  rcases h1 : ((x.args.length : Int) != 0) with _ | _
  ·rcases h2 : ((x.next.length : Int) != 1) with _ | _
   ·rcases h3 : decide (x.state < -1) with _ | _
    ·rcases h4 : decide ((g.states.length : Int) ≤ x.state) with _ | _
     ·rcases h5 : decide (0 ≤ x.state) with _ | _
      ·go_wp2_with fail
       go_ret
       exact ⟨⟨false, rfl, fun h => by cases h⟩, HM1.out.low⟩
      ·exfalso
       exact HL.out ⟨⟨by have := (bne_eq_false_iff_eq.1 h1); omega, by have := (bne_eq_false_iff_eq.1 h2); omega⟩, ⟨by have := of_decide_eq_false h3; omega, by have := of_decide_eq_false h4; omega⟩, by have := of_decide_eq_true h5; simp; try omega⟩
     ·go_wp2_with fail
      go_ret
      exact ⟨⟨false, rfl, fun h => by cases h⟩, HM1.out.low⟩
    ·go_wp2_with fail
     go_ret
     exact ⟨⟨false, rfl, fun h => by cases h⟩, HM1.out.low⟩
   ·go_wp2_with fail
    go_ret
    exact ⟨⟨false, rfl, fun h => by cases h⟩, HM1.out.low⟩
  ·go_wp2_with fail
   go_ret
   exact ⟨⟨false, rfl, fun h => by cases h⟩, HM1.out.low⟩
 ·obtain ⟨⟨ha, hn⟩, ⟨hs1, hs2⟩, hst⟩ := hL
  have HS1 := Lib.hid hs1; have HS2 := Lib.hid hs2; have HA := Lib.hid ha; have HN := Lib.hid hn
  have h1 : ((x.args.length : Int) != 0) = false := by simp [ha]
  have h2 : ((x.next.length : Int) != 1) = false := by simp [hn]
  have h3 : decide (x.state < -1) = false := decide_eq_false (by omega)
  have h4 : decide ((g.states.length : Int) ≤ x.state) = false := decide_eq_false (by omega)
  have h5 : decide (0 ≤ x.state) = true := by simp [hst]
  clear ha hn hs1 hs2 hst
  go_wp2_with fail
  go_loopw [9] (fun t wr => ∃ k : Nat, k ≤ 0 ∧ t = .int .i64 k ∧ Hid (EdM w ⟨.slice An g.nodes.length cn, .slice (some ⟨bb, ob, none⟩) g.blocks.length cb, .slice As g.states.length cs⟩ g x (.slice A0 x.nodes.length e0) (.slice A2 x.args.length e2) (.slice A3 x.next.length e3) (.slice A4 x.ahead.length e4) wr) ∧ Hid (∀ j a, j < k → x.args[j]? = some a → 0 ≤ a ∧ a < (g.nodes.length : Int))) (fun t _ => 0 - (intOf t).toNat)
  case atStart => exact ⟨0, Nat.zero_le _, rfl, HM1, Lib.hid (fun j a h => by omega)⟩
  case round =>
   obtain ⟨k, hk, rfl, HMr, HR⟩ := hrel
   clear q3 q4 q5 q6 q7 q8 q9 ql
   obtain ⟨q3, q4, q5, q6, q7, q8, q9, ql⟩ := HMr.out.cells
   rw [HFIN.out] at q6
   by_cases hlt : k < 0
   ·omega
   ·have hAll : ∀ a ∈ x.args, 0 ≤ a ∧ a < (g.nodes.length : Int) := fun a ha => by
     obtain ⟨j, hj⟩ := List.mem_iff_getElem?.1 ha
     refine HR.out j a ?_ hj
     rcases Nat.lt_or_ge j x.args.length with q | q
     ·have := HA.out; omega
     ·rw [List.getElem?_eq_none q] at hj; cases hj
    have HAL := Lib.hid hAll
    clear hAll
    go_wp2_with fail
    go_loopw [10] (fun t w3 => ∃ k3 : Nat, k3 ≤ 1 ∧ t = .int .i64 k3 ∧ w3 = wr ∧ Hid (∀ j a, j < k3 → x.next[j]? = some a → 1 ≤ a ∧ a < (g.blocks.length : Int))) (fun t _ => 1 - (intOf t).toNat)
    case atStart => exact ⟨0, Nat.zero_le _, rfl, by trivial, Lib.hid (fun j a h => by omega)⟩
    case round =>
     obtain ⟨k3, hk3, rfl, hw3, HR3⟩ := hrel
     subst hw3
     by_cases hlt3 : k3 < 1
     ·obtain ⟨B1, o1, rfl, _, hp1⟩ := (HI3.out.keep (Same.of_below HMr.out.low)).cells (show k3 < x.next.length by have := HN.out; omega)
      obtain ⟨a, ha⟩ := rget (show k3 < x.next.length by have := HN.out; omega)
      have hlt2 : k3 < x.next.length := by have := HN.out; omega
      have c0 := hp1 k3 a ha
      have HAa := Lib.hid ha
      clear hp1 ha
      rcases d1 : decide (a < 1) with _ | _
      ·rcases d2 : decide ((g.blocks.length : Int) ≤ a) with _ | _
       ·rcases d3 : decide (a ≤ (n : Int)) with _ | _
        ·have H1 := Lib.hid d1; have H2 := Lib.hid d2
         go_wp2_with fail
         go_ret
         exact ⟨⟨false, rfl, fun h => by cases h⟩, HMr.out.low⟩
        ·have H1 := Lib.hid d1; have H2 := Lib.hid d2
         go_wp2_with fail
         go_roundw
         case rel => exact ⟨k3 + 1, by omega, by go_num, by trivial, Lib.hid (fun j z hj hz => by
          rcases Nat.lt_or_ge j k3 with h | h
          ·exact HR3.out j z h hz
          ·obtain rfl : j = k3 := by omega
           rw [HAa.out] at hz; injection hz with hz; subst hz
           have h3 := of_decide_eq_false H1.out
           have h4 := of_decide_eq_false H2.out
           omega)⟩
         case measure => simp [intOf]; omega
       ·go_wp2_with fail
        go_ret
        exact ⟨⟨false, rfl, fun h => by cases h⟩, HMr.out.low⟩
      ·go_wp2_with fail
       go_ret
       exact ⟨⟨false, rfl, fun h => by cases h⟩, HMr.out.low⟩
     ·have hNx : ∀ a ∈ x.next, 1 ≤ a ∧ a < (g.blocks.length : Int) := fun a ha => by
       obtain ⟨j, hj⟩ := List.mem_iff_getElem?.1 ha
       refine HR3.out j a ?_ hj
       rcases Nat.lt_or_ge j x.next.length with q | q
       ·have := HN.out; omega
       ·rw [List.getElem?_eq_none q] at hj; cases hj
      have HF2 : Hid (EdF g x) := Lib.hid ⟨HAL.out, hNx, HS1.out, HS2.out⟩
      clear hNx
      skip
      go_wp2_with go_quiet (fail)
      go_ret
      exact ⟨⟨_, rfl, fun _ => HF2.out⟩, HMr.out.drew.low⟩
set_option maxRecDepth 100000 in
set_option maxHeartbeats 16000000 in
theorem ref16end_4 (w : World) (xv : GVals) (g : GraphP) (n : Nat) (x : BlockP) (hg : GraphV w w.heap.size xv g) (hx : g.blocks[n]? = some x) (hfin : x.fin = 4) :
  Calls Tryz.prog 22 #[gval g xv, .int .i64 n] w (BoolIf (EdF g x) w) := by
 have HFIN := Lib.hid hfin; clear hfin
 have HG := Lib.hid hg; have HX := Lib.hid hx
 obtain ⟨vn, vb, vs⟩ := xv
 obtain ⟨⟨An, cn, en, _, hln, _⟩, ⟨Ab, cb, eb, _, hlb, hqb⟩, ⟨As, cs, es, _, hls, _⟩⟩ := hg
 simp only at en eb es
 subst en eb es
 have hbl : n < g.blocks.length := by
  rcases Nat.lt_or_ge n g.blocks.length with h | h
  ·exact h
  ·rw [List.getElem?_eq_none h] at hx; cases hx
 obtain ⟨bb, ob, rfl, hbb, hqb⟩ := hqb (by omega)
 have hln2 : g.nodes.length ≤ 17592186044416 := by unfold lim at hln; omega
 have hlb2 : g.blocks.length ≤ 17592186044416 := by unfold lim at hlb; omega
 have hls2 : g.states.length ≤ 17592186044416 := by unfold lim at hls; omega
 obtain ⟨⟨v0, f0, i0⟩, f1, ⟨v2, f2, i2⟩, ⟨v3, f3, i3⟩, ⟨v4, f4, i4⟩, f5⟩ := hqb n x hx
 have HI2 := Lib.hid i2; have HI3 := Lib.hid i3
 obtain ⟨A0, e0, rfl, _, _, _⟩ := i0
 obtain ⟨A2, e2, rfl, _, m2, _⟩ := i2
 obtain ⟨A3, e3, rfl, _, m3, _⟩ := i3
 obtain ⟨A4, e4, rfl, _, _, _⟩ := i4
 have k2 : x.args.length ≤ 17592186044416 := by unfold lim at m2; omega
 have k3 : x.next.length ≤ 17592186044416 := by unfold lim at m3; omega
 clear hln hlb hls hqb hx m2 m3
 have ee : gval g ⟨.slice An g.nodes.length cn, .slice (some ⟨bb, ob, none⟩) g.blocks.length cb, .slice As g.states.length cs⟩ = .agg #[.int .i64 g.fn, .int .i64 g.pc, .int .i64 g.slots, .slice An g.nodes.length cn, .slice (some ⟨bb, ob, none⟩) g.blocks.length cb, .slice As g.states.length cs] := rfl
 have E0 := Lib.hid ee; clear ee
 rw [E0.out]
 obtain ⟨w1, hw1⟩ : ∃ w1, w1 = (w.alloc (.cells #[.int .i64 g.fn, .int .i64 g.pc, .int .i64 g.slots, .slice An g.nodes.length cn, .slice (some ⟨bb, ob, none⟩) g.blocks.length cb, .slice As g.states.length cs] 28)).alloc (.cells #[.slice A0 x.nodes.length e0, .int .u8 x.fin, .slice A2 x.args.length e2, .slice A3 x.next.length e3, .slice A4 x.ahead.length e4, .int .i64 x.state] 41) := ⟨_, rfl⟩
 have HM1 : Hid (EdM w ⟨.slice An g.nodes.length cn, .slice (some ⟨bb, ob, none⟩) g.blocks.length cb, .slice As g.states.length cs⟩ g x (.slice A0 x.nodes.length e0) (.slice A2 x.args.length e2) (.slice A3 x.next.length e3) (.slice A4 x.ahead.length e4) w1) := Lib.hid (by
  rw [hw1]
  exact ⟨(Blk.new _ _ _).alloc _, by simpa using Blk.new (w.alloc _) _ _, ((Below.refl _ _).alloc (Nat.le_refl _) _).alloc (by simp) _⟩)
 go_enter Tryz.func22, Tryz.ntmps22
 go_upto_region 2 with fail
 rw [← hw1]
 clear hw1 f0 f1 f2 f3 f4 f5
 obtain ⟨q3, q4, q5, q6, q7, q8, q9, ql⟩ := HM1.out.cells
 rw [HFIN.out] at q6
 have dst : decide (0 ≤ x.state) = decide (0 ≤ x.state) := rfl
 clear dst
 by_cases hL : (x.args.length = 1 ∧ x.next.length = 0) ∧ (-1 ≤ x.state ∧ x.state < (g.states.length : Int)) ∧ (0 ≤ x.state ↔ False)
 rotate_left
 ·have HL := Lib.hid (show ((x.args.length = 1 ∧ x.next.length = 0) ∧ (-1 ≤ x.state ∧ x.state < (g.states.length : Int)) ∧ (0 ≤ x.state ↔ False)) → False from hL)
  clear hL
  rcases h1 : ((x.args.length : Int) != 1) with _ | _
  ·rcases h2 : ((x.next.length : Int) != 0) with _ | _
   ·rcases h3 : decide (x.state < -1) with _ | _
    ·rcases h4 : decide ((g.states.length : Int) ≤ x.state) with _ | _
     ·rcases h5 : decide (0 ≤ x.state) with _ | _
      ·exfalso
       exact HL.out ⟨⟨by have := (bne_eq_false_iff_eq.1 h1); omega, by have := (bne_eq_false_iff_eq.1 h2); omega⟩, ⟨by have := of_decide_eq_false h3; omega, by have := of_decide_eq_false h4; omega⟩, by have := of_decide_eq_false h5; simp; try omega⟩
      ·go_wp2_with fail
       go_ret
       exact ⟨⟨false, rfl, fun h => by cases h⟩, HM1.out.low⟩
     ·go_wp2_with fail
      go_ret
      exact ⟨⟨false, rfl, fun h => by cases h⟩, HM1.out.low⟩
    ·go_wp2_with fail
     go_ret
     exact ⟨⟨false, rfl, fun h => by cases h⟩, HM1.out.low⟩
   ·go_wp2_with fail
    go_ret
    exact ⟨⟨false, rfl, fun h => by cases h⟩, HM1.out.low⟩
  ·go_wp2_with fail
   go_ret
   exact ⟨⟨false, rfl, fun h => by cases h⟩, HM1.out.low⟩
 ·obtain ⟨⟨ha, hn⟩, ⟨hs1, hs2⟩, hst⟩ := hL
  have HS1 := Lib.hid hs1; have HS2 := Lib.hid hs2; have HA := Lib.hid ha; have HN := Lib.hid hn
  have h1 : ((x.args.length : Int) != 1) = false := by simp [ha]
  have h2 : ((x.next.length : Int) != 0) = false := by simp [hn]
  have h3 : decide (x.state < -1) = false := decide_eq_false (by omega)
  have h4 : decide ((g.states.length : Int) ≤ x.state) = false := decide_eq_false (by omega)
  have h5 : decide (0 ≤ x.state) = false := by simp [hst]
  clear ha hn hs1 hs2 hst
  go_wp2_with fail
  go_loopw [9] (fun t wr => ∃ k : Nat, k ≤ 1 ∧ t = .int .i64 k ∧ Hid (EdM w ⟨.slice An g.nodes.length cn, .slice (some ⟨bb, ob, none⟩) g.blocks.length cb, .slice As g.states.length cs⟩ g x (.slice A0 x.nodes.length e0) (.slice A2 x.args.length e2) (.slice A3 x.next.length e3) (.slice A4 x.ahead.length e4) wr) ∧ Hid (∀ j a, j < k → x.args[j]? = some a → 0 ≤ a ∧ a < (g.nodes.length : Int))) (fun t _ => 1 - (intOf t).toNat)
  case atStart => exact ⟨0, Nat.zero_le _, rfl, HM1, Lib.hid (fun j a h => by omega)⟩
  case round =>
   obtain ⟨k, hk, rfl, HMr, HR⟩ := hrel
   clear q3 q4 q5 q6 q7 q8 q9 ql
   obtain ⟨q3, q4, q5, q6, q7, q8, q9, ql⟩ := HMr.out.cells
   rw [HFIN.out] at q6
   by_cases hlt : k < 1
   ·obtain ⟨B1, o1, rfl, _, hp1⟩ := (HI2.out.keep (Same.of_below HMr.out.low)).cells (show k < x.args.length by have := HA.out; omega)
    obtain ⟨a, ha⟩ := rget (show k < x.args.length by have := HA.out; omega)
    have hlt2 : k < x.args.length := by have := HA.out; omega
    have c0 := hp1 k a ha
    have HAa := Lib.hid ha
    clear hp1 ha
    rcases d1 : decide (a < 0) with _ | _
    ·rcases d2 : decide ((g.nodes.length : Int) ≤ a) with _ | _
     ·have H1 := Lib.hid d1; have H2 := Lib.hid d2
      go_wp2_with go_quiet (fail)
      go_roundw
      case rel => exact ⟨k + 1, by omega, by go_num, Lib.hid HMr.out.drew, Lib.hid (fun j z hj hz => by
       rcases Nat.lt_or_ge j k with h | h
       ·exact HR.out j z h hz
       ·obtain rfl : j = k := by omega
        rw [HAa.out] at hz; injection hz with hz; subst hz
        have h3 := of_decide_eq_false H1.out
        have h4 := of_decide_eq_false H2.out
        omega)⟩
      case measure => simp [intOf]; omega
     ·go_wp2_with go_quiet (fail)
      go_ret
      exact ⟨⟨false, rfl, fun h => by cases h⟩, HMr.out.drew.low⟩
    ·go_wp2_with go_quiet (fail)
     go_ret
     exact ⟨⟨false, rfl, fun h => by cases h⟩, HMr.out.drew.low⟩
   ·have hAll : ∀ a ∈ x.args, 0 ≤ a ∧ a < (g.nodes.length : Int) := fun a ha => by
     obtain ⟨j, hj⟩ := List.mem_iff_getElem?.1 ha
     refine HR.out j a ?_ hj
     rcases Nat.lt_or_ge j x.args.length with q | q
     ·have := HA.out; omega
     ·rw [List.getElem?_eq_none q] at hj; cases hj
    have HAL := Lib.hid hAll
    clear hAll
    go_wp2_with fail
    go_loopw [10] (fun t w3 => ∃ k3 : Nat, k3 ≤ 0 ∧ t = .int .i64 k3 ∧ w3 = wr ∧ Hid (∀ j a, j < k3 → x.next[j]? = some a → 1 ≤ a ∧ a < (g.blocks.length : Int))) (fun t _ => 0 - (intOf t).toNat)
    case atStart => exact ⟨0, Nat.zero_le _, rfl, by trivial, Lib.hid (fun j a h => by omega)⟩
    case round =>
     obtain ⟨k3, hk3, rfl, hw3, HR3⟩ := hrel
     subst hw3
     by_cases hlt3 : k3 < 0
     ·omega
     ·have hNx : ∀ a ∈ x.next, 1 ≤ a ∧ a < (g.blocks.length : Int) := fun a ha => by
       obtain ⟨j, hj⟩ := List.mem_iff_getElem?.1 ha
       refine HR3.out j a ?_ hj
       rcases Nat.lt_or_ge j x.next.length with q | q
       ·have := HN.out; omega
       ·rw [List.getElem?_eq_none q] at hj; cases hj
      have HF2 : Hid (EdF g x) := Lib.hid ⟨HAL.out, hNx, HS1.out, HS2.out⟩
      clear hNx
      skip
      go_wp2_with go_quiet (fail)
      go_ret
      exact ⟨⟨_, rfl, fun _ => HF2.out⟩, HMr.out.drew.low⟩
set_option maxRecDepth 100000 in
set_option maxHeartbeats 16000000 in
theorem ref16end_5 (w : World) (xv : GVals) (g : GraphP) (n : Nat) (x : BlockP) (hg : GraphV w w.heap.size xv g) (hx : g.blocks[n]? = some x) (hfin : x.fin = 5) :
  Calls Tryz.prog 22 #[gval g xv, .int .i64 n] w (BoolIf (EdF g x) w) := by
 have HFIN := Lib.hid hfin; clear hfin
 have HG := Lib.hid hg; have HX := Lib.hid hx
 obtain ⟨vn, vb, vs⟩ := xv
 obtain ⟨⟨An, cn, en, _, hln, _⟩, ⟨Ab, cb, eb, _, hlb, hqb⟩, ⟨As, cs, es, _, hls, _⟩⟩ := hg
 simp only at en eb es
 subst en eb es
 have hbl : n < g.blocks.length := by
  rcases Nat.lt_or_ge n g.blocks.length with h | h
  ·exact h
  ·rw [List.getElem?_eq_none h] at hx; cases hx
 obtain ⟨bb, ob, rfl, hbb, hqb⟩ := hqb (by omega)
 have hln2 : g.nodes.length ≤ 17592186044416 := by unfold lim at hln; omega
 have hlb2 : g.blocks.length ≤ 17592186044416 := by unfold lim at hlb; omega
 have hls2 : g.states.length ≤ 17592186044416 := by unfold lim at hls; omega
 obtain ⟨⟨v0, f0, i0⟩, f1, ⟨v2, f2, i2⟩, ⟨v3, f3, i3⟩, ⟨v4, f4, i4⟩, f5⟩ := hqb n x hx
 have HI2 := Lib.hid i2; have HI3 := Lib.hid i3
 obtain ⟨A0, e0, rfl, _, _, _⟩ := i0
 obtain ⟨A2, e2, rfl, _, m2, _⟩ := i2
 obtain ⟨A3, e3, rfl, _, m3, _⟩ := i3
 obtain ⟨A4, e4, rfl, _, _, _⟩ := i4
 have k2 : x.args.length ≤ 17592186044416 := by unfold lim at m2; omega
 have k3 : x.next.length ≤ 17592186044416 := by unfold lim at m3; omega
 clear hln hlb hls hqb hx m2 m3
 have ee : gval g ⟨.slice An g.nodes.length cn, .slice (some ⟨bb, ob, none⟩) g.blocks.length cb, .slice As g.states.length cs⟩ = .agg #[.int .i64 g.fn, .int .i64 g.pc, .int .i64 g.slots, .slice An g.nodes.length cn, .slice (some ⟨bb, ob, none⟩) g.blocks.length cb, .slice As g.states.length cs] := rfl
 have E0 := Lib.hid ee; clear ee
 rw [E0.out]
 obtain ⟨w1, hw1⟩ : ∃ w1, w1 = (w.alloc (.cells #[.int .i64 g.fn, .int .i64 g.pc, .int .i64 g.slots, .slice An g.nodes.length cn, .slice (some ⟨bb, ob, none⟩) g.blocks.length cb, .slice As g.states.length cs] 28)).alloc (.cells #[.slice A0 x.nodes.length e0, .int .u8 x.fin, .slice A2 x.args.length e2, .slice A3 x.next.length e3, .slice A4 x.ahead.length e4, .int .i64 x.state] 41) := ⟨_, rfl⟩
 have HM1 : Hid (EdM w ⟨.slice An g.nodes.length cn, .slice (some ⟨bb, ob, none⟩) g.blocks.length cb, .slice As g.states.length cs⟩ g x (.slice A0 x.nodes.length e0) (.slice A2 x.args.length e2) (.slice A3 x.next.length e3) (.slice A4 x.ahead.length e4) w1) := Lib.hid (by
  rw [hw1]
  exact ⟨(Blk.new _ _ _).alloc _, by simpa using Blk.new (w.alloc _) _ _, ((Below.refl _ _).alloc (Nat.le_refl _) _).alloc (by simp) _⟩)
 go_enter Tryz.func22, Tryz.ntmps22
 go_upto_region 2 with fail
 rw [← hw1]
 clear hw1 f0 f1 f2 f3 f4 f5
 obtain ⟨q3, q4, q5, q6, q7, q8, q9, ql⟩ := HM1.out.cells
 rw [HFIN.out] at q6
 have dst : decide (0 ≤ x.state) = decide (0 ≤ x.state) := rfl
 clear dst
 by_cases hL : (x.args.length = 1 ∧ x.next.length = 0) ∧ (-1 ≤ x.state ∧ x.state < (g.states.length : Int)) ∧ (0 ≤ x.state ↔ True)
 rotate_left
 ·have HL := Lib.hid (show ((x.args.length = 1 ∧ x.next.length = 0) ∧ (-1 ≤ x.state ∧ x.state < (g.states.length : Int)) ∧ (0 ≤ x.state ↔ True)) → False from hL)
  clear hL
  rcases h1 : ((x.args.length : Int) != 1) with _ | _
  ·rcases h2 : ((x.next.length : Int) != 0) with _ | _
   ·rcases h3 : decide (x.state < -1) with _ | _
    ·rcases h4 : decide ((g.states.length : Int) ≤ x.state) with _ | _
     ·rcases h5 : decide (0 ≤ x.state) with _ | _
      ·go_wp2_with fail
       go_ret
       exact ⟨⟨false, rfl, fun h => by cases h⟩, HM1.out.low⟩
      ·exfalso
       exact HL.out ⟨⟨by have := (bne_eq_false_iff_eq.1 h1); omega, by have := (bne_eq_false_iff_eq.1 h2); omega⟩, ⟨by have := of_decide_eq_false h3; omega, by have := of_decide_eq_false h4; omega⟩, by have := of_decide_eq_true h5; simp; try omega⟩
     ·go_wp2_with fail
      go_ret
      exact ⟨⟨false, rfl, fun h => by cases h⟩, HM1.out.low⟩
    ·go_wp2_with fail
     go_ret
     exact ⟨⟨false, rfl, fun h => by cases h⟩, HM1.out.low⟩
   ·go_wp2_with fail
    go_ret
    exact ⟨⟨false, rfl, fun h => by cases h⟩, HM1.out.low⟩
  ·go_wp2_with fail
   go_ret
   exact ⟨⟨false, rfl, fun h => by cases h⟩, HM1.out.low⟩
 ·obtain ⟨⟨ha, hn⟩, ⟨hs1, hs2⟩, hst⟩ := hL
  have HS1 := Lib.hid hs1; have HS2 := Lib.hid hs2; have HA := Lib.hid ha; have HN := Lib.hid hn
  have h1 : ((x.args.length : Int) != 1) = false := by simp [ha]
  have h2 : ((x.next.length : Int) != 0) = false := by simp [hn]
  have h3 : decide (x.state < -1) = false := decide_eq_false (by omega)
  have h4 : decide ((g.states.length : Int) ≤ x.state) = false := decide_eq_false (by omega)
  have h5 : decide (0 ≤ x.state) = true := by simp [hst]
  clear ha hn hs1 hs2 hst
  go_wp2_with fail
  go_loopw [9] (fun t wr => ∃ k : Nat, k ≤ 1 ∧ t = .int .i64 k ∧ Hid (EdM w ⟨.slice An g.nodes.length cn, .slice (some ⟨bb, ob, none⟩) g.blocks.length cb, .slice As g.states.length cs⟩ g x (.slice A0 x.nodes.length e0) (.slice A2 x.args.length e2) (.slice A3 x.next.length e3) (.slice A4 x.ahead.length e4) wr) ∧ Hid (∀ j a, j < k → x.args[j]? = some a → 0 ≤ a ∧ a < (g.nodes.length : Int))) (fun t _ => 1 - (intOf t).toNat)
  case atStart => exact ⟨0, Nat.zero_le _, rfl, HM1, Lib.hid (fun j a h => by omega)⟩
  case round =>
   obtain ⟨k, hk, rfl, HMr, HR⟩ := hrel
   clear q3 q4 q5 q6 q7 q8 q9 ql
   obtain ⟨q3, q4, q5, q6, q7, q8, q9, ql⟩ := HMr.out.cells
   rw [HFIN.out] at q6
   by_cases hlt : k < 1
   ·obtain ⟨B1, o1, rfl, _, hp1⟩ := (HI2.out.keep (Same.of_below HMr.out.low)).cells (show k < x.args.length by have := HA.out; omega)
    obtain ⟨a, ha⟩ := rget (show k < x.args.length by have := HA.out; omega)
    have hlt2 : k < x.args.length := by have := HA.out; omega
    have c0 := hp1 k a ha
    have HAa := Lib.hid ha
    clear hp1 ha
    rcases d1 : decide (a < 0) with _ | _
    ·rcases d2 : decide ((g.nodes.length : Int) ≤ a) with _ | _
     ·have H1 := Lib.hid d1; have H2 := Lib.hid d2
      go_wp2_with go_quiet (fail)
      go_roundw
      case rel => exact ⟨k + 1, by omega, by go_num, Lib.hid HMr.out.drew, Lib.hid (fun j z hj hz => by
       rcases Nat.lt_or_ge j k with h | h
       ·exact HR.out j z h hz
       ·obtain rfl : j = k := by omega
        rw [HAa.out] at hz; injection hz with hz; subst hz
        have h3 := of_decide_eq_false H1.out
        have h4 := of_decide_eq_false H2.out
        omega)⟩
      case measure => simp [intOf]; omega
     ·go_wp2_with go_quiet (fail)
      go_ret
      exact ⟨⟨false, rfl, fun h => by cases h⟩, HMr.out.drew.low⟩
    ·go_wp2_with go_quiet (fail)
     go_ret
     exact ⟨⟨false, rfl, fun h => by cases h⟩, HMr.out.drew.low⟩
   ·have hAll : ∀ a ∈ x.args, 0 ≤ a ∧ a < (g.nodes.length : Int) := fun a ha => by
     obtain ⟨j, hj⟩ := List.mem_iff_getElem?.1 ha
     refine HR.out j a ?_ hj
     rcases Nat.lt_or_ge j x.args.length with q | q
     ·have := HA.out; omega
     ·rw [List.getElem?_eq_none q] at hj; cases hj
    have HAL := Lib.hid hAll
    clear hAll
    go_wp2_with fail
    go_loopw [10] (fun t w3 => ∃ k3 : Nat, k3 ≤ 0 ∧ t = .int .i64 k3 ∧ w3 = wr ∧ Hid (∀ j a, j < k3 → x.next[j]? = some a → 1 ≤ a ∧ a < (g.blocks.length : Int))) (fun t _ => 0 - (intOf t).toNat)
    case atStart => exact ⟨0, Nat.zero_le _, rfl, by trivial, Lib.hid (fun j a h => by omega)⟩
    case round =>
     obtain ⟨k3, hk3, rfl, hw3, HR3⟩ := hrel
     subst hw3
     by_cases hlt3 : k3 < 0
     ·omega
     ·have hNx : ∀ a ∈ x.next, 1 ≤ a ∧ a < (g.blocks.length : Int) := fun a ha => by
       obtain ⟨j, hj⟩ := List.mem_iff_getElem?.1 ha
       refine HR3.out j a ?_ hj
       rcases Nat.lt_or_ge j x.next.length with q | q
       ·have := HN.out; omega
       ·rw [List.getElem?_eq_none q] at hj; cases hj
      have HF2 : Hid (EdF g x) := Lib.hid ⟨HAL.out, hNx, HS1.out, HS2.out⟩
      clear hNx
      skip
      go_wp2_with go_quiet (fail)
      go_ret
      exact ⟨⟨_, rfl, fun _ => HF2.out⟩, HMr.out.drew.low⟩
set_option maxRecDepth 100000 in
set_option maxHeartbeats 16000000 in
theorem ref16end_other (w : World) (xv : GVals) (g : GraphP) (n : Nat) (x : BlockP) (hg : GraphV w w.heap.size xv g) (hx : g.blocks[n]? = some x) (h1 : (x.fin == 1) = false) (h2 : (x.fin == 2) = false) (h3 : (x.fin == 3) = false) (h4 : (x.fin == 4) = false) (h5 : (x.fin == 5) = false) :
  Calls Tryz.prog 22 #[gval g xv, .int .i64 n] w (BoolIf (EdF g x) w) := by
 have HG := Lib.hid hg; have HX := Lib.hid hx
 obtain ⟨vn, vb, vs⟩ := xv
 obtain ⟨⟨An, cn, en, _, hln, _⟩, ⟨Ab, cb, eb, _, hlb, hqb⟩, ⟨As, cs, es, _, hls, _⟩⟩ := hg
 simp only at en eb es
 subst en eb es
 have hbl : n < g.blocks.length := by
  rcases Nat.lt_or_ge n g.blocks.length with h | h
  ·exact h
  ·rw [List.getElem?_eq_none h] at hx; cases hx
 obtain ⟨bb, ob, rfl, hbb, hqb⟩ := hqb (by omega)
 have hln2 : g.nodes.length ≤ 17592186044416 := by unfold lim at hln; omega
 have hlb2 : g.blocks.length ≤ 17592186044416 := by unfold lim at hlb; omega
 have hls2 : g.states.length ≤ 17592186044416 := by unfold lim at hls; omega
 obtain ⟨⟨v0, f0, i0⟩, f1, ⟨v2, f2, i2⟩, ⟨v3, f3, i3⟩, ⟨v4, f4, i4⟩, f5⟩ := hqb n x hx
 have HI2 := Lib.hid i2; have HI3 := Lib.hid i3
 obtain ⟨A0, e0, rfl, _, _, _⟩ := i0
 obtain ⟨A2, e2, rfl, _, m2, _⟩ := i2
 obtain ⟨A3, e3, rfl, _, m3, _⟩ := i3
 obtain ⟨A4, e4, rfl, _, _, _⟩ := i4
 have k2 : x.args.length ≤ 17592186044416 := by unfold lim at m2; omega
 have k3 : x.next.length ≤ 17592186044416 := by unfold lim at m3; omega
 clear hln hlb hls hqb hx m2 m3
 have ee : gval g ⟨.slice An g.nodes.length cn, .slice (some ⟨bb, ob, none⟩) g.blocks.length cb, .slice As g.states.length cs⟩ = .agg #[.int .i64 g.fn, .int .i64 g.pc, .int .i64 g.slots, .slice An g.nodes.length cn, .slice (some ⟨bb, ob, none⟩) g.blocks.length cb, .slice As g.states.length cs] := rfl
 have E0 := Lib.hid ee; clear ee
 rw [E0.out]
 obtain ⟨w1, hw1⟩ : ∃ w1, w1 = (w.alloc (.cells #[.int .i64 g.fn, .int .i64 g.pc, .int .i64 g.slots, .slice An g.nodes.length cn, .slice (some ⟨bb, ob, none⟩) g.blocks.length cb, .slice As g.states.length cs] 28)).alloc (.cells #[.slice A0 x.nodes.length e0, .int .u8 x.fin, .slice A2 x.args.length e2, .slice A3 x.next.length e3, .slice A4 x.ahead.length e4, .int .i64 x.state] 41) := ⟨_, rfl⟩
 have HM1 : Hid (EdM w ⟨.slice An g.nodes.length cn, .slice (some ⟨bb, ob, none⟩) g.blocks.length cb, .slice As g.states.length cs⟩ g x (.slice A0 x.nodes.length e0) (.slice A2 x.args.length e2) (.slice A3 x.next.length e3) (.slice A4 x.ahead.length e4) w1) := Lib.hid (by
  rw [hw1]
  exact ⟨(Blk.new _ _ _).alloc _, by simpa using Blk.new (w.alloc _) _ _, ((Below.refl _ _).alloc (Nat.le_refl _) _).alloc (by simp) _⟩)
 go_enter Tryz.func22, Tryz.ntmps22
 go_upto_region 2 with fail
 rw [← hw1]
 clear hw1 f0 f1 f2 f3 f4 f5
 obtain ⟨q3, q4, q5, q6, q7, q8, q9, ql⟩ := HM1.out.cells
 go_wp2_with fail
 go_ret
 exact ⟨⟨false, rfl, fun h => by cases h⟩, HM1.out.low⟩
theorem ref16end_any (w : World) (xv : GVals) (g : GraphP) (n : Nat) (x : BlockP) (hg : GraphV w w.heap.size xv g) (hx : g.blocks[n]? = some x) :
  Calls Tryz.prog 22 #[gval g xv, .int .i64 n] w (BoolIf (EdF g x) w) := by
 rcases h1 : (x.fin == 1) with _ | _
 ·rcases h2 : (x.fin == 2) with _ | _
  ·rcases h3 : (x.fin == 3) with _ | _
   ·rcases h4 : (x.fin == 4) with _ | _
    ·rcases h5 : (x.fin == 5) with _ | _
     ·exact ref16end_other w xv g n x hg hx h1 h2 h3 h4 h5
     ·exact ref16end_5 w xv g n x hg hx (by simpa using h5)
    ·exact ref16end_4 w xv g n x hg hx (by simpa using h4)
   ·exact ref16end_3 w xv g n x hg hx (by simpa using h3)
  ·exact ref16end_2 w xv g n x hg hx (by simpa using h2)
 ·exact ref16end_1 w xv g n x hg hx (by simpa using h1)
end Go.Proofs.YtkmfdiboekoioaaGreat
