/- The states of a graph, as the reference 16 looks at them: some answer; yes: their slots are there. Conditions: a program, a graph and depths that lie in memory, a function of it. -/
import Derived.Test.YtkmfdiboekoioaaGreatCRfNode
set_option linter.unusedSimpArgs false
set_option linter.unusedVariables false
namespace Go.Proofs.YtkmfdiboekoioaaGreat
open Go.RowKit
def StF (g : GraphP) : Prop := ∀ y ∈ g.states, ∀ a ∈ y.slots, -1 ≤ a ∧ a < (g.nodes.length : Int)
set_option maxRecDepth 100000 in
set_option maxHeartbeats 16000000 in
theorem ref16states_any (w : World) (v dv : Value) (p : List FnP) (fn : Nat) (f : FnP) (ds : List Int) (xv : GVals) (g : GraphP) (hp : ProgV w w.heap.size v p) (hf : p[fn]? = some f) (hg : GraphV w w.heap.size xv g) (hfn : g.fn = (fn : Int)) (hd : IntsV w w.heap.size dv ds) :
  Calls Tryz.prog 19 #[v, gval g xv, dv] w (BoolIf (StF g) w) := by
 have HG := Lib.hid hg; have HFN := Lib.hid hfn; have HD := Lib.hid hd
 obtain ⟨vn, vb, vs⟩ := xv
 obtain ⟨⟨An, cn, en, _, hln, _⟩, ⟨Ab, cb, eb, _⟩, ⟨As, cs, es, _, hls, hqs⟩⟩ := hg
 simp only at en eb es
 subst en eb es
 have HQS := Lib.hid hqs
 obtain ⟨Ad, cd, rfl, _, hld, _⟩ := hd
 obtain ⟨Ap, cp, rfl, _, hlp, hqp⟩ := hp
 have hfl : fn < p.length := by
  rcases Nat.lt_or_ge fn p.length with h | h
  ·exact h
  ·rw [List.getElem?_eq_none h] at hf; cases hf
 obtain ⟨bp, op, rfl, hbp, hqp⟩ := hqp (by omega)
 obtain ⟨fy, hfv, hfc⟩ := hqp fn f hf
 have p2 := hfc 2 (by omega)
 have P2 : Hid (w.cell? ⟨bp, op + fn * 8 + 2, none⟩ = some (.int .i64 f.locals)) := Lib.hid p2
 have hln2 : g.nodes.length ≤ 17592186044416 := by unfold lim at hln; omega
 have hls2 : g.states.length ≤ 17592186044416 := by unfold lim at hls; omega
 have hld2 : ds.length ≤ 17592186044416 := by unfold lim at hld; omega
 have hlp2 : p.length ≤ 17592186044416 := by unfold lim at hlp; omega
 clear hln hls hld hlp hqs hqp hfv hfc p2 hf hfn
 have ee : gval g ⟨.slice An g.nodes.length cn, .slice Ab g.blocks.length cb, .slice As g.states.length cs⟩ = .agg #[.int .i64 g.fn, .int .i64 g.pc, .int .i64 g.slots, .slice An g.nodes.length cn, .slice Ab g.blocks.length cb, .slice As g.states.length cs] := rfl
 have E0 := Lib.hid ee; clear ee
 rw [E0.out]
 obtain ⟨w1, hw1⟩ : ∃ w1, w1 = w.alloc (.cells #[.int .i64 g.fn, .int .i64 g.pc, .int .i64 g.slots, .slice An g.nodes.length cn, .slice Ab g.blocks.length cb, .slice As g.states.length cs] 28) := ⟨_, rfl⟩
 have HK1 : Hid (Blk w1 w.heap.size 28 #[.int .i64 g.fn, .int .i64 g.pc, .int .i64 g.slots, .slice An g.nodes.length cn, .slice Ab g.blocks.length cb, .slice As g.states.length cs]) := Lib.hid (by rw [hw1]; exact Blk.new _ _ _)
 have HB1 : Hid (Below w.heap.size w w1) := Lib.hid (by rw [hw1]; exact (Below.refl _ _).alloc (Nat.le_refl _) _)
 go_enter Tryz.func19, Tryz.ntmps19
 go_upto_region 1 with fail
 rw [← hw1]
 clear hw1
 go_wp2_with fail
 go_loopw [7] (fun t wr => ∃ k : Nat, k ≤ g.states.length ∧ t = .int .i64 k ∧ Hid (Below w1.heap.size w1 wr) ∧ Hid (∀ y ∈ g.states.take k, ∀ a ∈ y.slots, -1 ≤ a ∧ a < (g.nodes.length : Int))) (fun t _ => g.states.length - (intOf t).toNat)
 case atStart => exact ⟨0, Nat.zero_le _, rfl, Lib.hid (Below.refl _ _), Lib.hid (by simp)⟩
 case round =>
  obtain ⟨k, hk, rfl, HBr, HR⟩ := hrel
  obtain ⟨wq, rfl⟩ : ∃ wq : World, wq = wr := ⟨_, rfl⟩
  have HBw : Hid (Below w.heap.size w wq) := Lib.hid (HB1.out.trans (HBr.out.mono HB1.out.size))
  have hk1 := HK1.out.below HBr.out HK1.out.lt
  have r0 : wq.cell? ⟨w.heap.size, 0, none⟩ = some (.int .i64 fn) := by rw [← HFN.out]; exact hk1.cell 0
  have r3 : wq.cell? ⟨w.heap.size, 3, none⟩ = some (.slice An g.nodes.length cn) := hk1.cell 3
  have r5 : wq.cell? ⟨w.heap.size, 5, none⟩ = some (.slice As g.states.length cs) := hk1.cell 5
  have rl := hk1.lt
  clear hk1
  by_cases hlt : k < g.states.length
  ·obtain ⟨y, hy⟩ := rget hlt
   obtain ⟨bz, oz, rfl, hbz, hqz⟩ := HQS.out (by omega)
   obtain ⟨t0, u1, t1, hi1⟩ := (hqz k y hy).keep (Same.of_below HBw.out) hbz
   have HI1 := Lib.hid hi1
   obtain ⟨A9, c9, rfl, _, m9, _⟩ := hi1
   have k9 : y.slots.length ≤ 17592186044416 := by unfold lim at m9; omega
   have HY := Lib.hid hy
   clear hqz hy m9
   obtain ⟨w2, hw2⟩ : ∃ w2, w2 = wq.alloc (.cells #[.int .i64 y.pc, .slice A9 y.slots.length c9] 108) := ⟨_, rfl⟩
   have hb2 : Below wq.heap.size wq w2 := by rw [hw2]; exact (Below.refl _ _).alloc (Nat.le_refl _) _
   have HK2 : Hid (Blk w2 wq.heap.size 108 #[.int .i64 y.pc, .slice A9 y.slots.length c9]) := Lib.hid (by rw [hw2]; exact Blk.new _ _ _)
   have HB2 := Lib.hid hb2
   have HBw2 : Hid (Below w.heap.size w w2) := Lib.hid (HBw.out.trans (hb2.mono HBw.out.size))
   go_upto_region 5 with fail
   rw [← hw2]
   clear hw2
   have s0 : w2.cell? ⟨wq.heap.size, 0, none⟩ = some (.int .i64 y.pc) := HK2.out.cell 0
   have s1 : w2.cell? ⟨wq.heap.size, 1, none⟩ = some (.slice A9 y.slots.length c9) := HK2.out.cell 1
   have sl := HK2.out.lt
   have R0 := (hb2.cell (p := ⟨w.heap.size, 0, none⟩) rl).trans r0
   have R3 := (hb2.cell (p := ⟨w.heap.size, 3, none⟩) rl).trans r3
   have R5 := (hb2.cell (p := ⟨w.heap.size, 5, none⟩) rl).trans r5
   have PP2 := (HBw2.out.cell (p := ⟨bp, op + fn * 8 + 2, none⟩) hbp).trans P2.out
   clear r0 r3 r5 t0 t1 hb2
   rcases d1 : decide (y.pc < 0) with _ | _
   ·rcases d2 : decide ((ds.length : Int) ≤ y.pc) with _ | _
    ·obtain ⟨pc, hpc⟩ : ∃ pc : Nat, y.pc = (pc : Int) := ⟨y.pc.toNat, by have := of_decide_eq_false d1; omega⟩
     have hpl : pc < ds.length := by have := of_decide_eq_false d2; omega
     obtain ⟨B6, o6, rfl, _, hp6⟩ := (HD.out.keep (Same.of_below HBw2.out)).cells hpl
     obtain ⟨d, hd⟩ := rget hpl
     have e0 := hp6 pc d hd
     rw [hpc] at s0 d1
     have d2n : decide (ds.length ≤ pc) = false := decide_eq_false (by omega)
     clear hp6 hd hpc d2
     rcases d3 : decide (d < 0) with _ | _
     ·go_upto_region 6 with go_quiet (fail)
      ·go_wp2_with fail
       go_ret
       exact ⟨⟨false, rfl, fun h => by cases h⟩, bdrew HBw2.out⟩
      ·have HW0 : Hid (Below w2.heap.size w2 (w2.drewN nq)) := Lib.hid (bdrew (Below.refl _ _))
       have HI2 : Hid (IntsV w2 w2.heap.size (.slice A9 y.slots.length c9) y.slots) := Lib.hid (((HI1.out.mono HBw.out.size).keep (Same.of_below HB2.out)).mono HB2.out.size)
       clear s0 R0 R5 PP2 e0 d1 d2n d3
       go_loopw [9] (fun t wr => ∃ j : Nat, j ≤ y.slots.length ∧ t = .int .i64 j ∧ Hid (Below w2.heap.size w2 wr) ∧ Hid (∀ n a, n < j → y.slots[n]? = some a → -1 ≤ a ∧ a < (g.nodes.length : Int))) (fun t _ => y.slots.length - (intOf t).toNat)
       case atStart => exact ⟨0, Nat.zero_le _, rfl, HW0, Lib.hid (fun j a h => by omega)⟩
       case round =>
        obtain ⟨j, hj, rfl, HW3, HR2⟩ := hrel
        have S1 : wr.cell? ⟨wq.heap.size, 1, none⟩ = some (.slice A9 y.slots.length c9) := (HW3.out.cell (p := ⟨wq.heap.size, 1, none⟩) sl).trans s1
        have S3 : wr.cell? ⟨w.heap.size, 3, none⟩ = some (.slice An g.nodes.length cn) := (HW3.out.cell (p := ⟨w.heap.size, 3, none⟩) (show w.heap.size < w2.heap.size by omega)).trans R3
        by_cases hjl : j < y.slots.length
        ·obtain ⟨B8, o8, rfl, _, hp8⟩ := (HI2.out.keep (Same.of_below HW3.out)).cells hjl
         obtain ⟨a, ha⟩ := rget hjl
         have c0 := hp8 j a ha
         have HAa := Lib.hid ha
         clear hp8 ha
         rcases h1 : decide (a < -1) with _ | _
         ·rcases h2 : decide ((g.nodes.length : Int) ≤ a) with _ | _
          ·have H1 := Lib.hid h1; have H2 := Lib.hid h2
           go_wp2_with go_quiet (fail)
           go_roundw
           case rel => exact ⟨j + 1, by omega, by go_num, Lib.hid (bdrew HW3.out), Lib.hid (fun n z hn hz => by
            rcases Nat.lt_or_ge n j with h | h
            ·exact HR2.out n z h hz
            ·obtain rfl : n = j := by omega
             rw [HAa.out] at hz; injection hz with hz; subst hz
             have h3 := of_decide_eq_false H1.out
             have h4 := of_decide_eq_false H2.out
             omega)⟩
           case measure => simp [intOf]; omega
          ·go_wp2_with go_quiet (fail)
           go_ret
           exact ⟨⟨false, rfl, fun h => by cases h⟩, HBw2.out.trans ((bdrew HW3.out).mono HBw2.out.size)⟩
         ·go_wp2_with go_quiet (fail)
          go_ret
          exact ⟨⟨false, rfl, fun h => by cases h⟩, HBw2.out.trans ((bdrew HW3.out).mono HBw2.out.size)⟩
        ·have HR4 : Hid (∀ y' ∈ g.states.take (k + 1), ∀ a ∈ y'.slots, -1 ≤ a ∧ a < (g.nodes.length : Int)) := Lib.hid (fun y' hy' a ha => by
          rw [List.take_add_one, HY.out] at hy'
          rcases List.mem_append.1 hy' with hy' | hy'
          ·exact HR.out y' hy' a ha
          ·simp at hy'; subst hy'
           obtain ⟨n, hn⟩ := List.mem_iff_getElem?.1 ha
           refine HR2.out n a ?_ hn
           rcases Nat.lt_or_ge n y'.slots.length with q | q
           ·omega
           ·rw [List.getElem?_eq_none q] at hn; cases hn)
         go_wp2_with fail
         go_roundw
         case rel => exact ⟨k + 1, by omega, by go_num, Lib.hid (HBr.out.trans ((HB2.out.trans (HW3.out.mono HB2.out.size)).mono HBr.out.size)), HR4⟩
         case measure => simp [intOf]; omega
     ·go_wp2_with go_quiet (fail)
      go_ret
      exact ⟨⟨false, rfl, fun h => by cases h⟩, bdrew HBw2.out⟩
    ·go_wp2_with go_quiet (fail)
     go_ret
     exact ⟨⟨false, rfl, fun h => by cases h⟩, bdrew HBw2.out⟩
   ·go_wp2_with go_quiet (fail)
    go_ret
    exact ⟨⟨false, rfl, fun h => by cases h⟩, bdrew HBw2.out⟩
  ·go_wp2_with fail
   go_ret
   exact ⟨⟨true, rfl, fun _ y hy => HR.out y (by rw [List.take_of_length_le (by omega)]; exact hy)⟩, HBw.out⟩
end Go.Proofs.YtkmfdiboekoioaaGreat
