/- graph.look.end: may a block's end be, but for where its args stand? Conditions: a graph that is looked at. -/
import Derived.Test.YtkmfdiboekoioaaGreatCLk10
set_option linter.unusedSimpArgs false
set_option linter.unusedVariables false
namespace Go.Proofs.YtkmfdiboekoioaaGreat
open Go.RowKit
def EndOk (g : GraphP) (x : BlockP) : Prop := (∀ a ∈ x.args, 0 ≤ a ∧ a < (g.nodes.length : Int)) ∧ (∀ k ∈ x.next, 1 ≤ k ∧ k < (g.blocks.length : Int)) ∧ -1 ≤ x.state ∧ x.state < (g.states.length : Int)
def EndIs (g : GraphP) (x : BlockP) (w : World) (e : Ending) (w' : World) : Prop := ∃ t, e = .returned (.bool t) ∧ (t = true → EndOk g x) ∧ Below w.heap.size w w'
set_option maxRecDepth 100000 in
set_option maxHeartbeats 8000000 in
theorem end_any (w : World) (B bl : Nat) (pv : Value) (p : List FnP) (xv : GVals) (g : GraphP) (dv av bv : Value) (h : LkBox w B bl pv p xv g dv av bv) (n : Nat) (x : BlockP) (hx : g.blocks[n]? = some x) :
    Calls Tryz.prog 44 #[.pointer (some ⟨bl, 0, none⟩), .int .i64 n] w (EndIs g x w) := by
  have HL := Lib.hid h; have HX := Lib.hid hx
  have hn := (List.getElem?_eq_some_iff.1 hx).1
  obtain ⟨vn, vb, vs⟩ := xv
  obtain ⟨Ab, cb, rfl, _, hlb, hpb⟩ := h.gr.2.1
  obtain ⟨bb, ob, rfl, hbb, hpb⟩ := hpb (by omega)
  obtain ⟨As, cs, rfl, _, hls, _⟩ := h.gr.2.2
  obtain ⟨⟨u0, g0, i0⟩, g1, ⟨u2, g2, i2⟩, ⟨u3, g3, i3⟩, ⟨u4, g4, i4⟩, g5⟩ := hpb n x hx
  have HI2 := Lib.hid (i2.mono h.hB)
  have HI3 := Lib.hid (i3.mono h.hB)
  have hblim : g.blocks.length ≤ 17592186044416 := by unfold lim at hlb; omega
  have hslim : g.states.length ≤ 17592186044416 := by unfold lim at hls; omega
  obtain ⟨A0, d0, rfl, _⟩ := i0
  obtain ⟨A2, d2, rfl, _, q2, _⟩ := i2
  obtain ⟨A3, d3, rfl, _, q3, _⟩ := i3
  obtain ⟨A4, d4, rfl, _⟩ := i4
  have hal : x.args.length ≤ 17592186044416 := by unfold lim at q2; omega
  have hnl : x.next.length ≤ 17592186044416 := by unfold lim at q3; omega
  obtain ⟨w1, hw1⟩ : ∃ w1, w1 = w.alloc (.cells #[.pointer (some ⟨bl, 0, none⟩)] 84) := ⟨_, rfl⟩
  have hb1 : Below w.heap.size w w1 := by rw [hw1]; exact (Below.refl _ _).alloc (Nat.le_refl _) _
  have hX1 : Blk w1 w.heap.size 84 #[.pointer (some ⟨bl, 0, none⟩)] := by rw [hw1]; exact Blk.new _ _ _
  obtain ⟨w2, hw2⟩ : ∃ w2, w2 = w1.alloc (.cells #[.slice A0 x.nodes.length d0, .int .u8 x.fin, .slice A2 x.args.length d2, .slice A3 x.next.length d3, .slice A4 x.ahead.length d4, .int .i64 x.state] 41) := ⟨_, rfl⟩
  have hb2 : Below w.heap.size w w2 := by rw [hw2]; exact hb1.alloc hb1.size _
  have hX2 : Blk w2 w1.heap.size 41 #[.slice A0 x.nodes.length d0, .int .u8 x.fin, .slice A2 x.args.length d2, .slice A3 x.next.length d3, .slice A4 x.ahead.length d4, .int .i64 x.state] := by rw [hw2]; exact Blk.new _ _ _
  have hX12 : Blk w2 w.heap.size 84 #[.pointer (some ⟨bl, 0, none⟩)] := by rw [hw2]; exact hX1.alloc _
  obtain ⟨w3, hw3⟩ : ∃ w3, w3 = w2.alloc (.map #[] 0) := ⟨_, rfl⟩
  have hm3 : ShMap w3 w2.heap.size := by rw [hw3]; exact ShMap.made w2
  have hb3 : Below w2.heap.size w2 w3 := by rw [hw3]; exact (Below.refl _ _).alloc (Nat.le_refl _) _
  obtain ⟨w4, hu4, hm4, hg4, hs4⟩ := hm3.update (P := Tryz.prog) Tryz.underlying140 Tryz.underlying39 1 (.agg #[.int .i64 0, .int .i64 1, .int .i64 0]) ⟨_, _, _, rfl⟩
  obtain ⟨w5, hu5, hm5, hg5, hs5⟩ := hm4.update (P := Tryz.prog) Tryz.underlying140 Tryz.underlying39 2 (.agg #[.int .i64 1, .int .i64 2, .int .i64 1]) ⟨_, _, _, rfl⟩
  obtain ⟨w6, hu6, hm6, hg6, hs6⟩ := hm5.update (P := Tryz.prog) Tryz.underlying140 Tryz.underlying39 3 (.agg #[.int .i64 0, .int .i64 1, .int .i64 1]) ⟨_, _, _, rfl⟩
  obtain ⟨w7, hu7, hm7, hg7, hs7⟩ := hm6.update (P := Tryz.prog) Tryz.underlying140 Tryz.underlying39 4 (.agg #[.int .i64 1, .int .i64 0, .int .i64 0]) ⟨_, _, _, rfl⟩
  obtain ⟨w8, hu8, hm8, hg8, hs8⟩ := hm7.update (P := Tryz.prog) Tryz.underlying140 Tryz.underlying39 5 (.agg #[.int .i64 1, .int .i64 0, .int .i64 1]) ⟨_, _, _, rfl⟩
  obtain ⟨sa, sb, sc, ok, hlk⟩ := hm8.look (P := Tryz.prog) Tryz.underlying140 Tryz.underlying39 (by kernel_rfl) x.fin
  have hb8 : Below w2.heap.size w2 w8 := by
    exact ((((hb3.grown hg4 hb3.size (fun j e => by injection e with e; omega)).grown hg5 (by have := hb3.size; omega) (fun j e => by injection e with e; omega)).grown hg6 (by have := hb3.size; omega) (fun j e => by injection e with e; omega)).grown hg7 (by have := hb3.size; omega) (fun j e => by injection e with e; omega)).grown hg8 (by have := hb3.size; omega) (fun j e => by injection e with e; omega)
  obtain ⟨w9, hw9⟩ : ∃ w9, w9 = w8.alloc (.cells #[.int .i64 sa, .int .i64 sb, .int .i64 sc] 139) := ⟨_, rfl⟩
  have hb9 : Below w2.heap.size w2 w9 := by rw [hw9]; exact hb8.alloc hb8.size _
  have hX9 : Blk w9 w8.heap.size 139 #[.int .i64 sa, .int .i64 sb, .int .i64 sc] := by rw [hw9]; exact Blk.new _ _ _
  have yl := hX2.lt
  have z0 := (hb9.cell (p := ⟨w.heap.size, 0, none⟩) hX12.lt).trans (hX12.cell 0)
  have zl := Nat.lt_of_lt_of_le hX12.lt hb9.size
  have y1 : w8.cell? ⟨w1.heap.size, 1, none⟩ = some (.int .u8 x.fin) := (hb8.cell (p := ⟨w1.heap.size, 1, none⟩) yl).trans (hX2.cell 1)
  have yl8 := Nat.lt_of_lt_of_le yl hb8.size
  have k1 : w1.cell? ⟨w.heap.size, 0, none⟩ = some (.pointer (some ⟨bl, 0, none⟩)) := hX1.cell 0
  have kl := hX1.lt
  have HL1 := Lib.hid (h.below hb1)
  have c5 : w1.cell? ⟨bl, 5, none⟩ = some (.slice (some ⟨bb, ob, none⟩) g.blocks.length cb) := (h.below hb1).cells.2.2.2.2.2.1
  have hll := (h.below hb1).box.lt
  have f0 := (hb1.cell (p := ⟨bb, ob + n * 6, none⟩) (Nat.lt_of_lt_of_le hbb h.hB)).trans g0
  have f1 := (hb1.cell (p := ⟨bb, ob + n * 6 + 1, none⟩) (Nat.lt_of_lt_of_le hbb h.hB)).trans g1
  have f2 := (hb1.cell (p := ⟨bb, ob + n * 6 + 2, none⟩) (Nat.lt_of_lt_of_le hbb h.hB)).trans g2
  have f3 := (hb1.cell (p := ⟨bb, ob + n * 6 + 3, none⟩) (Nat.lt_of_lt_of_le hbb h.hB)).trans g3
  have f4 := (hb1.cell (p := ⟨bb, ob + n * 6 + 4, none⟩) (Nat.lt_of_lt_of_le hbb h.hB)).trans g4
  have f5 := (hb1.cell (p := ⟨bb, ob + n * 6 + 5, none⟩) (Nat.lt_of_lt_of_le hbb h.hB)).trans g5
  have HB9 : Hid (Below w.heap.size w w9) := Lib.hid (hb2.trans (hb9.mono hb2.size))
  have HL9 := Lib.hid (h.below HB9.out)
  have HY9 : Hid (Blk w9 w1.heap.size 41 #[.slice A0 x.nodes.length d0, .int .u8 x.fin, .slice A2 x.args.length d2, .slice A3 x.next.length d3, .slice A4 x.ahead.length d4, .int .i64 x.state]) := Lib.hid (hX2.below hb9 yl)
  have HX9 := Lib.hid hX9
  have HI29 := Lib.hid (HI2.out.later HB9.out (Nat.le_refl _))
  have HI39 := Lib.hid (HI3.out.later HB9.out (Nat.le_refl _))
  clear h hb1 hX1 hb2 hX2 hX12 hm3 hb3 hm4 hg4 hs4 hm5 hg5 hs5 hm6 hg6 hs6 hm7 hg7 hs7 hm8 hg8 hs8 hb8 hb9 hX9 hx hpb q2 q3 hlb hls g0 g1 g2 g3 g4 g5 HI2 HI3
  rw [hw3] at hu4
  clear hw3
  have hmm := @run_makeMap Tryz.prog
  go_enter Tryz.func44, Tryz.ntmps44
  go_upto_region 1 with fail
  rw [← hw1]
  clear hw1
  go_upto_region 2 with fail
  rw [← hw2]
  clear hw2
  go_upto_region 3 with fail
  clear hmm hu4 hu5 hu6 hu7 hu8
  go_upto_region 4 with fail
  rw [← hw9]
  clear hw9 hlk y1
  have y1 := HY9.out.cell 1
  have y2 := HY9.out.cell 2
  have y3 := HY9.out.cell 3
  have y5 := HY9.out.cell 5
  have ylt := HY9.out.lt
  have x0 := HX9.out.cell 0
  have x1 := HX9.out.cell 1
  have x2 := HX9.out.cell 2
  have xlt := HX9.out.lt
  have c5 := HL9.out.cells.2.2.2.2.2.1
  have c6 := HL9.out.cells.2.2.2.2.2.2.1
  have hll9 := HL9.out.box.lt
  simp only at c5 c6
  clear k1 kl hll f0 f1 f2 f3 f4 f5 yl yl8 HL1 HL
  by_cases hs0 : 0 ≤ x.state
  · go_upto_region 7 with fail
    rcases ok with _ | _
    · have _ := trivial
      go_quiet (fail)
      go_wp2_with fail
      go_ret
      exact ⟨false, rfl, (fun h => by cases h), HB9.out.trans ((below_drewN (Below.refl _ _) _).mono HB9.out.size)⟩
    · by_cases e1 : (x.args.length : Int) = sa
      rotate_left
      · have d1 : ((x.args.length : Int) != sa) = true := bne_iff_ne.2 e1
        clear e1
        go_quiet (fail)
        go_wp2_with fail
        go_ret
        exact ⟨false, rfl, (fun h => by cases h), HB9.out.trans ((below_drewN (Below.refl _ _) _).mono HB9.out.size)⟩
      subst e1
      by_cases e2 : (x.next.length : Int) = sb
      rotate_left
      · have d2 : ((x.next.length : Int) != sb) = true := bne_iff_ne.2 e2
        clear e2
        go_quiet (fail)
        go_wp2_with fail
        go_ret
        exact ⟨false, rfl, (fun h => by cases h), HB9.out.trans ((below_drewN (Below.refl _ _) _).mono HB9.out.size)⟩
      subst e2
      by_cases e3 : (1 : Int) = sc
      rotate_left
      · have d3 : ((1 : Int) != sc) = true := bne_iff_ne.2 e3
        clear e3
        go_quiet (fail)
        go_wp2_with fail
        go_ret
        exact ⟨false, rfl, (fun h => by cases h), HB9.out.trans ((below_drewN (Below.refl _ _) _).mono HB9.out.size)⟩
      subst e3
      by_cases e4 : x.state < -1
      · exfalso; omega
      have H4 := Lib.hid e4
      have d4 : decide (x.state < -1) = false := decide_eq_false e4
      clear e4
      by_cases e5 : (g.states.length : Int) ≤ x.state
      · have d5 : decide ((g.states.length : Int) ≤ x.state) = true := decide_eq_true e5
        go_quiet (fail)
        go_wp2_with fail
        go_ret
        exact ⟨false, rfl, (fun h => by cases h), HB9.out.trans ((below_drewN (Below.refl _ _) _).mono HB9.out.size)⟩
      have d5 : decide ((g.states.length : Int) ≤ x.state) = false := decide_eq_false e5
      have H5 := Lib.hid e5
      clear e5
      go_quiet (fail)
      have HOk0 : Hid (-1 ≤ x.state ∧ x.state < (g.states.length : Int)) := Lib.hid ⟨by have := H4.out; omega, by have := H5.out; omega⟩
      have hb10 : Below w9.heap.size w9 (w9.drewN nq) := below_drewN (Below.refl _ _) _
      have HL10 := Lib.hid (HL9.out.below hb10)
      have HI10 := Lib.hid (HI29.out.later hb10 (Nat.le_refl _))
      have z10 := (hb10.cell (p := ⟨w.heap.size, 0, none⟩) zl).trans z0
      have zl10 := Nat.lt_of_lt_of_le zl hb10.size
      have HB10 : Hid (Below w.heap.size w (w9.drewN nq)) := Lib.hid (HB9.out.trans (hb10.mono HB9.out.size))
      have HI310 := Lib.hid (HI39.out.later hb10 (Nat.le_refl _))
      have y110 := (hb10.cell (p := ⟨w1.heap.size, 1, none⟩) ylt).trans y1
      have y310 := (hb10.cell (p := ⟨w1.heap.size, 3, none⟩) ylt).trans y3
      have ylt10 := Nat.lt_of_lt_of_le ylt hb10.size
      clear hb10
      rcases bool_or (x.args.any (fun n => !(decide (0 ≤ n) && decide (n < (g.nodes.length : Int))))) with hm | hm
      rotate_left
      · have HT1 : Hid (true = x.args.any (fun n => !(decide (0 ≤ n) && decide (n < (g.nodes.length : Int))))) := Lib.hid hm.symm
        clear hm
        go_wp2_with (go_at_call 65; refine (ctInt_any (w9.drewN nq) _ x.args 89 #[] #[.pointer (some ⟨w.heap.size, 0, none⟩)] _ HI10.out (fun _ _ => by kernel_rfl) (fun wr y _ hwr => endArg_any wr B bl w.heap.size _ p _ g _ av bv (HL10.out.below hwr) ((hwr.cell (p := ⟨w.heap.size, 0, none⟩) zl10).trans z10) y) true HT1.out).mono ?_; rintro e w11 ⟨rfl, hb11⟩; have HB11 := Lib.hid hb11; clear hb11)
        go_ret
        exact ⟨false, rfl, (fun h => by cases h), HB10.out.trans (HB11.out.mono HB10.out.size)⟩
      have HT1 : Hid (false = x.args.any (fun n => !(decide (0 ≤ n) && decide (n < (g.nodes.length : Int))))) := Lib.hid hm.symm
      clear hm
      go_upto_region 11 with (go_at_call 65; refine (ctInt_any (w9.drewN nq) _ x.args 89 #[] #[.pointer (some ⟨w.heap.size, 0, none⟩)] _ HI10.out (fun _ _ => by kernel_rfl) (fun wr y _ hwr => endArg_any wr B bl w.heap.size _ p _ g _ av bv (HL10.out.below hwr) ((hwr.cell (p := ⟨w.heap.size, 0, none⟩) zl10).trans z10) y) false HT1.out).mono ?_; rintro e w11 ⟨rfl, hb11⟩; have HB11 := Lib.hid hb11; clear hb11)
      have HL11 := Lib.hid (HL10.out.below HB11.out)
      have HI11 := Lib.hid (HI310.out.later HB11.out (Nat.le_refl _))
      have HBw : Hid (Below w.heap.size w w11) := Lib.hid (HB10.out.trans (HB11.out.mono HB10.out.size))
      have z11 := (HB11.out.cell (p := ⟨w.heap.size, 0, none⟩) zl10).trans z10
      have zl11 := Nat.lt_of_lt_of_le zl10 HB11.out.size
      have y111 := (HB11.out.cell (p := ⟨w1.heap.size, 1, none⟩) ylt10).trans y110
      have y311 := (HB11.out.cell (p := ⟨w1.heap.size, 3, none⟩) ylt10).trans y310
      have ylt11 := Nat.lt_of_lt_of_le ylt10 HB11.out.size
      clear z0 y1 y2 y3 y5 x0 x1 x2 zl ylt xlt c5 c6 hll9 z10 zl10 y110 y310 ylt10 HB10 HL10 HI10 HI310 HB11 HL9 HI29 HI39 HB9 HY9 HX9 d4 d5
      go_wp2_with fail
      go_loopw [84] (fun i wr => ∃ k : Nat, k ≤ x.next.length ∧ i = .int .i64 k ∧ Hid (Below w11.heap.size w11 wr) ∧ Hid (∀ j : Nat, j < k → ∀ a, x.next[j]? = some a → 1 ≤ a ∧ a < (g.blocks.length : Int))) (fun i _ => x.next.length - (intOf i).toNat)
      case atStart => exact ⟨0, Nat.zero_le _, rfl, Lib.hid (Below.refl _ _), Lib.hid (fun j h => by omega)⟩
      case round =>
        obtain ⟨k, hk, rfl, HB, HA⟩ := hrel
        have zr := (HB.out.cell (p := ⟨w.heap.size, 0, none⟩) zl11).trans z11
        have zlr := Nat.lt_of_lt_of_le zl11 HB.out.size
        have yr1 := (HB.out.cell (p := ⟨w1.heap.size, 1, none⟩) ylt11).trans y111
        have yr3 := (HB.out.cell (p := ⟨w1.heap.size, 3, none⟩) ylt11).trans y311
        have yltr := Nat.lt_of_lt_of_le ylt11 HB.out.size
        by_cases hlt : k < x.next.length
        · obtain ⟨Bn, on, rfl, hbn, hpn⟩ := (HI11.out.later HB.out (Nat.le_refl _)).cells hlt
          obtain ⟨a, ha⟩ := getL hlt
          have fa := hpn k a ha
          have HAa := Lib.hid ha
          have c5 := (HL11.out.below HB.out).cells.2.2.2.2.2.1
          have hllr := (HL11.out.below HB.out).box.lt
          simp only at c5
          clear hpn ha
          by_cases a1 : a < 1
          · go_wp2_with fail
            go_ret
            exact ⟨false, rfl, (fun h => by cases h), HBw.out.trans (HB.out.mono HBw.out.size)⟩
          have HA1 := Lib.hid a1
          have da1 : decide (a < 1) = false := decide_eq_false a1
          clear a1
          by_cases a2 : (g.blocks.length : Int) ≤ a
          · go_wp2_with fail
            go_ret
            exact ⟨false, rfl, (fun h => by cases h), HBw.out.trans (HB.out.mono HBw.out.size)⟩
          have HA2 := Lib.hid a2
          have da2 : decide ((g.blocks.length : Int) ≤ a) = false := decide_eq_false a2
          clear a2
          rcases bool_or (x.fin == 3) with q1 | q1 <;> rcases bool_or (decide (a ≤ (n : Int))) with q2 | q2
          all_goals go_wp2_with fail
          all_goals first
            | (go_ret; exact ⟨false, rfl, (fun h => by cases h), HBw.out.trans (HB.out.mono HBw.out.size)⟩)
            | skip
          all_goals
            go_roundw
            case rel => exact ⟨k + 1, by omega, by go_num, HB, Lib.hid (fun j hj c hc => by
              rcases Nat.lt_or_ge j k with h | h
              · exact HA.out j h c hc
              · obtain rfl : j = k := by omega
                rw [HAa.out] at hc
                injection hc with hc
                subst hc
                exact ⟨by have := HA1.out; omega, by have := HA2.out; omega⟩)⟩
            case measure => simp [intOf]; omega
        · have HOk : Hid (EndOk g x) := Lib.hid ⟨fun a ha => by
            have := HT1.out.symm
            rw [List.any_eq_false] at this
            simpa using this a ha, fun a ha => by
            obtain ⟨j, hj⟩ := List.mem_iff_getElem?.1 ha
            exact HA.out j (by have := (List.getElem?_eq_some_iff.1 hj).1; omega) a hj, HOk0.out⟩
          by_cases l2 : x.next.length < 2
          · have l2' : (x.next.length : Int) < 2 := by omega
            go_upto_region 17 with fail
            go_quiet (fail)
            go_wp2_with fail
            go_ret
            exact ⟨true, rfl, (fun _ => HOk.out), HBw.out.trans ((HB.out.trans ((below_drewN (Below.refl _ _) _).mono HB.out.size)).mono HBw.out.size)⟩
          · have l2' : decide ((x.next.length : Int) < 2) = false := by rw [decide_eq_false_iff_not]; omega
            obtain ⟨Bn, on, rfl, hbn, hpn⟩ := (HI11.out.later HB.out (Nat.le_refl _)).cells (k := 0) (by omega)
            obtain ⟨a, ha⟩ := getL (show 0 < x.next.length by omega)
            obtain ⟨c, hc⟩ := getL (show 1 < x.next.length by omega)
            have fa : wr.cell? ⟨Bn, on, none⟩ = some (.int .i64 a) := hpn 0 a ha
            have fc := hpn 1 c hc
            have n0 : (0 : Int) < x.next.length := by omega
            have n1 : (1 : Int) < x.next.length := by omega
            have n2 : 0 < x.next.length := by omega
            have n3 : 1 < x.next.length := by omega
            have n4 : x.next ≠ [] := fun e => by rw [e] at n2; simp at n2
            clear hpn ha hc l2
            go_upto_region 17 with fail
            go_quiet (fail)
            go_wp2_with fail
            go_ret
            exact ⟨_, rfl, (fun _ => HOk.out), HBw.out.trans ((HB.out.trans ((below_drewN (Below.refl _ _) _).mono HB.out.size)).mono HBw.out.size)⟩
  · go_upto_region 7 with fail
    rcases ok with _ | _
    · have _ := trivial
      go_quiet (fail)
      go_wp2_with fail
      go_ret
      exact ⟨false, rfl, (fun h => by cases h), HB9.out.trans ((below_drewN (Below.refl _ _) _).mono HB9.out.size)⟩
    · by_cases e1 : (x.args.length : Int) = sa
      rotate_left
      · have d1 : ((x.args.length : Int) != sa) = true := bne_iff_ne.2 e1
        clear e1
        go_quiet (fail)
        go_wp2_with fail
        go_ret
        exact ⟨false, rfl, (fun h => by cases h), HB9.out.trans ((below_drewN (Below.refl _ _) _).mono HB9.out.size)⟩
      subst e1
      by_cases e2 : (x.next.length : Int) = sb
      rotate_left
      · have d2 : ((x.next.length : Int) != sb) = true := bne_iff_ne.2 e2
        clear e2
        go_quiet (fail)
        go_wp2_with fail
        go_ret
        exact ⟨false, rfl, (fun h => by cases h), HB9.out.trans ((below_drewN (Below.refl _ _) _).mono HB9.out.size)⟩
      subst e2
      by_cases e3 : (0 : Int) = sc
      rotate_left
      · have d3 : ((0 : Int) != sc) = true := bne_iff_ne.2 e3
        clear e3
        go_quiet (fail)
        go_wp2_with fail
        go_ret
        exact ⟨false, rfl, (fun h => by cases h), HB9.out.trans ((below_drewN (Below.refl _ _) _).mono HB9.out.size)⟩
      subst e3
      by_cases e4 : x.state < -1
      · have d4 : decide (x.state < -1) = true := decide_eq_true e4
        go_quiet (fail)
        go_wp2_with fail
        go_ret
        exact ⟨false, rfl, (fun h => by cases h), HB9.out.trans ((below_drewN (Below.refl _ _) _).mono HB9.out.size)⟩
      have H4 := Lib.hid e4
      have d4 : decide (x.state < -1) = false := decide_eq_false e4
      clear e4
      by_cases e5 : (g.states.length : Int) ≤ x.state
      · exfalso; omega
      have d5 : decide ((g.states.length : Int) ≤ x.state) = false := decide_eq_false e5
      have H5 := Lib.hid e5
      clear e5
      go_quiet (fail)
      have HOk0 : Hid (-1 ≤ x.state ∧ x.state < (g.states.length : Int)) := Lib.hid ⟨by have := H4.out; omega, by have := H5.out; omega⟩
      have hb10 : Below w9.heap.size w9 (w9.drewN nq) := below_drewN (Below.refl _ _) _
      have HL10 := Lib.hid (HL9.out.below hb10)
      have HI10 := Lib.hid (HI29.out.later hb10 (Nat.le_refl _))
      have z10 := (hb10.cell (p := ⟨w.heap.size, 0, none⟩) zl).trans z0
      have zl10 := Nat.lt_of_lt_of_le zl hb10.size
      have HB10 : Hid (Below w.heap.size w (w9.drewN nq)) := Lib.hid (HB9.out.trans (hb10.mono HB9.out.size))
      have HI310 := Lib.hid (HI39.out.later hb10 (Nat.le_refl _))
      have y110 := (hb10.cell (p := ⟨w1.heap.size, 1, none⟩) ylt).trans y1
      have y310 := (hb10.cell (p := ⟨w1.heap.size, 3, none⟩) ylt).trans y3
      have ylt10 := Nat.lt_of_lt_of_le ylt hb10.size
      clear hb10
      rcases bool_or (x.args.any (fun n => !(decide (0 ≤ n) && decide (n < (g.nodes.length : Int))))) with hm | hm
      rotate_left
      · have HT1 : Hid (true = x.args.any (fun n => !(decide (0 ≤ n) && decide (n < (g.nodes.length : Int))))) := Lib.hid hm.symm
        clear hm
        go_wp2_with (go_at_call 65; refine (ctInt_any (w9.drewN nq) _ x.args 89 #[] #[.pointer (some ⟨w.heap.size, 0, none⟩)] _ HI10.out (fun _ _ => by kernel_rfl) (fun wr y _ hwr => endArg_any wr B bl w.heap.size _ p _ g _ av bv (HL10.out.below hwr) ((hwr.cell (p := ⟨w.heap.size, 0, none⟩) zl10).trans z10) y) true HT1.out).mono ?_; rintro e w11 ⟨rfl, hb11⟩; have HB11 := Lib.hid hb11; clear hb11)
        go_ret
        exact ⟨false, rfl, (fun h => by cases h), HB10.out.trans (HB11.out.mono HB10.out.size)⟩
      have HT1 : Hid (false = x.args.any (fun n => !(decide (0 ≤ n) && decide (n < (g.nodes.length : Int))))) := Lib.hid hm.symm
      clear hm
      go_upto_region 11 with (go_at_call 65; refine (ctInt_any (w9.drewN nq) _ x.args 89 #[] #[.pointer (some ⟨w.heap.size, 0, none⟩)] _ HI10.out (fun _ _ => by kernel_rfl) (fun wr y _ hwr => endArg_any wr B bl w.heap.size _ p _ g _ av bv (HL10.out.below hwr) ((hwr.cell (p := ⟨w.heap.size, 0, none⟩) zl10).trans z10) y) false HT1.out).mono ?_; rintro e w11 ⟨rfl, hb11⟩; have HB11 := Lib.hid hb11; clear hb11)
      have HL11 := Lib.hid (HL10.out.below HB11.out)
      have HI11 := Lib.hid (HI310.out.later HB11.out (Nat.le_refl _))
      have HBw : Hid (Below w.heap.size w w11) := Lib.hid (HB10.out.trans (HB11.out.mono HB10.out.size))
      have z11 := (HB11.out.cell (p := ⟨w.heap.size, 0, none⟩) zl10).trans z10
      have zl11 := Nat.lt_of_lt_of_le zl10 HB11.out.size
      have y111 := (HB11.out.cell (p := ⟨w1.heap.size, 1, none⟩) ylt10).trans y110
      have y311 := (HB11.out.cell (p := ⟨w1.heap.size, 3, none⟩) ylt10).trans y310
      have ylt11 := Nat.lt_of_lt_of_le ylt10 HB11.out.size
      clear z0 y1 y2 y3 y5 x0 x1 x2 zl ylt xlt c5 c6 hll9 z10 zl10 y110 y310 ylt10 HB10 HL10 HI10 HI310 HB11 HL9 HI29 HI39 HB9 HY9 HX9 d4 d5
      go_wp2_with fail
      go_loopw [84] (fun i wr => ∃ k : Nat, k ≤ x.next.length ∧ i = .int .i64 k ∧ Hid (Below w11.heap.size w11 wr) ∧ Hid (∀ j : Nat, j < k → ∀ a, x.next[j]? = some a → 1 ≤ a ∧ a < (g.blocks.length : Int))) (fun i _ => x.next.length - (intOf i).toNat)
      case atStart => exact ⟨0, Nat.zero_le _, rfl, Lib.hid (Below.refl _ _), Lib.hid (fun j h => by omega)⟩
      case round =>
        obtain ⟨k, hk, rfl, HB, HA⟩ := hrel
        have zr := (HB.out.cell (p := ⟨w.heap.size, 0, none⟩) zl11).trans z11
        have zlr := Nat.lt_of_lt_of_le zl11 HB.out.size
        have yr1 := (HB.out.cell (p := ⟨w1.heap.size, 1, none⟩) ylt11).trans y111
        have yr3 := (HB.out.cell (p := ⟨w1.heap.size, 3, none⟩) ylt11).trans y311
        have yltr := Nat.lt_of_lt_of_le ylt11 HB.out.size
        by_cases hlt : k < x.next.length
        · obtain ⟨Bn, on, rfl, hbn, hpn⟩ := (HI11.out.later HB.out (Nat.le_refl _)).cells hlt
          obtain ⟨a, ha⟩ := getL hlt
          have fa := hpn k a ha
          have HAa := Lib.hid ha
          have c5 := (HL11.out.below HB.out).cells.2.2.2.2.2.1
          have hllr := (HL11.out.below HB.out).box.lt
          simp only at c5
          clear hpn ha
          by_cases a1 : a < 1
          · go_wp2_with fail
            go_ret
            exact ⟨false, rfl, (fun h => by cases h), HBw.out.trans (HB.out.mono HBw.out.size)⟩
          have HA1 := Lib.hid a1
          have da1 : decide (a < 1) = false := decide_eq_false a1
          clear a1
          by_cases a2 : (g.blocks.length : Int) ≤ a
          · go_wp2_with fail
            go_ret
            exact ⟨false, rfl, (fun h => by cases h), HBw.out.trans (HB.out.mono HBw.out.size)⟩
          have HA2 := Lib.hid a2
          have da2 : decide ((g.blocks.length : Int) ≤ a) = false := decide_eq_false a2
          clear a2
          rcases bool_or (x.fin == 3) with q1 | q1 <;> rcases bool_or (decide (a ≤ (n : Int))) with q2 | q2
          all_goals go_wp2_with fail
          all_goals first
            | (go_ret; exact ⟨false, rfl, (fun h => by cases h), HBw.out.trans (HB.out.mono HBw.out.size)⟩)
            | skip
          all_goals
            go_roundw
            case rel => exact ⟨k + 1, by omega, by go_num, HB, Lib.hid (fun j hj c hc => by
              rcases Nat.lt_or_ge j k with h | h
              · exact HA.out j h c hc
              · obtain rfl : j = k := by omega
                rw [HAa.out] at hc
                injection hc with hc
                subst hc
                exact ⟨by have := HA1.out; omega, by have := HA2.out; omega⟩)⟩
            case measure => simp [intOf]; omega
        · have HOk : Hid (EndOk g x) := Lib.hid ⟨fun a ha => by
            have := HT1.out.symm
            rw [List.any_eq_false] at this
            simpa using this a ha, fun a ha => by
            obtain ⟨j, hj⟩ := List.mem_iff_getElem?.1 ha
            exact HA.out j (by have := (List.getElem?_eq_some_iff.1 hj).1; omega) a hj, HOk0.out⟩
          by_cases l2 : x.next.length < 2
          · have l2' : (x.next.length : Int) < 2 := by omega
            go_upto_region 17 with fail
            go_quiet (fail)
            go_wp2_with fail
            go_ret
            exact ⟨true, rfl, (fun _ => HOk.out), HBw.out.trans ((HB.out.trans ((below_drewN (Below.refl _ _) _).mono HB.out.size)).mono HBw.out.size)⟩
          · have l2' : decide ((x.next.length : Int) < 2) = false := by rw [decide_eq_false_iff_not]; omega
            obtain ⟨Bn, on, rfl, hbn, hpn⟩ := (HI11.out.later HB.out (Nat.le_refl _)).cells (k := 0) (by omega)
            obtain ⟨a, ha⟩ := getL (show 0 < x.next.length by omega)
            obtain ⟨c, hc⟩ := getL (show 1 < x.next.length by omega)
            have fa : wr.cell? ⟨Bn, on, none⟩ = some (.int .i64 a) := hpn 0 a ha
            have fc := hpn 1 c hc
            have n0 : (0 : Int) < x.next.length := by omega
            have n1 : (1 : Int) < x.next.length := by omega
            have n2 : 0 < x.next.length := by omega
            have n3 : 1 < x.next.length := by omega
            have n4 : x.next ≠ [] := fun e => by rw [e] at n2; simp at n2
            clear hpn ha hc l2
            go_upto_region 17 with fail
            go_quiet (fail)
            go_wp2_with fail
            go_ret
            exact ⟨_, rfl, (fun _ => HOk.out), HBw.out.trans ((HB.out.trans ((below_drewN (Below.refl _ _) _).mono HB.out.size)).mono HBw.out.size)⟩
end Go.Proofs.YtkmfdiboekoioaaGreat
