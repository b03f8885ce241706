/- graph.look.node: may a node be? Conditions: a graph that is looked at. -/
import Derived.Test.YtkmfdiboekoioaaGreatCLk13
import Derived.Test.YtkmfdiboekoioaaGreatCLk15
import Derived.Test.YtkmfdiboekoioaaGreatCLk16
set_option linter.unusedSimpArgs false
set_option linter.unusedVariables false
namespace Go.Proofs.YtkmfdiboekoioaaGreat
open Go.RowKit
set_option maxRecDepth 100000 in
set_option maxHeartbeats 16000000 in
theorem node_any (w : World) (B bl : Nat) (pv : Value) (p : List FnP) (xv : GVals) (g : GraphP) (dv av bv : Value) (al : List (Int × Int)) (abs : List (List Int)) (n : Nat) (y : NodeP) (qb qi : Nat) (x : BlockP) (row : List Int) (fn : Nat) (f : FnP) (F : NodF B p g al abs n y qb qi x row fn f) (M : StM w B bl pv p xv g dv av bv al abs) :
    Calls Tryz.prog 48 #[.pointer (some ⟨bl, 0, none⟩), .int .i64 n] w (NodIs g al abs y qb qi x row w) := by
  have HF := Lib.hid F; have HM := Lib.hid M
  have hn := (List.getElem?_eq_some_iff.1 F.hy).1
  have hb := (List.getElem?_eq_some_iff.1 F.hx).1
  have hna := (List.getElem?_eq_some_iff.1 F.hq).1
  obtain ⟨vn, vb, vs⟩ := xv
  obtain ⟨An, cn, rfl, _, hln, hpn⟩ := M.lk.gr.1
  obtain ⟨bn, on, rfl, hbn, hpn⟩ := hpn (by omega)
  obtain ⟨Ab, cb, rfl, _, hlb, hpb⟩ := M.lk.gr.2.1
  obtain ⟨bb, ob, rfl, hbb, hpb⟩ := hpb (by omega)
  obtain ⟨As, cs, rfl, _, hls, _⟩ := M.lk.gr.2.2
  obtain ⟨f0, ⟨v1, f1, j1⟩, f2, f3, f4⟩ := hpn n y F.hy
  obtain ⟨⟨u0, g0, i0⟩, g1, ⟨u2, g2, i2⟩, ⟨u3, g3, i3⟩, ⟨u4, g4, i4⟩, g5⟩ := hpb qb x F.hx
  have hnl : g.nodes.length ≤ 17592186044416 := by unfold lim at hln; omega
  have hbl : g.blocks.length ≤ 17592186044416 := by unfold lim at hlb; omega
  have hsl : g.states.length ≤ 17592186044416 := by unfold lim at hls; omega
  have HI1 := Lib.hid (j1.mono M.lk.hB)
  have HI0 := Lib.hid (i0.mono M.lk.hB)
  have HI4 := Lib.hid (i4.mono M.lk.hB)
  obtain ⟨A1, c1, rfl, _⟩ := j1
  obtain ⟨A0, d0, rfl, _⟩ := i0
  obtain ⟨A2, d2, rfl, _⟩ := i2
  obtain ⟨A3, d3, rfl, _⟩ := i3
  obtain ⟨A4, d4, rfl, _⟩ := i4
  obtain ⟨ba, ca, rfl, hca, hla, hlt, hp⟩ := M.at_
  obtain ⟨a0, a1⟩ := hp n _ F.hq
  obtain ⟨w1, hw1⟩ : ∃ w1, w1 = w.alloc (.cells #[.pointer (some ⟨bl, 0, none⟩)] 84) := ⟨_, rfl⟩
  have hb1 : Below w.heap.size w w1 := by rw [hw1]; exact (Below.refl _ _).alloc (Nat.le_refl _) _
  have hX1 : Blk w1 w.heap.size 84 #[.pointer (some ⟨bl, 0, none⟩)] := by rw [hw1]; exact Blk.new _ _ _
  have x1 : w1.cell? ⟨w.heap.size, 0, none⟩ = some (.pointer (some ⟨bl, 0, none⟩)) := hX1.cell 0
  have l1 := hX1.lt
  obtain ⟨e0, e1, e2, e3, e4, e5, e6, e7, e8, e9⟩ := (M.lk.below hb1).cells
  have ll := (M.lk.below hb1).box.lt
  have hB := M.lk.hB
  have F0 := (hb1.cell (p := ⟨bn, on + n * 5, none⟩) (by simp only; omega)).trans f0
  have F1 := (hb1.cell (p := ⟨bn, on + n * 5 + 1, none⟩) (by simp only; omega)).trans f1
  have F2 := (hb1.cell (p := ⟨bn, on + n * 5 + 2, none⟩) (by simp only; omega)).trans f2
  have F3 := (hb1.cell (p := ⟨bn, on + n * 5 + 3, none⟩) (by simp only; omega)).trans f3
  have F4 := (hb1.cell (p := ⟨bn, on + n * 5 + 4, none⟩) (by simp only; omega)).trans f4
  have A0' := (hb1.cell (p := ⟨ba, n * 2, none⟩) hlt).trans a0
  have A1' := (hb1.cell (p := ⟨ba, n * 2 + 1, none⟩) hlt).trans a1
  have HG0 := Lib.hid g0; have HG1 := Lib.hid g1; have HG2 := Lib.hid g2; have HG3 := Lib.hid g3; have HG4 := Lib.hid g4; have HG5 := Lib.hid g5
  have lba := Nat.lt_of_lt_of_le hlt hb1.size
  simp only at A0' A1' e4 e5 e6
  have lbn : bn < w1.heap.size := by have := hb1.size; omega
  have lbb : bb < w1.heap.size := by have := hb1.size; omega
  have HB1 := Lib.hid hb1; have HX1 := Lib.hid hX1
  have HBB : Hid (bb < B ∧ B ≤ w.heap.size) := Lib.hid ⟨hbb, hB⟩
  clear F M hpn hpb hp f0 f1 f2 f3 f4 g0 g1 g2 g3 g4 g5 a0 a1 hb1 hX1 hln hlb hls e0 e1 e2 e3 e5 e6 e7 e9
  go_enter Tryz.func48, Tryz.ntmps48
  go_upto_region 1 with fail
  rw [← hw1]
  clear hw1
  rename_i K1 hK1
  have key : ∀ (b5 b6 : Nat) (W : World), Below w1.heap.size w1 W → Blk W b5 68 (nodCells y A1 c1) → Blk W b6 92 #[.int .i64 (qb : Int), .int .i64 (qi : Int)] → K1 ⟨#[.pointer (some ⟨bl, 0, none⟩), .int .i64 n, .pointer (some ⟨w.heap.size, 0, none⟩), undef, .bool false, .pointer (some ⟨b5, 0, none⟩), .pointer (some ⟨b6, 0, none⟩), undef, undef, undef, undef, undef, undef, undef, undef, .pointer (some ⟨bl, 0, none⟩), .pointer (some ⟨bl, 0, none⟩), .pointer (some ⟨bl, 1, none⟩), .pointer (some ⟨bl, 4, none⟩), .slice (some ⟨bn, on, none⟩) g.nodes.length cn, .int .i64 n, .pointer (some ⟨bn, on + n * 5, none⟩), .agg #[.int .u8 y.op, .slice A1 y.args.length c1, .int .i64 y.N, .int .u8 y.kind, .int .i64 y.state], .pointer (some ⟨bl, 0, none⟩), .pointer (some ⟨bl, 0, none⟩), .pointer (some ⟨bl, 8, none⟩), .slice (some ⟨ba, 0, none⟩) al.length ca, .int .i64 n, .pointer (some ⟨ba, n * 2, none⟩), .agg #[.int .i64 (qb : Int), .int .i64 (qi : Int)], undef, undef, undef, undef, undef, undef, undef, undef, undef, undef, undef, undef, undef, undef, undef, undef, undef, undef, undef, undef, undef, undef, undef, undef, undef, undef, undef, undef, undef, undef, undef, undef, undef, undef, undef, undef, undef, undef, undef, undef, undef, undef, undef, undef, undef, undef, undef, undef, undef, undef, undef, undef, undef, undef, undef, undef, undef, undef, undef, undef, undef, undef, undef, undef, undef, undef, undef, undef, undef, undef, undef, undef, undef, undef, undef, undef, undef, undef, undef, undef, undef, undef, undef, undef, undef, undef, undef, undef, undef, undef, undef, undef, undef, undef, undef, undef, undef, undef, undef, undef, undef, undef, undef, undef, undef, undef, undef, undef, undef, undef, undef, undef, undef, undef, undef, undef, undef, undef, undef, undef, undef, undef, undef, undef, undef, undef, undef, undef, undef, undef, undef, undef, undef, undef, undef, undef, undef, undef, undef, undef, undef, undef, undef, undef, undef, undef, undef, undef, undef, undef, undef, undef, undef, undef, undef, undef, undef, undef, undef, undef, undef, undef, undef, undef, undef, undef, undef, undef, undef, undef, undef, undef, undef, undef, undef, undef, undef, undef, undef, undef, undef, undef, undef, undef, undef, undef, undef, undef, undef, undef, undef, undef, undef, undef, undef, undef, undef, undef, undef, undef, undef, undef, undef, undef, undef, undef, undef, undef, undef, undef, undef, undef, undef, undef, undef, undef, undef, undef, undef, undef, undef, undef, undef, undef, undef, undef, undef, undef], []⟩ W := by
    intro b5 b6 W hbW hn5 hn6
    have HB2 := Lib.hid hbW; have HN5 := Lib.hid hn5; have HN6 := Lib.hid hn6
    have hlow := HB1.out.trans (hbW.mono HB1.out.size)
    have HLow := Lib.hid hlow
    have z0 : W.cell? ⟨w.heap.size, 0, none⟩ = some (.pointer (some ⟨bl, 0, none⟩)) := (HX1.out.below hbW l1).cell 0
    have lz := Nat.lt_of_lt_of_le l1 hbW.size
    have k0 : W.cell? ⟨b6, 0, none⟩ = some (.int .i64 (qb : Int)) := hn6.cell 0
    have lk := hn6.lt
    have ll2 := Nat.lt_of_lt_of_le ll hbW.size
    have c5 : W.cell? ⟨bl, 5, none⟩ = some (.slice (some ⟨bb, ob, none⟩) g.blocks.length cb) := (HM.out.lk.below hlow).cells.2.2.2.2.2.1
    have G0 := (hlow.cell (p := ⟨bb, ob + qb * 6, none⟩) (by have := HBB.out; simp only; omega)).trans HG0.out
    have G1 := (hlow.cell (p := ⟨bb, ob + qb * 6 + 1, none⟩) (by have := HBB.out; simp only; omega)).trans HG1.out
    have G2 := (hlow.cell (p := ⟨bb, ob + qb * 6 + 2, none⟩) (by have := HBB.out; simp only; omega)).trans HG2.out
    have G3 := (hlow.cell (p := ⟨bb, ob + qb * 6 + 3, none⟩) (by have := HBB.out; simp only; omega)).trans HG3.out
    have G4 := (hlow.cell (p := ⟨bb, ob + qb * 6 + 4, none⟩) (by have := HBB.out; simp only; omega)).trans HG4.out
    have G5 := (hlow.cell (p := ⟨bb, ob + qb * 6 + 5, none⟩) (by have := HBB.out; simp only; omega)).trans HG5.out
    have lbb2 := Nat.lt_of_lt_of_le lbb hbW.size
    clear hbW hn5 hn6 hlow F0 F1 F2 F3 F4 A0' A1' x1 e4 e8
    refine hK1 _ _ ?_
    dsimp only
    clear hK1 K1
    go_upto_region 2 with fail
    rename_i K2 hK2
    have key2 : ∀ (b7 : Nat) (W3 : World), Below W.heap.size W W3 → Blk W3 b7 41 (blkCells x A0 d0 (.slice A2 x.args.length d2) (.slice A3 x.next.length d3) A4 d4) → K2 ⟨#[.pointer (some ⟨bl, 0, none⟩), .int .i64 n, .pointer (some ⟨w.heap.size, 0, none⟩), undef, .bool false, .pointer (some ⟨b5, 0, none⟩), .pointer (some ⟨b6, 0, none⟩), .pointer (some ⟨b7, 0, none⟩), undef, undef, undef, undef, undef, undef, undef, .pointer (some ⟨bl, 0, none⟩), .pointer (some ⟨bl, 0, none⟩), .pointer (some ⟨bl, 1, none⟩), .pointer (some ⟨bl, 4, none⟩), .slice (some ⟨bn, on, none⟩) g.nodes.length cn, .int .i64 n, .pointer (some ⟨bn, on + n * 5, none⟩), .agg #[.int .u8 y.op, .slice A1 y.args.length c1, .int .i64 y.N, .int .u8 y.kind, .int .i64 y.state], .pointer (some ⟨bl, 0, none⟩), .pointer (some ⟨bl, 0, none⟩), .pointer (some ⟨bl, 8, none⟩), .slice (some ⟨ba, 0, none⟩) al.length ca, .int .i64 n, .pointer (some ⟨ba, n * 2, none⟩), .agg #[.int .i64 (qb : Int), .int .i64 (qi : Int)], .pointer (some ⟨bl, 0, none⟩), .pointer (some ⟨bl, 0, none⟩), .pointer (some ⟨bl, 1, none⟩), .pointer (some ⟨bl, 5, none⟩), .slice (some ⟨bb, ob, none⟩) g.blocks.length cb, .pointer (some ⟨b6, 0, none⟩), .int .i64 (qb : Int), .pointer (some ⟨bb, ob + qb * 6, none⟩), .agg #[.slice A0 x.nodes.length d0, .int .u8 x.fin, .slice A2 x.args.length d2, .slice A3 x.next.length d3, .slice A4 x.ahead.length d4, .int .i64 x.state], undef, undef, undef, undef, undef, undef, undef, undef, undef, undef, undef, undef, undef, undef, undef, undef, undef, undef, undef, undef, undef, undef, undef, undef, undef, undef, undef, undef, undef, undef, undef, undef, undef, undef, undef, undef, undef, undef, undef, undef, undef, undef, undef, undef, undef, undef, undef, undef, undef, undef, undef, undef, undef, undef, undef, undef, undef, undef, undef, undef, undef, undef, undef, undef, undef, undef, undef, undef, undef, undef, undef, undef, undef, undef, undef, undef, undef, undef, undef, undef, undef, undef, undef, undef, undef, undef, undef, undef, undef, undef, undef, undef, undef, undef, undef, undef, undef, undef, undef, undef, undef, undef, undef, undef, undef, undef, undef, undef, undef, undef, undef, undef, undef, undef, undef, undef, undef, undef, undef, undef, undef, undef, undef, undef, undef, undef, undef, undef, undef, undef, undef, undef, undef, undef, undef, undef, undef, undef, undef, undef, undef, undef, undef, undef, undef, undef, undef, undef, undef, undef, undef, undef, undef, undef, undef, undef, undef, undef, undef, undef, undef, undef, undef, undef, undef, undef, undef, undef, undef, undef, undef, undef, undef, undef, undef, undef, undef, undef, undef, undef, undef, undef, undef, undef, undef, undef, undef, undef, undef, undef, undef, undef, undef, undef, undef, undef, undef, undef, undef, undef, undef, undef, undef, undef, undef, undef, undef, undef, undef, undef, undef, undef, undef, undef, undef, undef, undef, undef, undef], []⟩ W3 := by
      intro b7 W3 hb3 hn7
      have HL3 : Hid (Below w.heap.size w W3) := Lib.hid (HLow.out.trans (hb3.mono HLow.out.size))
      have HM3 := Lib.hid (HM.out.below HL3.out)
      have HIa := Lib.hid (HI1.out.later HL3.out (Nat.le_refl _))
      have HI03 := Lib.hid (HI0.out.later HL3.out (Nat.le_refl _))
      have HI43 := Lib.hid (HI4.out.later HL3.out (Nat.le_refl _))
      have HN7 := Lib.hid hn7
      have HN53 := Lib.hid (HN5.out.below hb3 HN5.out.lt)
      have HN63 := Lib.hid (HN6.out.below hb3 HN6.out.lt)
      have HZ3 := Lib.hid ((HX1.out.below HB2.out l1).below hb3 lz)
      have z0 : W3.cell? ⟨w.heap.size, 0, none⟩ = some (.pointer (some ⟨bl, 0, none⟩)) := HZ3.out.cell 0
      have lz := HZ3.out.lt
      have n1 : W3.cell? ⟨b5, 1, none⟩ = some (.slice A1 y.args.length c1) := HN53.out.cell 1
      have n4 : W3.cell? ⟨b5, 4, none⟩ = some (.int .i64 y.state) := HN53.out.cell 4
      have ln := HN53.out.lt
      have c6 : W3.cell? ⟨bl, 6, none⟩ = some (.slice As g.states.length cs) := HM3.out.lk.cells.2.2.2.2.2.2.1
      have ll3 := HM3.out.lk.box.lt
      clear hb3 hn7 k0 lk c5 G0 G1 G2 G3 G4 G5
      refine hK2 _ _ ?_
      dsimp only
      clear hK2 K2
      go_upto_region 3 with fail
      rename_i Ka hKa Kb hKb
      rcases bool_or (y.args.any (outB g.nodes.length)) with hm | hm
      rotate_left
      · have HT1 := Lib.hid hm.symm
        clear hm
        go_quiet ((go_at_call 65; refine Calls.quiet_of_same (ctInt_same _ W3.heap.size _ y.args 94 #[] #[.pointer (some ⟨w.heap.size, 0, none⟩)] (outB g.nodes.length) ?_ ?_ ?_ true HT1.out); exact (HIa.out.keep (fun _ _ => rfl)); exact (fun _ _ => by kernel_rfl); intro z hz; exact nodeArg_same _ B bl w.heap.size _ p _ g dv _ bv (HM3.out.lk.below (below_drewN (Below.refl _ _) _)) z0 z))
        go_wp2_with fail
        go_ret
        exact ⟨false, rfl, (fun h => by cases h), HL3.out.trans ((below_drewN (Below.refl _ _) _).mono HL3.out.size)⟩
      have HT1 := Lib.hid hm.symm
      clear hm
      by_cases e4 : y.state < -1
      · have d4 : decide (y.state < -1) = true := decide_eq_true e4
        clear e4
        go_quiet ((go_at_call 65; refine Calls.quiet_of_same (ctInt_same _ W3.heap.size _ y.args 94 #[] #[.pointer (some ⟨w.heap.size, 0, none⟩)] (outB g.nodes.length) ?_ ?_ ?_ false HT1.out); exact (HIa.out.keep (fun _ _ => rfl)); exact (fun _ _ => by kernel_rfl); intro z hz; exact nodeArg_same _ B bl w.heap.size _ p _ g dv _ bv (HM3.out.lk.below (below_drewN (Below.refl _ _) _)) z0 z))
        go_wp2_with fail
        go_ret
        exact ⟨false, rfl, (fun h => by cases h), HL3.out.trans ((below_drewN (Below.refl _ _) _).mono HL3.out.size)⟩
      have H4 := Lib.hid e4
      have d4' : decide (y.state < -1) = false := decide_eq_false e4
      clear e4
      by_cases e5 : (g.states.length : Int) ≤ y.state
      · have d5 : decide ((g.states.length : Int) ≤ y.state) = true := decide_eq_true e5
        clear e5
        go_quiet ((go_at_call 65; refine Calls.quiet_of_same (ctInt_same _ W3.heap.size _ y.args 94 #[] #[.pointer (some ⟨w.heap.size, 0, none⟩)] (outB g.nodes.length) ?_ ?_ ?_ false HT1.out); exact (HIa.out.keep (fun _ _ => rfl)); exact (fun _ _ => by kernel_rfl); intro z hz; exact nodeArg_same _ B bl w.heap.size _ p _ g dv _ bv (HM3.out.lk.below (below_drewN (Below.refl _ _) _)) z0 z))
        go_wp2_with fail
        go_ret
        exact ⟨false, rfl, (fun h => by cases h), HL3.out.trans ((below_drewN (Below.refl _ _) _).mono HL3.out.size)⟩
      have H5 := Lib.hid e5
      have d5' : decide ((g.states.length : Int) ≤ y.state) = false := decide_eq_false e5
      clear e5
      go_quiet ((go_at_call 65; refine Calls.quiet_of_same (ctInt_same _ W3.heap.size _ y.args 94 #[] #[.pointer (some ⟨w.heap.size, 0, none⟩)] (outB g.nodes.length) ?_ ?_ ?_ false HT1.out); exact (HIa.out.keep (fun _ _ => rfl)); exact (fun _ _ => by kernel_rfl); intro z hz; exact nodeArg_same _ B bl w.heap.size _ p _ g dv _ bv (HM3.out.lk.below (below_drewN (Below.refl _ _) _)) z0 z))
      have HSt : Hid (-1 ≤ y.state ∧ y.state < (g.states.length : Int)) := Lib.hid ⟨by have := H4.out; omega, by have := H5.out; omega⟩
      have HArg : Hid (∀ a ∈ y.args, 0 ≤ a ∧ a < (g.nodes.length : Int)) := Lib.hid (fun a ha => by
        have h1 := HT1.out.symm
        rw [List.any_eq_false] at h1
        have := h1 a ha
        unfold outB at this
        simpa using this)
      have HR3 : Hid (NodR w B bl pv p ⟨.slice (some ⟨bn, on, none⟩) g.nodes.length cn, .slice (some ⟨bb, ob, none⟩) g.blocks.length cb, .slice As g.states.length cs⟩ g dv (.slice (some ⟨ba, 0, none⟩) al.length ca) bv al abs y qb qi x b5 b6 b7 A1 c1 A0 d0 (.slice A2 x.args.length d2) (.slice A3 x.next.length d3) A4 d4 (W3.drewN nq)) := Lib.hid (by
        have hb := below_drewN (Below.refl W3.heap.size W3) nq
        exact ⟨HM3.out.below hb, HZ3.out.below hb HZ3.out.lt, HN53.out.below hb HN53.out.lt, HN63.out.below hb HN63.out.lt, HN7.out.below hb HN7.out.lt, HIa.out.later hb (Nat.le_refl _), HI03.out.later hb (Nat.le_refl _), HI43.out.later hb (Nat.le_refl _), HL3.out.trans (hb.mono HL3.out.size)⟩)
      dsimp only [Exit.then]
      refine hKb _ _ ?_
      refine wp_cond_false rfl ?_
      refine wp_skip ?_
      dsimp only [Exit.then]
      refine hKa _ _ ?_
      by_cases o1 : y.op = 1
      · exact node_slot w (W3.drewN nq) B bl pv p _ g dv _ bv al abs n y qb qi x row fn f b5 b6 b7 A1 c1 A0 d0 _ _ A4 d4 HF.out HR3.out HArg.out HSt.out o1 _ _ _ _ _ _ _ _ _ _ _ _ _ _ _ _ _ _ _ _ _ _ _ _ _ _ _ _ _ _ _ _ _ _ _ _ _ _ _ _ _ _ _ _ _ _ _ _ _ _ _ _ _ _ _ _ _ _ _ _ _ _ _ _ _ _ _ _ _ _ _ _ _ _ _ _ _ _ _ _ _ _ _ _ _ _ _ _ _ _ _ _ _ _ _ _ _ _ _ _ _ _ _ _ _ _ _ _ _ _ _ _ _ _ _ _ _ _ _ _ _ _ _ _ _ _ _ _ _ _ _ _ _ _ _ _ _ _ _ _ _ _ _ _ _ _ _ _ _ _ _ _ _ _ _ _ _ _ _ _ _ _ _ _ _ _ _ _ _ _ _ _ _ _ _ _ _ _ _ _ _ _ _ _ _ _ _ _ _ _ _ _ _ _ _ _ _ _ _ _ _ _ _ _ _ _ _ _ _ _ _ _ _ _ _ _ _ _ _ _ _ _ _ _ _ _ _ _ _ _ _ _ _ _ _ _ _ _ _ _ _ _ _ _ _ _ _ _ _ _ _
      by_cases o2 : y.op = 2
      · exact node_phi w (W3.drewN nq) B bl pv p _ g dv _ bv al abs n y qb qi x row fn f b5 b6 b7 A1 c1 A0 d0 _ _ A4 d4 HF.out HR3.out HArg.out HSt.out o2 _ _ _ _ _ _ _ _ _ _ _ _ _ _ _ _ _ _ _ _ _ _ _ _ _ _ _ _ _ _ _ _ _ _ _ _ _ _ _ _ _ _ _ _ _ _ _ _ _ _ _ _ _ _ _ _ _ _ _ _ _ _ _ _ _ _ _ _ _ _ _ _ _ _ _ _ _ _ _ _ _ _ _ _ _ _ _ _ _ _ _ _ _ _ _ _ _ _ _ _ _ _ _ _ _ _ _ _ _ _ _ _ _ _ _ _ _ _ _ _ _ _ _ _ _ _ _ _ _ _ _ _ _ _ _ _ _ _ _ _ _ _ _ _ _ _ _ _ _ _ _ _ _ _ _ _ _ _ _ _ _ _ _ _ _ _ _ _ _ _ _ _ _ _ _ _ _ _ _ _ _ _ _ _ _ _ _ _ _ _ _ _ _ _ _ _ _ _ _ _ _ _ _ _ _ _ _ _ _ _ _ _ _ _ _ _ _ _ _ _ _ _ _ _ _ _ _ _ _ _ _ _ _ _ _ _ _ _ _ _ _ _ _ _ _ _ _ _ _ _ _
      exact node_rest w (W3.drewN nq) B bl pv p _ g dv _ bv al abs n y qb qi x row fn f b5 b6 b7 A1 c1 A0 d0 _ _ A4 d4 HF.out HR3.out HArg.out HSt.out o1 o2 _ _ _ _ _ _ _ _ _ _ _ _ _ _ _ _ _ _ _ _ _ _ _ _ _ _ _ _ _ _ _ _ _ _ _ _ _ _ _ _ _ _ _ _ _ _ _ _ _ _ _ _ _ _ _ _ _ _ _ _ _ _ _ _ _ _ _ _ _ _ _ _ _ _ _ _ _ _ _ _ _ _ _ _ _ _ _ _ _ _ _ _ _ _ _ _ _ _ _ _ _ _ _ _ _ _ _ _ _ _ _ _ _ _ _ _ _ _ _ _ _ _ _ _ _ _ _ _ _ _ _ _ _ _ _ _ _ _ _ _ _ _ _ _ _ _ _ _ _ _ _ _ _ _ _ _ _ _ _ _ _ _ _ _ _ _ _ _ _ _ _ _ _ _ _ _ _ _ _ _ _ _ _ _ _ _ _ _ _ _ _ _ _ _ _ _ _ _ _ _ _ _ _ _ _ _ _ _ _ _ _ _ _ _ _ _ _ _ _ _ _ _ _ _ _ _ _ _ _ _ _ _ _ _ _ _ _ _ _ _ _ _ _ _ _ _ _ _ _ _ _
    go_region
    all_goals
      dsimp only [Exit.then]
      exact key2 W.heap.size _ (((Below.refl _ _).alloc (Nat.le_refl _) _).drew) (Blk.new _ _ _)
  go_region
  · dsimp only [Exit.then]
    exact key w1.heap.size (w1.heap.size + 1) _ ((((Below.refl _ _).alloc (Nat.le_refl _) _).alloc (by simp) _).drew) ((Blk.new _ _ _).alloc _) (by
      have := Blk.new (w1.alloc (.cells (nodCells y A1 c1) 68)) 92 #[.int .i64 (qb : Int), .int .i64 (qi : Int)]
      rw [World.size_alloc] at this
      exact this)
  · dsimp only [Exit.then]
    exact key (w1.heap.size + 1) w1.heap.size _ ((((Below.refl _ _).alloc (Nat.le_refl _) _).alloc (by simp) _).drew) (by
      have := Blk.new (w1.alloc (.cells #[.int .i64 (qb : Int), .int .i64 (qi : Int)] 92)) 68 (nodCells y A1 c1)
      rw [World.size_alloc] at this
      exact this) ((Blk.new _ _ _).alloc _)
end Go.Proofs.YtkmfdiboekoioaaGreat
