/- The reference 20 asks all sets once. Conditions: a small graph, rows of sets that lie in memory and grow. -/
import Derived.Test.YtkmfdiboekoioaaGreatCRfPass
set_option linter.unusedSimpArgs false
set_option linter.unusedVariables false
namespace Go.Proofs.YtkmfdiboekoioaaGreat
open Go.RowKit
def Once20 (g : GraphP) (B bi bo : Nat) (I O : Sets) (w : World) (e : Ending) (w' : World) : Prop :=
 ∃ c I' O' ri' ro', e = .returned (.bool c) ∧ Rows20 w' B bi g.nodes.length g.blocks.length I' ri' ∧ Rows20 w' B bo g.nodes.length g.blocks.length O' ro' ∧ Below B w w' ∧ Pass g I O g.blocks.length c I' O'
theorem OnM.put {w0 : World} {B bi bo gb : Nat} {xv : GVals} {g : GraphP} {I O : Sets} {ri ro : Nat → Nat} {W : World} (h : OnM w0 B bi bo gb xv g I O ri ro W) {b ub ob : Nat} {p q : ISet} (hb : b < g.blocks.length) (hu : BRow W ub g.nodes.length p) (ho : BRow W ob g.nodes.length q) (hub : B ≤ ub) (hob : B ≤ ob) :
  OnM w0 B bi bo gb xv g (I.put b p) (O.put b q) (fun z => if z = b then ub else ri z) (fun z => if z = b then ob else ro z) ((W.setCell ⟨bi, b, none⟩ (.slice (some ⟨ub, 0, none⟩) g.nodes.length g.nodes.length)).setCell ⟨bo, b, none⟩ (.slice (some ⟨ob, 0, none⟩) g.nodes.length g.nodes.length)) := by
 have h1 := h.rI.set_ hb hu hub
 have h2 := h.rO.far (k := b) (v := .slice (some ⟨ub, 0, none⟩) g.nodes.length g.nodes.length) h.rI.row h.ne.symm
 have ho2 : BRow (W.setCell ⟨bi, b, none⟩ (.slice (some ⟨ub, 0, none⟩) g.nodes.length g.nodes.length)) ob g.nodes.length q := ho.far (h.rI.ne ho (by decide)) _
 exact ⟨(h.gr.setCell (p := ⟨bi, b, none⟩) h.rI.low.1 (h.rI.ne h.gr.box (by decide)) _).setCell (p := ⟨bo, b, none⟩) h.rO.low.1 (h.rO.ne h.gr.box (by decide)) _, h1.far h2.row h.ne, h2.set_ hb ho2 hob, (h.low.setCell (p := ⟨bi, b, none⟩) h.rI.low.1 _).setCell (p := ⟨bo, b, none⟩) h.rO.low.1 _, h.ne, h.gB⟩
set_option maxRecDepth 100000 in
set_option maxHeartbeats 8000000 in
theorem once20_any (w : World) (B bi bo : Nat) (xv : GVals) (g : GraphP) (I O : Sets) (ri ro : Nat → Nat) (hs : Small g) (hg : GraphV w B xv g) (hB : B ≤ w.heap.size) (hri : Rows20 w B bi g.nodes.length g.blocks.length I ri) (hro : Rows20 w B bo g.nodes.length g.blocks.length O ro) (hne : bi ≠ bo) (hgr : Grows g I O) :
  Calls Tryz.prog 121 #[gval g xv, .slice (some ⟨bi, 0, none⟩) g.blocks.length g.blocks.length, .slice (some ⟨bo, 0, none⟩) g.blocks.length g.blocks.length] w (Once20 g B bi bo I O w) := by
 have HG := Lib.hid hg; have HRi := Lib.hid hri; have HRo := Lib.hid hro; have HNe := Lib.hid hne; have HGr := Lib.hid hgr
 obtain ⟨vn, vb, vs⟩ := xv
 obtain ⟨⟨An, cn, en, _⟩, ⟨Ab, cb, eb, _⟩, ⟨As, cs, es, _⟩⟩ := hg
 simp only at en eb es
 subst en eb es
 obtain ⟨l1, l2, l3⟩ := hs.lens
 have ee : gval g ⟨.slice An g.nodes.length cn, .slice Ab g.blocks.length cb, .slice As g.states.length cs⟩ = .agg #[.int .i64 g.fn, .int .i64 g.pc, .int .i64 g.slots, .slice An g.nodes.length cn, .slice Ab g.blocks.length cb, .slice As g.states.length cs] := rfl
 have E0 := Lib.hid ee; clear ee
 obtain ⟨i1, hi1, hy0, hy1, hy2⟩ := info_parts bool_info
 have hmk := fun W : World => run_make (P := Tryz.prog) W 168 4 i1 (.bool false) Tryz.underlying168 hi1 hy0 .i64 .i64 (g.nodes.length : Int) (g.nodes.length : Int) (by omega) (Int.le_refl _) (by rw [hy2]; omega) (by omega)
 simp only [hy1, Int.toNat_natCast, Value.cells, Nat.mul_one, bcells_made] at hmk
 obtain ⟨w1, hw1⟩ : ∃ w1, w1 = w.alloc (.cells #[.int .i64 g.fn, .int .i64 g.pc, .int .i64 g.slots, .slice An g.nodes.length cn, .slice Ab g.blocks.length cb, .slice As g.states.length cs] 28) := ⟨_, rfl⟩
 have HM1 : Hid (OnM w B bi bo w.heap.size ⟨.slice An g.nodes.length cn, .slice Ab g.blocks.length cb, .slice As g.states.length cs⟩ g I O ri ro w1) := Lib.hid (by
  have hb : Below w.heap.size w w1 := by rw [hw1]; exact (Below.refl _ _).alloc (Nat.le_refl _) _
  exact ⟨⟨HG.out.keep (Same.of_below (hb.mono hB)), Nat.le_trans hB hb.size, by rw [hw1]; exact Blk.new _ _ _⟩, HRi.out.below hb, HRo.out.below hb, hb.mono hB, hne, hB⟩)
 clear hri hro hne hgr
 rw [E0.out]
 go_enter Tryz.func121, Tryz.ntmps121
 go_upto_region 1 with fail
 rw [← hw1]
 clear hw1
 go_wp2_with fail
 go_loopw [7, 8] (fun cv iv wr => ∃ (b : Nat) (c : Bool) (I' O' : Sets) (ri' ro' : Nat → Nat), b ≤ g.blocks.length ∧ cv = .bool c ∧ iv = .int .i64 b ∧ Hid (OnM w B bi bo w.heap.size ⟨.slice An g.nodes.length cn, .slice Ab g.blocks.length cb, .slice As g.states.length cs⟩ g I' O' ri' ro' wr) ∧ Hid (Pass g I O b c I' O')) (fun _ iv _ => g.blocks.length - (intOf iv).toNat)
 case atStart => exact ⟨0, false, I, O, ri, ro, Nat.zero_le _, rfl, rfl, HM1, Lib.hid (Pass.start HGr.out)⟩
 case round =>
  obtain ⟨b, c, I', O', ri', ro', hb, rfl, rfl, HM, HP⟩ := hrel
  obtain ⟨wq, rfl⟩ : ∃ wq : World, wq = wr := ⟨_, rfl⟩
  obtain ⟨q0, q1, q2, q3, q4, q5⟩ := HM.out.gr.cells
  have ql := HM.out.gr.lt
  simp only at q3 q4 q5
  by_cases hlt : b < g.blocks.length
  ·obtain ⟨x, hx⟩ := getE hlt
   have HX := Lib.hid hx
   obtain ⟨m1, m2, m3, m4⟩ := hs.block hx
   obtain ⟨wa, hwa⟩ : ∃ wa, wa = wq.alloc (.cells (bcells g.nodes.length ISet.empty) 4) := ⟨_, rfl⟩
   have HLa : Hid (Below wq.heap.size wq wa) := Lib.hid (by rw [hwa]; exact (Below.refl _ _).alloc (Nat.le_refl _) _)
   have HRa : Hid (BRow wa wq.heap.size g.nodes.length ISet.empty) := Lib.hid (by rw [hwa]; exact Blk.new _ _ _)
   clear hx
   go_upto_region 6 with fail
   rw [← hwa]
   clear hwa q0 q1 q2 q3 q4 q5 ql
   have HMa := Lib.hid (HM.out.below HLa.out)
   obtain ⟨q0, q1, q2, q3, q4, q5⟩ := HMa.out.gr.cells
   have ql := HMa.out.gr.lt
   simp only at q3 q4 q5
   obtain ⟨Aq, cq, eq, _, _, hqb⟩ := HM.out.gr.gr.2.1
   obtain ⟨bb, obb, eq2, hbb, hqb⟩ := hqb (by omega)
   simp only at eq
   injection eq with e1 e2 e3
   rw [eq2] at e1
   have HE1 := Lib.hid e1
   obtain ⟨_, _, _, ⟨v3, f3, hv3⟩, _⟩ := hqb b x HX.out
   have HV3 := Lib.hid hv3
   obtain ⟨A3, c3, rfl, _, _, _⟩ := hv3
   have f3a : wa.cell? ⟨bb, obb + b * 6 + 3, none⟩ = some (.slice A3 x.next.length c3) := (HLa.out.cell (p := ⟨bb, obb + b * 6 + 3, none⟩) (Nat.lt_of_lt_of_le hbb HM.out.gr.hB)).trans f3
   subst e1
   clear hqb e2 e3 eq2 f3 hbb
   go_upto_region 8 with fail
   clear q0 q1 q2 q3 q4 q5 ql f3a
   refine onext_any w B bi bo w.heap.size g An (some ⟨bb, obb, none⟩) As cn cb cs I' O' ri' ro' b x wq wq.heap.size A3 c3 wa hs HX.out HM.out (Nat.le_refl _) HRa.out HLa.out HV3.out _ _ _ _ _ _ _ _ _ _ _ _ _ _ _ _ _ _ _ _ _ _ _ _ _ _ _ _ _ _ _ _ _ _ _ _ _ _ _ _ _ _ _ _ _ _ _ _ _ _ _ _ _ _ _ _ _ _ _ _ _ _ _ _ _ _ _ _ _ _ _ _ _ _ _ _ _ _ _ _ _ _ _ _ _ _ _ _ _ _ _ _ _ _ _ _ _ _ _ _ _ _ _ _ _ _ _ _ _ _ _ _ _ _ _ _ _ _ _ _ _ _ _ _ _ _ _ _ _ _ _ _ _ _ _ _ _ _ _ _ _ _ _ _ _ _ _ _ _ _ _ (fun c d v a w h => by cases d <;> exact h) ?_
   intro x11 x33 x34 x35 x36 x37 x38 x39 x40 x41 x42 x43 x44 x45 x46 x47 x48 x49 x50 x51 x52 x53 x54 x55 x56 x57 x58 x59 x60 x61 x62 x63 x64 x65 x66 x67 x68 x69 x70 x71 x72 x73 x74 W2 ⟨hr2, hl2⟩
   have HR2 := Lib.hid hr2; have HL2 := Lib.hid hl2
   clear hr2 hl2
   dsimp only [Exit.inBlock]
   have HM2 := Lib.hid (HM.out.below HL2.out)
   obtain ⟨q0, q1, q2, q3, q4, q5⟩ := HM2.out.gr.cells
   have ql := HM2.out.gr.lt
   simp only at q3 q4 q5
   have HU2 := Lib.hid (used20_any W2 ⟨.slice An g.nodes.length cn, .slice (some ⟨bb, obb, none⟩) g.blocks.length cb, .slice As g.states.length cs⟩ g b x HM2.out.gr.graph hs HX.out)
   go_upto_region 14 with (go_at_call 148; refine HU2.out.mono ?_; rintro e W3 ⟨ub, rfl, hub, hr3, hb3⟩; have HR3 := Lib.hid hr3; have HB3 := Lib.hid hb3; have HUb := Lib.hid hub; clear hr3 hb3 hub)
   clear q0 q1 q2 q3 q4 q5 ql HU2
   have HL3 := Lib.hid (HL2.out.trans (HB3.out.mono HL2.out.size))
   have HM3 := Lib.hid (HM.out.below HL3.out)
   have HO3 := Lib.hid (HR2.out.below HB3.out HR2.out.lt)
   have HNu : Hid (wq.heap.size ≠ ub ∧ wq.heap.size ≤ ub) := Lib.hid (by have h1 := HUb.out; have h2 := HR2.out.lt; omega)
   have HK : Hid (∀ W, Below W3.heap.size W3 W → W.cell? ⟨w.heap.size, 0, none⟩ = some (.int .i64 g.fn) ∧ W.cell? ⟨w.heap.size, 1, none⟩ = some (.int .i64 g.pc) ∧ W.cell? ⟨w.heap.size, 2, none⟩ = some (.int .i64 g.slots) ∧ W.cell? ⟨w.heap.size, 3, none⟩ = some (.slice An g.nodes.length cn) ∧ W.cell? ⟨w.heap.size, 4, none⟩ = some (.slice (some ⟨bb, obb, none⟩) g.blocks.length cb) ∧ W.cell? ⟨w.heap.size, 5, none⟩ = some (.slice As g.states.length cs)) := Lib.hid (fun W hW => by
    obtain ⟨q0, q1, q2, q3, q4, q5⟩ := (HM3.out.below hW).gr.cells
    exact ⟨q0, q1, q2, q3, q4, q5⟩)
   have HS6 : Hid ((fun W : World => W.cell? ⟨w.heap.size, 0, none⟩ = some (.int .i64 g.fn) ∧ W.cell? ⟨w.heap.size, 1, none⟩ = some (.int .i64 g.pc) ∧ W.cell? ⟨w.heap.size, 2, none⟩ = some (.int .i64 g.slots) ∧ W.cell? ⟨w.heap.size, 3, none⟩ = some (.slice An g.nodes.length cn) ∧ W.cell? ⟨w.heap.size, 4, none⟩ = some (.slice (some ⟨bb, obb, none⟩) g.blocks.length cb) ∧ W.cell? ⟨w.heap.size, 5, none⟩ = some (.slice As g.states.length cs)) W3.drew) := Lib.hid (HK.out _ (Below.refl _ _).drew)
   refine wp_region_H2 (fun W : World => W.cell? ⟨w.heap.size, 0, none⟩ = some (.int .i64 g.fn) ∧ W.cell? ⟨w.heap.size, 1, none⟩ = some (.int .i64 g.pc) ∧ W.cell? ⟨w.heap.size, 2, none⟩ = some (.int .i64 g.slots) ∧ W.cell? ⟨w.heap.size, 3, none⟩ = some (.slice An g.nodes.length cn) ∧ W.cell? ⟨w.heap.size, 4, none⟩ = some (.slice (some ⟨bb, obb, none⟩) g.blocks.length cb) ∧ W.cell? ⟨w.heap.size, 5, none⟩ = some (.slice As g.states.length cs)) (by kernel_rfl) HS6.out (fun HSn => ?_)
   clear HSn
   refine tkL 0 rfl (fun _ _ _ h => h) HS6.out ?_
   try simp only [Act.put, List.setIfInBounds_toArray, List.set_cons_zero, List.set_cons_succ]
   refine tkL 1 rfl (fun _ _ _ h => h) HS6.out ?_
   try simp only [Act.put, List.setIfInBounds_toArray, List.set_cons_zero, List.set_cons_succ]
   refine tkL 2 rfl (fun _ _ _ h => h) HS6.out ?_
   try simp only [Act.put, List.setIfInBounds_toArray, List.set_cons_zero, List.set_cons_succ]
   refine wpAnyH_ready (rs := [3]) (by kernel_rfl) (by simp) (AllReadyH.cons (o := _) rfl (fun K hK => ?_) AllReadyH.nil)
   go_simp
   (go_at_call 122; refine (list20_any W3.drew wq.heap.size g.nodes.length (outF g I' b x) (HO3.out.below (Below.refl _ _).drew HO3.out.lt) (by omega)).mono ?_; rintro e w7 ⟨v7, rfl, hv7, hb7⟩; have HV7 := Lib.hid hv7; have HB7 : Hid (Below W3.heap.size W3 w7) := Lib.hid ((Below.refl _ _).drew.trans hb7); clear hv7 hb7)
   try go_wp2_with fail
   have HS7 : Hid ((fun W : World => W.cell? ⟨w.heap.size, 0, none⟩ = some (.int .i64 g.fn) ∧ W.cell? ⟨w.heap.size, 1, none⟩ = some (.int .i64 g.pc) ∧ W.cell? ⟨w.heap.size, 2, none⟩ = some (.int .i64 g.slots) ∧ W.cell? ⟨w.heap.size, 3, none⟩ = some (.slice An g.nodes.length cn) ∧ W.cell? ⟨w.heap.size, 4, none⟩ = some (.slice (some ⟨bb, obb, none⟩) g.blocks.length cb) ∧ W.cell? ⟨w.heap.size, 5, none⟩ = some (.slice As g.states.length cs)) w7) := Lib.hid (HK.out _ HB7.out)
   refine hK.out _ _ HS7.out (fun HSn => ?_)
   clear hK K HSn
   try simp only [Act.put, List.setIfInBounds_toArray, List.set_cons_zero, List.set_cons_succ]
   refine wpAnyH_ready (rs := [4]) (by kernel_rfl) (by simp) (AllReadyH.cons (o := _) rfl (fun K hK => ?_) AllReadyH.nil)
   go_simp
   have ha7 := (add20_any w7 ⟨.slice An g.nodes.length cn, .slice (some ⟨bb, obb, none⟩) g.blocks.length cb, .slice As g.states.length cs⟩ g ub (usedP g x) v7 (listOf g.nodes.length (outF g I' b x)) (HM3.out.below HB7.out).gr.graph.1 (HR3.out.below HB7.out HR3.out.lt) (HV7.out.ints (by have := listOf_len g.nodes.length (outF g I' b x); unfold lim; omega)))
   rw [E0.out] at ha7
   have HA7 := Lib.hid ha7
   clear ha7
   (go_at_call 146; (with_reducible refine Calls.mono HA7.out ?_); rintro e w8 ⟨rfl, hr8, hg8⟩; have HR8 := Lib.hid hr8; have HL8 : Hid (Below wq.heap.size wq w8) := Lib.hid ((HL3.out.trans (HB7.out.mono HL3.out.size)).grown hg8 (Nat.le_trans HL3.out.size HB7.out.size) (fun k e => by injection e with e; have := HNu.out.2; omega)); have HO8 : Hid (BRow w8 wq.heap.size g.nodes.length (outF g I' b x)) := Lib.hid ((HO3.out.below HB7.out HO3.out.lt).grown hg8 (fun e => by injection e with e; exact HNu.out.1 e)); clear hr8 hg8)
   try go_wp2_with fail
   have HM8 := Lib.hid (HM.out.below HL8.out)
   have HS8 : Hid ((fun W : World => W.cell? ⟨w.heap.size, 0, none⟩ = some (.int .i64 g.fn) ∧ W.cell? ⟨w.heap.size, 1, none⟩ = some (.int .i64 g.pc) ∧ W.cell? ⟨w.heap.size, 2, none⟩ = some (.int .i64 g.slots) ∧ W.cell? ⟨w.heap.size, 3, none⟩ = some (.slice An g.nodes.length cn) ∧ W.cell? ⟨w.heap.size, 4, none⟩ = some (.slice (some ⟨bb, obb, none⟩) g.blocks.length cb) ∧ W.cell? ⟨w.heap.size, 5, none⟩ = some (.slice As g.states.length cs)) w8) := Lib.hid (by
    obtain ⟨q0, q1, q2, q3, q4, q5⟩ := HM8.out.gr.cells
    exact ⟨q0, q1, q2, q3, q4, q5⟩)
   refine hK.out _ _ HS8.out (fun HSn => ?_)
   clear hK K HSn
   try simp only [Act.put, List.setIfInBounds_toArray, List.set_cons_zero, List.set_cons_succ]
   refine wpAnyH_done (by kernel_rfl) ?_ _
   go_upto_region 16 with fail
   refine odel_any w B bi bo w.heap.size g An (some ⟨bb, obb, none⟩) As cn cb cs I' O' ri' ro' b x wq wq.heap.size ub _ w8 hs HX.out HM.out HNu.out.2 HR8.out HL8.out HNu.out.1 _ HO8.out _ _ _ _ _ _ _ _ _ _ _ _ _ _ _ _ _ _ _ _ _ _ _ _ _ _ _ _ _ _ _ _ _ _ _ _ _ _ _ _ _ _ _ _ _ _ _ _ _ _ _ _ _ _ _ _ _ _ _ _ _ _ _ _ _ _ _ _ _ _ _ _ _ _ _ _ _ _ _ _ _ _ _ _ _ _ _ _ _ _ _ _ _ _ _ _ _ _ _ _ _ _ _ _ _ _ _ _ _ _ _ _ _ _ _ _ _ _ _ _ _ _ _ _ _ _ _ _ _ _ _ _ _ _ _ _ _ _ _ _ _ _ _ _ _ _ _ _ _ _ _ ?_
   intro x13 x14 x83 x84 x85 x86 x87 x88 x89 x90 x91 x92 x93 x94 x95 x96 x97 x98 x99 x100 x101 x102 x103 x104 x105 x106 x107 x108 x109 x110 x111 x112 x113 W9 ⟨hr9, ho9, hl9⟩
   rw [inF_used g x (outF_bounded g I' b x)] at hr9
   have HR9 := Lib.hid hr9; have HO9 := Lib.hid ho9; have HL9 := Lib.hid hl9
   clear hr9 ho9 hl9
   dsimp only [Exit.inBlock]
   go_upto_region 22 with fail
   refine ocmp_any w B bi bo w.heap.size g An (some ⟨bb, obb, none⟩) As cn cb cs I' O' ri' ro' b x wq wq.heap.size ub (inF g x (outF g I' b x)) (outF g I' b x) c W9 hs hlt HM.out HR9.out HO9.out HL9.out _ _ _ _ _ _ _ _ _ _ _ _ _ _ _ _ _ _ _ _ _ _ _ _ _ _ _ _ _ _ _ _ _ _ _ _ _ _ _ _ _ _ _ _ _ _ _ _ _ _ _ _ _ _ _ _ _ _ _ _ _ _ _ _ _ _ _ _ _ _ _ _ _ _ _ _ _ _ _ _ _ _ _ _ _ _ _ _ _ _ _ _ _ _ _ _ _ _ _ _ _ _ _ _ _ _ _ _ _ _ _ _ _ _ _ _ _ _ _ _ _ _ _ _ _ _ _ _ _ _ _ _ _ _ _ _ _ _ _ _ _ _ _ _ _ _ _ _ _ _ ?_
   intro x15 x114 x115 x116 x117 x118 x119 x120 x121 x122 x123 x124 x125 x126 x127 x128 x129 x130 x131 x132 x133 x134 x135 x136 x137 x138 x139 x140 x141 x142 x143 x144 x145 x146 x147 x148 W10 hl10
   have HL10 := Lib.hid hl10
   clear hl10
   dsimp only [Exit.inBlock]
   have HMa' := Lib.hid (HM.out.below (HL9.out.trans (HL10.out.mono HL9.out.size)))
   have HRa' := Lib.hid (HR9.out.below HL10.out HR9.out.lt)
   have HOa' := Lib.hid (HO9.out.below HL10.out HO9.out.lt)
   have s0 := HMa'.out.rI.cell hlt
   have s1 := HMa'.out.rI.row.frozen b
   have s2 := HMa'.out.rI.row.lt
   have s3 := HMa'.out.rO.cell hlt
   have s4 := HMa'.out.rO.row.frozen b
   have s5 := HMa'.out.rO.row.lt
   have hne := HNe.out
   have hne2 := HNe.out.symm
   have HBq := Lib.hid HM.out.gr.hB
   clear HM HMa HM2 HM3 HM8
   go_wp2_with fail
   go_roundw
   case rel => exact ⟨b + 1, _, _, _, _, _, by omega, rfl, by go_num, Lib.hid (HMa'.out.put hlt HRa'.out HOa'.out (Nat.le_trans HBq.out HNu.out.2) HBq.out), Lib.hid (HP.out.step HX.out)⟩
   case measure => simp [intOf]; omega
  ·go_wp2_with fail
   go_ret
   have e : b = g.blocks.length := by omega
   subst e
   exact ⟨c, I', O', ri', ro', rfl, HM.out.rI, HM.out.rO, HM.out.low, HP.out⟩
end Go.Proofs.YtkmfdiboekoioaaGreat
