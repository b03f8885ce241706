/- A round of alloc.spots over a block's nodes, from the end: what is live there, the phis, what meets. Conditions: the memory holds what SpotMem says. -/
import Derived.Test.YtkmfdiboekoioaaGreatCSpotMem
import Derived.RangeFuncLeaves
set_option linter.unusedSimpArgs false
set_option linter.unusedVariables false
namespace Go.Proofs.YtkmfdiboekoioaaGreat
open Go.RowKit Go.Shelf
attribute [local go_sem] Oper.semAt_some
def Mv (q : SpotNums) (B0 : Nat) (W W' : World) : Prop := Moves B0 q.base (fun k => k < q.base ∨ k = q.Bs) (q.rn :: q.ro) W W'
theorem Mv.trans {q : SpotNums} {B0 : Nat} {W W' W'' : World} (h : Mv q B0 W W') (k : Mv q B0 W' W'') : Mv q B0 W W'' := Moves.trans h k
theorem done_of {q : SpotNums} {xv : GVals} {g : GraphP} {y : BVals} {x : BlockP} {s : Spot} {B0 : Nat} {I : List (Nat × Int) → World → Prop} {Ix : Code → List (Nat × Int) → World → Prop} {xs : List (Nat × Int)} {W W' : World} {a : Act}
  (hE : ∀ W', Mv q B0 W W' → SpotMem q xv g y x W' s → I xs W') (hv : Mv q B0 W W') (hm : SpotMem q xv g y x W' s) : ownPostG B0 (KeepS (fun k => k < q.base ∨ k = q.Bs)) I Ix xs W .normal a W' := ⟨hv.from_, hv.cells, hE _ hv hm⟩
theorem SpotMem.cells {q : SpotNums} {xv : GVals} {g : GraphP} {y : BVals} {x : BlockP} {s : Spot} {W : World} (h : SpotMem q xv g y x W s) :
  W.cell? ⟨q.t3, 0, none⟩ = some (.func (.func 76) #[] #[.pointer (some ⟨q.bm, 0, none⟩)]) ∧
  W.cell? ⟨q.h5, 0, none⟩ = some (.func (.func 117) #[] #[.pointer (some ⟨q.g2, 0, none⟩)]) ∧
  W.cell? ⟨q.n8, 0, none⟩ = some (.map (some q.rn)) ∧
  W.cell? ⟨q.p9, 0, none⟩ = some (.func (.func 118) #[] #[.pointer (some ⟨q.h5, 0, none⟩), .pointer (some ⟨q.n8, 0, none⟩)]) ∧
  W.cell? ⟨q.bm, 0, none⟩ = some (.slice (some ⟨q.bo, 0, none⟩) q.ro.length q.ro.length) :=
 ⟨h.told.cell 0, h.there.cell 0, h.now.cell 0, h.put.cell 0, h.out.cell 0⟩
/-- A phi has been put to the others. -/
theorem SpotMem.phi_ {q : SpotNums} {xv : GVals} {g : GraphP} {y : BVals} {x : BlockP} {s : Spot} {W w1 : World} {B0 : Nat} {v v' : Value} {l' : List Int} {tmp : Obj} (h : SpotMem q xv g y x W s) (hB0 : q.base ≤ B0) (hv : Boxed W q.f10 34 v) (hrow : OwnInts W q.base v s.phis)
  (hown' : OwnInts w1 q.base v' l') (hgrow : (W.alloc tmp).grownBy w1 v.ownBlock) :
  Boxed w1 q.f10 34 v ∧ SpotMem q xv g y x (w1.setCell ⟨q.f10, 0, none⟩ v') ⟨s.now, l', s.meet⟩ ∧ Mv q B0 W (w1.setCell ⟨q.f10, 0, none⟩ v') := by
 obtain ⟨h1, h2, h3, h4, h5⟩ := Boxed.appended hv (by decide) hrow h.base h.low.f10 hown' hgrow
 have hbs : Boxed (w1.setCell ⟨q.f10, 0, none⟩ v') q.Bs 34 q.sv := Boxed.other ((h.bs.alloc tmp).kept hgrow (h.bs.not_row (by decide) hrow)) (Ne.symm h.low.ne) v'
 refine ⟨h1, h.far_ h5 ⟨v', h2, h3⟩ hbs, h4.from B0, fun p u hp hc => ?_, TurnB.of_below h5⟩
 rcases hp with hp | hp
 ·exact (h5.cell hp).trans hc
 ·have e1 := h.bs
  have e2 := hbs
  unfold Boxed at e1 e2
  unfold World.cell? at hc ⊢
  rw [hp] at hc ⊢
  rw [e1] at hc
  rw [e2]
  exact hc
/-- What is read of a node while what is live is put. -/
theorem SpotMem.nodeS {q : SpotNums} {vb vs : Value} {g : GraphP} {y : BVals} {x : BlockP} {s : Spot} {W W0 : World} {bm offm cn k cg : Nat} {Ag : Option Addr} {nd : NodeP}
  (h : SpotMem q ⟨.slice (some ⟨bm, offm, none⟩) g.nodes.length cn, vb, vs⟩ g y x W s) (hb : bm < q.B) (hk : KeepS (fun k => k < q.base ∨ k = q.Bs) W0 W)
  (d1 : W0.cell? ⟨bm, offm + k * 5 + 1, none⟩ = some (.slice Ag nd.args.length cg)) (d4 : W0.cell? ⟨bm, offm + k * 5 + 4, none⟩ = some (.int .i64 nd.state)) :
  W.cell? ⟨q.p9, 0, none⟩ = some (.func (.func 118) #[] #[.pointer (some ⟨q.h5, 0, none⟩), .pointer (some ⟨q.n8, 0, none⟩)]) ∧
  W.cell? ⟨q.g2, 0, none⟩ = some (.int .i64 g.fn) ∧ W.cell? ⟨q.g2, 1, none⟩ = some (.int .i64 g.pc) ∧ W.cell? ⟨q.g2, 2, none⟩ = some (.int .i64 g.slots) ∧
  W.cell? ⟨q.g2, 3, none⟩ = some (.slice (some ⟨bm, offm, none⟩) g.nodes.length cn) ∧ W.cell? ⟨q.g2, 4, none⟩ = some vb ∧ W.cell? ⟨q.g2, 5, none⟩ = some vs ∧
  W.cell? ⟨bm, offm + k * 5 + 1, none⟩ = some (.slice Ag nd.args.length cg) ∧ W.cell? ⟨bm, offm + k * 5 + 4, none⟩ = some (.int .i64 nd.state) := by
 obtain ⟨c0, c1, c2, c3, c4, c5⟩ := h.gr.cells
 exact ⟨h.cells.2.2.2.1, c0, c1, c2, c3, c4, c5, hk _ _ (.inl (Nat.lt_of_lt_of_le hb h.low.B)) d1, hk _ _ (.inl (Nat.lt_of_lt_of_le hb h.low.B)) d4⟩

set_option maxRecDepth 100000 in
set_option maxHeartbeats 8000000 in
theorem spotRound_any (lr m : Nat) (q : SpotNums) (xv : GVals) (g : GraphP) (y : BVals) (x : BlockP) (s : Spot) (n : Int) (W : World) (B0 : Nat) (I : List (Nat × Int) → World → Prop) (Ix : Code → List (Nat × Int) → World → Prop) (xs : List (Nat × Int))
  (hm : SpotMem q xv g y x W s) (ok : SpotOk g s) (hs : Small g) (hB0 : q.base ≤ B0) (hro : g.nodes.length = q.ro.length)
  (hexit : ∀ W', Moves B0 q.base (fun k => k < q.base ∨ k = q.Bs) (q.rn :: q.ro) W W' → SpotMem q xv g y x W' (spotStep g s n) → I xs W')
  (u0 u1 u4 u6 u11 u13 u14 u15 u16 u17 u18 u19 u20 u21 u22 u23 u24 u25 u26 u27 u28 u29 u30 u31 u32 u33 u34 u35 u36 u37 u38 u39 u40 u41 u42 u43 u44 u45 u46 u47 u48 u49 u50 u51 u52 u53 u54 u55 u56 u57 u58 u59 u60 u61 u62 u63 u64 u65 u66 u67 u68 u69 u70 u71 u72 u73 u74 u75 u76 u77 u78 u79 u80 u81 u82 u83 u84 u85 u86 u87 u88 u89 u90 u91 u92 u93 u94 u95 u96 u97 u98 u99 u100 u101 u102 u103 u104 u105 u106 u107 u108 u109 u110 u111 u112 u113 : Value) :
  Code.wpIn (Fence.wide.inRound lr) m Tryz.prog spotRound (ownPostG B0 (KeepS (fun k => k < q.base ∨ k = q.Bs)) I Ix xs W) ⟨#[u0, u1, .pointer (some ⟨q.g2, 0, none⟩), .pointer (some ⟨q.t3, 0, none⟩), u4, .pointer (some ⟨q.h5, 0, none⟩), u6, .pointer (some ⟨q.x7, 0, none⟩), .pointer (some ⟨q.n8, 0, none⟩), .pointer (some ⟨q.p9, 0, none⟩), .pointer (some ⟨q.f10, 0, none⟩), u11, .int .i64 n, u13, u14, u15, u16, u17, u18, u19, u20, u21, u22, u23, u24, u25, u26, u27, u28, u29, u30, u31, u32, u33, u34, u35, u36, u37, u38, u39, u40, u41, u42, u43, u44, u45, u46, u47, u48, u49, u50, u51, u52, u53, u54, u55, u56, u57, u58, u59, u60, u61, u62, u63, u64, u65, u66, u67, u68, u69, u70, u71, u72, u73, u74, u75, u76, u77, u78, u79, u80, u81, u82, u83, u84, u85, u86, u87, u88, u89, u90, u91, u92, u93, u94, u95, u96, u97, u98, u99, u100, u101, u102, u103, u104, u105, u106, u107, u108, u109, u110, u111, u112, u113], []⟩ W := by
 have HRo := Lib.hid hro; clear hro
 have HM := Lib.hid hm; have HOK := Lib.hid ok; have HE := Lib.hid hexit
 obtain ⟨l1, l2, l3⟩ := hs.lens
 obtain ⟨vn, vb, vs⟩ := xv
 have hgv := hm.gr.gr.1
 obtain ⟨An, cn, rfl, hcn, hln, hn0⟩ := hgv
 have hNl : g.nodes.length ≤ lim := hln
 obtain ⟨f3, f5, f8, f9, fm⟩ := hm.cells
 have g3 : W.cell? ⟨q.g2, 3, none⟩ = some (.slice An g.nodes.length cn) := hm.gr.cells.2.2.2.1
 clear hm ok hexit hn0
 conv => arg 4; whnf
 dsimp only
 cases hnode : nodeAt g n with
 | none =>
  have hno : ¬ (0 ≤ n ∧ n < (g.nodes.length : Int)) := fun h => by have := nodeAt_range.2 h; rw [hnode] at this; cases this
  have HNo := Lib.hid hno; have HNode := Lib.hid hnode
  clear hno hnode
  gi_wp2_with (first | (refine ⟨trivial, (fun h => absurd h (by decide)), ?_⟩; gi_at_call 117; refine (CallsIn.inRound lr (callsIn_wide.2 (there_any W q.g2 n An g.nodes.length cn g3 false ⟨(fun h => by cases h), fun h => absurd h HNo.out⟩))).mono ?_; rintro e w' ⟨rfl, hw'⟩; have hw2 := hw'.symm; subst hw2))
  exact done_of HE.out (Moves.refl _ _ _ _ _) (by rw [spotStep_none HNode.out]; exact HM.out)
 | some nd =>
  obtain ⟨hn1, hn2⟩ := nodeAt_range.1 (show (nodeAt g n).isSome = true by rw [hnode]; rfl)
  obtain ⟨k, rfl⟩ := Int.eq_ofNat_of_zero_le hn1
  have hk : k < g.nodes.length := by omega
  have HNode := Lib.hid hnode
  rw [nodeAt_nat] at hnode
  have HNd := Lib.hid hnode
  clear hnode
  obtain ⟨w1, hdel, hm1, hg1, hs1⟩ := IMap.delete (P := Tryz.prog) HM.out.set Tryz.underlying76 Tryz.underlying3 0 3 (k : Int)
  rw [setF_del] at hm1
  have HM1 := Lib.hid (HM.out.set_ hm1 hg1)
  have HV1 : Hid (Mv q B0 W w1) := Lib.hid (Moves.grown hg1 HM.out.base (fun r e => by injection e with e; subst e; exact ⟨by simp, Nat.lt_of_lt_of_le HM.out.low.rn hB0, cells_of_map HM.out.set⟩))
  have g31 : w1.cell? ⟨q.g2, 3, none⟩ = some (.slice An g.nodes.length cn) := HM1.out.gr.cells.2.2.2.1
  obtain ⟨f31, f51, f81, f91, fm1⟩ := HM1.out.cells
  have f101 := HM1.out.phis
  obtain ⟨An', cn', en, _, _, hpn⟩ := HM1.out.gr.gr.1
  simp only at en
  obtain ⟨bm, offm, hAm, hbmB, hpm⟩ := hpn (by omega)
  injection en with en1 en2 en3
  subst en1 hAm
  obtain ⟨d0, ⟨vg, d1, hvg⟩, d2, d3, d4⟩ := hpm k nd HNd.out
  have HVB := Lib.hid hvg
  obtain ⟨Ag, cg, rfl, _, _, _⟩ := hvg
  obtain ⟨vp, hp1, hp2⟩ := f101
  have HP1 := Lib.hid hp1; have HP2 := Lib.hid hp2
  have fp := hp1.cell
  have hplen : s.phis.length ≤ 5000 := by have := bounded_len HOK.out.one HOK.out.phis; omega
  obtain ⟨Ap, cp, ep, _, hlp, _⟩ := (OwnInts.ints (l := s.phis) hp2 (by have := hplen; unfold lim; omega))
  have ep' : vp = .slice Ap s.phis.length cp := ep
  subst ep'
  clear hpm hpn hg1 hs1 hm1 hp1 hp2 d2 d3 en3 ep
  by_cases hop : nd.op = 2
  ·rw [hop] at d0
   have HOP := Lib.hid hop; clear hop
   by_cases hin : (k : Int) ∈ s.phis
   ·have HIn := Lib.hid hin; clear hin
    gi_wp2_with (first | (refine ⟨trivial, (fun h => absurd h (by decide)), ?_⟩; gi_at_call 117; refine (CallsIn.inRound lr (callsIn_wide.2 (there_any W q.g2 (k : Int) (some ⟨bm, offm, none⟩) g.nodes.length cn g3 true ⟨(fun _ => ⟨hn1, hn2⟩), fun _ => rfl⟩))).mono ?_; rintro e w' ⟨rfl, hw'⟩; have hw2 := hw'.symm; subst hw2) | (refine ⟨trivial, (fun h => absurd h (by decide)), ?_⟩; gi_at_call 90; refine (CallsIn.inRound lr (callsIn_wide.2 (contains_any w1 _ s.phis (k : Int) (OwnInts.ints HP2.out (by unfold lim; omega)) true ⟨(fun _ => HIn.out), fun _ => rfl⟩))).mono ?_; rintro e w' ⟨rfl, hw'⟩; have hw2 := hw'.symm; subst hw2))
    exact done_of HE.out HV1.out (by rw [spotStep_phi HNode.out HOP.out, if_pos HIn.out]; exact HM1.out)
   ·have HIn := Lib.hid hin; clear hin
    obtain ⟨i0, hinf, hz0, hz1, hz2⟩ := info_parts int_info
    gi_wp2_with (first | (refine ⟨trivial, (fun h => absurd h (by decide)), ?_⟩; gi_at_call 117; refine (CallsIn.inRound lr (callsIn_wide.2 (there_any W q.g2 (k : Int) (some ⟨bm, offm, none⟩) g.nodes.length cn g3 true ⟨(fun _ => ⟨hn1, hn2⟩), fun _ => rfl⟩))).mono ?_; rintro e w' ⟨rfl, hw'⟩; have hw2 := hw'.symm; subst hw2) | (refine ⟨trivial, (fun h => absurd h (by decide)), ?_⟩; gi_at_call 90; refine (CallsIn.inRound lr (callsIn_wide.2 (contains_any w1 _ s.phis (k : Int) (OwnInts.ints HP2.out (by unfold lim; omega)) false ⟨(fun h => by cases h), fun h => absurd h HIn.out⟩))).mono ?_; rintro e w' ⟨rfl, hw'⟩; have hw2 := hw'.symm; subst hw2) | (gi_at_builtin; refine wpListIn_append_own _ rfl _ _ 34 rfl q.base 3 i0 (.int .i64 0) 1 8 Tryz.underlying34 hinf hz0 hz1 hz2 rfl (by decide) _ _ _ rfl (World.ownsRow.alloc HP2.out _) ⟨w1.heap.size, 0, none⟩ 1 1 [.int .i64 k] rfl rfl (cell_one_new _ _ _) (by simp [Value.oneCell']) (by unfold maxLen; omega) (by omega) (by have := HM1.out.base; simp; omega) ?_; intro v' w2 hown' hgrow _; obtain ⟨g', cap', rfl⟩ := ownsRow_succ hown'; obtain ⟨hb1, hb2, hb3⟩ := HM1.out.phi_ (B0 := B0) (l' := s.phis ++ [(k : Int)]) hB0 HP1.out HP2.out (OwnInts.snoc hown') hgrow; have hc1 := hb1.cell; have hf1 := hb1.frozen; have HB2 := Lib.hid hb2; have HB3 := Lib.hid hb3; clear hb2 hb3 hown' hgrow))
    exact done_of HE.out (HV1.out.trans HB3.out) (by rw [spotStep_phi HNode.out HOP.out, if_neg HIn.out]; exact HB2.out)
  ·have PART3 := True.intro
   have hopb : (nd.op == 2) = false := by simp [hop]
   have HOP := Lib.hid hop; clear hop
   obtain ⟨cnt, w3, hrange, hit, hg3, hz3⟩ := IMap.range (P := Tryz.prog) ((HM1.out.alloc (.cells #[.int .i64 (k : Int)] 3)).set) Tryz.underlying76
   rw [World.size_alloc] at hrange hit hz3
   have HIt := Lib.hid hit
   have f8a : (w1.alloc (.cells #[.int .i64 (k : Int)] 3)).cell? ⟨q.n8, 0, none⟩ = some (.map (some q.rn)) := (HM1.out.alloc (.cells #[.int .i64 (k : Int)] 3)).cells.2.2.1
   have hbl3 : Below w1.heap.size w1 w3 := ((Below.refl _ _).alloc (Nat.le_refl _) _).grown hg3 (by simp) (fun k e => by cases e)
   have HM3 := Lib.hid (HM1.out.below hbl3)
   have HV3 : Hid (Mv q B0 W w3) := Lib.hid (HV1.out.trans (Moves.below hbl3 HM1.out.base))
   have hrow3 : OwnInts w3 w1.heap.size (.slice (some ⟨w1.heap.size, 0, none⟩) 1 1) [(k : Int)] := by
    refine ⟨by simp, .inr ⟨w1.heap.size, 1, #[.int .i64 (k : Int)], by simp, Nat.le_refl _, ?_, by simp, by decide, by simp, by simp⟩⟩
    rw [hg3.block w1.heap.size (by simp) (by simp)]
    exact heap_alloc_new w1 _
   have HR3 := Lib.hid hrow3
   have hz1 : w1.heap.size ≤ w3.heap.size := by omega
   have hit0 : w1.heap.size ≤ w1.heap.size + 1 := by omega
   have HB3 := Lib.hid hbl3; have HD1 := Lib.hid d1; have HD4 := Lib.hid d4
   clear hit hg3 hz3 hbl3 hrow3 d1 d4
   gi_wp2_with (first | (refine ⟨trivial, (fun h => absurd h (by decide)), ?_⟩; gi_at_call 117; refine (CallsIn.inRound lr (callsIn_wide.2 (there_any W q.g2 (k : Int) (some ⟨bm, offm, none⟩) g.nodes.length cn g3 true ⟨(fun _ => ⟨hn1, hn2⟩), fun _ => rfl⟩))).mono ?_; rintro e w' ⟨rfl, hw'⟩; have hw2 := hw'.symm; subst hw2))
   refine nowLoop_any lr m g.nodes.length w3 w1.heap.size (w1.heap.size + 1) q.rn cnt (s.now.del (k : Int)) (k : Int) (.slice (some ⟨w1.heap.size, 0, none⟩) 1 1) l1 ⟨hn1, hn2⟩ (del_bounded _ HOK.out.now) (by simp [ISet.del]) hz1 hit0 HIt.out HR3.out _ _ _ _ _ _ _ _ _ _ _ _ _ _ _ _ _ _ _ _ _ _ _ _ _ _ _ _ _ _ _ _ _ _ _ _ _ _ _ _ _ _ _ _ _ _ _ _ _ _ _ _ _ _ _ _ _ _ _ _ _ _ _ _ _ _ _ _ _ _ _ _ _ _ _ _ _ _ _ _ _ _ _ _ _ _ _ _ _ _ _ _ _ _ _ _ _ _ _ _ _ _ _ _ _ _ _ _ _ _ _ _ _ ?_
   intro x13 x14 x81 x82 x83 x84 x85 x86 x87 x88 w4 ⟨ks, hown4, hnd4, hks4, hbe4⟩
   dsimp only [Exit.inBlock]
   have hbl4 : Below w1.heap.size w1 w4 := HB3.out.trans hbe4
   have HM4 := Lib.hid (HM1.out.below hbl4); have HB14 := Lib.hid hbl4
   have HV4 : Hid (Mv q B0 W w4) := Lib.hid (HV1.out.trans (Moves.below hbl4 HM1.out.base))
   have hlen4 : ks.length + 1 ≤ g.nodes.length := by
    have := bounded_len hnd4 (fun z hz => by
     rcases List.mem_cons.1 hz with rfl | hz
     ·exact ⟨hn1, hn2⟩
     ·exact del_bounded _ HOK.out.now z ((hks4 z).1 hz))
    simpa using this
   have hin4 : ∀ z ∈ (k : Int) :: ks, 0 ≤ z ∧ z < (q.ro.length : Int) := fun z hz => by
    rw [← HRo.out]
    rcases List.mem_cons.1 hz with rfl | hz
    ·exact ⟨hn1, hn2⟩
    ·exact del_bounded _ HOK.out.now z ((hks4 z).1 hz)
   have HOwn4 := Lib.hid hown4; have HNd4 := Lib.hid hnd4; have HIn4 := Lib.hid hin4
   have HTell := Lib.hid (tell_star (k : Int) ks s.meet (s.now.del (k : Int)) hnd4 hks4)
   have q3 := HM4.out.cells.1
   clear hown4 hks4 hbe4 hbl4 hnd4 hin4
   clear hrange f3 f5 f8 f9 fm f31 f51 f81 f91 fm1 f8a g3 g31 hdel d0 fp
   gi_wp2_with (first | (refine ⟨trivial, (fun h => absurd h (by decide)), ?_⟩; gi_at_call 76; refine (CallsIn.inRound lr (callsIn_wide.2 (told_any w4 q.bo q.bm q.ro s.meet _ ((k : Int) :: ks) false HM4.out.rows (OwnInts.ints HOwn4.out (by simp only [List.length_cons]; unfold lim; omega)) HNd4.out HIn4.out (by have := HRo.out; omega) HM4.out.cells.2.2.2.2))).mono ?_; rintro e w5 ⟨rfl, hr5, ht5⟩))
   rw [HTell.out] at hr5
   have HM5 := Lib.hid (HM4.out.told_ hr5 ht5)
   have HV5 : Hid (Mv q B0 W w5) := Lib.hid (HV4.out.trans (Moves.told HM4.out.rows ht5 HM4.out.base (fun r hr => ⟨by simp [hr], Nat.lt_of_lt_of_le (HM4.out.low.ro r hr) hB0⟩)))
   have HK5 : Hid (KeepS (fun k => k < q.base ∨ k = q.Bs) w1 w5) := Lib.hid ((Moves.below (B0 := B0) (S := fun k => k < q.base ∨ k = q.Bs) (L := q.rn :: q.ro) HB14.out HM1.out.base).cells.trans (Moves.told (B0 := B0) (base := q.base) (S := fun k => k < q.base ∨ k = q.Bs) (L := q.rn :: q.ro) HM4.out.rows ht5 HM4.out.base (fun r hr => ⟨by simp [hr], Nat.lt_of_lt_of_le (HM4.out.low.ro r hr) hB0⟩)).cells)
   clear hr5 ht5 q3
   have HVG5 : Hid (IntsV w5.drew w5.drew.heap.size (.slice Ag nd.args.length cg) nd.args) := Lib.hid ((IntsV.keepS (S := fun k => k < q.base ∨ k = q.Bs) HVB.out (fun p v hp hv => HK5.out p v hp hv) (fun j hj => .inl (Nat.lt_of_lt_of_le hj HM1.out.low.B))).mono HM5.out.gr.hB)
   have HS5 := Lib.hid (HM5.out.drew.nodeS hbmB (W := w5.drew) (fun p v hp hv => HK5.out p v hp hv) HD1.out HD4.out)
   refine RegX.wpIn_region_roundH (fun W => W.cell? ⟨q.p9, 0, none⟩ = some (.func (.func 118) #[] #[.pointer (some ⟨q.h5, 0, none⟩), .pointer (some ⟨q.n8, 0, none⟩)]) ∧ W.cell? ⟨q.g2, 0, none⟩ = some (.int .i64 g.fn) ∧ W.cell? ⟨q.g2, 1, none⟩ = some (.int .i64 g.pc) ∧ W.cell? ⟨q.g2, 2, none⟩ = some (.int .i64 g.slots) ∧ W.cell? ⟨q.g2, 3, none⟩ = some (.slice (some ⟨bm, offm, none⟩) g.nodes.length cn) ∧ W.cell? ⟨q.g2, 4, none⟩ = some vb ∧ W.cell? ⟨q.g2, 5, none⟩ = some vs ∧ W.cell? ⟨bm, offm + k * 5 + 1, none⟩ = some (.slice Ag nd.args.length cg) ∧ W.cell? ⟨bm, offm + k * 5 + 4, none⟩ = some (.int .i64 nd.state)) (by kernel_rfl) (by kernel_rfl) (by rintro ⟨a, w, h⟩; exact h) HS5.out (fun HSn => ?_)
   clear HSn
   refine wpAnyH_take (i := 0) (oi := _) (v := ?_) rfl (by kernel_rfl) (by kernel_rfl) (by kernel_rfl) (fun _ _ _ h => h) (Or.inl ⟨by rfl, ?_⟩) HS5.out ?_
   rotate_left
   ·intro w hSw; (try dsimp only at hSw); go_simp; (try with_reducible rfl)
   try simp only [Act.put, List.setIfInBounds_toArray, List.set_cons_zero, List.set_cons_succ]
   refine wpAnyH_take (i := 1) (oi := _) (v := ?_) rfl (by kernel_rfl) (by kernel_rfl) (by kernel_rfl) (fun _ _ _ h => h) (Or.inl ⟨by rfl, ?_⟩) HS5.out ?_
   rotate_left
   ·intro w hSw; (try dsimp only at hSw); go_simp; (try with_reducible rfl)
   try simp only [Act.put, List.setIfInBounds_toArray, List.set_cons_zero, List.set_cons_succ]
   refine wpAnyH_take (i := 2) (oi := _) (v := ?_) rfl (by kernel_rfl) (by kernel_rfl) (by kernel_rfl) (fun _ _ _ h => h) (Or.inl ⟨by rfl, ?_⟩) HS5.out ?_
   rotate_left
   ·intro w hSw; (try dsimp only at hSw); go_simp; (try with_reducible rfl)
   try simp only [Act.put, List.setIfInBounds_toArray, List.set_cons_zero, List.set_cons_succ]
   refine wpAnyH_take (i := 3) (oi := _) (v := ?_) rfl (by kernel_rfl) (by kernel_rfl) (by kernel_rfl) (fun _ _ _ h => h) (Or.inl ⟨by rfl, ?_⟩) HS5.out ?_
   rotate_left
   ·intro w hSw; (try dsimp only at hSw); go_simp; (try with_reducible rfl)
   try simp only [Act.put, List.setIfInBounds_toArray, List.set_cons_zero, List.set_cons_succ]
   refine wpAnyH_take (i := 4) (oi := _) (v := ?_) rfl (by kernel_rfl) (by kernel_rfl) (by kernel_rfl) (fun _ _ _ h => h) (Or.inl ⟨by rfl, ?_⟩) HS5.out ?_
   rotate_left
   ·intro w hSw; (try dsimp only at hSw); go_simp; (try with_reducible rfl)
   try simp only [Act.put, List.setIfInBounds_toArray, List.set_cons_zero, List.set_cons_succ]
   refine wpAnyH_take (i := 5) (oi := _) (v := ?_) rfl (by kernel_rfl) (by kernel_rfl) (by kernel_rfl) (fun _ _ _ h => h) (Or.inl ⟨by rfl, ?_⟩) HS5.out ?_
   rotate_left
   ·intro w hSw; (try dsimp only at hSw); go_simp; (try with_reducible rfl)
   try simp only [Act.put, List.setIfInBounds_toArray, List.set_cons_zero, List.set_cons_succ]
   refine wpAnyH_take (i := 6) (oi := _) (v := ?_) rfl (by kernel_rfl) (by kernel_rfl) (by kernel_rfl) (fun _ _ _ h => h) (Or.inl ⟨by rfl, ?_⟩) HS5.out ?_
   rotate_left
   ·intro w hSw; (try dsimp only at hSw); go_simp; (try with_reducible rfl)
   try simp only [Act.put, List.setIfInBounds_toArray, List.set_cons_zero, List.set_cons_succ]
   refine wpAnyH_ready (rs := [7]) (by kernel_rfl) (by simp) (AllReadyH.cons (o := _) rfl (fun K hK => ?_) AllReadyH.nil)
   go_simp
   (go_at_call 118; refine (putn_any w5.drew q.rn (s.now.del (k : Int)) _ nd.args q.g2 q.h5 q.n8 (some ⟨bm, offm, none⟩) g.nodes.length cn HM5.out.drew.set (HVG5.out) HM5.out.drew.gr.cells.2.2.2.1 hNl HM5.out.drew.cells.2.1 HM5.out.drew.cells.2.2.1).mono ?_; rintro e w6 ⟨rfl, hs6, hg6⟩; have HM6 := Lib.hid (HM5.out.drew.set_ hs6 hg6); have HS6 := Lib.hid hs6; have HG6 := Lib.hid hg6; have HK6 := Lib.hid (HK5.out.trans (KeepS.grown (A := w5) (S := fun k => k < q.base ∨ k = q.Bs) (grown_undrew hg6) (fun r e => .inl (by injection e with e; subst e; exact cells_of_map HM5.out.set)))); have HV6 : Hid (Mv q B0 W w6) := Lib.hid (HV5.out.trans (Moves.grown (grown_undrew hg6) HM5.out.base (fun r e => by injection e with e; subst e; exact ⟨by simp, Nat.lt_of_lt_of_le HM5.out.low.rn hB0, cells_of_map HM5.out.set⟩))); clear hs6 hg6)
   try go_wp2_with fail
   refine hK.out _ _ (HM6.out.nodeS hbmB HK6.out HD1.out HD4.out) (fun HSn => ?_)
   clear hK K HSn
   try simp only [Act.put, List.setIfInBounds_toArray, List.set_cons_zero, List.set_cons_succ]
   refine wpAnyH_done (by kernel_rfl) ?_ _
   gi_wp2_with fail
   have HS7 := Lib.hid (HM6.out.drew.nodeS hbmB (W := w6.drew) (fun p v hp hv => HK6.out p v hp hv) HD1.out HD4.out)
   refine RegX.wpIn_region_roundH (fun W => W.cell? ⟨q.p9, 0, none⟩ = some (.func (.func 118) #[] #[.pointer (some ⟨q.h5, 0, none⟩), .pointer (some ⟨q.n8, 0, none⟩)]) ∧ W.cell? ⟨q.g2, 0, none⟩ = some (.int .i64 g.fn) ∧ W.cell? ⟨q.g2, 1, none⟩ = some (.int .i64 g.pc) ∧ W.cell? ⟨q.g2, 2, none⟩ = some (.int .i64 g.slots) ∧ W.cell? ⟨q.g2, 3, none⟩ = some (.slice (some ⟨bm, offm, none⟩) g.nodes.length cn) ∧ W.cell? ⟨q.g2, 4, none⟩ = some vb ∧ W.cell? ⟨q.g2, 5, none⟩ = some vs ∧ W.cell? ⟨bm, offm + k * 5 + 1, none⟩ = some (.slice Ag nd.args.length cg) ∧ W.cell? ⟨bm, offm + k * 5 + 4, none⟩ = some (.int .i64 nd.state)) (by kernel_rfl) (by kernel_rfl) (by rintro ⟨a, w, h⟩; exact h) HS7.out (fun HSn => ?_)
   clear HSn
   refine wpAnyH_take (i := 0) (oi := _) (v := ?_) rfl (by kernel_rfl) (by kernel_rfl) (by kernel_rfl) (fun _ _ _ h => h) (Or.inl ⟨by rfl, ?_⟩) HS7.out ?_
   rotate_left
   ·intro w hSw; (try dsimp only at hSw); go_simp; (try with_reducible rfl)
   try simp only [Act.put, List.setIfInBounds_toArray, List.set_cons_zero, List.set_cons_succ]
   refine wpAnyH_take (i := 1) (oi := _) (v := ?_) rfl (by kernel_rfl) (by kernel_rfl) (by kernel_rfl) (fun _ _ _ h => h) (Or.inl ⟨by rfl, ?_⟩) HS7.out ?_
   rotate_left
   ·intro w hSw; (try dsimp only at hSw); go_simp; (try with_reducible rfl)
   try simp only [Act.put, List.setIfInBounds_toArray, List.set_cons_zero, List.set_cons_succ]
   refine wpAnyH_take (i := 2) (oi := _) (v := ?_) rfl (by kernel_rfl) (by kernel_rfl) (by kernel_rfl) (fun _ _ _ h => h) (Or.inl ⟨by rfl, ?_⟩) HS7.out ?_
   rotate_left
   ·intro w hSw; (try dsimp only at hSw); go_simp; (try with_reducible rfl)
   try simp only [Act.put, List.setIfInBounds_toArray, List.set_cons_zero, List.set_cons_succ]
   refine wpAnyH_take (i := 3) (oi := _) (v := ?_) rfl (by kernel_rfl) (by kernel_rfl) (by kernel_rfl) (fun _ _ _ h => h) (Or.inl ⟨by rfl, ?_⟩) HS7.out ?_
   rotate_left
   ·intro w hSw; (try dsimp only at hSw); go_simp; (try with_reducible rfl)
   try simp only [Act.put, List.setIfInBounds_toArray, List.set_cons_zero, List.set_cons_succ]
   refine wpAnyH_take (i := 4) (oi := _) (v := ?_) rfl (by kernel_rfl) (by kernel_rfl) (by kernel_rfl) (fun _ _ _ h => h) (Or.inl ⟨by rfl, ?_⟩) HS7.out ?_
   rotate_left
   ·intro w hSw; (try dsimp only at hSw); go_simp; (try with_reducible rfl)
   try simp only [Act.put, List.setIfInBounds_toArray, List.set_cons_zero, List.set_cons_succ]
   refine wpAnyH_take (i := 5) (oi := _) (v := ?_) rfl (by kernel_rfl) (by kernel_rfl) (by kernel_rfl) (fun _ _ _ h => h) (Or.inl ⟨by rfl, ?_⟩) HS7.out ?_
   rotate_left
   ·intro w hSw; (try dsimp only at hSw); go_simp; (try with_reducible rfl)
   try simp only [Act.put, List.setIfInBounds_toArray, List.set_cons_zero, List.set_cons_succ]
   refine wpAnyH_take (i := 6) (oi := _) (v := ?_) rfl (by kernel_rfl) (by kernel_rfl) (by kernel_rfl) (fun _ _ _ h => h) (Or.inl ⟨by rfl, ?_⟩) HS7.out ?_
   rotate_left
   ·intro w hSw; (try dsimp only at hSw); go_simp; (try with_reducible rfl)
   try simp only [Act.put, List.setIfInBounds_toArray, List.set_cons_zero, List.set_cons_succ]
   refine wpAnyH_take (i := 7) (oi := _) (v := ?_) rfl (by kernel_rfl) (by kernel_rfl) (by kernel_rfl) (fun _ _ _ h => h) (Or.inl ⟨by rfl, ?_⟩) HS7.out ?_
   rotate_left
   ·intro w hSw; (try dsimp only at hSw); go_simp; (try with_reducible rfl)
   try simp only [Act.put, List.setIfInBounds_toArray, List.set_cons_zero, List.set_cons_succ]
   refine wpAnyH_ready (rs := [8]) (by kernel_rfl) (by simp) (AllReadyH.cons (o := _) rfl (fun K hK => ?_) AllReadyH.nil)
   go_simp
   (go_at_call 54; refine (slots_any ⟨.slice (some ⟨bm, offm, none⟩) g.nodes.length cn, vb, vs⟩ g nd.state w6.drew HM6.out.drew.gr.graph).mono ?_; rintro e w7 ⟨v7, rfl, hv7, hb7⟩; have HVI7 := Lib.hid (hv7.mono hb7.size); have HM7 := Lib.hid (HM6.out.drew.below hb7); have HK7 := Lib.hid (HK6.out.trans (fun p v hp hv => (Moves.below (B0 := B0) (base := q.base) (S := fun k => k < q.base ∨ k = q.Bs) (L := q.rn :: q.ro) hb7 HM6.out.base).cells p v hp hv)); have HV7 : Hid (Mv q B0 W w7) := Lib.hid (HV6.out.trans ((Moves.drew w6).trans (Moves.below hb7 HM6.out.base))); clear hb7; obtain ⟨A7, c7, rfl, _, _, _⟩ := hv7)
   try go_wp2_with fail
   refine hK.out _ _ (HM7.out.nodeS hbmB HK7.out HD1.out HD4.out) (fun HSn => ?_)
   clear hK K HSn
   try simp only [Act.put, List.setIfInBounds_toArray, List.set_cons_zero, List.set_cons_succ]
   refine wpAnyH_ready (rs := [9]) (by kernel_rfl) (by simp) (AllReadyH.cons (o := _) rfl (fun K hK => ?_) AllReadyH.nil)
   go_simp
   (go_at_call 118; refine (putn_any w7 q.rn ((s.now.del (k : Int)).add g.nodes.length nd.args) _ (slotsOf g nd.state) q.g2 q.h5 q.n8 (some ⟨bm, offm, none⟩) g.nodes.length cn HM7.out.set HVI7.out HM7.out.gr.cells.2.2.2.1 hNl HM7.out.cells.2.1 HM7.out.cells.2.2.1).mono ?_; rintro e w8 ⟨rfl, hs8, hg8⟩; have HM8 := Lib.hid (HM7.out.set_ hs8 hg8); have HV8 : Hid (Mv q B0 w7 w8) := Lib.hid (Moves.grown hg8 HM7.out.base (fun r e => by injection e with e; subst e; exact ⟨by simp, Nat.lt_of_lt_of_le HM7.out.low.rn hB0, cells_of_map HM7.out.set⟩)); have HK8 := Lib.hid (HK7.out.trans HV8.out.cells); clear hs8 hg8)
   try go_wp2_with fail
   refine hK.out _ _ (HM8.out.nodeS hbmB HK8.out HD1.out HD4.out) (fun HSn => ?_)
   clear hK K HSn
   try simp only [Act.put, List.setIfInBounds_toArray, List.set_cons_zero, List.set_cons_succ]
   refine wpAnyH_done (by kernel_rfl) ?_ _
   gi_wp2_with fail
   exact done_of HE.out (HV7.out.trans HV8.out) (by rw [spotStep_other HNode.out HOP.out]; exact HM8.out)

end Go.Proofs.YtkmfdiboekoioaaGreat

/- The memory of alloc.spots between two blocks. No condition. -/
namespace Go.Proofs.YtkmfdiboekoioaaGreat
open Go.RowKit

structure OutNums where
 B : Nat
 g2 : Nat
 t3 : Nat
 l4 : Nat
 h5 : Nat
 bo : Nat
 bm : Nat
 B2 : Nat
 ro : List Nat
 vI : Value
 vO : Value
structure OutMem (o : OutNums) (xv : GVals) (g : GraphP) (LI LO : List (List Int)) (W : World) (R : Meets) : Prop where
 gr : GCtx W o.B o.g2 xv g
 told : Blk W o.t3 122 #[.func (.func 76) #[] #[.pointer (some ⟨o.bm, 0, none⟩)]]
 there : Blk W o.h5 90 #[.func (.func 117) #[] #[.pointer (some ⟨o.g2, 0, none⟩)]]
 live : Blk W o.l4 45 #[o.vI, o.vO]
 rI : RowsV W o.B2 o.vI LI
 rO : RowsV W o.B2 o.vO LO
 hB2 : o.B2 ≤ W.heap.size
 out : Blk W o.bm 73 #[.slice (some ⟨o.bo, 0, none⟩) o.ro.length o.ro.length]
 rows : MRow W o.bo o.ro R
section
variable {o : OutNums} {xv : GVals} {g : GraphP} {LI LO : List (List Int)} {W W' : World} {R : Meets}
theorem OutMem.below (h : OutMem o xv g LI LO W R) (hb : Below W.heap.size W W') : OutMem o xv g LI LO W' R where
 gr := h.gr.below hb
 told := h.told.below hb h.told.lt
 there := h.there.below hb h.there.lt
 live := h.live.below hb h.live.lt
 rI := h.rI.keep (Same.of_below (hb.mono h.hB2))
 rO := h.rO.keep (Same.of_below (hb.mono h.hB2))
 hB2 := Nat.le_trans h.hB2 hb.size
 out := h.out.below hb h.out.lt
 rows := h.rows.later hb
theorem OutMem.alloc (h : OutMem o xv g LI LO W R) (x : Obj) : OutMem o xv g LI LO (W.alloc x) R := h.below ((Below.refl _ _).alloc (Nat.le_refl _) _)
theorem OutMem.drew (h : OutMem o xv g LI LO W R) : OutMem o xv g LI LO W.drew R := h.below ((Below.refl _ _).drew)
theorem OutMem.set_ (h : OutMem o xv g LI LO W R) {rn : Nat} {p p' : ISet} (hp : SetM W rn p) (hq : SetM W' rn p') (hg : W.grownBy W' (some rn)) (hf : rn ∉ o.ro) : OutMem o xv g LI LO W' R where
 gr := h.gr.turn hp hq hg
 told := h.told.grown hg (blk_ne_map h.told hp)
 there := h.there.grown hg (blk_ne_map h.there hp)
 live := h.live.grown hg (blk_ne_map h.live hp)
 rI := h.rI.keep fun a ha => cell_mapturn hp (.inr ⟨_, hq⟩) hg (Nat.lt_of_lt_of_le ha h.hB2)
 rO := h.rO.keep fun a ha => cell_mapturn hp (.inr ⟨_, hq⟩) hg (Nat.lt_of_lt_of_le ha h.hB2)
 hB2 := Nat.le_trans h.hB2 hg.size
 out := h.out.grown hg (blk_ne_map h.out hp)
 rows := h.rows.other hp hg hf
theorem OutMem.told_ (h : OutMem o xv g LI LO W R) {R' : Meets} (hm : MRow W' o.bo o.ro R') (ht : Turned W W' o.ro) : OutMem o xv g LI LO W' R' where
 gr := ⟨h.gr.gr.keep (same_told h.rows hm ht h.gr.hB), Nat.le_trans h.gr.hB ht.size, h.rows.blk ht h.gr.box⟩
 told := h.rows.blk ht h.told
 there := h.rows.blk ht h.there
 live := h.rows.blk ht h.live
 rI := h.rI.keep (same_told h.rows hm ht h.hB2)
 rO := h.rO.keep (same_told h.rows hm ht h.hB2)
 hB2 := Nat.le_trans h.hB2 ht.size
 out := h.rows.blk ht h.out
 rows := hm
/-- What lay ahead of a block's nodes lies so behind them. -/
theorem OutMem.behind {q : SpotNums} {y : BVals} {x : BlockP} {s : Spot} (h : OutMem o xv g LI LO W R) (hs : SpotMem q xv g y x W' s) (ht : TurnB q.base W W' (q.rn :: q.ro)) (hb : q.base = W.heap.size)
  (e1 : q.B = o.B) (e2 : q.g2 = o.g2) (e3 : q.bo = o.bo) (e4 : q.ro = o.ro) {p : ISet} (hrn : SetM W q.rn p) : OutMem o xv g LI LO W' s.meet := by
 have hb' : ∀ b t cs, Blk W b t cs → Blk W' b t cs := fun b t cs hk => by
  unfold Blk at hk ⊢
  rw [ht.block b (by rw [hb]; exact Blk.lt hk) (fun hm => by
   rcases List.mem_cons.1 hm with e | hm
   ·exact blk_ne_map (show Blk W b t cs from hk) hrn (by rw [e])
   ·rw [e4] at hm
    obtain ⟨j, hj⟩ := List.mem_iff_getElem?.1 hm
    exact blk_ne_map (show Blk W b t cs from hk) (h.rows.maps j b hj) rfl)]
  exact hk
 have hsame : ∀ B, B ≤ W.heap.size → Same B W W' := fun B hB a ha => by
  by_cases hm : a.block ∈ q.rn :: q.ro
  ·have m1 : ∃ es c, W.heap[a.block]? = some (.map es c) := by
    rcases List.mem_cons.1 hm with e | hm
    ·obtain ⟨es, c, h1, _⟩ := hrn
     rw [e]; exact ⟨es, c, h1⟩
    ·rw [e4] at hm
     obtain ⟨j, hj⟩ := List.mem_iff_getElem?.1 hm
     obtain ⟨es, c, h1, _⟩ := h.rows.maps j _ hj
     exact ⟨es, c, h1⟩
   have m2 : ∃ es c, W'.heap[a.block]? = some (.map es c) := by
    rcases List.mem_cons.1 hm with e | hm
    ·obtain ⟨es, c, h1, _⟩ := hs.set
     rw [e]; exact ⟨es, c, h1⟩
    ·obtain ⟨j, hj⟩ := List.mem_iff_getElem?.1 hm
     obtain ⟨es, c, h1, _⟩ := hs.rows.maps j _ hj
     exact ⟨es, c, h1⟩
   obtain ⟨es, c, h1⟩ := m1
   obtain ⟨es', c', h2⟩ := m2
   simp [World.cell?, h1, h2]
  ·exact World.cell?_of_block (ht.block a.block (by omega) hm)
 exact ⟨⟨h.gr.gr.keep (hsame _ h.gr.hB), Nat.le_trans h.gr.hB ht.size, hb' _ _ _ h.gr.box⟩, hb' _ _ _ h.told, hb' _ _ _ h.there, hb' _ _ _ h.live, h.rI.keep (hsame _ h.hB2), h.rO.keep (hsame _ h.hB2), Nat.le_trans h.hB2 ht.size, hb' _ _ _ h.out, by rw [← e3, ← e4]; exact hs.rows⟩
end

/-- The marks of the loops that are over: each has its block, which holds nothing. -/
def MarksOk (base0 : Nat) (W : World) (ds : List Deferred) : Prop :=
 ∃ Ds : List Nat, ds = Ds.map (fun D => { target := .collected D, args := #[] }) ∧ Ds.Nodup ∧ ∀ D ∈ Ds, base0 ≤ D ∧ W.heap[D]? = some (.deferred (some []))
theorem MarksOk.nil (base0 : Nat) (W : World) : MarksOk base0 W [] := ⟨[], rfl, by simp, fun _ h => by cases h⟩
theorem MarksOk.keep {base0 : Nat} {W W' : World} {ds : List Deferred} (h : MarksOk base0 W ds) (hk : ∀ D, base0 ≤ D → W.heap[D]? = some (.deferred (some [])) → W'.heap[D]? = some (.deferred (some []))) : MarksOk base0 W' ds := by
 obtain ⟨Ds, h1, h2, h3⟩ := h
 exact ⟨Ds, h1, h2, fun D hD => ⟨(h3 D hD).1, hk D (h3 D hD).1 (h3 D hD).2⟩⟩
theorem MarksOk.cons {base0 D : Nat} {W : World} {ds : List Deferred} (h : MarksOk base0 W ds) (hD : base0 ≤ D) (hk : W.heap[D]? = some (.deferred (some []))) (hn : ∀ d ∈ ds, d.target ≠ .collected D) : MarksOk base0 W ({ target := .collected D, args := #[] } :: ds) := by
 obtain ⟨Ds, rfl, h2, h3⟩ := h
 refine ⟨D :: Ds, rfl, List.nodup_cons.2 ⟨fun hm => hn _ (List.mem_map.2 ⟨D, hm, rfl⟩) rfl, h2⟩, fun E hE => ?_⟩
 rcases List.mem_cons.1 hE with rfl | hE
 ·exact ⟨hD, hk⟩
 ·exact h3 E hE
theorem MarksOk.fresh {base0 D : Nat} {W : World} {ds : List Deferred} (h : MarksOk base0 W ds) (hD : W.heap.size ≤ D) : ∀ d ∈ ds, d.target ≠ .collected D := by
 obtain ⟨Ds, rfl, _, h3⟩ := h
 rintro d hd e
 obtain ⟨E, hE, rfl⟩ := List.mem_map.1 hd
 injection e with e
 subst e
 have := (Array.getElem?_eq_some_iff.1 (h3 E hE).2).1
 omega
/-- At the function's return the marks are taken, one by one. -/
theorem MarksOk.leaves {F : Fence} {n : Nat} {P : Program} {fn : Func} {tmps : Array Value} {R : Ending → World → Prop} {base0 : Nat} : ∀ (ds : List Deferred) (W : World), MarksOk base0 W ds →
  (∀ W', Below base0 W W' → (∀ k : Nat, W.heap[k]? = W'.heap[k]? ∨ W.heap[k]? = some (Obj.deferred (some []))) → LeavesInM F n P fn tmps R [] .returning W') → LeavesInM F n P fn tmps R ds .returning W
 | [], W, _, h => h W (Below.refl _ _) fun _ => .inl rfl
 | d :: ds, W, hm, h => by
  obtain ⟨Ds, e, hn, hk⟩ := hm
  cases Ds with
  | nil => cases e
  | cons D Ds =>
   injection e with e1 e2
   subst e1 e2
   obtain ⟨hn1, hn2⟩ := List.nodup_cons.1 hn
   have hD := hk D (by simp)
   refine ⟨by simp, .inl ⟨D, _, rfl, run_takeDeferred hD.2, ?_⟩⟩
   have hg := grownBy_putObj' W D (.deferred none)
   refine MarksOk.leaves _ _ ⟨Ds, rfl, hn2, fun E hE => ⟨(hk E (by simp [hE])).1, ?_⟩⟩ fun W' hb hs => h W' ?_ fun k => ?_
   ·have hEk := (hk E (by simp [hE])).2
    exact (hg.block E (Array.getElem?_eq_some_iff.1 hEk).1 (fun e' => by injection e' with e'; subst e'; exact hn1 hE)).trans hEk
   ·exact ((Below.refl base0 W).grown hg (by have := (Array.getElem?_eq_some_iff.1 hD.2).1; omega) (fun k e' => by injection e' with e'; omega)).trans hb
   ·by_cases ek : k = D
    ·subst ek; exact .inr hD.2
    ·rcases hs k with h1 | h1
     ·refine .inl ?_
      rw [← h1]
      exact (World.putObj_heap_other ek).symm
     ·refine .inr ?_
      rwa [World.putObj_heap_other ek] at h1

theorem sliceNil0c (c : Nat) (W : World) : (binOp .eql 34 (.slice none 0 c) (.slice none 0 0)).run Tryz.prog W = .ok (.bool true) W := by kernel_rfl
set_option maxRecDepth 100000 in
/-- slices.Clone of ints that can be read. -/
theorem clone_read (w : World) (v : Value) (l : List Int) (hl : IntsV w w.heap.size v l) (hlim : l.length ≤ lim) :
  Calls Tryz.prog 119 #[v] w (fun e w' => ∃ u, e = .returned u ∧ OwnInts w' w.heap.size u l ∧ Below w.heap.size w w') := by
 have hq0 := sliceNil0c
 have hq1 := sliceNil1
 obtain ⟨i0, hi, hz0, hz1, hz2⟩ := info_parts int_info
 have hl0 : l.length ≤ 17592186044416 := by unfold lim at hlim; omega
 obtain ⟨A, c, rfl, hc, _, hp⟩ := hl
 cases A with
 | none =>
  have h0 : l = [] := by
   rcases Nat.eq_zero_or_pos l.length with h | h
   ·exact List.eq_nil_of_length_eq_zero h
   ·obtain ⟨_, _, e, _⟩ := hp h; cases e
  subst h0
  clear hp
  go_enter Tryz.func119, Tryz.ntmps119
  go_wp2_with fail
  go_ret
  exact ⟨_, rfl, OwnInts.nil _ _, Below.refl _ _⟩
 | some ad =>
  have hcells : ∀ (W : World), Below w.heap.size w W → ∀ j u, (l.map (Value.int .i64))[j]? = some u → W.cell? (ad.add j) = some u := fun W hW j u hu => by
   rw [List.getElem?_map] at hu
   cases hx : l[j]? with
   | none => rw [hx] at hu; cases hu
   | some x =>
    rw [hx] at hu; injection hu with hu; subst hu
    obtain ⟨b, off, e, hb, hq⟩ := hp (by have := (List.getElem?_eq_some_iff.1 hx).1; omega)
    injection e with e; subst e
    have := (hW.cell (p := ⟨b, off + j, none⟩) hb).trans (hq j x hx)
    cases j with
    | zero => simpa [Addr.add] using this
    | succ j => simpa [Addr.add] using this
  have HC := Lib.hid hcells
  clear hp hcells
  go_enter Tryz.func119, Tryz.ntmps119
  go_wp2_with (at_builtin; refine wpList_append_own_at _ rfl (.tmp 5) (.tmp 6) 34 rfl w.heap.size 3 i0 (.int .i64 0) 1 8 Tryz.underlying34 hi hz0 hz1 hz2 rfl (by decide) _ _ _ rfl (World.ownsRow_made w #[] 0 (Nat.le_refl _) (by unfold maxLen; omega) rfl) ad l.length c (l.map (Value.int .i64)) rfl (by simp) (HC.out _ ((Below.refl _ _).alloc (Nat.le_refl _) _)) (ints_oneCell .i64 l) (by unfold maxLen; omega) (by omega) (by simp) ?_; intro v' w1 hown' hgrow _ _)
  go_ret
  refine ⟨_, rfl, ?_, ((Below.refl _ _).alloc (Nat.le_refl _) _).grown hgrow (by simp) (fun k e => by have e : some w.heap.size = some k := e; injection e with e; omega)⟩
  have := hown'
  rw [Nat.zero_add, List.nil_append] at this
  exact this
end Go.Proofs.YtkmfdiboekoioaaGreat
