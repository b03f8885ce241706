/- The spots of a block, as the reference 21 lists them. Conditions: a small graph that lies in memory, what is live. -/
import Derived.Test.YtkmfdiboekoioaaGreatCRfBk
set_option linter.unusedSimpArgs false
set_option linter.unusedVariables false
namespace Go.Proofs.YtkmfdiboekoioaaGreat
open Go.RowKit
theorem more_low {w1 W : World} {nv mv : Value} {l m : List Int} (hs : w1.heap.size ≤ W.heap.size) (hn : OwnInts W w1.heap.size nv l) (hm : IntsV W w1.heap.size mv m) : ∀ wr, W.grownBy wr nv.ownBlock → IntsV wr wr.heap.size mv m := fun wr hg => by
 have hb : Below w1.heap.size W wr := (Below.refl _ _).grown hg hs (fun k e => (World.ownsRow.lt hn k e).1)
 exact (hm.keep (Same.of_below hb)).mono (Nat.le_trans hs hb.size)
theorem rowsAt {w : World} {B : Nat} {v : Value} {ls : List (List Int)} (h : RowsV w B v ls) {k : Nat} {l : List Int} (hk : ls[k]? = some l) : ∃ b o c u, v = .slice (some ⟨b, o, none⟩) ls.length c ∧ b < B ∧ w.cell? ⟨b, o + k, none⟩ = some u ∧ IntsV w B u l := by
 obtain ⟨A, c, rfl, _, _, h⟩ := h
 obtain ⟨b, o, rfl, hb, h⟩ := h (by have := (List.getElem?_eq_some_iff.1 hk).1; omega)
 obtain ⟨u, h1, h2⟩ := h k l hk
 exact ⟨b, o, c, u, rfl, hb, h1, h2⟩
theorem lists_get {N nb k : Nat} {I : Sets} (h : k < nb) : (listsTo N I nb)[k]? = some (listOf N (I.at_ k)) := by simp [listsTo, h]
theorem lists_len (N nb : Nat) (I : Sets) : (listsTo N I nb).length = nb := by simp [listsTo]
def Block21 (g : GraphP) (I O : Sets) (b : Nat) (x : BlockP) (w : World) (e : Ending) (w' : World) : Prop := ∃ v, e = .returned v ∧ SpotsOwn w' w.heap.size v ((blockSpots g I O b x).map List.length) ∧ Below w.heap.size w w'
theorem slotsOf_len {g : GraphP} (hs : Small g) (k : Int) : (slotsOf g k).length ≤ 5000 := by
 unfold slotsOf
 split
 ·simp
 ·split
  ·rename_i x hx
   unfold Small graphSz at hs
   have h1 := sumSz_mem stateSz (List.mem_of_getElem? hx)
   simp only [statesSz, stateSz] at *
   omega
  ·simp
set_option maxRecDepth 100000 in
set_option maxHeartbeats 16000000 in
theorem block21_any (w : World) (xv : GVals) (g : GraphP) (b : Nat) (x : BlockP) (I O : Sets) (vI vO : Value) (hs : Small g) (hg : GraphV w w.heap.size xv g) (hx : g.blocks[b]? = some x) (hI : RowsV w w.heap.size vI (listsTo g.nodes.length I g.blocks.length)) (hO : RowsV w w.heap.size vO (listsTo g.nodes.length O g.blocks.length)) :
  Calls Tryz.prog 79 #[gval g xv, .agg #[vI, vO], .int .i64 (b : Int)] w (Block21 g I O b x w) := by
 have HG := Lib.hid hg
 have hbl : b < g.blocks.length := (List.getElem?_eq_some_iff.1 hx).1
 obtain ⟨bI, oI, cI, uI, rfl, hbI, hcI, hvI⟩ := rowsAt hI (lists_get hbl)
 obtain ⟨bO, oO, cO, uO, rfl, hbO, hcO, hvO⟩ := rowsAt hO (lists_get hbl)
 rw [lists_len, lists_len]
 obtain ⟨vn, vb, vs⟩ := xv
 obtain ⟨⟨An, cn, en, _⟩, ⟨Ab, cb, eb, _, _, hqb⟩, ⟨As, cs, es, _⟩⟩ := hg
 simp only at en eb es
 subst en eb es
 obtain ⟨bb, ob, rfl, hbb, hqb⟩ := hqb (by omega)
 obtain ⟨l1, l2, l3⟩ := hs.lens
 obtain ⟨i0, hi, hz0, hz1, hz2⟩ := info_parts int_info
 obtain ⟨m1, m2, m3, m4⟩ := hs.block hx
 have ee : gval g ⟨.slice An g.nodes.length cn, .slice (some ⟨bb, ob, none⟩) g.blocks.length cb, .slice As g.states.length cs⟩ = .agg #[.int .i64 g.fn, .int .i64 g.pc, .int .i64 g.slots, .slice An g.nodes.length cn, .slice (some ⟨bb, ob, none⟩) g.blocks.length cb, .slice As g.states.length cs] := rfl
 have E0 := Lib.hid ee; clear ee
 obtain ⟨w0, hw0⟩ : ∃ w0, w0 = (w.alloc (.cells #[.int .i64 g.fn, .int .i64 g.pc, .int .i64 g.slots, .slice An g.nodes.length cn, .slice (some ⟨bb, ob, none⟩) g.blocks.length cb, .slice As g.states.length cs] 28)).alloc (.cells #[.slice (some ⟨bI, oI, none⟩) g.blocks.length cI, .slice (some ⟨bO, oO, none⟩) g.blocks.length cO] 124) := ⟨_, rfl⟩
 have HB0 : Hid (Below w.heap.size w w0) := Lib.hid (by rw [hw0]; exact ((Below.refl _ _).alloc (Nat.le_refl _) _).alloc (by simp) _)
 have hc0 : GCtx w0 w.heap.size w.heap.size ⟨.slice An g.nodes.length cn, .slice (some ⟨bb, ob, none⟩) g.blocks.length cb, .slice As g.states.length cs⟩ g := ⟨HG.out.keep (Same.of_below HB0.out), HB0.out.size, by rw [hw0]; exact (Blk.new _ _ _).alloc _⟩
 have hl0 : Blk w0 (w.heap.size + 1) 124 #[.slice (some ⟨bI, oI, none⟩) g.blocks.length cI, .slice (some ⟨bO, oO, none⟩) g.blocks.length cO] := by
  have := Blk.new (w.alloc (.cells #[.int .i64 g.fn, .int .i64 g.pc, .int .i64 g.slots, .slice An g.nodes.length cn, .slice (some ⟨bb, ob, none⟩) g.blocks.length cb, .slice As g.states.length cs] 28)) 124 #[.slice (some ⟨bI, oI, none⟩) g.blocks.length cI, .slice (some ⟨bO, oO, none⟩) g.blocks.length cO]
  rw [World.size_alloc] at this
  rw [hw0]; exact this
 have hzz : w0.heap.size = w.heap.size + 2 := by rw [hw0]; simp
 obtain ⟨⟨v0, f0, hv0⟩, f1, ⟨v2, f2, hv2⟩, ⟨v3, f3, hv3⟩, ⟨v4, f4, hv4⟩, f5⟩ := (hqb b x hx).keep (Same.of_below HB0.out) hbb
 have HV0 := Lib.hid hv0; have HV2 := Lib.hid hv2
 obtain ⟨A0, c0, rfl, _, _, _⟩ := hv0
 obtain ⟨A2, c2, rfl, _, _, _⟩ := hv2
 obtain ⟨A3, c3, rfl, _, _, _⟩ := hv3
 obtain ⟨A4, c4, rfl, _, _, _⟩ := hv4
 obtain ⟨w1, hw1⟩ : ∃ w1, w1 = w0.alloc (.cells #[.slice A0 x.nodes.length c0, .int .u8 x.fin, .slice A2 x.args.length c2, .slice A3 x.next.length c3, .slice A4 x.ahead.length c4, .int .i64 x.state] 41) := ⟨_, rfl⟩
 have hb1 : Below w0.heap.size w0 w1 := by rw [hw1]; exact (Below.refl _ _).alloc (Nat.le_refl _) _
 have HLow : Hid (Below w.heap.size w w1) := Lib.hid (HB0.out.trans (hb1.mono HB0.out.size))
 have HC1 : Hid (GCtx w1 w.heap.size w.heap.size ⟨.slice An g.nodes.length cn, .slice (some ⟨bb, ob, none⟩) g.blocks.length cb, .slice As g.states.length cs⟩ g) := Lib.hid (hc0.below hb1)
 have HL1 := Lib.hid (hl0.below hb1 hl0.lt)
 have HX1 : Hid (Blk w1 (w.heap.size + 2) 41 #[.slice A0 x.nodes.length c0, .int .u8 x.fin, .slice A2 x.args.length c2, .slice A3 x.next.length c3, .slice A4 x.ahead.length c4, .int .i64 x.state]) := Lib.hid (by rw [hw1, ← hzz]; exact Blk.new _ _ _)
 have HV01 := Lib.hid (HV0.out.keep (Same.of_below (hb1.mono HB0.out.size)))
 have HV21 := Lib.hid (HV2.out.keep (Same.of_below (hb1.mono HB0.out.size)))
 have HI1 : Hid (w1.cell? ⟨bI, oI + b, none⟩ = some uI ∧ IntsV w1 w.heap.size uI (listOf g.nodes.length (I.at_ b)) ∧ bI < w1.heap.size) := Lib.hid ⟨(HLow.out.cell (p := ⟨bI, oI + b, none⟩) hbI).trans hcI, hvI.keep (Same.of_below HLow.out), Nat.lt_of_lt_of_le hbI HLow.out.size⟩
 have HO1 : Hid (w1.cell? ⟨bO, oO + b, none⟩ = some uO ∧ IntsV w1 w.heap.size uO (listOf g.nodes.length (O.at_ b)) ∧ bO < w1.heap.size) := Lib.hid ⟨(HLow.out.cell (p := ⟨bO, oO + b, none⟩) hbO).trans hcO, hvO.keep (Same.of_below HLow.out), Nat.lt_of_lt_of_le hbO HLow.out.size⟩
 have HX := Lib.hid hx
 have HZ0 := Lib.hid hzz
 have q4 : w0.cell? ⟨w.heap.size, 4, none⟩ = some (.slice (some ⟨bb, ob, none⟩) g.blocks.length cb) := hc0.box.cell 4
 have ql := hc0.lt
 have HK6 : Hid (∀ W, Below w1.heap.size w1 W → W.cell? ⟨w.heap.size, 0, none⟩ = some (.int .i64 g.fn) ∧ W.cell? ⟨w.heap.size, 1, none⟩ = some (.int .i64 g.pc) ∧ W.cell? ⟨w.heap.size, 2, none⟩ = some (.int .i64 g.slots) ∧ W.cell? ⟨w.heap.size, 3, none⟩ = some (.slice An g.nodes.length cn) ∧ W.cell? ⟨w.heap.size, 4, none⟩ = some (.slice (some ⟨bb, ob, none⟩) g.blocks.length cb) ∧ W.cell? ⟨w.heap.size, 5, none⟩ = some (.slice As g.states.length cs)) := Lib.hid (fun W hW => by
  obtain ⟨q0, q1, q2, q3, q4, q5⟩ := (HC1.out.below hW).cells
  exact ⟨q0, q1, q2, q3, q4, q5⟩)
 have HKO : Hid (∀ W, Below w1.heap.size w1 W → W.cell? ⟨w.heap.size, 0, none⟩ = some (.int .i64 g.fn) ∧ W.cell? ⟨w.heap.size, 1, none⟩ = some (.int .i64 g.pc) ∧ W.cell? ⟨w.heap.size, 2, none⟩ = some (.int .i64 g.slots) ∧ W.cell? ⟨w.heap.size, 3, none⟩ = some (.slice An g.nodes.length cn) ∧ W.cell? ⟨w.heap.size, 4, none⟩ = some (.slice (some ⟨bb, ob, none⟩) g.blocks.length cb) ∧ W.cell? ⟨w.heap.size, 5, none⟩ = some (.slice As g.states.length cs) ∧ W.cell? ⟨w.heap.size + 1, 1, none⟩ = some (.slice (some ⟨bO, oO, none⟩) g.blocks.length cO) ∧ W.cell? ⟨bO, oO + b, none⟩ = some uO) := Lib.hid (fun W hW => by
  obtain ⟨q0, q1, q2, q3, q4, q5⟩ := (HC1.out.below hW).cells
  exact ⟨q0, q1, q2, q3, q4, q5, (HL1.out.below hW HL1.out.lt).cell 1, (hW.cell (p := ⟨bO, oO + b, none⟩) HO1.out.2.2).trans HO1.out.1⟩)
 have HKI : Hid (∀ W, Below w1.heap.size w1 W → W.cell? ⟨w.heap.size, 0, none⟩ = some (.int .i64 g.fn) ∧ W.cell? ⟨w.heap.size, 1, none⟩ = some (.int .i64 g.pc) ∧ W.cell? ⟨w.heap.size, 2, none⟩ = some (.int .i64 g.slots) ∧ W.cell? ⟨w.heap.size, 3, none⟩ = some (.slice An g.nodes.length cn) ∧ W.cell? ⟨w.heap.size, 4, none⟩ = some (.slice (some ⟨bb, ob, none⟩) g.blocks.length cb) ∧ W.cell? ⟨w.heap.size, 5, none⟩ = some (.slice As g.states.length cs) ∧ W.cell? ⟨w.heap.size + 1, 0, none⟩ = some (.slice (some ⟨bI, oI, none⟩) g.blocks.length cI) ∧ W.cell? ⟨bI, oI + b, none⟩ = some uI) := Lib.hid (fun W hW => by
  obtain ⟨q0, q1, q2, q3, q4, q5⟩ := (HC1.out.below hW).cells
  exact ⟨q0, q1, q2, q3, q4, q5, (HL1.out.below hW HL1.out.lt).cell 0, (hW.cell (p := ⟨bI, oI + b, none⟩) HI1.out.2.2).trans HI1.out.1⟩)
 have HKX : Hid (∀ W, Below w1.heap.size w1 W → W.cell? ⟨w.heap.size, 0, none⟩ = some (.int .i64 g.fn) ∧ W.cell? ⟨w.heap.size, 1, none⟩ = some (.int .i64 g.pc) ∧ W.cell? ⟨w.heap.size, 2, none⟩ = some (.int .i64 g.slots) ∧ W.cell? ⟨w.heap.size, 3, none⟩ = some (.slice An g.nodes.length cn) ∧ W.cell? ⟨w.heap.size, 4, none⟩ = some (.slice (some ⟨bb, ob, none⟩) g.blocks.length cb) ∧ W.cell? ⟨w.heap.size, 5, none⟩ = some (.slice As g.states.length cs) ∧ W.cell? ⟨w.heap.size + 2, 5, none⟩ = some (.int .i64 x.state)) := Lib.hid (fun W hW => by
  obtain ⟨q0, q1, q2, q3, q4, q5⟩ := (HC1.out.below hW).cells
  exact ⟨q0, q1, q2, q3, q4, q5, (HX1.out.below hW HX1.out.lt).cell 5⟩)
 have HMore : Hid (∀ W nv l mv m, Below w1.heap.size w1 W → OwnInts W w1.heap.size nv l → l.length + m.length ≤ 10000000 → IntsV W w1.heap.size mv m → Calls Tryz.prog 123 #[.agg #[.int .i64 g.fn, .int .i64 g.pc, .int .i64 g.slots, .slice An g.nodes.length cn, .slice (some ⟨bb, ob, none⟩) g.blocks.length cb, .slice As g.states.length cs], nv, mv] W (More21 W w1.heap.size nv (moreP g.nodes.length l m))) := Lib.hid (fun W nv l mv m hW hn hl hm => by
  have := more21_any W w1.heap.size ⟨.slice An g.nodes.length cn, .slice (some ⟨bb, ob, none⟩) g.blocks.length cb, .slice As g.states.length cs⟩ g nv mv l m (HC1.out.below hW).graph.1 hn hW.size hl (more_low hW.size hn hm)
  rw [E0.out] at this
  exact this)
 have HSl : Hid (∀ W s, Below w1.heap.size w1 W → Calls Tryz.prog 124 #[.agg #[.int .i64 g.fn, .int .i64 g.pc, .int .i64 g.slots, .slice An g.nodes.length cn, .slice (some ⟨bb, ob, none⟩) g.blocks.length cb, .slice As g.states.length cs], .int .i64 s] W (fun e w' => ∃ v, e = .returned v ∧ IntsV w' w1.heap.size v (slotsOf g s) ∧ Below W.heap.size W w')) := Lib.hid (fun W s hW => by
  have h := slots20 W w1.heap.size ⟨.slice An g.nodes.length cn, .slice (some ⟨bb, ob, none⟩) g.blocks.length cb, .slice As g.states.length cs⟩ g s ((HC1.out.below hW).gr.mono HLow.out.size) hW.size
  rw [E0.out] at h
  exact h.mono (fun e w' h => by
   obtain ⟨v, h1, h2, h3⟩ := h
   exact ⟨v, h1, h2.keep (Same.of_below (h3.mono hW.size)), h3⟩))
 have HM0 : Hid (BkM w1 g.nodes.length (.slice none 0 0) (.slice none 0 0) (.slice none 0 0) ⟨[], [], []⟩ w1) := Lib.hid ⟨Below.refl _ _, OwnInts.nil _ _, OwnInts.nil _ _, SpotsOwn.nil _ _, Ap.nil _, Ap.nil _, Ap.nil _⟩
 clear hc0 hl0 hb1 hqb hx hI hO hcI hcO hvI hvO hzz hbI hbO hbb
 rw [E0.out]
 go_enter Tryz.func79, Tryz.ntmps79
 go_upto_region 1 with fail
 rw [← hw0]
 clear hw0
 go_upto_region 3 with fail
 rw [← hw1]
 rw [HZ0.out]
 clear hw1 q4 ql f0 f1 f2 f3 f4 f5
 have HS3 : Hid ((fun W : World => W.cell? ⟨w.heap.size, 0, none⟩ = some (.int .i64 g.fn) ∧ W.cell? ⟨w.heap.size, 1, none⟩ = some (.int .i64 g.pc) ∧ W.cell? ⟨w.heap.size, 2, none⟩ = some (.int .i64 g.slots) ∧ W.cell? ⟨w.heap.size, 3, none⟩ = some (.slice An g.nodes.length cn) ∧ W.cell? ⟨w.heap.size, 4, none⟩ = some (.slice (some ⟨bb, ob, none⟩) g.blocks.length cb) ∧ W.cell? ⟨w.heap.size, 5, none⟩ = some (.slice As g.states.length cs) ∧ W.cell? ⟨w.heap.size + 1, 1, none⟩ = some (.slice (some ⟨bO, oO, none⟩) g.blocks.length cO) ∧ W.cell? ⟨bO, oO + b, none⟩ = some uO) w1.drew) := Lib.hid (HKO.out _ (Below.refl _ _).drew)
 refine wp_region_H2 (fun W : World => W.cell? ⟨w.heap.size, 0, none⟩ = some (.int .i64 g.fn) ∧ W.cell? ⟨w.heap.size, 1, none⟩ = some (.int .i64 g.pc) ∧ W.cell? ⟨w.heap.size, 2, none⟩ = some (.int .i64 g.slots) ∧ W.cell? ⟨w.heap.size, 3, none⟩ = some (.slice An g.nodes.length cn) ∧ W.cell? ⟨w.heap.size, 4, none⟩ = some (.slice (some ⟨bb, ob, none⟩) g.blocks.length cb) ∧ W.cell? ⟨w.heap.size, 5, none⟩ = some (.slice As g.states.length cs) ∧ W.cell? ⟨w.heap.size + 1, 1, none⟩ = some (.slice (some ⟨bO, oO, none⟩) g.blocks.length cO) ∧ W.cell? ⟨bO, oO + b, none⟩ = some uO) (by kernel_rfl) HS3.out (fun HSn => ?_)
 clear HSn
 refine tkL 0 rfl (fun _ _ _ h => h) HS3.out ?_
 try simp only [Act.put, List.setIfInBounds_toArray, List.set_cons_zero, List.set_cons_succ]
 refine tkL 1 rfl (fun _ _ _ h => h) HS3.out ?_
 try simp only [Act.put, List.setIfInBounds_toArray, List.set_cons_zero, List.set_cons_succ]
 refine tkL 2 rfl (fun _ _ _ h => h) HS3.out ?_
 try simp only [Act.put, List.setIfInBounds_toArray, List.set_cons_zero, List.set_cons_succ]
 refine tkL 3 rfl (fun _ _ _ h => h) HS3.out ?_
 try simp only [Act.put, List.setIfInBounds_toArray, List.set_cons_zero, List.set_cons_succ]
 refine tkL 4 rfl (fun _ _ _ h => h) HS3.out ?_
 try simp only [Act.put, List.setIfInBounds_toArray, List.set_cons_zero, List.set_cons_succ]
 refine tkL 5 rfl (fun _ _ _ h => h) HS3.out ?_
 try simp only [Act.put, List.setIfInBounds_toArray, List.set_cons_zero, List.set_cons_succ]
 refine wpAnyH_ready (rs := [6]) (by kernel_rfl) (by simp) (AllReadyH.cons (o := _) rfl (fun K hK => ?_) AllReadyH.nil)
 go_simp
 (go_at_call 123; refine (HMore.out w1.drew (.slice none 0 0) [] uO (listOf g.nodes.length (O.at_ b)) (Below.refl _ _).drew (OwnInts.nil _ _) (by have := listOf_len g.nodes.length (O.at_ b); simp; omega) (((HO1.out.2.1).keep (Same.of_below ((Below.refl _ w1).drew))).mono (HLow.out.size))).mono ?_; rintro e w3 ⟨u3, rfl, h1, h2, h3⟩; have HM3 := Lib.hid ((HM0.out.below (Below.refl _ _).drew).more h2 h1 h3); clear h1 h2 h3)
 try go_wp2_with fail
 have HS3' : Hid ((fun W : World => W.cell? ⟨w.heap.size, 0, none⟩ = some (.int .i64 g.fn) ∧ W.cell? ⟨w.heap.size, 1, none⟩ = some (.int .i64 g.pc) ∧ W.cell? ⟨w.heap.size, 2, none⟩ = some (.int .i64 g.slots) ∧ W.cell? ⟨w.heap.size, 3, none⟩ = some (.slice An g.nodes.length cn) ∧ W.cell? ⟨w.heap.size, 4, none⟩ = some (.slice (some ⟨bb, ob, none⟩) g.blocks.length cb) ∧ W.cell? ⟨w.heap.size, 5, none⟩ = some (.slice As g.states.length cs) ∧ W.cell? ⟨w.heap.size + 1, 1, none⟩ = some (.slice (some ⟨bO, oO, none⟩) g.blocks.length cO) ∧ W.cell? ⟨bO, oO + b, none⟩ = some uO) w3) := Lib.hid (HKO.out _ HM3.out.low)
 refine hK.out _ _ HS3'.out (fun HSn => ?_)
 clear hK K HSn
 try simp only [Act.put, List.setIfInBounds_toArray, List.set_cons_zero, List.set_cons_succ]
 refine tkL 7 rfl (fun _ _ _ h => h) HS3'.out ?_
 try simp only [Act.put, List.setIfInBounds_toArray, List.set_cons_zero, List.set_cons_succ]
 refine wpAnyH_done (by kernel_rfl) ?_ _
 have HN3 : Hid (NowOk g.nodes.length (moreP g.nodes.length [] (listOf g.nodes.length (O.at_ b)))) := Lib.hid (NowOk.nil _).more
 obtain ⟨q0, q1, q2, q3, q4, q5⟩ := HK6.out _ HM3.out.low
 have p2 : w3.cell? ⟨w.heap.size + 2, 2, none⟩ = some (.slice A2 x.args.length c2) := (HX1.out.below HM3.out.low HX1.out.lt).cell 2
 have ql := (HC1.out.below HM3.out.low).lt
 have pl := (HX1.out.below HM3.out.low HX1.out.lt).lt
 have HV23 := Lib.hid (HV21.out.mono HLow.out.size)
 go_upto_region 5 with (go_at_call 123; (with_reducible refine Calls.mono (HMore.out w3 _ _ (.slice A2 x.args.length c2) x.args HM3.out.low HM3.out.now (by have h := HN3.out.len; simp only; omega) (HV23.out.keep (Same.of_below HM3.out.low))) ?_); rintro e w4 ⟨u4, rfl, h1, h2, h3⟩; have HM4 := Lib.hid (HM3.out.more h2 h1 h3); clear h1 h2 h3)
 clear q0 q1 q2 q3 q4 q5 p2 ql pl
 have HN4 := Lib.hid (HN3.out.more (m := x.args))
 have HS5 : Hid ((fun W : World => W.cell? ⟨w.heap.size, 0, none⟩ = some (.int .i64 g.fn) ∧ W.cell? ⟨w.heap.size, 1, none⟩ = some (.int .i64 g.pc) ∧ W.cell? ⟨w.heap.size, 2, none⟩ = some (.int .i64 g.slots) ∧ W.cell? ⟨w.heap.size, 3, none⟩ = some (.slice An g.nodes.length cn) ∧ W.cell? ⟨w.heap.size, 4, none⟩ = some (.slice (some ⟨bb, ob, none⟩) g.blocks.length cb) ∧ W.cell? ⟨w.heap.size, 5, none⟩ = some (.slice As g.states.length cs) ∧ W.cell? ⟨w.heap.size + 2, 5, none⟩ = some (.int .i64 x.state)) w4.drew) := Lib.hid (HKX.out _ HM4.out.low.drew)
 refine wp_region_H2 (fun W : World => W.cell? ⟨w.heap.size, 0, none⟩ = some (.int .i64 g.fn) ∧ W.cell? ⟨w.heap.size, 1, none⟩ = some (.int .i64 g.pc) ∧ W.cell? ⟨w.heap.size, 2, none⟩ = some (.int .i64 g.slots) ∧ W.cell? ⟨w.heap.size, 3, none⟩ = some (.slice An g.nodes.length cn) ∧ W.cell? ⟨w.heap.size, 4, none⟩ = some (.slice (some ⟨bb, ob, none⟩) g.blocks.length cb) ∧ W.cell? ⟨w.heap.size, 5, none⟩ = some (.slice As g.states.length cs) ∧ W.cell? ⟨w.heap.size + 2, 5, none⟩ = some (.int .i64 x.state)) (by kernel_rfl) HS5.out (fun HSn => ?_)
 clear HSn
 refine tkL 0 rfl (fun _ _ _ h => h) HS5.out ?_
 try simp only [Act.put, List.setIfInBounds_toArray, List.set_cons_zero, List.set_cons_succ]
 refine tkL 1 rfl (fun _ _ _ h => h) HS5.out ?_
 try simp only [Act.put, List.setIfInBounds_toArray, List.set_cons_zero, List.set_cons_succ]
 refine tkL 2 rfl (fun _ _ _ h => h) HS5.out ?_
 try simp only [Act.put, List.setIfInBounds_toArray, List.set_cons_zero, List.set_cons_succ]
 refine tkL 3 rfl (fun _ _ _ h => h) HS5.out ?_
 try simp only [Act.put, List.setIfInBounds_toArray, List.set_cons_zero, List.set_cons_succ]
 refine tkL 4 rfl (fun _ _ _ h => h) HS5.out ?_
 try simp only [Act.put, List.setIfInBounds_toArray, List.set_cons_zero, List.set_cons_succ]
 refine wpAnyH_ready (rs := [5]) (by kernel_rfl) (by simp) (AllReadyH.cons (o := _) rfl (fun K hK => ?_) AllReadyH.nil)
 go_simp
 (go_at_call 124; refine (HSl.out w4.drew x.state HM4.out.low.drew).mono ?_; rintro e w5 ⟨v5, rfl, h1, h2⟩; have HV5 := Lib.hid h1; have HM5 := Lib.hid ((HM4.out.below (Below.refl _ _).drew).below h2); clear h1 h2)
 try go_wp2_with fail
 have HS5' : Hid ((fun W : World => W.cell? ⟨w.heap.size, 0, none⟩ = some (.int .i64 g.fn) ∧ W.cell? ⟨w.heap.size, 1, none⟩ = some (.int .i64 g.pc) ∧ W.cell? ⟨w.heap.size, 2, none⟩ = some (.int .i64 g.slots) ∧ W.cell? ⟨w.heap.size, 3, none⟩ = some (.slice An g.nodes.length cn) ∧ W.cell? ⟨w.heap.size, 4, none⟩ = some (.slice (some ⟨bb, ob, none⟩) g.blocks.length cb) ∧ W.cell? ⟨w.heap.size, 5, none⟩ = some (.slice As g.states.length cs) ∧ W.cell? ⟨w.heap.size + 2, 5, none⟩ = some (.int .i64 x.state)) w5) := Lib.hid (HKX.out _ HM5.out.low)
 refine hK.out _ _ HS5'.out (fun HSn => ?_)
 clear hK K HSn
 try simp only [Act.put, List.setIfInBounds_toArray, List.set_cons_zero, List.set_cons_succ]
 refine wpAnyH_ready (rs := [6]) (by kernel_rfl) (by simp) (AllReadyH.cons (o := _) rfl (fun K hK => ?_) AllReadyH.nil)
 go_simp
 (go_at_call 123; (with_reducible refine Calls.mono (HMore.out w5 _ _ v5 (slotsOf g x.state) HM5.out.low HM5.out.now (by have h := HN4.out.len; have h2 := slotsOf_len hs x.state; simp only; omega) HV5.out) ?_); rintro e w6 ⟨u6, rfl, h1, h2, h3⟩; have HM6 := Lib.hid (HM5.out.more h2 h1 h3); clear h1 h2 h3)
 try go_wp2_with fail
 have HS6 : Hid ((fun W : World => W.cell? ⟨w.heap.size, 0, none⟩ = some (.int .i64 g.fn) ∧ W.cell? ⟨w.heap.size, 1, none⟩ = some (.int .i64 g.pc) ∧ W.cell? ⟨w.heap.size, 2, none⟩ = some (.int .i64 g.slots) ∧ W.cell? ⟨w.heap.size, 3, none⟩ = some (.slice An g.nodes.length cn) ∧ W.cell? ⟨w.heap.size, 4, none⟩ = some (.slice (some ⟨bb, ob, none⟩) g.blocks.length cb) ∧ W.cell? ⟨w.heap.size, 5, none⟩ = some (.slice As g.states.length cs) ∧ W.cell? ⟨w.heap.size + 2, 5, none⟩ = some (.int .i64 x.state)) w6) := Lib.hid (HKX.out _ HM6.out.low)
 refine hK.out _ _ HS6.out (fun HSn => ?_)
 clear hK K HSn
 try simp only [Act.put, List.setIfInBounds_toArray, List.set_cons_zero, List.set_cons_succ]
 refine tkL 7 rfl (fun _ _ _ h => h) HS6.out ?_
 try simp only [Act.put, List.setIfInBounds_toArray, List.set_cons_zero, List.set_cons_succ]
 refine wpAnyH_done (by kernel_rfl) ?_ _
 have HM6' : Hid (BkM w1 g.nodes.length u6 (.slice none 0 0) (.slice none 0 0) (rAt g O b x x.nodes.length) w6) := Lib.hid (by rw [rAt_len g O b x (Nat.le_refl _)]; exact HM6.out)
 have p0 : w6.cell? ⟨w.heap.size + 2, 0, none⟩ = some (.slice A0 x.nodes.length c0) := (HX1.out.below HM6.out.low HX1.out.lt).cell 0
 have pl := (HX1.out.below HM6.out.low HX1.out.lt).lt
 go_wp2_with fail
 clear p0 pl
 go_loopw [7, 9, 10, 11] (fun ov' nv' pv' t wr => ∃ (k : Nat) (ov nv pv : Value), ov' = ov ∧ nv' = nv ∧ pv' = pv ∧ k ≤ x.nodes.length ∧ t = .int .i64 ((k : Int) - 1) ∧ Hid (BkM w1 g.nodes.length nv pv ov (rAt g O b x k) wr)) (fun _ _ _ t _ => ((intOf t) + 1).toNat)
 case atStart => exact ⟨x.nodes.length, _, _, _, rfl, rfl, rfl, Nat.le_refl _, by go_num, HM6'⟩
 case round =>
  obtain ⟨k, ov, nv, pv, ho1, hn1, hp1, hk, rfl, HM⟩ := hrel
  have ho2 := ho1.symm; subst ho2
  have hn2 := hn1.symm; subst hn2
  have hp2 := hp1.symm; subst hp2
  clear ho1 hn1 hp1
  obtain ⟨wq, rfl⟩ : ∃ wq : World, wq = wr := ⟨_, rfl⟩
  by_cases hk0 : k = 0
  ·subst hk0
   have hmin : ((0 : Nat) : Int) - 1 = -1 := rfl
   rw [hmin]
   clear hmin
   go_upto_region 18 with fail
   have HOk := Lib.hid (RStOk.at_ g O b x x.nodes.length 0 (by omega))
   have HMx := Lib.hid (HM.out.forget.below (Below.refl _ wq).drew)
   have HSx : Hid ((fun W : World => W.cell? ⟨w.heap.size, 0, none⟩ = some (.int .i64 g.fn) ∧ W.cell? ⟨w.heap.size, 1, none⟩ = some (.int .i64 g.pc) ∧ W.cell? ⟨w.heap.size, 2, none⟩ = some (.int .i64 g.slots) ∧ W.cell? ⟨w.heap.size, 3, none⟩ = some (.slice An g.nodes.length cn) ∧ W.cell? ⟨w.heap.size, 4, none⟩ = some (.slice (some ⟨bb, ob, none⟩) g.blocks.length cb) ∧ W.cell? ⟨w.heap.size, 5, none⟩ = some (.slice As g.states.length cs) ∧ W.cell? ⟨w.heap.size + 1, 0, none⟩ = some (.slice (some ⟨bI, oI, none⟩) g.blocks.length cI) ∧ W.cell? ⟨bI, oI + b, none⟩ = some uI) wq.drew) := Lib.hid (HKI.out _ HM.out.low.drew)
   have HMn := more21_any wq.drew w1.heap.size ⟨.slice An g.nodes.length cn, .slice (some ⟨bb, ob, none⟩) g.blocks.length cb, .slice As g.states.length cs⟩ g (.slice none 0 0) pv [] (rAt g O b x 0).phis (HC1.out.below HM.out.low.drew).graph.1 (OwnInts.nil _ _) HMx.out.low.size (by have := HOk.out.phis; simp; omega) (fun wr hg => OwnInts.ints (World.ownsRow.kept HMx.out.phis hg (by cases h : pv.ownBlock <;> simp [Value.ownBlock])) (by have := HOk.out.phis; unfold lim; omega))
   rw [E0.out] at HMn
   have HMn2 := Lib.hid HMn
   clear HMn
   refine wp_region_H2 (fun W : World => W.cell? ⟨w.heap.size, 0, none⟩ = some (.int .i64 g.fn) ∧ W.cell? ⟨w.heap.size, 1, none⟩ = some (.int .i64 g.pc) ∧ W.cell? ⟨w.heap.size, 2, none⟩ = some (.int .i64 g.slots) ∧ W.cell? ⟨w.heap.size, 3, none⟩ = some (.slice An g.nodes.length cn) ∧ W.cell? ⟨w.heap.size, 4, none⟩ = some (.slice (some ⟨bb, ob, none⟩) g.blocks.length cb) ∧ W.cell? ⟨w.heap.size, 5, none⟩ = some (.slice As g.states.length cs) ∧ W.cell? ⟨w.heap.size + 1, 0, none⟩ = some (.slice (some ⟨bI, oI, none⟩) g.blocks.length cI) ∧ W.cell? ⟨bI, oI + b, none⟩ = some uI) (by kernel_rfl) HSx.out (fun HSn => ?_)
   clear HSn
   refine tkL 0 rfl (fun _ _ _ h => h) HSx.out ?_
   try simp only [Act.put, List.setIfInBounds_toArray, List.set_cons_zero, List.set_cons_succ]
   refine tkL 1 rfl (fun _ _ _ h => h) HSx.out ?_
   try simp only [Act.put, List.setIfInBounds_toArray, List.set_cons_zero, List.set_cons_succ]
   refine tkL 2 rfl (fun _ _ _ h => h) HSx.out ?_
   try simp only [Act.put, List.setIfInBounds_toArray, List.set_cons_zero, List.set_cons_succ]
   refine tkL 3 rfl (fun _ _ _ h => h) HSx.out ?_
   try simp only [Act.put, List.setIfInBounds_toArray, List.set_cons_zero, List.set_cons_succ]
   refine tkL 5 rfl (fun _ _ _ h => h) HSx.out ?_
   try simp only [Act.put, List.setIfInBounds_toArray, List.set_cons_zero, List.set_cons_succ]
   refine tkL 6 rfl (fun _ _ _ h => h) HSx.out ?_
   try simp only [Act.put, List.setIfInBounds_toArray, List.set_cons_zero, List.set_cons_succ]
   refine tkL 7 rfl (fun _ _ _ h => h) HSx.out ?_
   try simp only [Act.put, List.setIfInBounds_toArray, List.set_cons_zero, List.set_cons_succ]
   refine tkL 8 rfl (fun _ _ _ h => h) HSx.out ?_
   try simp only [Act.put, List.setIfInBounds_toArray, List.set_cons_zero, List.set_cons_succ]
   refine tkL 9 rfl (fun _ _ _ h => h) HSx.out ?_
   try simp only [Act.put, List.setIfInBounds_toArray, List.set_cons_zero, List.set_cons_succ]
   refine wpAnyH_ready (rs := [4]) (by kernel_rfl) (by simp) (AllReadyH.cons (o := _) rfl (fun K hK => ?_) AllReadyH.nil)
   go_simp
   (go_at_call 123; (with_reducible refine Calls.mono HMn2.out ?_); rintro e w11 ⟨u11, rfl, h1, h2, h3⟩; have HM11 := Lib.hid (HMx.out.more h2 h1 h3); clear h1 h2 h3)
   try go_wp2_with fail
   have HS11 : Hid ((fun W : World => W.cell? ⟨w.heap.size, 0, none⟩ = some (.int .i64 g.fn) ∧ W.cell? ⟨w.heap.size, 1, none⟩ = some (.int .i64 g.pc) ∧ W.cell? ⟨w.heap.size, 2, none⟩ = some (.int .i64 g.slots) ∧ W.cell? ⟨w.heap.size, 3, none⟩ = some (.slice An g.nodes.length cn) ∧ W.cell? ⟨w.heap.size, 4, none⟩ = some (.slice (some ⟨bb, ob, none⟩) g.blocks.length cb) ∧ W.cell? ⟨w.heap.size, 5, none⟩ = some (.slice As g.states.length cs) ∧ W.cell? ⟨w.heap.size + 1, 0, none⟩ = some (.slice (some ⟨bI, oI, none⟩) g.blocks.length cI) ∧ W.cell? ⟨bI, oI + b, none⟩ = some uI) w11) := Lib.hid (HKI.out _ HM11.out.low)
   have HN11 : Hid (NowOk g.nodes.length (moreP g.nodes.length [] (rAt g O b x 0).phis)) := Lib.hid (NowOk.nil _).more
   refine hK.out _ _ HS11.out (fun HSn => ?_)
   clear hK K HSn
   try simp only [Act.put, List.setIfInBounds_toArray, List.set_cons_zero, List.set_cons_succ]
   refine wpAnyH_ready (rs := [10]) (by kernel_rfl) (by simp) (AllReadyH.cons (o := _) rfl (fun K hK => ?_) AllReadyH.nil)
   go_simp
   (go_at_call 123; (with_reducible refine Calls.mono (HMore.out w11 u11 _ uI (listOf g.nodes.length (I.at_ b)) HM11.out.low HM11.out.now (by have h := HN11.out.len; have h2 := listOf_len g.nodes.length (I.at_ b); simp only; omega) (((HI1.out.2.1).keep (Same.of_below (HM11.out.low.mono HLow.out.size))).mono HLow.out.size)) ?_); rintro e w12 ⟨u12, rfl, h1, h2, h3⟩; have HM12 := Lib.hid (HM11.out.more h2 h1 h3); obtain ⟨A12, c12, e12, _⟩ := h1.ints (by have h := (HN11.out.more (m := listOf g.nodes.length (I.at_ b))).len; simp only; unfold lim; omega); subst e12; clear h1 h2 h3)
   try go_wp2_with fail
   have HS12 : Hid ((fun W : World => W.cell? ⟨w.heap.size, 0, none⟩ = some (.int .i64 g.fn) ∧ W.cell? ⟨w.heap.size, 1, none⟩ = some (.int .i64 g.pc) ∧ W.cell? ⟨w.heap.size, 2, none⟩ = some (.int .i64 g.slots) ∧ W.cell? ⟨w.heap.size, 3, none⟩ = some (.slice An g.nodes.length cn) ∧ W.cell? ⟨w.heap.size, 4, none⟩ = some (.slice (some ⟨bb, ob, none⟩) g.blocks.length cb) ∧ W.cell? ⟨w.heap.size, 5, none⟩ = some (.slice As g.states.length cs) ∧ W.cell? ⟨w.heap.size + 1, 0, none⟩ = some (.slice (some ⟨bI, oI, none⟩) g.blocks.length cI) ∧ W.cell? ⟨bI, oI + b, none⟩ = some uI) w12) := Lib.hid (HKI.out _ HM12.out.low)
   refine hK.out _ _ HS12.out (fun HSn => ?_)
   clear hK K HSn
   try simp only [Act.put, List.setIfInBounds_toArray, List.set_cons_zero, List.set_cons_succ]
   refine tkL 11 rfl (fun _ _ _ h => h) HS12.out ?_
   try simp only [Act.put, List.setIfInBounds_toArray, List.set_cons_zero, List.set_cons_succ]
   refine wpAnyH_ready (rs := [12]) (by kernel_rfl) (by simp) (AllReadyH.cons (o := _) rfl (fun K hK => ?_) AllReadyH.nil)
   go_simp
   have HS12b : Hid ((fun W : World => W.cell? ⟨w.heap.size, 0, none⟩ = some (.int .i64 g.fn) ∧ W.cell? ⟨w.heap.size, 1, none⟩ = some (.int .i64 g.pc) ∧ W.cell? ⟨w.heap.size, 2, none⟩ = some (.int .i64 g.slots) ∧ W.cell? ⟨w.heap.size, 3, none⟩ = some (.slice An g.nodes.length cn) ∧ W.cell? ⟨w.heap.size, 4, none⟩ = some (.slice (some ⟨bb, ob, none⟩) g.blocks.length cb) ∧ W.cell? ⟨w.heap.size, 5, none⟩ = some (.slice As g.states.length cs) ∧ W.cell? ⟨w.heap.size + 1, 0, none⟩ = some (.slice (some ⟨bI, oI, none⟩) g.blocks.length cI) ∧ W.cell? ⟨bI, oI + b, none⟩ = some uI) (w12.alloc (.cells #[.slice A12 (moreP g.nodes.length (moreP g.nodes.length [] (rAt g O b x 0).phis) (listOf g.nodes.length (I.at_ b))).length c12, .bool true] 80))) := Lib.hid (HKI.out _ (HM12.out.low.alloc HM12.out.low.size _))
   refine hK.out _ _ HS12b.out (fun HSn => ?_)
   clear hK K HSn
   try simp only [Act.put, List.setIfInBounds_toArray, List.set_cons_zero, List.set_cons_succ]
   obtain ⟨v13, w13, hr13, ho13, hg13, hbk13⟩ := run_spot_add w12 w1.heap.size ov ((rAt g O b x 0).out.map List.length) A12 (moreP g.nodes.length (moreP g.nodes.length [] (rAt g O b x 0).phis) (listOf g.nodes.length (I.at_ b))).length c12 true HM12.out.out HM12.out.low.size (by have := HOk.out.out; rw [List.length_map]; omega) 77
   have HM13 := Lib.hid ((HM12.out.below ((Below.refl _ _).alloc (Nat.le_refl _) _)).spot (o := blockSpots g I O b x) hg13 (by unfold blockSpots rEnd; rw [List.map_append]; exact ho13) hbk13)
   clear ho13 hg13 hbk13
   refine wpAnyH_ready (rs := [13]) (by kernel_rfl) (by simp) (AllReadyH.cons (o := _) rfl (fun K hK => ?_) AllReadyH.nil)
   refine step_append_runT (by rfl) (.tmp 101) (.tmp 113) 77 (by rfl) _ _ v13 w13 (by rfl) (by rfl) hr13 ?_
   have HS13 : Hid ((fun W : World => W.cell? ⟨w.heap.size, 0, none⟩ = some (.int .i64 g.fn) ∧ W.cell? ⟨w.heap.size, 1, none⟩ = some (.int .i64 g.pc) ∧ W.cell? ⟨w.heap.size, 2, none⟩ = some (.int .i64 g.slots) ∧ W.cell? ⟨w.heap.size, 3, none⟩ = some (.slice An g.nodes.length cn) ∧ W.cell? ⟨w.heap.size, 4, none⟩ = some (.slice (some ⟨bb, ob, none⟩) g.blocks.length cb) ∧ W.cell? ⟨w.heap.size, 5, none⟩ = some (.slice As g.states.length cs) ∧ W.cell? ⟨w.heap.size + 1, 0, none⟩ = some (.slice (some ⟨bI, oI, none⟩) g.blocks.length cI) ∧ W.cell? ⟨bI, oI + b, none⟩ = some uI) w13) := Lib.hid (HKI.out _ HM13.out.low)
   refine hK.out _ _ HS13.out (fun HSn => ?_)
   clear hK K HSn
   try simp only [Act.put, List.setIfInBounds_toArray, List.set_cons_zero, List.set_cons_succ]
   refine tkL 14 rfl (fun _ _ _ h => h) HS13.out ?_
   try simp only [Act.put, List.setIfInBounds_toArray, List.set_cons_zero, List.set_cons_succ]
   refine wpAnyH_done (by kernel_rfl) ?_ _
   go_wp2_with fail
   go_ret
   exact ⟨_, rfl, ⟨HM13.out.out.choose, HM13.out.out.choose_spec.1, (HM13.out.out.choose_spec.2).mono HLow.out.size⟩, HLow.out.trans (HM13.out.low.mono HLow.out.size)⟩
  ·obtain ⟨m, rfl⟩ : ∃ m, k = m + 1 := ⟨k - 1, by omega⟩
   have hsub : (((m + 1 : Nat) : Int) - 1) = (m : Int) := by omega
   rw [hsub]
   clear hsub hk0
   have hml : m < x.nodes.length := by omega
   have HOk := Lib.hid (RStOk.at_ g O b x (x.nodes.length - (m + 1)) (m + 1) (by omega))
   obtain ⟨bn, on, e1, _, hpn⟩ := (HV01.out.keep (Same.of_below (HM.out.low.mono HLow.out.size))).cells hml
   have HA0 := Lib.hid e1
   obtain ⟨z, hz⟩ := getE hml
   have e0 := hpn m z hz
   have HZ := Lib.hid hz
   clear hz hpn
   have p0 : wq.cell? ⟨w.heap.size + 2, 0, none⟩ = some (.slice A0 x.nodes.length c0) := (HX1.out.below HM.out.low HX1.out.lt).cell 0
   rw [e1] at p0
   clear e1
   have pl := (HX1.out.below HM.out.low HX1.out.lt).lt
   have q3 : wq.cell? ⟨w.heap.size, 3, none⟩ = some (.slice An g.nodes.length cn) := (HK6.out _ HM.out.low).2.2.2.1
   have ql := (HC1.out.below HM.out.low).lt
   rcases d1 : decide (z < 0) with _ | _
   rotate_left
   ·have D1 := Lib.hid d1
    go_wp2_with fail
    go_roundw
    case rel => exact ⟨m, _, _, _, rfl, rfl, rfl, by omega, (by first | rfl | go_num), Lib.hid (by rw [rAt_step g O b x HZ.out, rStep_none (nodeAt_neg (of_decide_eq_true D1.out))]; exact HM.out)⟩
    case measure => (simp [intOf] <;> omega)
   ·obtain ⟨zk, rfl⟩ : ∃ m : Nat, z = (m : Int) := ⟨z.toNat, by have := of_decide_eq_false d1; omega⟩
    rcases d2 : decide (g.nodes.length ≤ zk) with _ | _
    rotate_left
    ·have D2 := Lib.hid d2
     go_wp2_with fail
     go_roundw
     case rel => exact ⟨m, _, _, _, rfl, rfl, rfl, by omega, (by first | rfl | go_num), Lib.hid (by rw [rAt_step g O b x HZ.out, rStep_none ((nodeAt_nat g zk).trans (List.getElem?_eq_none (of_decide_eq_true D2.out)))]; exact HM.out)⟩
     case measure => (simp [intOf] <;> omega)
    ·have h1 : zk < g.nodes.length := by have := of_decide_eq_false d2; omega
     obtain ⟨Am, cm, em, _, _, hqn⟩ := HC1.out.gr.1
     obtain ⟨bm, offm, em2, hbmB, hqn⟩ := hqn (by omega)
     simp only at em
     injection em with em3 em4 em5
     rw [em2] at em3
     subst em3
     obtain ⟨y, hy⟩ := getE h1
     obtain ⟨_, ⟨vg, _, hvg⟩, _, _, _⟩ := hqn zk y hy
     have HVG := Lib.hid hvg
     obtain ⟨Ag, cg, rfl, _, _, _⟩ := hvg
     have m5 := hs.node hy
     have HY := Lib.hid hy
     have HNode : Hid (∀ W, Below w1.heap.size w1 W → NodeAt W w.heap.size bm (offm + zk * 5) y) := Lib.hid (fun W hW => (nodes_at ((HC1.out.below hW).gr.1) HY.out).2)
     obtain ⟨_, ⟨vg1, f1, hvg1⟩, _⟩ := HNode.out w1 (Below.refl _ _)
     have HArg : Hid (∀ W, Below w1.heap.size w1 W → W.cell? ⟨bm, offm + zk * 5 + 1, none⟩ = some vg1 ∧ IntsV W w1.heap.size vg1 y.args) := Lib.hid (fun W hW => ⟨(hW.cell (p := ⟨bm, offm + zk * 5 + 1, none⟩) (Nat.lt_of_lt_of_le hbmB HLow.out.size)).trans f1, (hvg1.keep (Same.of_below (hW.mono HLow.out.size))).mono HLow.out.size⟩)
     obtain ⟨Ah, ch, rfl, _, _, _⟩ := hvg1
     have HKA : Hid (∀ W, Below w1.heap.size w1 W → W.cell? ⟨w.heap.size, 0, none⟩ = some (.int .i64 g.fn) ∧ W.cell? ⟨w.heap.size, 1, none⟩ = some (.int .i64 g.pc) ∧ W.cell? ⟨w.heap.size, 2, none⟩ = some (.int .i64 g.slots) ∧ W.cell? ⟨w.heap.size, 3, none⟩ = some (.slice (some ⟨bm, offm, none⟩) g.nodes.length cn) ∧ W.cell? ⟨w.heap.size, 4, none⟩ = some (.slice (some ⟨bb, ob, none⟩) g.blocks.length cb) ∧ W.cell? ⟨w.heap.size, 5, none⟩ = some (.slice As g.states.length cs) ∧ W.cell? ⟨bm, offm + zk * 5 + 1, none⟩ = some (.slice Ah y.args.length ch)) := Lib.hid (fun W hW => by
      obtain ⟨q0, q1, q2, q3, q4, q5⟩ := HK6.out W hW
      exact ⟨q0, q1, q2, q3, q4, q5, (HArg.out W hW).1⟩)
     have HKS : Hid (∀ W, Below w1.heap.size w1 W → W.cell? ⟨w.heap.size, 0, none⟩ = some (.int .i64 g.fn) ∧ W.cell? ⟨w.heap.size, 1, none⟩ = some (.int .i64 g.pc) ∧ W.cell? ⟨w.heap.size, 2, none⟩ = some (.int .i64 g.slots) ∧ W.cell? ⟨w.heap.size, 3, none⟩ = some (.slice (some ⟨bm, offm, none⟩) g.nodes.length cn) ∧ W.cell? ⟨w.heap.size, 4, none⟩ = some (.slice (some ⟨bb, ob, none⟩) g.blocks.length cb) ∧ W.cell? ⟨w.heap.size, 5, none⟩ = some (.slice As g.states.length cs) ∧ W.cell? ⟨bm, offm + zk * 5 + 4, none⟩ = some (.int .i64 y.state)) := Lib.hid (fun W hW => by
      obtain ⟨q0, q1, q2, q3, q4, q5⟩ := HK6.out W hW
      exact ⟨q0, q1, q2, q3, q4, q5, (HNode.out W hW).2.2.2.2⟩)
     clear hy hqn em4 em5 em2 f1 hbmB
     have HLess := Lib.hid (less21_any wq nv (rAt g O b x (m + 1)).now (zk : Int) (HM.out.now.ints (by have := HOk.out.now.len; unfold lim; omega)) (by have := HOk.out.now.len; omega))
     rcases ho : (y.op == 2) with _ | _
     rotate_left
     ·have HO2 : Hid (y.op = 2) := Lib.hid (by simpa using ho)
      go_upto_region 13 with (go_at_call 125; (with_reducible refine Calls.mono HLess.out ?_); rintro e w4 ⟨u4, rfl, h1, h2⟩; have HM4 := Lib.hid (HM.out.less h2 h1); clear h1 h2)
      clear p0 pl q3 ql e0
      have q3 : w4.cell? ⟨w.heap.size, 3, none⟩ = some (.slice (some ⟨bm, offm, none⟩) g.nodes.length cn) := (HK6.out _ HM4.out.low).2.2.2.1
      have ql := (HC1.out.below HM4.out.low).lt
      have g0 := (HNode.out w4 HM4.out.low).1
      have HPl := Lib.hid HOk.out.phis
      go_wp2_with (at_builtin; refine wpList_append_own_at _ rfl (.tmp 69) (.tmp 71) 34 rfl w1.heap.size 3 i0 (.int .i64 0) 1 8 Tryz.underlying34 hi hz0 hz1 hz2 rfl (by decide) _ _ _ rfl (World.ownsRow.alloc HM4.out.phis _) ⟨w4.heap.size, 0, none⟩ 1 1 [.int .i64 (zk : Int)] rfl rfl (cell_one_new _ _ _) (ints_oneCell .i64 [(zk : Int)]) (by have := HPl.out; simp only; unfold maxLen; omega) (by have := HPl.out; simp only; omega) (by have := HM4.out.low.size; simp; omega) ?_; intro v5 w5 hown5 hg5 _ hb5)
      have HM5 := Lib.hid ((HM4.out.below ((Below.refl _ _).alloc (Nat.le_refl _) _)).phi hg5 (OwnInts.snoc hown5) (hb5.imp id fun h => ⟨_, h, Nat.le_refl _⟩))
      go_roundw
      case rel => exact ⟨m, _, _, _, rfl, rfl, rfl, by omega, (by first | rfl | go_num), Lib.hid (by rw [rAt_step g O b x HZ.out, rStep_phi ((nodeAt_nat g zk).trans HY.out) HO2.out]; exact HM5.out)⟩
      case measure => (simp [intOf] <;> omega)
     ·have HO2 : Hid (y.op ≠ 2) := Lib.hid (by simpa using ho)
      go_upto_region 13 with (go_at_call 125; (with_reducible refine Calls.mono HLess.out ?_); rintro e w4 ⟨u4, rfl, h1, h2⟩; have HM4 := Lib.hid (HM.out.less h2 h1); clear h1 h2)
      clear p0 pl q3 ql e0
      have q3 : w4.cell? ⟨w.heap.size, 3, none⟩ = some (.slice (some ⟨bm, offm, none⟩) g.nodes.length cn) := (HK6.out _ HM4.out.low).2.2.2.1
      have ql := (HC1.out.below HM4.out.low).lt
      have g0 := (HNode.out w4 HM4.out.low).1
      have HNl : Hid (NowOk g.nodes.length (lessP (rAt g O b x (m + 1)).now (zk : Int))) := Lib.hid (HOk.out.now.less _)
      obtain ⟨A5, c5, w5, hr5, hb5⟩ := run_spot_list w4 (zk : Int) w1.heap.size u4 (lessP (rAt g O b x (m + 1)).now (zk : Int)) HM4.out.now (by have := HNl.out.len; omega) 34
      have HM5 := Lib.hid (HM4.out.below hb5)
      obtain ⟨v6, w6', hr6, ho6, hg6, hbk6⟩ := run_spot_add w5 w1.heap.size ov ((rAt g O b x (m + 1)).out.map List.length) A5 ((zk : Int) :: lessP (rAt g O b x (m + 1)).now (zk : Int)).length c5 false HM5.out.out HM5.out.low.size (by have := HOk.out.out; rw [List.length_map]; omega) 77
      have HM6b : Hid (BkM w1 g.nodes.length u4 pv v6 ⟨lessP (rAt g O b x (m + 1)).now (zk : Int), (rAt g O b x (m + 1)).phis, (rAt g O b x (m + 1)).out ++ [(zk : Int) :: lessP (rAt g O b x (m + 1)).now (zk : Int)]⟩ w6') := Lib.hid ((HM5.out.below ((Below.refl _ _).alloc (Nat.le_refl _) _)).spot hg6 (by rw [List.map_append]; exact ho6) hbk6)
      clear ho6 hg6 hbk6 hb5
      go_upto_region 16 with first
       | (at_builtin; refine wpList_append_run rfl (.tmp 75) (.tmp 76) 34 rfl _ _ _ _ rfl rfl hr5 ?_)
       | (at_builtin; refine wpList_append_run rfl (.tmp 73) (.tmp 79) 77 rfl _ _ _ _ rfl rfl hr6 ?_)
      clear q3 ql g0 hr5 hr6
      have HSa : Hid ((fun W : World => W.cell? ⟨w.heap.size, 0, none⟩ = some (.int .i64 g.fn) ∧ W.cell? ⟨w.heap.size, 1, none⟩ = some (.int .i64 g.pc) ∧ W.cell? ⟨w.heap.size, 2, none⟩ = some (.int .i64 g.slots) ∧ W.cell? ⟨w.heap.size, 3, none⟩ = some (.slice (some ⟨bm, offm, none⟩) g.nodes.length cn) ∧ W.cell? ⟨w.heap.size, 4, none⟩ = some (.slice (some ⟨bb, ob, none⟩) g.blocks.length cb) ∧ W.cell? ⟨w.heap.size, 5, none⟩ = some (.slice As g.states.length cs) ∧ W.cell? ⟨bm, offm + zk * 5 + 1, none⟩ = some (.slice Ah y.args.length ch)) w6'.drew) := Lib.hid (HKA.out _ HM6b.out.low.drew)
      refine wp_region_H2 (fun W : World => W.cell? ⟨w.heap.size, 0, none⟩ = some (.int .i64 g.fn) ∧ W.cell? ⟨w.heap.size, 1, none⟩ = some (.int .i64 g.pc) ∧ W.cell? ⟨w.heap.size, 2, none⟩ = some (.int .i64 g.slots) ∧ W.cell? ⟨w.heap.size, 3, none⟩ = some (.slice (some ⟨bm, offm, none⟩) g.nodes.length cn) ∧ W.cell? ⟨w.heap.size, 4, none⟩ = some (.slice (some ⟨bb, ob, none⟩) g.blocks.length cb) ∧ W.cell? ⟨w.heap.size, 5, none⟩ = some (.slice As g.states.length cs) ∧ W.cell? ⟨bm, offm + zk * 5 + 1, none⟩ = some (.slice Ah y.args.length ch)) (by kernel_rfl) HSa.out (fun HSn => ?_)
      clear HSn
      refine tkL 0 rfl (fun _ _ _ h => h) HSa.out ?_
      try simp only [Act.put, List.setIfInBounds_toArray, List.set_cons_zero, List.set_cons_succ]
      refine tkL 1 rfl (fun _ _ _ h => h) HSa.out ?_
      try simp only [Act.put, List.setIfInBounds_toArray, List.set_cons_zero, List.set_cons_succ]
      refine tkL 2 rfl (fun _ _ _ h => h) HSa.out ?_
      try simp only [Act.put, List.setIfInBounds_toArray, List.set_cons_zero, List.set_cons_succ]
      refine tkL 3 rfl (fun _ _ _ h => h) HSa.out ?_
      try simp only [Act.put, List.setIfInBounds_toArray, List.set_cons_zero, List.set_cons_succ]
      refine tkL 4 rfl (fun _ _ _ h => h) HSa.out ?_
      try simp only [Act.put, List.setIfInBounds_toArray, List.set_cons_zero, List.set_cons_succ]
      refine tkL 5 rfl (fun _ _ _ h => h) HSa.out ?_
      try simp only [Act.put, List.setIfInBounds_toArray, List.set_cons_zero, List.set_cons_succ]
      refine tkL 6 rfl (fun _ _ _ h => h) HSa.out ?_
      try simp only [Act.put, List.setIfInBounds_toArray, List.set_cons_zero, List.set_cons_succ]
      refine tkL 7 rfl (fun _ _ _ h => h) HSa.out ?_
      try simp only [Act.put, List.setIfInBounds_toArray, List.set_cons_zero, List.set_cons_succ]
      refine wpAnyH_ready (rs := [8]) (by kernel_rfl) (by simp) (AllReadyH.cons (o := _) rfl (fun K hK => ?_) AllReadyH.nil)
      go_simp
      (go_at_call 123; refine (HMore.out w6'.drew u4 _ (.slice Ah y.args.length ch) y.args HM6b.out.low.drew (HM6b.out.below (Below.refl _ _).drew).now (by have := HNl.out.len; simp only; omega) (HArg.out _ HM6b.out.low.drew).2).mono ?_; rintro e w7 ⟨u7, rfl, h1, h2, h3⟩; have HM7 := Lib.hid ((HM6b.out.below (Below.refl _ _).drew).more h2 h1 h3); clear h1 h2 h3)
      try go_wp2_with fail
      have HSb : Hid ((fun W : World => W.cell? ⟨w.heap.size, 0, none⟩ = some (.int .i64 g.fn) ∧ W.cell? ⟨w.heap.size, 1, none⟩ = some (.int .i64 g.pc) ∧ W.cell? ⟨w.heap.size, 2, none⟩ = some (.int .i64 g.slots) ∧ W.cell? ⟨w.heap.size, 3, none⟩ = some (.slice (some ⟨bm, offm, none⟩) g.nodes.length cn) ∧ W.cell? ⟨w.heap.size, 4, none⟩ = some (.slice (some ⟨bb, ob, none⟩) g.blocks.length cb) ∧ W.cell? ⟨w.heap.size, 5, none⟩ = some (.slice As g.states.length cs) ∧ W.cell? ⟨bm, offm + zk * 5 + 1, none⟩ = some (.slice Ah y.args.length ch)) w7) := Lib.hid (HKA.out _ HM7.out.low)
      refine hK.out _ _ HSb.out (fun HSn => ?_)
      clear hK K HSn
      try simp only [Act.put, List.setIfInBounds_toArray, List.set_cons_zero, List.set_cons_succ]
      refine tkL 9 rfl (fun _ _ _ h => h) HSb.out ?_
      try simp only [Act.put, List.setIfInBounds_toArray, List.set_cons_zero, List.set_cons_succ]
      refine wpAnyH_done (by kernel_rfl) ?_ _
      have HN7 := Lib.hid (HNl.out.more (m := y.args))
      go_upto_region 17 with fail
      have HSc : Hid ((fun W : World => W.cell? ⟨w.heap.size, 0, none⟩ = some (.int .i64 g.fn) ∧ W.cell? ⟨w.heap.size, 1, none⟩ = some (.int .i64 g.pc) ∧ W.cell? ⟨w.heap.size, 2, none⟩ = some (.int .i64 g.slots) ∧ W.cell? ⟨w.heap.size, 3, none⟩ = some (.slice (some ⟨bm, offm, none⟩) g.nodes.length cn) ∧ W.cell? ⟨w.heap.size, 4, none⟩ = some (.slice (some ⟨bb, ob, none⟩) g.blocks.length cb) ∧ W.cell? ⟨w.heap.size, 5, none⟩ = some (.slice As g.states.length cs) ∧ W.cell? ⟨bm, offm + zk * 5 + 4, none⟩ = some (.int .i64 y.state)) w7.drew) := Lib.hid (HKS.out _ HM7.out.low.drew)
      refine wp_region_H2 (fun W : World => W.cell? ⟨w.heap.size, 0, none⟩ = some (.int .i64 g.fn) ∧ W.cell? ⟨w.heap.size, 1, none⟩ = some (.int .i64 g.pc) ∧ W.cell? ⟨w.heap.size, 2, none⟩ = some (.int .i64 g.slots) ∧ W.cell? ⟨w.heap.size, 3, none⟩ = some (.slice (some ⟨bm, offm, none⟩) g.nodes.length cn) ∧ W.cell? ⟨w.heap.size, 4, none⟩ = some (.slice (some ⟨bb, ob, none⟩) g.blocks.length cb) ∧ W.cell? ⟨w.heap.size, 5, none⟩ = some (.slice As g.states.length cs) ∧ W.cell? ⟨bm, offm + zk * 5 + 4, none⟩ = some (.int .i64 y.state)) (by kernel_rfl) HSc.out (fun HSn => ?_)
      clear HSn
      refine tkL 0 rfl (fun _ _ _ h => h) HSc.out ?_
      try simp only [Act.put, List.setIfInBounds_toArray, List.set_cons_zero, List.set_cons_succ]
      refine tkL 1 rfl (fun _ _ _ h => h) HSc.out ?_
      try simp only [Act.put, List.setIfInBounds_toArray, List.set_cons_zero, List.set_cons_succ]
      refine tkL 2 rfl (fun _ _ _ h => h) HSc.out ?_
      try simp only [Act.put, List.setIfInBounds_toArray, List.set_cons_zero, List.set_cons_succ]
      refine tkL 3 rfl (fun _ _ _ h => h) HSc.out ?_
      try simp only [Act.put, List.setIfInBounds_toArray, List.set_cons_zero, List.set_cons_succ]
      refine tkL 4 rfl (fun _ _ _ h => h) HSc.out ?_
      try simp only [Act.put, List.setIfInBounds_toArray, List.set_cons_zero, List.set_cons_succ]
      refine tkL 5 rfl (fun _ _ _ h => h) HSc.out ?_
      try simp only [Act.put, List.setIfInBounds_toArray, List.set_cons_zero, List.set_cons_succ]
      refine tkL 6 rfl (fun _ _ _ h => h) HSc.out ?_
      try simp only [Act.put, List.setIfInBounds_toArray, List.set_cons_zero, List.set_cons_succ]
      refine tkL 7 rfl (fun _ _ _ h => h) HSc.out ?_
      try simp only [Act.put, List.setIfInBounds_toArray, List.set_cons_zero, List.set_cons_succ]
      refine tkL 8 rfl (fun _ _ _ h => h) HSc.out ?_
      try simp only [Act.put, List.setIfInBounds_toArray, List.set_cons_zero, List.set_cons_succ]
      refine wpAnyH_ready (rs := [9]) (by kernel_rfl) (by simp) (AllReadyH.cons (o := _) rfl (fun K hK => ?_) AllReadyH.nil)
      go_simp
      (go_at_call 124; refine (HSl.out w7.drew y.state HM7.out.low.drew).mono ?_; rintro e w8 ⟨v8, rfl, h1, h2⟩; have HV8 := Lib.hid h1; have HM8 := Lib.hid ((HM7.out.below (Below.refl _ _).drew).below h2); clear h1 h2)
      try go_wp2_with fail
      have HSd : Hid ((fun W : World => W.cell? ⟨w.heap.size, 0, none⟩ = some (.int .i64 g.fn) ∧ W.cell? ⟨w.heap.size, 1, none⟩ = some (.int .i64 g.pc) ∧ W.cell? ⟨w.heap.size, 2, none⟩ = some (.int .i64 g.slots) ∧ W.cell? ⟨w.heap.size, 3, none⟩ = some (.slice (some ⟨bm, offm, none⟩) g.nodes.length cn) ∧ W.cell? ⟨w.heap.size, 4, none⟩ = some (.slice (some ⟨bb, ob, none⟩) g.blocks.length cb) ∧ W.cell? ⟨w.heap.size, 5, none⟩ = some (.slice As g.states.length cs) ∧ W.cell? ⟨bm, offm + zk * 5 + 4, none⟩ = some (.int .i64 y.state)) w8) := Lib.hid (HKS.out _ HM8.out.low)
      refine hK.out _ _ HSd.out (fun HSn => ?_)
      clear hK K HSn
      try simp only [Act.put, List.setIfInBounds_toArray, List.set_cons_zero, List.set_cons_succ]
      refine wpAnyH_ready (rs := [10]) (by kernel_rfl) (by simp) (AllReadyH.cons (o := _) rfl (fun K hK => ?_) AllReadyH.nil)
      go_simp
      (go_at_call 123; (with_reducible refine Calls.mono (HMore.out w8 _ _ v8 (slotsOf g y.state) HM8.out.low HM8.out.now (by have h := HN7.out.len; have h2 := slotsOf_len hs y.state; simp only; omega) HV8.out) ?_); rintro e w9 ⟨u9, rfl, h1, h2, h3⟩; have HM9 := Lib.hid (HM8.out.more h2 h1 h3); clear h1 h2 h3)
      try go_wp2_with fail
      have HSe : Hid ((fun W : World => W.cell? ⟨w.heap.size, 0, none⟩ = some (.int .i64 g.fn) ∧ W.cell? ⟨w.heap.size, 1, none⟩ = some (.int .i64 g.pc) ∧ W.cell? ⟨w.heap.size, 2, none⟩ = some (.int .i64 g.slots) ∧ W.cell? ⟨w.heap.size, 3, none⟩ = some (.slice (some ⟨bm, offm, none⟩) g.nodes.length cn) ∧ W.cell? ⟨w.heap.size, 4, none⟩ = some (.slice (some ⟨bb, ob, none⟩) g.blocks.length cb) ∧ W.cell? ⟨w.heap.size, 5, none⟩ = some (.slice As g.states.length cs) ∧ W.cell? ⟨bm, offm + zk * 5 + 4, none⟩ = some (.int .i64 y.state)) w9) := Lib.hid (HKS.out _ HM9.out.low)
      refine hK.out _ _ HSe.out (fun HSn => ?_)
      clear hK K HSn
      try simp only [Act.put, List.setIfInBounds_toArray, List.set_cons_zero, List.set_cons_succ]
      refine tkL 11 rfl (fun _ _ _ h => h) HSe.out ?_
      try simp only [Act.put, List.setIfInBounds_toArray, List.set_cons_zero, List.set_cons_succ]
      refine wpAnyH_done (by kernel_rfl) ?_ _
      go_wp2_with fail
      go_roundw
      case rel => exact ⟨m, _, _, _, rfl, rfl, rfl, by omega, (by first | rfl | go_num), Lib.hid (by rw [rAt_step g O b x HZ.out, rStep_other ((nodeAt_nat g zk).trans HY.out) HO2.out]; exact HM9.out)⟩
      case measure => (simp [intOf] <;> omega)
end Go.Proofs.YtkmfdiboekoioaaGreat
