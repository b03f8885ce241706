/- The walk of alloc.spots, told of by alloc.meets's function. Conditions: a graph that is small; a map for each node. -/
import Derived.Test.YtkmfdiboekoioaaBlocks
namespace Go.Proofs.Ytkmfdiboekoioaa
open Go.RowKit Go.Shelf
attribute [local go_sem] Oper.semAt_some
/-- The memory of alloc.spots where its loop begins. -/
theorem spots_first {w w1 : World} {xv : GVals} {g : GraphP} {bo bm : Nat} {ro : List Nat} {LI LO : List (List Int)} {vI vO : Value} (hg : GraphV w w.heap.size xv g) (hM : MRow w bo ro (fun _ _ => false)) (hout : Blk w bm 38 #[.slice (some ⟨bo, 0, none⟩) ro.length ro.length])
    (hb : Below ((w.alloc (.cells (gbox g xv) 26)).alloc (.cells #[.func (.func 20) #[] #[.pointer (some ⟨bm, 0, none⟩)]] 56)).heap.size ((w.alloc (.cells (gbox g xv) 26)).alloc (.cells #[.func (.func 20) #[] #[.pointer (some ⟨bm, 0, none⟩)]] 56)) w1)
    (hI : RowsV w1 w1.heap.size vI LI) (hO : RowsV w1 w1.heap.size vO LO) :
    ∃ w3 : World, w3 = (w1.alloc (.cells #[vI, vO] 66)).alloc (.cells #[.func (.func 35) #[] #[.pointer (some ⟨w.heap.size, 0, none⟩)]] 37) ∧
      OutMem ⟨w.heap.size, w.heap.size, w.heap.size + 1, w1.heap.size, w1.heap.size + 1, bo, bm, w1.heap.size, ro, vI, vO⟩ xv g LI LO w3 (fun _ _ => false) ∧
      OutLow ⟨w.heap.size, w.heap.size, w.heap.size + 1, w1.heap.size, w1.heap.size + 1, bo, bm, w1.heap.size, ro, vI, vO⟩ w3.heap.size ∧ Below w.heap.size w w3 := by
  have hz := hb.size
  rw [World.size_alloc, World.size_alloc] at hz
  have h13 : Below w1.heap.size w1 ((w1.alloc (.cells #[vI, vO] 66)).alloc (.cells #[.func (.func 35) #[] #[.pointer (some ⟨w.heap.size, 0, none⟩)]] 37)) := ((Below.refl _ _).alloc (Nat.le_refl _) _).alloc (by simp) _
  have hA : Below w.heap.size w ((w.alloc (.cells (gbox g xv) 26)).alloc (.cells #[.func (.func 20) #[] #[.pointer (some ⟨bm, 0, none⟩)]] 56)) := ((Below.refl _ _).alloc (Nat.le_refl _) _).alloc (by simp) _
  have hw : Below w.heap.size w ((w1.alloc (.cells #[vI, vO] 66)).alloc (.cells #[.func (.func 35) #[] #[.pointer (some ⟨w.heap.size, 0, none⟩)]] 37)) := (hA.trans (hb.mono (by simp; omega))).trans (h13.mono (by omega))
  have hA3 := hb.trans (h13.mono (by simp; omega))
  refine ⟨_, rfl, ⟨⟨hg.keep (Same.of_below hw), hw.size, ?_⟩, ?_, ?_, ?_, hI.keep (Same.of_below h13), hO.keep (Same.of_below h13), h13.size, hout.below hw hout.lt, hM.later hw⟩, ?_, hw⟩
  · exact ((Blk.new w 26 (gbox g xv)).alloc _).below hA3 (by simp; omega)
  · have := Blk.new (w.alloc (.cells (gbox g xv) 26)) 56 #[.func (.func 20) #[] #[.pointer (some ⟨bm, 0, none⟩)]]
    rw [World.size_alloc] at this
    exact this.below hA3 (by simp)
  · have := Blk.new (w1.alloc (.cells #[vI, vO] 66)) 37 #[.func (.func 35) #[] #[.pointer (some ⟨w.heap.size, 0, none⟩)]]
    rw [World.size_alloc] at this
    exact this
  · exact (Blk.new w1 _ _).alloc _
  · have l1 := hM.row.lt
    have l2 := hout.lt
    refine ⟨?_, ?_, ?_, ?_, ?_, ?_, fun r hr => ?_⟩
    all_goals simp only [World.size_alloc]
    · omega
    · omega
    · omega
    · omega
    · omega
    · omega
    · obtain ⟨p, hp⟩ := hM.isMap hr
      have := hp.lt
      omega
set_option maxRecDepth 100000 in
set_option maxHeartbeats 16000000 in
theorem spots_any (w : World) (xv : GVals) (g : GraphP) (bo bm : Nat) (ro : List Nat) (hg : GraphV w w.heap.size xv g) (hs : Small g) (hM : MRow w bo ro (fun _ _ => false)) (hout : Blk w bm 38 #[.slice (some ⟨bo, 0, none⟩) ro.length ro.length]) (hro : g.nodes.length = ro.length) :
    Calls Try.prog 19 #[gval g xv, .func (.func 20) #[] #[.pointer (some ⟨bm, 0, none⟩)]] w (SpotsIs g bo ro w) := by
  obtain ⟨vn, vb, vs⟩ := xv
  have HG := Lib.hid hg
  obtain ⟨hn, hb, _⟩ := hg
  simp only at hn hb
  obtain ⟨Ab, cb, rfl, hcb, hlb, _⟩ := hb
  obtain ⟨An, cn, rfl, hcn, hln, _⟩ := hn
  obtain ⟨l1, l2, l3⟩ := hs.lens
  have HM := Lib.hid hM; have HOut := Lib.hid hout; have HRo := Lib.hid hro
  clear hM hout hro
  refine (callsIn_wide (n := 3)).1 ?_
  refine callsIn_of_wp_marks Try.func19 rfl trivial ?_ rfl
  refine wpIn_wide.2 ?_
  simp only [Try.ntmps19, List.size_toArray, List.length_cons, List.length_nil, Nat.reduceAdd, Nat.reduceSub, Array.replicate_succ, Array.replicate_zero, List.push_toArray, List.append_toArray, List.nil_append, List.cons_append]
  unfold gval
  go_upto_region 2 with (go_at_call 34; refine (live_any _ ⟨.slice An g.nodes.length cn, .slice Ab g.blocks.length cb, vs⟩ g ((HG.out.later (((Below.refl w.heap.size w).alloc (Nat.le_refl _) _).alloc (by simp) _) (Nat.le_refl _))) hs).mono ?_; rintro e w1 ⟨I, O, vI, vO, rfl, hL, hrI, hrO, hb1⟩; have HL := Lib.hid hL; have HrI := Lib.hid hrI; have HrO := Lib.hid hrO; have HB1 := Lib.hid hb1; obtain ⟨AI, cI, rfl, _⟩ := hrI; obtain ⟨AO, cO, rfl, _⟩ := hrO; clear hL hb1)
  obtain ⟨w3, hw3, hm3, hl3, hb3⟩ := spots_first HG.out HM.out HOut.out HB1.out HrI.out HrO.out
  have HM3 := Lib.hid hm3; have HL3 := Lib.hid hl3; have HB3 := Lib.hid hb3; have HW3 := Lib.hid hw3
  clear hw3 hm3 hl3 hb3
  go_upto_region 3 with fail
  rw [← HW3.out]
  obtain ⟨q0, q1, q2, q3, q4, q5⟩ := HM3.out.gr.cells
  simp only at q4
  clear q0 q1 q2 q3 q5
  go_wp2_with fail
  refine blocks_any w3 w3 ⟨w.heap.size, w.heap.size, w.heap.size + 1, w1.heap.size, w1.heap.size + 1, bo, bm, w1.heap.size, ro, .slice AI (listsTo g.nodes.length I g.blocks.length).length cI, .slice AO (listsTo g.nodes.length O g.blocks.length).length cO⟩ (.slice An g.nodes.length cn) vs Ab cb g I O w3.heap.size hs HL.out.boundI HL3.out HRo.out _ _ ?_ ?_
  · exact ⟨0, [], _, _, _, _, _, _, _, _, _, _, _, _, _, _, _, _, _, _, _, _, _, _, _, _, _, _, _, _, _, _, _, _, _, _, _, _, _, _, _, _, _, _, _, _, _, _, _, _, _, _, _, _, _, _, _, _, _, _, _, _, _, _, _, _, _, _, _, _, _, _, _, _, _, _, _, _, _, _, _, _, _, _, _, _, _, _, _, _, _, _, _, _, _, _, _, _, _, _, _, _, _, _, _, _, _, _, _, Nat.zero_le _, HM3.out, MarksOk.nil _ _, Nat.le_refl _, TurnB.refl _ _ _, rfl⟩
  · rintro a' W' ds rfl hm hds hb ht
    have HMw := Lib.hid hm; have HTw := Lib.hid ht
    simp only [Exit.inBlock, if_true]
    refine MarksOk.leaves _ W' hds (fun W2 hb2 _ => ?_)
    refine ⟨_, results_none rfl _ _ _, rfl, I, O, HL.out, ⟨HMw.out.rows.row.below hb2 HL3.out.bo, HMw.out.rows.one, fun j r hj => IMap.below (HMw.out.rows.maps j r hj) hb2 (HL3.out.ro r (List.mem_of_getElem? hj))⟩, ?_⟩
    have t := HTw.out
    have b := HB3.out
    exact ⟨hb2.os.trans (t.os.trans b.os), hb2.tape.trans (t.tape.trans b.tape), hb2.output.trans (t.output.trans b.output), Nat.le_trans b.size (Nat.le_trans t.size hb2.size),
      fun k hk hn => (hb2.block k (Nat.lt_of_lt_of_le hk b.size)).trans ((t.block k (Nat.lt_of_lt_of_le hk b.size) hn).trans (b.block k hk))⟩
end Go.Proofs.Ytkmfdiboekoioaa
