/- What is live where, as the reference 20 reckons it. Conditions: a small graph that lies in memory. -/
import Derived.Test.YtkmfdiboekoioaaGreatCRfOnce
import Derived.Test.YtkmfdiboekoioaaGreatCRfRows
import Derived.Test.YtkmfdiboekoioaaGreatCLoop6
import Derived.Deep.LoopGhost
import Derived.Laws.ResultCell
set_option linter.unusedSimpArgs false
set_option linter.unusedVariables false
namespace Go.Proofs.YtkmfdiboekoioaaGreat
open Go.RowKit
attribute [local go_sem ↓] Go.wp_at_zero Go.wp_at_succ
/-- The slices of rows, of which k are laid. -/
def pcells (N nb k : Nat) (r : Nat → Nat) : Array Value := ((List.range nb).map (fun i => if i < k then Value.slice (some ⟨r i, 0, none⟩) N N else Value.slice none 0 0)).toArray
theorem pcells_get {N nb k : Nat} {r : Nat → Nat} (h : k < nb) : (pcells N nb k r)[k]? = some (.slice none 0 0) := by simp [pcells, h]
theorem pcells_all (N nb : Nat) (r : Nat → Nat) : pcells N nb nb r = rcells N nb r := by
 unfold pcells rcells
 congr 1
 apply List.map_congr_left
 intro i hi
 simp [List.mem_range.1 hi]
theorem pcells_made (N nb : Nat) (r : Nat → Nat) : madeCells #[.slice none 0 0] nb = pcells N nb 0 r := by
 apply Array.ext_getElem?
 intro i
 by_cases hi : i < nb
 ·simp [madeCells, hi, Nat.mod_one, pcells]
 ·simp [madeCells, hi, pcells]
theorem pcells_set {N nb k : Nat} {r : Nat → Nat} (h : k < nb) (q : Nat) : (pcells N nb k r).setIfInBounds k (.slice (some ⟨q, 0, none⟩) N N) = pcells N nb (k + 1) (fun z => if z = k then q else r z) := by
 apply Array.ext
 ·simp [pcells]
 ·intro i h1 h2
  simp only [pcells, List.setIfInBounds_toArray, List.getElem_toArray, List.getElem_set, List.getElem_map, List.getElem_range]
  by_cases e : k = i
  ·subst e; simp
  ·have e2 : (i = k) = False := by simp; omega
   by_cases e3 : i < k
   ·simp [e, e2, e3, show i < k + 1 by omega]
   ·simp [e, e3, show ¬ i < k + 1 by omega]
structure Part20 (w : World) (B b N nb k : Nat) (r : Nat → Nat) : Prop where
 row : Blk w b 168 (pcells N nb k r)
 each : ∀ i, i < k → BRow w (r i) N ISet.empty
 low : B ≤ b ∧ ∀ i, i < k → B ≤ r i
section
variable {w w' : World} {B b N nb k : Nat} {r : Nat → Nat}
theorem Part20.below (h : Part20 w B b N nb k r) (hb : Below w.heap.size w w') : Part20 w' B b N nb k r := ⟨h.row.below hb h.row.lt, fun i hi => (h.each i hi).below hb (h.each i hi).lt, h.low⟩
theorem Part20.all (h : Part20 w B b N nb nb r) : Rows20 w B b N nb (fun _ => none) r := ⟨by have := h.row; rwa [pcells_all] at this, h.each, h.low⟩
theorem blk_type {w : World} {q : Nat} {s t : TypeId} {cs ds : Array Value} (h1 : Blk w q s cs) (h2 : Blk w q t ds) : s = t := by
 unfold Blk at h1 h2
 rw [h1] at h2
 injection h2 with h2
 injection h2
theorem Part20.put (h : Part20 w B b N nb k r) {q : Nat} (hk : k < nb) (hq : BRow w q N ISet.empty) (hB : B ≤ q) : Part20 (w.setCell ⟨b, k, none⟩ (.slice (some ⟨q, 0, none⟩) N N)) B b N nb (k + 1) (fun z => if z = k then q else r z) := by
 have far : ∀ {u : Nat} {p : ISet}, BRow w u N p → u ≠ b := fun hu e => by
  subst e
  have e2 := blk_type hu h.row
  exact absurd e2 (by decide)
 refine ⟨?_, fun i hi => ?_, h.low.1, fun i hi => ?_⟩
 ·have := h.row.set_ k (.slice (some ⟨q, 0, none⟩) N N)
  rwa [pcells_set hk] at this
 ·by_cases e : i = k
  ·subst e; simp only [if_true]; exact hq.far (far hq) _
  ·simp only [if_neg e]; exact (h.each i (by omega)).far (far (h.each i (by omega))) _
 ·by_cases e : i = k
  ·simp only [if_pos e]; exact hB
  ·simp only [if_neg e]; exact h.low.2 i (by omega)
theorem Part20.far (h : Part20 w B b N nb k r) {q j : Nat} {v : Value} {cs : Array Value} (hq : Blk w q 168 cs) (hne : b ≠ q) : Part20 (w.setCell ⟨q, j, none⟩ v) B b N nb k r :=
 ⟨h.row.far hne _, fun i hi => (h.each i hi).far (fun e => by
  have h1 := h.each i hi
  have e : r i = q := e
  rw [e] at h1
  exact absurd (blk_type h1 hq) (by decide)) _, h.low⟩
end
theorem alloc_set (w : World) (o : Obj) (p : Addr) (u : Value) (h : p.block < w.heap.size) : (w.alloc o).setCell p u = (w.setCell p u).alloc o := by
 have e : ((w.alloc o).setCell p u).heap = ((w.setCell p u).alloc o).heap := by
  apply Array.ext_getElem?
  intro i
  by_cases hi : i = p.block
  ·subst hi
   rw [Below.heap_alloc _ _ _ (by simpa [World.setCell] using h)]
   show ((w.heap.push o).modify p.block _)[p.block]? = (w.heap.modify p.block _)[p.block]?
   rw [Array.getElem?_modify, Array.getElem?_modify, Array.getElem?_push, if_neg (Nat.ne_of_lt h)]
  ·rw [Below.heap_setCell _ p u i hi]
   rcases Nat.lt_trichotomy i w.heap.size with q | q | q
   ·rw [Below.heap_alloc _ _ _ q, Below.heap_alloc _ _ _ (by simpa [World.setCell] using q), Below.heap_setCell _ p u i hi]
   ·subst q
    rw [heap_alloc_new]
    have := heap_alloc_new (w.setCell p u) o
    have e2 : (w.setCell p u).heap.size = w.heap.size := by simp [World.setCell]
    rw [e2] at this
    exact this.symm
   ·rw [Array.getElem?_eq_none (by simp; omega), Array.getElem?_eq_none (by simp [World.setCell]; omega)]
 have e1 : (w.alloc o).setCell p u = { w with heap := ((w.alloc o).setCell p u).heap } := rfl
 have e2 : (w.setCell p u).alloc o = { w with heap := ((w.setCell p u).alloc o).heap } := rfl
 rw [e1, e2, e]
structure OfM (w2 : World) (bi bo : Nat) (g : GraphP) (i o : Nat) (ri ro : Nat → Nat) (wr : World) : Prop where
 pI : Part20 wr w2.heap.size bi g.nodes.length g.blocks.length i ri
 pO : Part20 wr w2.heap.size bo g.nodes.length g.blocks.length o ro
 low : Below w2.heap.size w2 wr
 ne : bi ≠ bo
section
variable {w2 : World} {bi bo : Nat} {g : GraphP} {i o : Nat} {ri ro : Nat → Nat} {wr : World}
theorem OfM.putI (h : OfM w2 bi bo g i o ri ro wr) (hi : i < g.blocks.length) : ∃ r, OfM w2 bi bo g (i + 1) o r ro ((wr.alloc (.cells (bcells g.nodes.length ISet.empty) 4)).setCell ⟨bi, i, none⟩ (.slice (some ⟨wr.heap.size, 0, none⟩) g.nodes.length g.nodes.length)) := by
 have hb : Below wr.heap.size wr (wr.alloc (.cells (bcells g.nodes.length ISet.empty) 4)) := (Below.refl _ _).alloc (Nat.le_refl _) _
 exact ⟨_, (h.pI.below hb).put hi (Blk.new _ _ _) h.low.size, (h.pO.below hb).far (h.pI.below hb).row h.ne.symm, (h.low.trans (hb.mono h.low.size)).setCell (p := ⟨bi, i, none⟩) h.pI.low.1 _, h.ne⟩
theorem OfM.putO (h : OfM w2 bi bo g i o ri ro wr) (ho : o < g.blocks.length) : ∃ r, OfM w2 bi bo g i (o + 1) ri r ((wr.alloc (.cells (bcells g.nodes.length ISet.empty) 4)).setCell ⟨bo, o, none⟩ (.slice (some ⟨wr.heap.size, 0, none⟩) g.nodes.length g.nodes.length)) := by
 have hb : Below wr.heap.size wr (wr.alloc (.cells (bcells g.nodes.length ISet.empty) 4)) := (Below.refl _ _).alloc (Nat.le_refl _) _
 exact ⟨_, (h.pI.below hb).far (h.pO.below hb).row h.ne, (h.pO.below hb).put ho (Blk.new _ _ _) h.low.size, (h.low.trans (hb.mono h.low.size)).setCell (p := ⟨bo, o, none⟩) h.pO.low.1 _, h.ne⟩
end
theorem brow_info : (Tryz.prog.info? 168).map (fun i => (i.zero, i.size, i.bytes)) = some (some (.slice none 0 0), 1, 24) := by kernel_rfl
def Of20 (g : GraphP) (w : World) (e : Ending) (w' : World) : Prop := ∃ (I O : Sets) (vI vO : Value), e = .returned (.agg #[vI, vO]) ∧ LiveIs g I O ∧ RowsV w' w'.heap.size vI (listsTo g.nodes.length I g.blocks.length) ∧ RowsV w' w'.heap.size vO (listsTo g.nodes.length O g.blocks.length) ∧ Below w.heap.size w w'
set_option maxRecDepth 100000 in
set_option maxHeartbeats 8000000 in
theorem of20_any (w : World) (xv : GVals) (g : GraphP) (hs : Small g) (hg : GraphV w w.heap.size xv g) : Calls Tryz.prog 78 #[gval g xv] w (Of20 g w) := by
 have HG := Lib.hid hg
 obtain ⟨vn, vb, vs⟩ := xv
 obtain ⟨⟨An, cn, en, _⟩, ⟨Ab, cb, eb, _⟩, ⟨As, cs, es, _⟩⟩ := hg
 simp only at en eb es
 subst en eb es
 obtain ⟨l1, l2, l3⟩ := hs.lens
 have ee : gval g ⟨.slice An g.nodes.length cn, .slice Ab g.blocks.length cb, .slice As g.states.length cs⟩ = .agg #[.int .i64 g.fn, .int .i64 g.pc, .int .i64 g.slots, .slice An g.nodes.length cn, .slice Ab g.blocks.length cb, .slice As g.states.length cs] := rfl
 have E0 := Lib.hid ee; clear ee
 obtain ⟨i1, hi1, hy0, hy1, hy2⟩ := info_parts bool_info
 have hmk := fun W : World => run_make (P := Tryz.prog) W 168 4 i1 (.bool false) Tryz.underlying168 hi1 hy0 .i64 .i64 (g.nodes.length : Int) (g.nodes.length : Int) (by omega) (Int.le_refl _) (by rw [hy2]; omega) (by omega)
 simp only [hy1, Int.toNat_natCast, Value.cells, Nat.mul_one, bcells_made] at hmk
 obtain ⟨i2, hi2, hx0, hx1, hx2⟩ := info_parts brow_info
 have hmr := fun W : World => run_make (P := Tryz.prog) W 183 168 i2 (.slice none 0 0) Tryz.underlying183 hi2 hx0 .i64 .i64 (g.blocks.length : Int) (g.blocks.length : Int) (by omega) (Int.le_refl _) (by rw [hx2]; omega) (by omega)
 simp only [hx1, Int.toNat_natCast, Value.cells, Nat.mul_one, pcells_made g.nodes.length g.blocks.length (fun _ => 0)] at hmr
 obtain ⟨w2, hw2⟩ : ∃ w2, w2 = (w.alloc (.cells #[.int .i64 g.fn, .int .i64 g.pc, .int .i64 g.slots, .slice An g.nodes.length cn, .slice Ab g.blocks.length cb, .slice As g.states.length cs] 28)).alloc (.cells #[.slice none 0 0, .slice none 0 0] 124) := ⟨_, rfl⟩
 have HB2 : Hid (Below w.heap.size w w2) := Lib.hid (by rw [hw2]; exact ((Below.refl _ _).alloc (Nat.le_refl _) _).alloc (by simp) _)
 have HC2 : Hid (GCtx w2 w.heap.size w.heap.size ⟨.slice An g.nodes.length cn, .slice Ab g.blocks.length cb, .slice As g.states.length cs⟩ g) := Lib.hid ⟨HG.out.keep (Same.of_below HB2.out), HB2.out.size, by rw [hw2]; exact (Blk.new _ _ _).alloc _⟩
 have HR2 : Hid (Blk w2 (w.heap.size + 1) 124 #[.slice none 0 0, .slice none 0 0]) := Lib.hid (by
  have := Blk.new (w.alloc (.cells #[.int .i64 g.fn, .int .i64 g.pc, .int .i64 g.slots, .slice An g.nodes.length cn, .slice Ab g.blocks.length cb, .slice As g.states.length cs] 28)) 124 #[.slice none 0 0, .slice none 0 0]
  rw [World.size_alloc] at this
  rw [hw2]; exact this)
 have HZ2 : Hid (w2.heap.size = w.heap.size + 2) := Lib.hid (by rw [hw2]; simp)
 rw [E0.out]
 go_enter Tryz.func78, Tryz.ntmps78
 go_upto_region 1 with fail
 rw [← hw2]
 clear hw2
 obtain ⟨q0, q1, q2, q3, q4, q5⟩ := HC2.out.cells
 have ql := HC2.out.lt
 simp only at q3 q4 q5
 go_upto_region 3 with fail
 obtain ⟨w3, hw3⟩ : ∃ w3 : World, w3 = (w2.alloc (.cells (pcells g.nodes.length g.blocks.length 0 (fun _ => 0)) 168)).alloc (.cells (pcells g.nodes.length g.blocks.length 0 (fun _ => 0)) 168) := ⟨_, rfl⟩
 have HM3 : Hid (OfM w2 w2.heap.size (w2.heap.size + 1) g 0 0 (fun _ => 0) (fun _ => 0) w3) := Lib.hid (by
  have h2 := Blk.new (w2.alloc (.cells (pcells g.nodes.length g.blocks.length 0 (fun _ => 0)) 168)) 168 (pcells g.nodes.length g.blocks.length 0 (fun _ => 0))
  rw [World.size_alloc] at h2
  rw [hw3]
  exact ⟨⟨(Blk.new _ _ _).alloc _, (fun _ h => by omega), Nat.le_refl _, fun _ h => by omega⟩, ⟨h2, (fun _ h => by omega), Nat.le_succ _, fun _ h => by omega⟩, ((Below.refl _ _).alloc (Nat.le_refl _) _).alloc (by simp) _, by omega⟩)
 rw [← hw3]
 clear hw3 q0 q1 q2 q3 q4 q5 ql
 obtain ⟨bi, hbi⟩ : ∃ bi, bi = w2.heap.size := ⟨_, rfl⟩
 obtain ⟨bo, hbo⟩ : ∃ bo, bo = w2.heap.size + 1 := ⟨_, rfl⟩
 rw [← hbo, ← hbi] at HM3
 rw [← hbo, ← hbi]
 have HMx : Hid (OfM w2 bi bo g 0 0 (fun _ => 0) (fun _ => 0) w3) := HM3
 clear HM3 hbi hbo hmr
 go_wp2_with fail
 go_loopw [5] (fun t wr => ∃ (k : Nat) (ri ro : Nat → Nat), k ≤ g.blocks.length ∧ t = .int .i64 k ∧ Hid (OfM w2 bi bo g k k ri ro wr)) (fun t _ => g.blocks.length - (intOf t).toNat)
 case atStart => exact ⟨0, _, _, Nat.zero_le _, rfl, HMx⟩
 case round =>
  obtain ⟨k, ri, ro, hk, rfl, HM⟩ := hrel
  obtain ⟨wq, rfl⟩ : ∃ wq : World, wq = wr := ⟨_, rfl⟩
  have HC := Lib.hid (HC2.out.below HM.out.low)
  obtain ⟨q0, q1, q2, q3, q4, q5⟩ := HC.out.cells
  have ql := HC.out.lt
  simp only at q3 q4 q5
  by_cases hlt : k < g.blocks.length
  ·obtain ⟨r1, hM1⟩ := HM.out.putI hlt
   obtain ⟨r2, hM2⟩ := hM1.putO hlt
   have HMb := Lib.hid hM2
   rw [alloc_set _ _ ⟨bi, k, none⟩ _ HM.out.pI.row.lt] at hM1 hM2
   obtain ⟨wi, hwi⟩ : ∃ wi, wi = (wq.setCell ⟨bi, k, none⟩ (.slice (some ⟨wq.heap.size, 0, none⟩) g.nodes.length g.nodes.length)).alloc (.cells (bcells g.nodes.length ISet.empty) 4) := ⟨_, rfl⟩
   rw [← hwi] at hM1 hM2
   rw [alloc_set _ _ ⟨bo, k, none⟩ _ hM1.pO.row.lt] at hM2
   have s0 : wq.cell? ⟨bi, k, none⟩ = some (.slice none 0 0) := (HM.out.pI.row.cell k).trans (pcells_get hlt)
   have s1 := HM.out.pI.row.frozen k
   have s2 := HM.out.pI.row.lt
   have HM1 := Lib.hid hM1
   have HM2 := Lib.hid hM2
   clear hM1 hM2 HMb
   go_upto_region 7 with fail
   rw [← hwi]
   clear hwi q0 q1 q2 q3 q4 q5 ql s0 s1 s2
   have HCi := Lib.hid (HC2.out.below HM1.out.low)
   obtain ⟨q0, q1, q2, q3, q4, q5⟩ := HCi.out.cells
   have ql := HCi.out.lt
   simp only at q3 q4 q5
   have s0 : wi.cell? ⟨bo, k, none⟩ = some (.slice none 0 0) := (HM1.out.pO.row.cell k).trans (pcells_get hlt)
   have s1 := HM1.out.pO.row.frozen k
   have s2 := HM1.out.pO.row.lt
   go_wp2_with fail
   go_roundw
   case rel => exact ⟨k + 1, r1, r2, by omega, by go_num, HM2⟩
   case measure => simp [intOf]; omega
  ·have e : k = g.blocks.length := by omega
   subst e
   have HRi : Hid (Rows20 wq w2.heap.size bi g.nodes.length g.blocks.length (fun _ => none) ri) := Lib.hid HM.out.pI.all
   have HRo : Hid (Rows20 wq w2.heap.size bo g.nodes.length g.blocks.length (fun _ => none) ro) := Lib.hid HM.out.pO.all
   have HNe := Lib.hid HM.out.ne
   have HLq := Lib.hid HM.out.low
   clear HM hmk
   go_upto_region 8 with fail
   clear q0 q1 q2 q3 q4 q5 ql HC
   go_loopg [40] (total g.nodes.length g.blocks.length (fun _ => none) (fun _ => none)) (fun n _ wr => ∃ (I O : Sets) (ri ro : Nat → Nat), n = total g.nodes.length g.blocks.length I O ∧ Hid (Rows20 wr w2.heap.size bi g.nodes.length g.blocks.length I ri) ∧ Hid (Rows20 wr w2.heap.size bo g.nodes.length g.blocks.length O ro) ∧ Hid (Below w2.heap.size w2 wr) ∧ Hid (Grows g I O))
   case atStart => exact ⟨_, _, ri, ro, rfl, HRi, HRo, HLq, Lib.hid (Grows.start g)⟩
   case round =>
    obtain ⟨I, O, ri, ro, hgk, HRI, HRO, HL, HGr⟩ := hrel
    have HGk := Lib.hid hgk
    clear hgk HRi HRo HLq
    obtain ⟨wp, rfl⟩ : ∃ wp : World, wp = wr := ⟨_, rfl⟩
    have HC := Lib.hid (HC2.out.below HL.out)
    obtain ⟨q0, q1, q2, q3, q4, q5⟩ := HC.out.cells
    have ql := HC.out.lt
    simp only at q3 q4 q5
    have HO := Lib.hid (once20_any wp w2.heap.size bi bo ⟨.slice An g.nodes.length cn, .slice Ab g.blocks.length cb, .slice As g.states.length cs⟩ g I O ri ro hs ((HC.out.gr).mono HB2.out.size) HL.out.size HRI.out HRO.out HNe.out HGr.out)
    rw [E0.out] at HO
    go_upto_region 10 with (go_at_call 121; (with_reducible refine Calls.mono HO.out ?_); rintro e w4 ⟨c, I', O', ri', ro', rfl, h1, h2, h3, h4⟩; have HRI' := Lib.hid h1; have HRO' := Lib.hid h2; have HL' := Lib.hid (HL.out.trans h3); have HP := Lib.hid h4; clear h1 h2 h3 h4; cases c)
    ·clear q0 q1 q2 q3 q4 q5 ql HRI HRO HL HC HO HGk
     have HLv := Lib.hid HP.out.live
     obtain ⟨w0, hw0⟩ : ∃ w0 : World, w0 = w4 := ⟨_, rfl⟩
     rw [← hw0] at HRI' HRO' HL' ⊢
     clear hw0
     have HLbi : Hid (bi < w0.heap.size) := Lib.hid HRI'.out.row.lt
     have HLbo : Hid (bo < w0.heap.size) := Lib.hid HRO'.out.row.lt
     have hst0 : R20.RS w0 (w0.alloc (.cells #[.slice none 0 0, .slice none 0 0] 124)) (.slice none 0 0) (.slice none 0 0) (.slice none 0 0) (.slice none 0 0) [] [] [] [] := ⟨(Below.refl _ _).alloc (Nat.le_refl _) _, Blk.new _ _ _, World.ownsRow_nil _ _ _ _, World.ownsRow_nil _ _ _ _, (fun _ h => nomatch h), (fun _ h => nomatch h), (fun _ h => nomatch h)⟩
     have HSt0 := Lib.hid hst0
     clear hst0
     go_wp2_with fail
     go_loopw [7] (fun i W => ∃ (k : Nat) (vI vO : Value) (LI LO : Tracked), k ≤ g.blocks.length ∧ i = .int .i64 k ∧ Hid (R20.RS w0 W vI vO vI vO LI LO [] []) ∧ Hid (seconds LI = listsTo g.nodes.length I' k) ∧ Hid (seconds LO = listsTo g.nodes.length O' k)) (fun i _ => g.blocks.length - (intOf i).toNat)
     case atStart => exact ⟨0, .slice none 0 0, .slice none 0 0, [], [], Nat.zero_le _, rfl, HSt0, Lib.hid rfl, Lib.hid rfl⟩
     case round =>
      obtain ⟨k, vI, vO, LI, LO, hk, rfl, HSt, HLI, HLO⟩ := hrel
      have hst := HSt.out
      have n1 : LI.length ≤ 1000000 := by have := seconds_len HLI.out; omega
      have n2 : LO.length ≤ 1000000 := by have := seconds_len HLO.out; omega
      have HC := Lib.hid (HC2.out.below (HL'.out.trans (hst.low.mono HL'.out.size)))
      obtain ⟨q0, q1, q2, q3, q4, q5⟩ := HC.out.cells
      have ql := HC.out.lt
      simp only at q3 q4 q5
      clear HSt
      by_cases hlt : k < g.blocks.length
      ·have HCbi := Lib.hid (HRI'.out.cell hlt)
       have HCbo := Lib.hid (HRO'.out.cell hlt)
       have HRbi := HRI'
       have HRbo := HRO'
       go_upto_region 13 with fail
       clear q0 q1 q2 q3 q4 q5 ql HC
       have HS : Hid ((wr.drew.cell? ⟨bi, k, none⟩ = some (.slice (some ⟨ri' k, 0, none⟩) g.nodes.length g.nodes.length) ∧ wr.drew.frozen? ⟨w0.heap.size, 0, none⟩ = false) ∧ (wr.drew.cell? ⟨w0.heap.size, 0, none⟩ = some vI)) := Lib.hid ⟨⟨(hst.drew.low.cell (p := ⟨bi, k, none⟩) HLbi.out).trans HCbi.out, hst.drew.box.frozen 0⟩, hst.drew.box.cell 0⟩
       replace hst := hst.drew
       refine wp_region_noPanic ?_
       refine RegX.wp_region_x (fun W => W.cell? ⟨bi, k, none⟩ = some (.slice (some ⟨ri' k, 0, none⟩) g.nodes.length g.nodes.length) ∧ W.frozen? ⟨w0.heap.size, 0, none⟩ = false) (fun W => W.cell? ⟨w0.heap.size, 0, none⟩ = some vI) (fun j => j == 10) (by kernel_rfl) ?_
       refine RegX.wpAnyX_takeW (i := 0) (oi := _) (v := ?_) rfl (by kernel_rfl) (by kernel_rfl) (by kernel_rfl) (fun _ _ _ h => h) (Or.inl ⟨by rfl, ?_⟩) HS.out.1 ?_
       rotate_left
       ·intro w hSw; (try dsimp only at hSw); go_simp; (try with_reducible rfl)
       try simp only [Act.put, List.setIfInBounds_toArray, List.set_cons_zero, List.set_cons_succ]
       refine RegX.wpAnyX_take (i := 1) (oi := _) (v := ?_) rfl (by kernel_rfl) (by kernel_rfl) (by kernel_rfl) (by kernel_rfl) (by kernel_rfl) (fun _ _ _ h => h) (Or.inl ⟨by rfl, ?_⟩) HS.out ?_
       rotate_left
       ·intro w hSw; (try dsimp only at hSw); go_simp; (try with_reducible rfl)
       try simp only [Act.put, List.setIfInBounds_toArray, List.set_cons_zero, List.set_cons_succ]
       refine RegX.wpAnyX_takeW (i := 2) (oi := _) (v := ?_) rfl (by kernel_rfl) (by kernel_rfl) (by kernel_rfl) (fun _ _ _ h => h) (Or.inl ⟨by rfl, ?_⟩) HS.out.1 ?_
       rotate_left
       ·intro w hSw; (try dsimp only at hSw); go_simp; (try with_reducible rfl)
       try simp only [Act.put, List.setIfInBounds_toArray, List.set_cons_zero, List.set_cons_succ]
       refine RegX.wpAnyX_takeW (i := 3) (oi := _) (v := ?_) rfl (by kernel_rfl) (by kernel_rfl) (by kernel_rfl) (fun _ _ _ h => h) (Or.inl ⟨by rfl, ?_⟩) HS.out.1 ?_
       rotate_left
       ·intro w hSw; (try dsimp only at hSw); go_simp; (try with_reducible rfl)
       try simp only [Act.put, List.setIfInBounds_toArray, List.set_cons_zero, List.set_cons_succ]
       refine RegX.wpAnyX_takeW (i := 4) (oi := _) (v := ?_) rfl (by kernel_rfl) (by kernel_rfl) (by kernel_rfl) (fun _ _ _ h => h) (Or.inl ⟨by rfl, ?_⟩) HS.out.1 ?_
       rotate_left
       ·intro w hSw; (try dsimp only at hSw); go_simp; (try with_reducible rfl)
       try simp only [Act.put, List.setIfInBounds_toArray, List.set_cons_zero, List.set_cons_succ]
       refine RegX.wpAnyX_takeW (i := 5) (oi := _) (v := ?_) rfl (by kernel_rfl) (by kernel_rfl) (by kernel_rfl) (fun _ _ _ h => h) (Or.inl ⟨by rfl, ?_⟩) HS.out.1 ?_
       rotate_left
       ·intro w hSw; (try dsimp only at hSw); go_simp; (try with_reducible rfl)
       try simp only [Act.put, List.setIfInBounds_toArray, List.set_cons_zero, List.set_cons_succ]
       refine RegX.wpAnyX_ready (rs := [6]) (by kernel_rfl) (by simp) (RegX.AllReadyX.cons (o := _) rfl (fun K hK => ?_) RegX.AllReadyX.nil)
       go_simp
       (go_at_call 122; refine (R20.list_arm (wr := w0) g.nodes.length (ri' k) (I'.at_ k) hst (HRbi.out.each k hlt) (by omega)).mono ?_; rintro e w1 ⟨A1, m1, c1, rfl, hst⟩)
       (try go_wp2_with fail)
       refine hK.out _ _ ⟨⟨(hst.low.cell (p := ⟨bi, k, none⟩) HLbi.out).trans HCbi.out, hst.box.frozen 0⟩, (fun _ _ => hst.box.cell 0)⟩ ?_
       clear hK K
       try simp only [Act.put, List.setIfInBounds_toArray, List.set_cons_zero, List.set_cons_succ]
       refine RegX.wpAnyX_ready (rs := [7]) (by kernel_rfl) (by simp) (RegX.AllReadyX.cons (o := _) rfl (fun K hK => ?_) RegX.AllReadyX.nil)
       go_simp
       replace hst := hst.build (.slice A1 m1 c1)
       refine hK.out _ _ ⟨⟨(hst.low.cell (p := ⟨bi, k, none⟩) HLbi.out).trans HCbi.out, hst.box.frozen 0⟩, (fun _ _ => hst.box.cell 0)⟩ ?_
       clear hK K
       try simp only [Act.put, List.setIfInBounds_toArray, List.set_cons_zero, List.set_cons_succ]
       refine RegX.wpAnyX_ready (rs := [8]) (by kernel_rfl) (by simp) (RegX.AllReadyX.cons (o := _) rfl (fun K hK => ?_) RegX.AllReadyX.nil)
       refine R20.stepI (wr := w0) (by rfl) _ _ (by rfl) _ (.slice A1 m1 c1) (listOf g.nodes.length (I'.at_ k)) (by rfl) (by rfl) hst (by simp) (by simp) n1 ?_
       intro gI kI wI hst
       refine hK.out _ _ ⟨⟨(hst.low.cell (p := ⟨bi, k, none⟩) HLbi.out).trans HCbi.out, hst.box.frozen 0⟩, (fun _ _ => hst.box.cell 0)⟩ ?_
       clear hK K
       try simp only [Act.put, List.setIfInBounds_toArray, List.set_cons_zero, List.set_cons_succ]
       refine RegX.wpAnyX_takeW (i := 9) (oi := _) (v := ?_) rfl (by kernel_rfl) (by kernel_rfl) (by kernel_rfl) (fun _ _ _ h => h) (Or.inl ⟨by rfl, ?_⟩) (⟨(hst.low.cell (p := ⟨bi, k, none⟩) HLbi.out).trans HCbi.out, hst.box.frozen 0⟩) ?_
       rotate_left
       ·intro w hSw; (try dsimp only at hSw); go_simp; (try with_reducible rfl)
       try simp only [Act.put, List.setIfInBounds_toArray, List.set_cons_zero, List.set_cons_succ]
       have y1 := hst.box.cell 0
       have z1 := hst.box.frozen 0
       have y2 := hst.box.lt
       refine RegX.wpAnyX_ready (rs := [10]) (by kernel_rfl) (by simp) (RegX.AllReadyX.cons (o := _) rfl (fun K hK => ?_) RegX.AllReadyX.nil)
       go_simp
       refine hK.out _ _ ⟨⟨(hst.storedI.low.cell (p := ⟨bi, k, none⟩) HLbi.out).trans HCbi.out, hst.storedI.box.frozen 0⟩, fun h => by simp at h⟩ ?_
       clear hK K
       try simp only [Act.put, List.setIfInBounds_toArray, List.set_cons_zero, List.set_cons_succ]
       refine RegX.wpAnyX_done (by kernel_rfl) ?_ _
       refine NoPanic.normal ?_
       clear y1 y2 z1
       replace hst := hst.storedI
       go_upto_region 14 with fail
       obtain ⟨wz, hwz⟩ : ∃ wz, wz = wI.setCell ⟨w0.heap.size, 0, none⟩ (.slice (some ⟨gI, 0, none⟩) (LI.length + 1) kI) := ⟨_, rfl⟩
       rw [← hwz] at hst ⊢
       clear hwz
       have HS : Hid ((wz.drew.cell? ⟨bo, k, none⟩ = some (.slice (some ⟨ro' k, 0, none⟩) g.nodes.length g.nodes.length) ∧ wz.drew.frozen? ⟨w0.heap.size, 1, none⟩ = false) ∧ (wz.drew.cell? ⟨w0.heap.size, 1, none⟩ = some vO)) := Lib.hid ⟨⟨(hst.drew.low.cell (p := ⟨bo, k, none⟩) HLbo.out).trans HCbo.out, hst.drew.box.frozen 1⟩, hst.drew.box.cell 1⟩
       replace hst := hst.drew
       refine wp_region_noPanic ?_
       refine RegX.wp_region_x (fun W => W.cell? ⟨bo, k, none⟩ = some (.slice (some ⟨ro' k, 0, none⟩) g.nodes.length g.nodes.length) ∧ W.frozen? ⟨w0.heap.size, 1, none⟩ = false) (fun W => W.cell? ⟨w0.heap.size, 1, none⟩ = some vO) (fun j => j == 10) (by kernel_rfl) ?_
       refine RegX.wpAnyX_takeW (i := 0) (oi := _) (v := ?_) rfl (by kernel_rfl) (by kernel_rfl) (by kernel_rfl) (fun _ _ _ h => h) (Or.inl ⟨by rfl, ?_⟩) HS.out.1 ?_
       rotate_left
       ·intro w hSw; (try dsimp only at hSw); go_simp; (try with_reducible rfl)
       try simp only [Act.put, List.setIfInBounds_toArray, List.set_cons_zero, List.set_cons_succ]
       refine RegX.wpAnyX_take (i := 1) (oi := _) (v := ?_) rfl (by kernel_rfl) (by kernel_rfl) (by kernel_rfl) (by kernel_rfl) (by kernel_rfl) (fun _ _ _ h => h) (Or.inl ⟨by rfl, ?_⟩) HS.out ?_
       rotate_left
       ·intro w hSw; (try dsimp only at hSw); go_simp; (try with_reducible rfl)
       try simp only [Act.put, List.setIfInBounds_toArray, List.set_cons_zero, List.set_cons_succ]
       refine RegX.wpAnyX_takeW (i := 2) (oi := _) (v := ?_) rfl (by kernel_rfl) (by kernel_rfl) (by kernel_rfl) (fun _ _ _ h => h) (Or.inl ⟨by rfl, ?_⟩) HS.out.1 ?_
       rotate_left
       ·intro w hSw; (try dsimp only at hSw); go_simp; (try with_reducible rfl)
       try simp only [Act.put, List.setIfInBounds_toArray, List.set_cons_zero, List.set_cons_succ]
       refine RegX.wpAnyX_takeW (i := 3) (oi := _) (v := ?_) rfl (by kernel_rfl) (by kernel_rfl) (by kernel_rfl) (fun _ _ _ h => h) (Or.inl ⟨by rfl, ?_⟩) HS.out.1 ?_
       rotate_left
       ·intro w hSw; (try dsimp only at hSw); go_simp; (try with_reducible rfl)
       try simp only [Act.put, List.setIfInBounds_toArray, List.set_cons_zero, List.set_cons_succ]
       refine RegX.wpAnyX_takeW (i := 4) (oi := _) (v := ?_) rfl (by kernel_rfl) (by kernel_rfl) (by kernel_rfl) (fun _ _ _ h => h) (Or.inl ⟨by rfl, ?_⟩) HS.out.1 ?_
       rotate_left
       ·intro w hSw; (try dsimp only at hSw); go_simp; (try with_reducible rfl)
       try simp only [Act.put, List.setIfInBounds_toArray, List.set_cons_zero, List.set_cons_succ]
       refine RegX.wpAnyX_takeW (i := 5) (oi := _) (v := ?_) rfl (by kernel_rfl) (by kernel_rfl) (by kernel_rfl) (fun _ _ _ h => h) (Or.inl ⟨by rfl, ?_⟩) HS.out.1 ?_
       rotate_left
       ·intro w hSw; (try dsimp only at hSw); go_simp; (try with_reducible rfl)
       try simp only [Act.put, List.setIfInBounds_toArray, List.set_cons_zero, List.set_cons_succ]
       refine RegX.wpAnyX_ready (rs := [6]) (by kernel_rfl) (by simp) (RegX.AllReadyX.cons (o := _) rfl (fun K hK => ?_) RegX.AllReadyX.nil)
       go_simp
       (go_at_call 122; refine (R20.list_arm (wr := w0) g.nodes.length (ro' k) (O'.at_ k) hst (HRbo.out.each k hlt) (by omega)).mono ?_; rintro e w1 ⟨A1, m1, c1, rfl, hst⟩)
       (try go_wp2_with fail)
       refine hK.out _ _ ⟨⟨(hst.low.cell (p := ⟨bo, k, none⟩) HLbo.out).trans HCbo.out, hst.box.frozen 1⟩, (fun _ _ => hst.box.cell 1)⟩ ?_
       clear hK K
       try simp only [Act.put, List.setIfInBounds_toArray, List.set_cons_zero, List.set_cons_succ]
       refine RegX.wpAnyX_ready (rs := [7]) (by kernel_rfl) (by simp) (RegX.AllReadyX.cons (o := _) rfl (fun K hK => ?_) RegX.AllReadyX.nil)
       go_simp
       replace hst := hst.build (.slice A1 m1 c1)
       refine hK.out _ _ ⟨⟨(hst.low.cell (p := ⟨bo, k, none⟩) HLbo.out).trans HCbo.out, hst.box.frozen 1⟩, (fun _ _ => hst.box.cell 1)⟩ ?_
       clear hK K
       try simp only [Act.put, List.setIfInBounds_toArray, List.set_cons_zero, List.set_cons_succ]
       refine RegX.wpAnyX_ready (rs := [8]) (by kernel_rfl) (by simp) (RegX.AllReadyX.cons (o := _) rfl (fun K hK => ?_) RegX.AllReadyX.nil)
       refine R20.stepO (wr := w0) (by rfl) _ _ (by rfl) _ (.slice A1 m1 c1) (listOf g.nodes.length (O'.at_ k)) (by rfl) (by rfl) hst (by simp) (by simp) n2 ?_
       intro gI kI wI hst
       refine hK.out _ _ ⟨⟨(hst.low.cell (p := ⟨bo, k, none⟩) HLbo.out).trans HCbo.out, hst.box.frozen 1⟩, (fun _ _ => hst.box.cell 1)⟩ ?_
       clear hK K
       try simp only [Act.put, List.setIfInBounds_toArray, List.set_cons_zero, List.set_cons_succ]
       refine RegX.wpAnyX_takeW (i := 9) (oi := _) (v := ?_) rfl (by kernel_rfl) (by kernel_rfl) (by kernel_rfl) (fun _ _ _ h => h) (Or.inl ⟨by rfl, ?_⟩) (⟨(hst.low.cell (p := ⟨bo, k, none⟩) HLbo.out).trans HCbo.out, hst.box.frozen 1⟩) ?_
       rotate_left
       ·intro w hSw; (try dsimp only at hSw); go_simp; (try with_reducible rfl)
       try simp only [Act.put, List.setIfInBounds_toArray, List.set_cons_zero, List.set_cons_succ]
       have y1 := hst.box.cell 1
       have z1 := hst.box.frozen 1
       have y2 := hst.box.lt
       refine RegX.wpAnyX_ready (rs := [10]) (by kernel_rfl) (by simp) (RegX.AllReadyX.cons (o := _) rfl (fun K hK => ?_) RegX.AllReadyX.nil)
       go_simp
       refine hK.out _ _ ⟨⟨(hst.storedO.low.cell (p := ⟨bo, k, none⟩) HLbo.out).trans HCbo.out, hst.storedO.box.frozen 1⟩, fun h => by simp at h⟩ ?_
       clear hK K
       try simp only [Act.put, List.setIfInBounds_toArray, List.set_cons_zero, List.set_cons_succ]
       refine RegX.wpAnyX_done (by kernel_rfl) ?_ _
       refine NoPanic.normal ?_
       clear y1 y2 z1
       replace hst := hst.storedO
       go_wp2_with fail
       go_roundw
       case rel => exact ⟨k + 1, _, _, _, _, by omega, by go_num, Lib.hid hst, Lib.hid (by rw [seconds_snoc, HLI.out, listsTo_succ]), Lib.hid (by rw [seconds_snoc, HLO.out, listsTo_succ])⟩
       case measure => simp [intOf]; omega
      ·obtain rfl : k = g.blocks.length := by omega
       have hNl : g.nodes.length ≤ lim := by unfold lim; omega
       have m := fun (W : World) ha => hst.agree (W' := W) ha (seconds_lim HLI.out hNl) (seconds_lim HLO.out hNl) (by unfold lim; omega) (by unfold lim; omega)
       rw [show LI.map (fun p => p.2) = listsTo g.nodes.length I' g.blocks.length from HLI.out, show LO.map (fun p => p.2) = listsTo g.nodes.length O' g.blocks.length from HLO.out] at m
       have HM := Lib.hid m
       have HSt := Lib.hid hst
       have b0 := hst.box.cell 0
       have b1 := hst.box.cell 1
       have HRc := Lib.hid (HR2.out.below (HL'.out.trans (hst.low.mono HL'.out.size)) HR2.out.lt)
       have c0 := HRc.out.cell 0
       have c1 := HRc.out.cell 1
       have f0 := HRc.out.frozen 0
       have f1 := HRc.out.frozen 1
       have lc := HRc.out.lt
       obtain ⟨eI, eO⟩ := m wr (fun _ _ _ => rfl)
       obtain ⟨AI, cI, eI, _⟩ := eI
       obtain ⟨AO, cO, eO, _⟩ := eO
       subst eI eO
       clear m hst
       go_wp2_with fail
       refine bodyPost_ret (v := .agg #[.slice AI (listsTo g.nodes.length I' g.blocks.length).length cI, .slice AO (listsTo g.nodes.length O' g.blocks.length).length cO]) ?_ rfl ?_
       ·have hfr : (Tryz.f78).results = #[.cell 2 124] := rfl
        simp only [results, hfr]
        go_simp
       have hlt1 : w.heap.size + 1 < w0.heap.size := by have h1 := HL'.out.size; have h2 := HZ2.out; omega
       obtain ⟨r1, r2⟩ := HM.out ((wr.setCell ⟨w.heap.size + 1, 0, none⟩ (.slice AI (listsTo g.nodes.length I' g.blocks.length).length cI)).setCell ⟨w.heap.size + 1, 1, none⟩ (.slice AO (listsTo g.nodes.length O' g.blocks.length).length cO))
        (fun k hk _ => (Below.heap_setCell _ ⟨w.heap.size + 1, 1, none⟩ _ k (show k ≠ w.heap.size + 1 by omega)).trans (Below.heap_setCell _ ⟨w.heap.size + 1, 0, none⟩ _ k (show k ≠ w.heap.size + 1 by omega)))
       have hlow : Below w.heap.size w wr := HB2.out.trans ((HL'.out.trans (HSt.out.low.mono HL'.out.size)).mono HB2.out.size)
       exact ⟨I', O', _, _, rfl, HLv.out, r1, r2, ((hlow.setCell (p := ⟨w.heap.size + 1, 0, none⟩) (show w.heap.size ≤ w.heap.size + 1 by omega) _).setCell (p := ⟨w.heap.size + 1, 1, none⟩) (show w.heap.size ≤ w.heap.size + 1 by omega) _)⟩
    ·go_wp2_with fail
     go_roundg (total g.nodes.length g.blocks.length I' O')
     case measure => rw [HGk.out]; exact HP.out.lt rfl
     case rel => exact ⟨I', O', ri', ro', rfl, HRI', HRO', HL', Lib.hid HP.out.gr⟩
end Go.Proofs.YtkmfdiboekoioaaGreat
