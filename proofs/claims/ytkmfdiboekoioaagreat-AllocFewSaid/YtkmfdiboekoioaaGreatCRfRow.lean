/- Rows of Bools as the reference 20 has them: putting nodes into one, and listing it. Conditions: a graph, a row, a slice that lie in memory. -/
import Derived.Test.YtkmfdiboekoioaaGreatCRfLess
import Derived.Test.YtkmfdiboekoioaaGreatCLivePure
import Derived.Test.YtkmfdiboekoioaaGreatCRfGrow
set_option linter.unusedSimpArgs false
set_option linter.unusedVariables false
namespace Go.Proofs.YtkmfdiboekoioaaGreat
open Go.RowKit
/-- A set of nodes as a row of Bools. -/
def bcells (N : Nat) (p : ISet) : Array Value := ((List.range N).map (fun (i : Nat) => Value.bool (p (i : Int)))).toArray
theorem bcells_get {N k : Nat} {p : ISet} (h : k < N) : (bcells N p)[k]? = some (.bool (p (k : Int))) := by simp [bcells, h]
theorem bcells_size (N : Nat) (p : ISet) : (bcells N p).size = N := by simp [bcells]
theorem bcells_set {N k : Nat} {p : ISet} (h : k < N) (t : Bool) : (bcells N p).setIfInBounds k (.bool t) = bcells N (fun z => if z = (k : Int) then t else p z) := by
 apply Array.ext
 ·simp [bcells]
 ·intro i h1 h2
  simp only [bcells, List.setIfInBounds_toArray, List.getElem_toArray, List.getElem_set, List.getElem_map, List.getElem_range]
  by_cases e : k = i
  ·subst e; simp
  ·have e2 : ((i : Int) = (k : Int)) = False := by simp; omega
   simp [e, e2]
theorem bcells_congr {N : Nat} {p q : ISet} (h : ∀ i : Nat, i < N → p (i : Int) = q (i : Int)) : bcells N p = bcells N q := by
 unfold bcells
 congr 1
 apply List.map_congr_left
 intro i hi
 rw [h i (List.mem_range.1 hi)]
theorem bcells_made (N : Nat) : madeCells #[.bool false] N = bcells N ISet.empty := by
 apply Array.ext_getElem?
 intro i
 by_cases hi : i < N
 ·simp [madeCells, hi, Nat.mod_one, bcells, ISet.empty]
 ·simp [madeCells, hi, bcells, ISet.empty]
abbrev BRow (w : World) (rb N : Nat) (p : ISet) : Prop := Blk w rb 4 (bcells N p)
/-- Integers do not lie in a row of Bools. -/
theorem brow_same {w w' : World} {rb N : Nat} {p : ISet} (h : BRow w rb N p) (hg : w.grownBy w' (some rb)) {a : Addr} {v : Value} (hc : w.cell? a = some v) (hv : ∀ t, v ≠ .bool t) : w'.cell? a = some v := by
 have hlt := World.block_lt_of_cell? w a hc
 by_cases e : a.block = rb
 ·exfalso
  subst e
  have h1 : ∃ q, (bcells N p)[a.off]? = some q ∧ q = v := by
   unfold BRow Blk at h
   unfold World.cell? at hc
   rw [h] at hc
   simp only at hc
   split at hc
   ·cases hc
   ·exact ⟨v, hc, rfl⟩
  obtain ⟨q, h1, rfl⟩ := h1
  rcases Nat.lt_or_ge a.off N with q1 | q1
  ·rw [bcells_get q1] at h1
   injection h1 with h1
   exact hv _ h1.symm
  ·rw [Array.getElem?_eq_none (by rw [bcells_size]; exact q1)] at h1; cases h1
 ·exact (World.cell?_of_block (hg.block a.block hlt (fun q => by injection q with q; exact e q))).trans hc
theorem brow_ints {w w' : World} {rb N B : Nat} {p : ISet} (h : BRow w rb N p) (hg : w.grownBy w' (some rb)) {v : Value} {l : List Int} (hl : IntsV w B v l) : IntsV w' B v l := by
 obtain ⟨A, c, hv, hc, hlm, hq⟩ := hl
 refine ⟨A, c, hv, hc, hlm, fun h0 => ?_⟩
 obtain ⟨b, off, hA, hb, hq⟩ := hq h0
 exact ⟨b, off, hA, hb, fun j x hx => brow_same h hg (hq j x hx) (fun t e => by cases e)⟩
def Add20 (w : World) (rb N : Nat) (q : ISet) (e : Ending) (w' : World) : Prop := e = .returned (.tuple #[]) ∧ BRow w' rb N q ∧ w.grownBy w' (some rb)
set_option maxRecDepth 100000 in
set_option maxHeartbeats 8000000 in
theorem add20_any (w : World) (xv : GVals) (g : GraphP) (rb : Nat) (p : ISet) (lv : Value) (l : List Int) (hg : NodesV w w.heap.size xv.vn g.nodes) (hr : BRow w rb g.nodes.length p) (hl : IntsV w w.heap.size lv l) :
  Calls Tryz.prog 146 #[gval g xv, .slice (some ⟨rb, 0, none⟩) g.nodes.length g.nodes.length, lv] w (Add20 w rb g.nodes.length (p.add g.nodes.length l)) := by
 have HL := Lib.hid hl
 obtain ⟨vn, vb, vs⟩ := xv
 obtain ⟨An, cn, en, _, hln, _⟩ := hg
 simp only at en
 subst en
 have hln2 : g.nodes.length ≤ 17592186044416 := by unfold lim at hln; omega
 obtain ⟨Am, cm, rfl, _, hlm, _⟩ := hl
 have hlm2 : l.length ≤ 17592186044416 := by unfold lim at hlm; omega
 have ee : gval g ⟨.slice An g.nodes.length cn, vb, vs⟩ = .agg #[.int .i64 g.fn, .int .i64 g.pc, .int .i64 g.slots, .slice An g.nodes.length cn, vb, vs] := rfl
 have E0 := Lib.hid ee
 obtain ⟨w1, hw1⟩ : ∃ w1, w1 = w.alloc (.cells #[.int .i64 g.fn, .int .i64 g.pc, .int .i64 g.slots, .slice An g.nodes.length cn, vb, vs] 28) := ⟨_, rfl⟩
 have HK1 : Hid (Blk w1 w.heap.size 28 #[.int .i64 g.fn, .int .i64 g.pc, .int .i64 g.slots, .slice An g.nodes.length cn, vb, vs]) := Lib.hid (by rw [hw1]; exact Blk.new _ _ _)
 have HG1 : Hid (w.grownBy w1 (some rb)) := Lib.hid (by rw [hw1]; exact World.grownBy_alloc _ _ _)
 have HR1 : Hid (BRow w1 rb g.nodes.length p) := Lib.hid (by rw [hw1]; exact hr.alloc _)
 have HR := Lib.hid hr
 have hrl := hr.lt
 clear hr hln hlm ee
 rw [E0.out]
 go_enter Tryz.func146, Tryz.ntmps146
 go_upto_region 1 with fail
 rw [← hw1]
 clear hw1
 go_wp2_with fail
 go_loopw [6] (fun t wr => ∃ (k : Nat), k ≤ l.length ∧ t = .int .i64 k ∧ Hid (BRow wr rb g.nodes.length (p.add g.nodes.length (l.take k))) ∧ Hid (w.grownBy wr (some rb)) ∧ Hid (Blk wr w.heap.size 28 #[.int .i64 g.fn, .int .i64 g.pc, .int .i64 g.slots, .slice An g.nodes.length cn, vb, vs])) (fun t _ => l.length - (intOf t).toNat)
 case atStart => exact ⟨0, Nat.zero_le _, rfl, Lib.hid (by rw [List.take_zero, add_nil]; exact HR1.out), HG1, HK1⟩
 case round =>
  obtain ⟨k, hk, rfl, HRw, HGr, HKr⟩ := hrel
  obtain ⟨wq, rfl⟩ : ∃ wq : World, wq = wr := ⟨_, rfl⟩
  have r3 : wq.cell? ⟨w.heap.size, 3, none⟩ = some (.slice An g.nodes.length cn) := HKr.out.cell 3
  have rl := HKr.out.lt
  by_cases hlt : k < l.length
  ·obtain ⟨b, off, rfl, hbB, hp⟩ := (brow_ints HR.out HGr.out HL.out).cells hlt
   obtain ⟨x, hx⟩ := rget hlt
   have c0 := hp k x hx
   have HX := Lib.hid hx
   clear hp hx
   rcases d1 : decide (0 ≤ x) with _ | _
   ·have D1 := Lib.hid d1
    go_wp2_with go_quiet (fail)
    go_roundw
    case rel => exact ⟨k + 1, by omega, by go_num, Lib.hid (by rw [add_no p _ l k x HX.out (fun h => of_decide_eq_false D1.out h.1)]; exact HRw.out), Lib.hid ⟨HGr.out.os, HGr.out.tape, HGr.out.output, HGr.out.size, HGr.out.block⟩, Lib.hid HKr.out⟩
    case measure => simp [intOf]; omega
   ·rcases d2 : decide (x < (g.nodes.length : Int)) with _ | _
    ·have D2 := Lib.hid d2
     go_wp2_with go_quiet (fail)
     go_roundw
     case rel => exact ⟨k + 1, by omega, by go_num, Lib.hid (by rw [add_no p _ l k x HX.out (fun h => of_decide_eq_false D2.out h.2)]; exact HRw.out), Lib.hid ⟨HGr.out.os, HGr.out.tape, HGr.out.output, HGr.out.size, HGr.out.block⟩, Lib.hid HKr.out⟩
     case measure => simp [intOf]; omega
    ·obtain ⟨m, rfl⟩ : ∃ m : Nat, x = (m : Int) := ⟨x.toNat, by have := of_decide_eq_true d1; omega⟩
     have hm : m < g.nodes.length := by have := of_decide_eq_true d2; omega
     have b0 : wq.cell? ⟨rb, m, none⟩ = some (.bool (p.add g.nodes.length (l.take k) (m : Int))) := (HRw.out.cell m).trans (bcells_get hm)
     have b1 := HRw.out.frozen m
     have b2 := HRw.out.lt
     have HM := Lib.hid hm
     go_wp2_with go_quiet (fail)
     go_roundw
     case rel => exact ⟨k + 1, by omega, by go_num, Lib.hid (by
       have h1 := HRw.out.set_ m (.bool true)
       rw [bcells_set HM.out] at h1
       rw [add_yes p _ l k _ HX.out (by omega) (by omega)]
       have e : bcells g.nodes.length (fun z => if z = (m : Int) then true else p.add g.nodes.length (l.take k) z) = bcells g.nodes.length (fun z => p.add g.nodes.length (l.take k) z || z == (m : Int)) := bcells_congr fun i _ => by
        by_cases e : (i : Int) = (m : Int) <;> simp [e]
       rw [e] at h1
       exact h1), Lib.hid (grown_set (grown_drew HGr.out) _), Lib.hid (HKr.out.far (by simp; omega) _)⟩
     case measure => simp [intOf]; omega
  ·go_wp2_with fail
   refine bodyPost_ret (results_none rfl _ _ _) rfl ?_
   exact ⟨rfl, by have := HRw.out; rwa [List.take_of_length_le (by omega)] at this, HGr.out⟩
def List20 (N : Nat) (p : ISet) (w : World) (e : Ending) (w' : World) : Prop := ∃ v, e = .returned v ∧ OwnInts w' w.heap.size v (listOf N p) ∧ Below w.heap.size w w'
def listTo (p : ISet) (k : Nat) : List Int := ((List.range k).filter (fun (i : Nat) => p (i : Int))).map (fun (i : Nat) => (i : Int))
theorem listTo_succ (p : ISet) (k : Nat) : listTo p (k + 1) = listTo p k ++ (if p (k : Int) = true then [(k : Int)] else []) := by
 unfold listTo
 rw [List.range_succ, List.filter_append, List.map_append]
 by_cases h : p (k : Int) = true <;> simp [h]
set_option maxRecDepth 100000 in
set_option maxHeartbeats 8000000 in
theorem list20_any (w : World) (rb N : Nat) (p : ISet) (hr : BRow w rb N p) (hN : N ≤ 100000000) :
  Calls Tryz.prog 122 #[.slice (some ⟨rb, 0, none⟩) N N] w (List20 N p w) := by
 have HR := Lib.hid hr
 obtain ⟨i0, hi, hz0, hz1, hz2⟩ := info_parts int_info
 have hrl := hr.lt
 clear hr
 go_enter Tryz.func122, Tryz.ntmps122
 go_wp2_with fail
 go_loopw [3, 4] (fun u t wr => ∃ k : Nat, k ≤ N ∧ t = .int .i64 k ∧ Hid (OwnInts wr w.heap.size u (listTo p k)) ∧ Hid (Below w.heap.size w wr)) (fun _ t _ => N - (intOf t).toNat)
 case atStart => exact ⟨0, Nat.zero_le _, rfl, Lib.hid (by simpa [listTo] using OwnInts.nil _ _), Lib.hid (Below.refl _ _)⟩
 case round =>
  obtain ⟨k, hk, rfl, HOw, HB⟩ := hrel
  obtain ⟨wq, rfl⟩ : ∃ wq : World, wq = wr := ⟨_, rfl⟩
  have hbs := HB.out.size
  by_cases hlt : k < N
  ·have HRq := Lib.hid (HR.out.below HB.out hrl)
   have c0 : wq.cell? ⟨rb, k, none⟩ = some (.bool (p (k : Int))) := (HRq.out.cell k).trans (bcells_get hlt)
   have c1 := HRq.out.lt
   rcases d : p (k : Int) with _ | _
   ·have D := Lib.hid d
    rw [d] at c0
    clear d
    go_wp2_with fail
    go_roundw
    case rel => exact ⟨k + 1, by omega, by go_num, Lib.hid (by rw [listTo_succ, if_neg (by rw [D.out]; simp), List.append_nil]; exact HOw.out), HB⟩
    case measure => simp [intOf]; omega
   ·have D := Lib.hid d
    rw [d] at c0
    clear d
    have hlen : (listTo p k).length ≤ 100000000 := by
     unfold listTo
     rw [List.length_map]
     exact Nat.le_trans (List.length_filter_le _ _) (by simp; omega)
    go_wp2_with (at_builtin; refine wpList_append_own_at _ rfl (.tmp 15) (.tmp 17) 34 rfl w.heap.size 3 i0 (.int .i64 0) 1 8 Tryz.underlying34 hi hz0 hz1 hz2 rfl (by decide) _ _ _ rfl (HOw.out.alloc _) ⟨wq.heap.size, 0, none⟩ 1 1 [.int .i64 (k : Int)] rfl rfl (cell_one_new _ _ _) (ints_oneCell .i64 [(k : Int)]) (by unfold maxLen; omega) (by omega) (by simp; omega) ?_; intro v' w5 hown' hgrow _ _)
    go_roundw
    case rel => exact ⟨k + 1, by omega, by go_num, Lib.hid (by rw [listTo_succ, if_pos D.out]; exact OwnInts.snoc hown'), Lib.hid ((HB.out.alloc hbs _).grown hgrow (by simp; omega) (fun q e => (HOw.out.lt q e).1))⟩
    case measure => simp [intOf]; omega
  ·go_wp2_with fail
   go_ret
   exact ⟨_, rfl, by have h1 := HOw.out; rw [show k = N from by omega] at h1; exact h1, HB.out⟩
end Go.Proofs.YtkmfdiboekoioaaGreat

/- The args of the phis of a block that are for one block, as the reference 20 lists them. Conditions: a small graph that lies in memory. -/
namespace Go.Proofs.YtkmfdiboekoioaaGreat
open Go.RowKit
theorem phiArgs_all (ahead : List Int) (b : Int) (args : List Int) : ∀ (d j : Nat), j + d = args.length → ahead.length ≤ j → phiArgs ahead b (args.take j) = phiArgs ahead b args
 | 0, j, h, _ => by rw [List.take_of_length_le (by omega)]
 | d + 1, j, h, ha => by
  obtain ⟨a, hj⟩ := getE (l := args) (k := j) (by omega)
  have := phiArgs_take ahead b args j a hj
  rw [List.getElem?_eq_none ha, if_neg (by simp), List.append_nil] at this
  rw [← this]
  exact phiArgs_all ahead b args d (j + 1) (by omega) (by omega)
set_option maxRecDepth 100000 in
set_option maxHeartbeats 8000000 in
theorem phis20_any (w : World) (xv : GVals) (g : GraphP) (o : Nat) (x : BlockP) (b : Int) (hg : GraphV w w.heap.size xv g) (hs : Small g) (hx : g.blocks[o]? = some x) :
  Calls Tryz.prog 147 #[gval g xv, .int .i64 (o : Int), .int .i64 b] w (PhisIs g x b w) := by
 have HG := Lib.hid hg
 obtain ⟨vn, vb, vs⟩ := xv
 obtain ⟨⟨An, cn, en, _, hln, _⟩, ⟨Ab, cb, eb, _, hlb, hqb⟩, ⟨As, cs, es, _⟩⟩ := hg
 simp only at en eb es
 subst en eb es
 have hol : o < g.blocks.length := (List.getElem?_eq_some_iff.1 hx).1
 obtain ⟨bb, ob, rfl, hbb, hqb⟩ := hqb (by omega)
 obtain ⟨l1, l2, l3⟩ := hs.lens
 obtain ⟨m1, m2, m3, m4⟩ := hs.block hx
 have ee : gval g ⟨.slice An g.nodes.length cn, .slice (some ⟨bb, ob, none⟩) g.blocks.length cb, .slice As g.states.length cs⟩ = .agg #[.int .i64 g.fn, .int .i64 g.pc, .int .i64 g.slots, .slice An g.nodes.length cn, .slice (some ⟨bb, ob, none⟩) g.blocks.length cb, .slice As g.states.length cs] := rfl
 have E0 := Lib.hid ee; clear ee
 obtain ⟨w0, hw0⟩ : ∃ w0, w0 = w.alloc (.cells #[.int .i64 g.fn, .int .i64 g.pc, .int .i64 g.slots, .slice An g.nodes.length cn, .slice (some ⟨bb, ob, none⟩) g.blocks.length cb, .slice As g.states.length cs] 28) := ⟨_, rfl⟩
 have HB0 : Hid (Below w.heap.size w w0) := Lib.hid (by rw [hw0]; exact (Below.refl _ _).alloc (Nat.le_refl _) _)
 have hk0 : Blk w0 w.heap.size 28 #[.int .i64 g.fn, .int .i64 g.pc, .int .i64 g.slots, .slice An g.nodes.length cn, .slice (some ⟨bb, ob, none⟩) g.blocks.length cb, .slice As g.states.length cs] := by rw [hw0]; exact Blk.new _ _ _
 have hz0' : w0.heap.size = w.heap.size + 1 := by rw [hw0]; simp
 obtain ⟨⟨v0, f0, hv0⟩, f1, ⟨v2, f2, hv2⟩, ⟨v3, f3, hv3⟩, ⟨v4, f4, hv4⟩, f5⟩ := (hqb o x hx).keep (Same.of_below HB0.out) hbb
 have HV0 := Lib.hid hv0; have HV4 := Lib.hid hv4
 obtain ⟨A0, c0, rfl, _, _, _⟩ := hv0
 obtain ⟨A2, c2, rfl, _, _, _⟩ := hv2
 obtain ⟨A3, c3, rfl, _, _, _⟩ := hv3
 obtain ⟨A4, c4, rfl, _, _, _⟩ := hv4
 obtain ⟨w1, hw1⟩ : ∃ w1, w1 = w0.alloc (.cells #[.slice A0 x.nodes.length c0, .int .u8 x.fin, .slice A2 x.args.length c2, .slice A3 x.next.length c3, .slice A4 x.ahead.length c4, .int .i64 x.state] 41) := ⟨_, rfl⟩
 have hb01 : Below w0.heap.size w0 w1 := by rw [hw1]; exact (Below.refl _ _).alloc (Nat.le_refl _) _
 have HK0 := Lib.hid (hk0.below hb01 hk0.lt)
 have HK1 : Hid (Blk w1 (w.heap.size + 1) 41 #[.slice A0 x.nodes.length c0, .int .u8 x.fin, .slice A2 x.args.length c2, .slice A3 x.next.length c3, .slice A4 x.ahead.length c4, .int .i64 x.state]) := Lib.hid (by rw [hw1, ← hz0']; exact Blk.new _ _ _)
 have HB1 : Hid (Below w.heap.size w w1) := Lib.hid (HB0.out.trans (hb01.mono HB0.out.size))
 have HZ1 : Hid (w1.heap.size = w.heap.size + 2) := Lib.hid (by rw [hw1]; simp; omega)
 have HV0' := Lib.hid (HV0.out.later (hb01.mono (by omega)) (Nat.le_of_lt (by omega : w.heap.size < w0.heap.size)))
 have HV4' := Lib.hid (HV4.out.later (hb01.mono (by omega)) (Nat.le_of_lt (by omega : w.heap.size < w0.heap.size)))
 have HG1 := Lib.hid (GraphV.later HG.out HB1.out (Nat.le_refl _))
 obtain ⟨i0, hi, hz0, hz1, hz2⟩ := info_parts int_info
 have HX := Lib.hid hx
 have q4 : w0.cell? ⟨w.heap.size, 4, none⟩ = some (.slice (some ⟨bb, ob, none⟩) g.blocks.length cb) := hk0.cell 4
 have ql := hk0.lt
 clear hk0 hb01 hqb hlb hln hx HV0 HV4
 rw [E0.out]
 go_enter Tryz.func147, Tryz.ntmps147
 go_upto_region 2 with fail
 rw [← hw0]
 clear hw0
 have HZ0 := Lib.hid hz0'
 clear hz0'
 go_upto_region 3 with fail
 rw [← hw1]
 rw [HZ0.out]
 clear hw1 q4 ql f0 f1 f2 f3 f4 f5
 go_wp2_with fail
 go_loopw [7, 9] (fun v i wr => ∃ k : Nat, k ≤ x.nodes.length ∧ i = .int .i64 k ∧ Hid (OwnInts wr w1.heap.size v (phisTo g x b k)) ∧ Hid (Below w1.heap.size w1 wr)) (fun _ i _ => x.nodes.length - (intOf i).toNat)
 case atStart => exact ⟨0, Nat.zero_le _, rfl, Lib.hid (by simpa [phisTo] using OwnInts.nil _ _), Lib.hid (Below.refl _ _)⟩
 case round =>
  obtain ⟨k, hk, rfl, HOwn, HB⟩ := hrel
  obtain ⟨wo, rfl⟩ : ∃ wo : World, wo = wr := ⟨_, rfl⟩
  have HKG := Lib.hid (HK0.out.below HB.out HK0.out.lt)
  have HKB := Lib.hid (HK1.out.below HB.out HK1.out.lt)
  have q3 : wo.cell? ⟨w.heap.size, 3, none⟩ = some (.slice An g.nodes.length cn) := HKG.out.cell 3
  have ql := HKG.out.lt
  have p0 : wo.cell? ⟨w.heap.size + 1, 0, none⟩ = some (.slice A0 x.nodes.length c0) := HKB.out.cell 0
  have p4 : wo.cell? ⟨w.heap.size + 1, 4, none⟩ = some (.slice A4 x.ahead.length c4) := HKB.out.cell 4
  have pl := HKB.out.lt
  by_cases hlt : k < x.nodes.length
  ·obtain ⟨bn, offn, rfl, _, hpn⟩ := (HV0'.out.keep (Same.of_below HB.out)).cells hlt
   obtain ⟨z, hz⟩ := getE hlt
   have e0 := hpn k z hz
   have HZ := Lib.hid hz
   clear hz hpn
   rcases d1 : decide (z < 0) with _ | _
   rotate_left
   ·have D1 := Lib.hid d1
    go_wp2_with fail
    go_roundw
    case rel => exact ⟨k + 1, by omega, by go_num, Lib.hid (by rw [phisTo_step g x b k z HZ.out, phiPart_none (nodeAt_neg (of_decide_eq_true D1.out)), List.append_nil]; exact HOwn.out), HB⟩
    case measure => simp [intOf]; omega
   ·obtain ⟨zk, rfl⟩ : ∃ m : Nat, z = (m : Int) := ⟨z.toNat, by have := of_decide_eq_false d1; omega⟩
    rcases d2 : decide (g.nodes.length ≤ zk) with _ | _
    rotate_left
    ·have D2 := Lib.hid d2
     have d2' : decide ((g.nodes.length : Int) ≤ (zk : Int)) = true := by simpa using d2
     go_wp2_with fail
     go_roundw
     case rel => exact ⟨k + 1, by omega, by go_num, Lib.hid (by rw [phisTo_step g x b k _ HZ.out, phiPart_none ((nodeAt_nat g zk).trans (List.getElem?_eq_none (of_decide_eq_true D2.out))), List.append_nil]; exact HOwn.out), HB⟩
     case measure => simp [intOf]; omega
    ·have h1 : zk < g.nodes.length := by have := of_decide_eq_false d2; omega
     have d2' : decide ((g.nodes.length : Int) ≤ (zk : Int)) = false := by simpa using d2
     obtain ⟨Am, cm, em, _, _, hqn⟩ := GraphV.keep HG1.out (Same.of_below HB.out) |>.1
     obtain ⟨bm, offm, em2, hbmB, hqn⟩ := hqn (by omega)
     simp only at em
     injection em with em3 em4 em5
     rw [em2] at em3
     subst em3
     obtain ⟨y, hy⟩ := getE h1
     obtain ⟨g0, ⟨vg, g1, hvg⟩, _, _, _⟩ := hqn zk y hy
     have HVG := Lib.hid hvg
     obtain ⟨Ag, cg, rfl, _, _, _⟩ := hvg
     have m5 := hs.node hy
     have HY := Lib.hid hy
     clear hy hqn em4 em5 em2
     rcases ho : (y.op != 2) with _ | _
     rotate_left
     ·have HO := Lib.hid ho
      go_wp2_with fail
      go_roundw
      case rel => exact ⟨k + 1, by omega, by go_num, Lib.hid (by rw [phisTo_step g x b k _ HZ.out, phiPart_other ((nodeAt_nat g zk).trans HY.out) (by simpa using HO.out), List.append_nil]; exact HOwn.out), HB⟩
      case measure => simp [intOf]; omega
     ·have HO : Hid (y.op = 2) := Lib.hid (by simpa using ho)
      go_wp2_with fail
      have HBm := Lib.hid hbmB
      clear q3 ql p0 p4 pl e0 g0 hbmB
      have HG1w := Lib.hid g1
      clear g1
      go_loopw [7, 11] (fun v i wr => ∃ j : Nat, j ≤ x.ahead.length ∧ i = .int .i64 j ∧ Hid (OwnInts wr w1.heap.size v (phisTo g x b k ++ phiArgs x.ahead b (y.args.take j))) ∧ Hid (Below w1.heap.size w1 wr) ∧ Hid (Below w1.heap.size wo wr)) (fun _ i _ => x.ahead.length - (intOf i).toNat)
      case atStart => exact ⟨0, Nat.zero_le _, rfl, Lib.hid (by simpa [phiArgs] using HOwn.out), HB, Lib.hid (Below.refl _ _)⟩
      case round =>
       obtain ⟨j, hj, rfl, HOwn2, HB2, HBo⟩ := hrel
       have HKG2 := Lib.hid (HK0.out.below HB2.out HK0.out.lt)
       have HKB2 := Lib.hid (HK1.out.below HB2.out HK1.out.lt)
       have q3 : wr.cell? ⟨w.heap.size, 3, none⟩ = some (.slice (some ⟨bm, offm, none⟩) g.nodes.length cn) := HKG2.out.cell 3
       have ql := HKG2.out.lt
       have p4 : wr.cell? ⟨w.heap.size + 1, 4, none⟩ = some (.slice A4 x.ahead.length c4) := HKB2.out.cell 4
       have pl := HKB2.out.lt
       have g1 : wr.cell? ⟨bm, offm + zk * 5 + 1, none⟩ = some (.slice Ag y.args.length cg) := (HBo.out.cell (p := ⟨bm, offm + zk * 5 + 1, none⟩) HBm.out).trans HG1w.out
       have hsz := HB2.out.size
       by_cases hja : j < x.ahead.length
       ·by_cases hjl : j < y.args.length
        ·obtain ⟨ba, offa, rfl, _, hpa⟩ := (HVG.out.keep (Same.of_below HBo.out)).cells hjl
         obtain ⟨a, ha⟩ := getE hjl
         have e2 := hpa j a ha
         have HA := Lib.hid ha
         clear ha hpa
         obtain ⟨bh, offh, rfl, _, hph⟩ := (HV4'.out.keep (Same.of_below HB2.out)).cells hja
         obtain ⟨c, hc⟩ := getE hja
         have e3 := hph j c hc
         have HC := Lib.hid hc
         clear hc hph
         rcases hcb : (c == b) with _ | _
         ·have HCB := Lib.hid hcb
          go_wp2_with fail
          go_roundw
          case rel => exact ⟨j + 1, by omega, by go_num, Lib.hid (by rw [phiArgs_take x.ahead b y.args j a HA.out, HC.out, if_neg (fun q => by injection q with q; have := HCB.out; simp [q] at this), List.append_nil]; exact HOwn2.out), HB2, HBo⟩
          case measure => simp [intOf]; omega
         ·have HCB : Hid (c = b) := Lib.hid (by simpa using hcb)
          have hlen : (phisTo g x b k ++ phiArgs x.ahead b (y.args.take j)).length ≤ 30000000 := by
           rw [List.length_append]
           have i1 := phisTo_len hs x b k
           have i2 := phiArgs_len x.ahead b (y.args.take j)
           rw [List.length_take] at i2
           omega
          go_wp2_with (at_builtin; refine wpList_append_own_at _ rfl (.tmp 72) (.tmp 82) 34 rfl w1.heap.size 3 i0 (.int .i64 0) 1 8 Tryz.underlying34 hi hz0 hz1 hz2 rfl (by decide) _ _ _ rfl (HOwn2.out.alloc _) ⟨wr.heap.size, 0, none⟩ 1 1 [.int .i64 a] rfl rfl (cell_one_new _ _ _) (ints_oneCell .i64 [a]) (by unfold maxLen; omega) (by omega) (by simp; omega) ?_; intro v' w5 hown' hgrow _ _)
          go_roundw
          case rel => exact ⟨j + 1, by omega, by go_num, Lib.hid (by rw [phiArgs_take x.ahead b y.args j a HA.out, HC.out, if_pos (by rw [HCB.out]), ← List.append_assoc]; exact OwnInts.snoc hown'), Lib.hid ((HB2.out.alloc hsz _).grown hgrow (by simp; omega) (fun q e => (HOwn2.out.lt q e).1)), Lib.hid ((HBo.out.alloc hsz _).grown hgrow (by simp; omega) (fun q e => (HOwn2.out.lt q e).1))⟩
          case measure => simp [intOf]; omega
        ·have dj : decide (j < y.args.length) = false := decide_eq_false hjl
         go_wp2_with fail
         go_roundw
         case rel => exact ⟨k + 1, by omega, by go_num, Lib.hid (by rw [phisTo_step g x b k _ HZ.out, phiPart_phi ((nodeAt_nat g zk).trans HY.out) HO.out]; have := HOwn2.out; rwa [List.take_of_length_le (by omega)] at this), HB2⟩
         case measure => simp [intOf]; omega
       ·go_wp2_with fail
        go_roundw
        case rel => exact ⟨k + 1, by omega, by go_num, Lib.hid (by
          rw [phisTo_step g x b k _ HZ.out, phiPart_phi ((nodeAt_nat g zk).trans HY.out) HO.out]
          have := HOwn2.out
          rcases Nat.lt_or_ge j y.args.length with q | q
          ·rwa [phiArgs_all x.ahead b y.args (y.args.length - j) j (by omega) (by omega)] at this
          ·rwa [List.take_of_length_le q] at this), HB2⟩
        case measure => simp [intOf]; omega
  ·go_wp2_with fail
   go_ret
   exact ⟨_, rfl, by have h1 := HOwn.out; rw [show k = x.nodes.length from by omega, phisTo_all] at h1; exact h1.mono (by have := HZ1.out; omega), HB1.out.trans (HB.out.mono (by have := HZ1.out; omega))⟩
end Go.Proofs.YtkmfdiboekoioaaGreat
