/- The walk of alloc.order. Conditions: a graph that is small. -/
import Derived.Test.YtkmfdiboekoioaaGreatCOrder
set_option linter.unusedSimpArgs false
set_option linter.unusedVariables false
namespace Go.Proofs.YtkmfdiboekoioaaGreat
open Go.RowKit

noncomputable def abOf (g : GraphP) (b : Nat) : List Int := aboveTo g b g.blocks.length
theorem abOf_in (g : GraphP) (b : Nat) : ∀ a ∈ abOf g b, 0 ≤ a ∧ a < (g.blocks.length : Int) := fun a ha => by
 obtain ⟨k, hk, rfl, _⟩ := mem_aboveTo.1 ha
 omega
theorem abOf_len (g : GraphP) (b : Nat) : (abOf g b).length ≤ g.blocks.length := aboveTo_len _ _ _
noncomputable def ordAll (g : GraphP) (k : Nat) : OSt := (List.range k).foldl (fun s b => ordB g (abOf g) (g.blocks.length + 1) s b) ⟨ISet.empty, []⟩
theorem ordAll_step (g : GraphP) (k : Nat) : ordAll g (k + 1) = ordB g (abOf g) (g.blocks.length + 1) (ordAll g k) k := by
 unfold ordAll; rw [List.range_succ, List.foldl_append]; rfl
theorem ordAll_ok {g : GraphP} (hs : Small g) : ∀ k, k ≤ g.blocks.length → OOk g (ordAll g k)
 | 0, _ => ⟨empty_bounded _, by simp [ordAll]⟩
 | k + 1, h => by
  rw [ordAll_step]
  have h1 := ordAll_ok hs k (by omega)
  exact (ordB_go hs (abOf_in g) _ _ k (by omega) h1.bound).ok h1
def natsTo (k : Nat) : List Int := (List.range k).map (fun (i : Nat) => (i : Int))
theorem natsTo_succ (k : Nat) : natsTo (k + 1) = natsTo k ++ [(k : Int)] := by simp [natsTo, List.range_succ]
theorem natsTo_len (k : Nat) : (natsTo k).length = k := by simp [natsTo]
noncomputable def orderOf (g : GraphP) : List Int := (ordAll g g.blocks.length).out ++ natsTo g.nodes.length

/-- The memory of alloc.order where its loops begin. -/
theorem order_first {w w1 : World} {g : GraphP} {xv : GVals} {vA : Value} {AB : List (List Int)} (hg : GraphV w w.heap.size xv g)
  (hb : Below ((w.alloc (.cells (gbox g xv) 28)).alloc (.cells #[.slice none 0 0] 34)).heap.size ((w.alloc (.cells (gbox g xv) 28)).alloc (.cells #[.slice none 0 0] 34)) w1)
  (hr : RowsA (w.heap.size + 1 + 1) w1.heap.size w1 vA AB) :
  ∃ w2, w2 = ((((w1.alloc (.cells #[vA] 42)).alloc (.map #[] 0)).alloc (.cells #[.map (some (w1.heap.size + 1))] 76)).alloc
    (.cells #[.func (.func 77) #[] #[.pointer (some ⟨w1.heap.size + 1 + 1, 0, none⟩), .pointer (some ⟨w1.heap.size, 0, none⟩), .pointer (some ⟨w1.heap.size + 1 + 1 + 1, 0, none⟩), .pointer (some ⟨w.heap.size + 1, 0, none⟩), .pointer (some ⟨w.heap.size, 0, none⟩)]] 123)) ∧
   OMem ⟨w.heap.size, w.heap.size, w1.heap.size + 1 + 1, w1.heap.size, w1.heap.size + 1 + 1 + 1, w.heap.size + 1, w1.heap.size + 1, w.heap.size + 1 + 1, w1.heap.size, w2.heap.size, vA⟩ xv g AB w2 ⟨ISet.empty, []⟩ ∧ Below w.heap.size w w2 := by
 have hz := hb.size
 rw [World.size_alloc, World.size_alloc] at hz
 have hA : Below w.heap.size w ((w.alloc (.cells (gbox g xv) 28)).alloc (.cells #[.slice none 0 0] 34)) := ((Below.refl _ _).alloc (Nat.le_refl _) _).alloc (by simp) _
 have h12 : Below w1.heap.size w1 ((((w1.alloc (.cells #[vA] 42)).alloc (.map #[] 0)).alloc (.cells #[.map (some (w1.heap.size + 1))] 76)).alloc
    (.cells #[.func (.func 77) #[] #[.pointer (some ⟨w1.heap.size + 1 + 1, 0, none⟩), .pointer (some ⟨w1.heap.size, 0, none⟩), .pointer (some ⟨w1.heap.size + 1 + 1 + 1, 0, none⟩), .pointer (some ⟨w.heap.size + 1, 0, none⟩), .pointer (some ⟨w.heap.size, 0, none⟩)]] 123)) :=
  ((((Below.refl _ _).alloc (Nat.le_refl _) _).alloc (by simp) _).alloc (by simp; omega) _).alloc (by simp; omega) _
 have hw := (hA.trans (hb.mono (by simp; omega))).trans (h12.mono (by omega))
 have hA2 := hb.trans (h12.mono (by simp; omega))
 refine ⟨_, rfl, ⟨⟨hg.keep (Same.of_below hw), hw.size, ?_⟩, ?_, ?_, hr.keep (fun k _ h2 => h12.block k h2), ?_, ?_, ⟨.slice none 0 0, ?_, OwnInts.nil _ _⟩, ?_, Nat.le_refl _⟩, hw⟩
 ·exact ((Blk.new w 28 (gbox g xv)).alloc _).below hA2 (by simp; omega)
 ·have := (Blk.new ((w1.alloc (.cells #[vA] 42)).alloc (.map #[] 0)) 76 #[.map (some (w1.heap.size + 1))]).alloc (.cells #[.func (.func 77) #[] #[.pointer (some ⟨w1.heap.size + 1 + 1, 0, none⟩), .pointer (some ⟨w1.heap.size, 0, none⟩), .pointer (some ⟨w1.heap.size + 1 + 1 + 1, 0, none⟩), .pointer (some ⟨w.heap.size + 1, 0, none⟩), .pointer (some ⟨w.heap.size, 0, none⟩)]] 123)
  simpa using this
 ·exact (((Blk.new w1 42 #[vA]).alloc _).alloc _).alloc _
 ·have := Blk.new (((w1.alloc (.cells #[vA] 42)).alloc (.map #[] 0)).alloc (.cells #[.map (some (w1.heap.size + 1))] 76)) 123 #[.func (.func 77) #[] #[.pointer (some ⟨w1.heap.size + 1 + 1, 0, none⟩), .pointer (some ⟨w1.heap.size, 0, none⟩), .pointer (some ⟨w1.heap.size + 1 + 1 + 1, 0, none⟩), .pointer (some ⟨w.heap.size + 1, 0, none⟩), .pointer (some ⟨w.heap.size, 0, none⟩)]]
  simpa using this
 ·have := ((IMap.made (w1.alloc (.cells #[vA] 42))).alloc (.cells #[.map (some (w1.heap.size + 1))] 76)).alloc (.cells #[.func (.func 77) #[] #[.pointer (some ⟨w1.heap.size + 1 + 1, 0, none⟩), .pointer (some ⟨w1.heap.size, 0, none⟩), .pointer (some ⟨w1.heap.size + 1 + 1 + 1, 0, none⟩), .pointer (some ⟨w.heap.size + 1, 0, none⟩), .pointer (some ⟨w.heap.size, 0, none⟩)]] 123)
  unfold SetM
  show IMap _ _ (setF ISet.empty)
  rw [setF_empty]
  simpa using this
 ·have := Blk.new (w.alloc (.cells (gbox g xv) 28)) 34 #[.slice none 0 0]
  rw [World.size_alloc] at this
  exact this.below hA2 (by simp)
 ·refine ⟨?_, ?_, ?_, ?_, ?_, ?_, ?_, ?_, ?_, ?_, ?_, ?_, ?_, ?_, ?_⟩
  all_goals (simp only [World.size_alloc]; omega)
def OrderIs (g : GraphP) (w : World) (e : Ending) (w' : World) : Prop := ∃ v, e = .returned v ∧ OwnInts w' w.heap.size v (orderOf g) ∧ Below w.heap.size w w'
set_option maxRecDepth 100000 in
set_option maxHeartbeats 8000000 in
theorem order_any (w : World) (g : GraphP) (xv : GVals) (hs : Small g) (hg : GraphV w w.heap.size xv g) : Calls Tryz.prog 32 #[gval g xv] w (OrderIs g w) := by
 have hmm := @run_makeMap Tryz.prog
 obtain ⟨vn, vb, vs⟩ := xv
 have HG := Lib.hid hg
 obtain ⟨hn, hb, _⟩ := hg
 simp only at hn hb
 obtain ⟨Ab, cb, rfl, _, _, _⟩ := hb
 obtain ⟨An, cn, rfl, _, _, _⟩ := hn
 obtain ⟨l1, l2, l3⟩ := hs.lens
 unfold gval
 go_enter Tryz.func32, Tryz.ntmps32
 go_upto_region 2 with (go_at_call 14; refine (above_any _ g ⟨.slice An g.nodes.length cn, .slice Ab g.blocks.length cb, vs⟩ hs (HG.out.later (((Below.refl w.heap.size w).alloc (Nat.le_refl _) _).alloc (by simp) _) (Nat.le_refl _))).mono ?_; rintro e w1 ⟨vA, rfl, hr1, hb1⟩; have HR1 := Lib.hid hr1; have HB1 := Lib.hid hb1; obtain ⟨bA, offA, cA, rfl, _⟩ := hr1; clear hb1)
 have HR2 : Hid (RowsA (w.heap.size + 1 + 1) w1.heap.size w1 (.slice (some ⟨bA, offA, none⟩) g.blocks.length cA) ((List.range g.blocks.length).map (abOf g))) := Lib.hid (by
  have := HR1.out
  rw [List.length_map, List.length_range, World.size_alloc, World.size_alloc] at this
  exact this)
 obtain ⟨w2, hw2, hm2, hb2⟩ := order_first HG.out HB1.out HR2.out
 obtain ⟨o, ho⟩ : ∃ o : ONums, o = ⟨w.heap.size, w.heap.size, w1.heap.size + 1 + 1, w1.heap.size, w1.heap.size + 1 + 1 + 1, w.heap.size + 1, w1.heap.size + 1, w.heap.size + 1 + 1, w1.heap.size, w2.heap.size, .slice (some ⟨bA, offA, none⟩) g.blocks.length cA⟩ := ⟨_, rfl⟩
 have HO := Lib.hid ho
 rw [← ho] at hm2
 have HM2 := Lib.hid hm2; have HB2 := Lib.hid hb2
 have HZ1 : Hid (w.heap.size ≤ w1.heap.size) := Lib.hid (by have := HB1.out.size; rw [World.size_alloc, World.size_alloc] at this; omega)
 clear hm2 hb2 ho
 go_upto_region 5 with fail
 rw [← hw2]
 clear hw2 hmm HR1 HR2 HB1
 have f3 : w2.cell? ⟨w.heap.size, 4, none⟩ = some (.slice Ab g.blocks.length cb) := by have := HM2.out.cells.2.2.2; rw [HO.out] at this; exact this
 go_wp2_with fail
 clear f3
 go_loopw [15] (fun i wr => ∃ k : Nat, i = .int .i64 k ∧ k ≤ g.blocks.length ∧ Hid (OMem o ⟨.slice An g.nodes.length cn, .slice Ab g.blocks.length cb, vs⟩ g ((List.range g.blocks.length).map (abOf g)) wr (ordAll g k)) ∧ Hid (TurnB o.base w2 wr [o.bo, o.r])) (fun i _ => g.blocks.length - (intOf i).toNat)
 case atStart => exact ⟨0, rfl, Nat.zero_le _, HM2, Lib.hid (TurnB.refl _ _ _)⟩
 case round =>
  obtain ⟨k, rfl, hk, HM, HT⟩ := hrel
  by_cases hlt : k < g.blocks.length
  ·have d0 := HM.out.cells.2.2.1
   rw [HO.out] at d0
   simp only at d0
   have HBA : Hid (∀ W, W = wr → Calls Tryz.prog 77 #[.int .i64 k, .pointer (some ⟨w1.heap.size + 1 + 1, 0, none⟩), .pointer (some ⟨w1.heap.size, 0, none⟩), .pointer (some ⟨w1.heap.size + 1 + 1 + 1, 0, none⟩), .pointer (some ⟨w.heap.size + 1, 0, none⟩), .pointer (some ⟨w.heap.size, 0, none⟩)] W (OrdIs o ⟨.slice An g.nodes.length cn, .slice Ab g.blocks.length cb, vs⟩ g (abOf g) (ordAll g (k + 1)) W)) := Lib.hid (fun W e => by
    subst e
    have := block_any o _ g (abOf g) hs (abOf_in g) (fun b => by have := abOf_len g b; omega) (g.blocks.length + 1) (ordAll g k) k W (by have := abOf_len g k; omega) hlt (ordAll_ok hs k hk) HM.out
    rw [ordAll_step]
    rw [HO.out] at this ⊢
    exact this)
   go_wp2_with (go_at_call 77; refine (HBA.out _ rfl).mono ?_; rintro e w3 ⟨rfl, hm3, ht3⟩; have HM3 := Lib.hid hm3; have HT3 := Lib.hid ht3; clear hm3 ht3 d0)
   go_roundw
   case rel => exact ⟨k + 1, by go_num, by omega, HM3, Lib.hid (HT.out.trans HT3.out)⟩
   case measure => simp [intOf]; omega
  ·have e : k = g.blocks.length := by omega
   subst e
   have d1 : wr.cell? ⟨w.heap.size, 3, none⟩ = some (.slice An g.nodes.length cn) := by have := HM.out.gr.cells.2.2.2.1; rw [HO.out] at this; exact this
   have HL1 : Hid ((ordAll g g.blocks.length).out.length ≤ 25000000) := Lib.hid (by
    have h1 := (ordAll_ok hs g.blocks.length (Nat.le_refl _)).len
    have h2 := card_le g.blocks.length (ordAll g g.blocks.length).seen
    have : 5000 * card g.blocks.length (ordAll g g.blocks.length).seen ≤ 5000 * 5000 := Nat.mul_le_mul_left _ (by omega)
    omega)
   obtain ⟨i0, hinf, hz0, hz1, hz2⟩ := info_parts int_info
   go_wp2_with fail
   clear d1
   obtain ⟨wp, rfl⟩ : ∃ wp : World, wp = wr := ⟨_, rfl⟩
   go_loopw [25] (fun i wr => ∃ k : Nat, i = .int .i64 k ∧ k ≤ g.nodes.length ∧ Hid (OMem o ⟨.slice An g.nodes.length cn, .slice Ab g.blocks.length cb, vs⟩ g ((List.range g.blocks.length).map (abOf g)) wr ⟨(ordAll g g.blocks.length).seen, (ordAll g g.blocks.length).out ++ natsTo k⟩) ∧ Hid (TurnB o.base w2 wr [o.bo, o.r])) (fun i _ => g.nodes.length - (intOf i).toNat)
   case atStart => exact ⟨0, rfl, Nat.zero_le _, Lib.hid (by have := HM.out; simpa [natsTo] using this), HT⟩
   case round =>
    obtain ⟨k, rfl, hk, HM4, HT4⟩ := hrel
    obtain ⟨vo, hv1, hv2⟩ := HM4.out.out
    obtain ⟨Av, nv, cv, rfl⟩ := OwnInts.form hv2
    have HV1 := Lib.hid hv1; have HV2 := Lib.hid hv2
    have c0 := hv1.cell
    rw [HO.out] at c0
    simp only at c0
    have hl : ((ordAll g g.blocks.length).out ++ natsTo k).length = (ordAll g g.blocks.length).out.length + k := by rw [List.length_append, natsTo_len]
    have HLk := Lib.hid hl
    clear hv1 hv2 hl
    by_cases hlt2 : k < g.nodes.length
    ·have hbs := HM4.out.base
     go_wp2_with (at_builtin; refine wpList_append_own _ rfl _ _ 34 rfl o.base 3 i0 (.int .i64 0) 1 8 Tryz.underlying34 hinf hz0 hz1 hz2 rfl (by decide) _ _ _ rfl (World.ownsRow.alloc HV2.out _) ⟨wr.heap.size, 0, none⟩ 1 1 [.int .i64 k] rfl rfl (cell_one_new _ _ _) (by simp [Value.oneCell']) (by have := HLk.out; have := HL1.out; unfold maxLen; simp only at *; omega) (by have := HLk.out; have := HL1.out; simp only at *; omega) (by simp; omega) ?_; intro v' w4 hown' hgrow _; obtain ⟨g', cap', rfl⟩ := ownsRow_succ hown'; obtain ⟨b1, hm4, ht4⟩ := (HM4.out.below ((Below.refl _ _).alloc (Nat.le_refl _) _)).out_ (HV1.out.alloc _) (World.ownsRow.alloc HV2.out _) (OwnInts.snoc hown') hgrow; have HM5 := Lib.hid hm4; have HT5 := Lib.hid ht4; have c1 := b1.cell; have c2 := b1.frozen; rw [HO.out] at c1 c2; simp only at c1 c2; clear hown' hgrow hm4 ht4 b1)
     go_roundw
     case rel =>
      refine ⟨k + 1, by go_num, by omega, Lib.hid ?_, Lib.hid ?_⟩
      ·have := HM5.out
       simp only at this
       rw [List.append_assoc, ← natsTo_succ] at this
       rw [HO.out] at this ⊢
       simp only [List.length_append] at this ⊢
       exact this
      ·have := (HT4.out.trans (TurnB.of_below (((Below.refl _ wr).alloc (Nat.le_refl _) _).mono HM4.out.base))).trans (HT5.out.mono (Nat.le_refl _) (fun r hr => .inl (by simp only [List.mem_cons, List.not_mem_nil, or_false] at hr; simp [hr])))
       rw [HO.out] at this ⊢
       simp only [List.length_append] at this ⊢
       exact this
     case measure => simp [intOf]; omega
    ·have e : k = g.nodes.length := by omega
     subst e
     have c2 := HV1.out.frozen
     rw [HO.out] at c2
     simp only at c2
     go_wp2_with fail
     refine bodyPost_ret (v := .slice Av nv cv) ?_ rfl ?_
     ·have hfr : (Tryz.f32).results = #[.cell 2 34] := rfl
      simp only [results, hfr]
      go_simp
     ·have h1 : w.heap.size ≤ o.base := by rw [HO.out]; exact HB2.out.size
      have hb : Below w.heap.size w2 wr := by
       have t := HT4.out
       have hz := HZ1.out
       refine ⟨t.os, t.tape, t.output, t.size, fun j hj => t.block j (by omega) ?_⟩
       rw [HO.out]
       simp only [List.mem_cons, List.not_mem_nil, or_false, not_or]
       omega
      refine ⟨_, rfl, ?_, (HB2.out.trans hb).setCell (p := ⟨w.heap.size + 1, 0, none⟩) (show w.heap.size ≤ w.heap.size + 1 by omega) _⟩
      refine OwnInts.mono (World.ownsRow.kept HV2.out (grownBy_setCell' wr (w.heap.size + 1) _) ?_) h1
      have := HV1.out.not_row (by decide) HV2.out
      rw [HO.out] at this
      exact .inr this.symm
end Go.Proofs.YtkmfdiboekoioaaGreat

/- What alloc.sound asks of numbers: are they nodes, slots, blocks, states. Conditions: the graph's box holds what it should. -/
namespace Go.Proofs.YtkmfdiboekoioaaGreat
open Go.RowKit

theorem isNode_any (w : World) (bx : Nat) (n : Int) (An : Option Addr) (N cn : Nat) (hbox : w.cell? ⟨bx, 3, none⟩ = some (.slice An N cn)) (t : Bool) (ht : t = true ↔ 0 ≤ n ∧ n < (N : Int)) :
  Calls Tryz.prog 67 #[.int .i64 n, .pointer (some ⟨bx, 0, none⟩)] w (fun e w' => e = .returned (.bool t) ∧ w' = w) := by
 by_cases h0 : 0 ≤ n
 ·by_cases h1 : n < (N : Int)
  ·obtain rfl : t = true := ht.2 ⟨h0, h1⟩
   clear ht
   go_enter Tryz.func67, Tryz.ntmps67
   go_wp2_with fail
   go_ret
   exact ⟨rfl, rfl⟩
  ·obtain rfl : t = false := Bool.eq_false_iff.2 fun h => h1 (ht.1 h).2
   clear ht
   go_enter Tryz.func67, Tryz.ntmps67
   go_wp2_with fail
   go_ret
   exact ⟨rfl, rfl⟩
 ·obtain rfl : t = false := Bool.eq_false_iff.2 fun h => h0 (ht.1 h).1
  clear ht
  go_enter Tryz.func67, Tryz.ntmps67
  go_wp2_with fail
  go_ret
  exact ⟨rfl, rfl⟩

theorem isSlot_any (w : World) (bx : Nat) (n : Int) (An : Option Addr) (N cn : Nat) (hbox : w.cell? ⟨bx, 3, none⟩ = some (.slice An N cn)) (t : Bool) (ht : t = true ↔ -1 ≤ n ∧ n < (N : Int)) :
  Calls Tryz.prog 68 #[.int .i64 n, .pointer (some ⟨bx, 0, none⟩)] w (fun e w' => e = .returned (.bool t) ∧ w' = w) := by
 by_cases h0 : -1 ≤ n
 ·by_cases h1 : n < (N : Int)
  ·obtain rfl : t = true := ht.2 ⟨h0, h1⟩
   clear ht
   go_enter Tryz.func68, Tryz.ntmps68
   go_wp2_with fail
   go_ret
   exact ⟨rfl, rfl⟩
  ·obtain rfl : t = false := Bool.eq_false_iff.2 fun h => h1 (ht.1 h).2
   clear ht
   go_enter Tryz.func68, Tryz.ntmps68
   go_wp2_with fail
   go_ret
   exact ⟨rfl, rfl⟩
 ·obtain rfl : t = false := Bool.eq_false_iff.2 fun h => h0 (ht.1 h).1
  clear ht
  go_enter Tryz.func68, Tryz.ntmps68
  go_wp2_with fail
  go_ret
  exact ⟨rfl, rfl⟩

theorem isState_any (w : World) (bx : Nat) (n : Int) (An : Option Addr) (N cn : Nat) (hbox : w.cell? ⟨bx, 5, none⟩ = some (.slice An N cn)) (t : Bool) (ht : t = true ↔ -1 ≤ n ∧ n < (N : Int)) :
  Calls Tryz.prog 71 #[.int .i64 n, .pointer (some ⟨bx, 0, none⟩)] w (fun e w' => e = .returned (.bool t) ∧ w' = w) := by
 by_cases h0 : -1 ≤ n
 ·by_cases h1 : n < (N : Int)
  ·obtain rfl : t = true := ht.2 ⟨h0, h1⟩
   clear ht
   go_enter Tryz.func71, Tryz.ntmps71
   go_wp2_with fail
   go_ret
   exact ⟨rfl, rfl⟩
  ·obtain rfl : t = false := Bool.eq_false_iff.2 fun h => h1 (ht.1 h).2
   clear ht
   go_enter Tryz.func71, Tryz.ntmps71
   go_wp2_with fail
   go_ret
   exact ⟨rfl, rfl⟩
 ·obtain rfl : t = false := Bool.eq_false_iff.2 fun h => h0 (ht.1 h).1
  clear ht
  go_enter Tryz.func71, Tryz.ntmps71
  go_wp2_with fail
  go_ret
  exact ⟨rfl, rfl⟩

theorem isBlock_any (w : World) (bx : Nat) (n : Int) (An : Option Addr) (N cn : Nat) (hbox : w.cell? ⟨bx, 4, none⟩ = some (.slice An N cn)) (t : Bool) (ht : t = true ↔ 0 ≤ n ∧ n < (N : Int)) :
  Calls Tryz.prog 72 #[.int .i64 n, .pointer (some ⟨bx, 0, none⟩)] w (fun e w' => e = .returned (.bool t) ∧ w' = w) := by
 by_cases h0 : 0 ≤ n
 ·by_cases h1 : n < (N : Int)
  ·obtain rfl : t = true := ht.2 ⟨h0, h1⟩
   clear ht
   go_enter Tryz.func72, Tryz.ntmps72
   go_wp2_with fail
   go_ret
   exact ⟨rfl, rfl⟩
  ·obtain rfl : t = false := Bool.eq_false_iff.2 fun h => h1 (ht.1 h).2
   clear ht
   go_enter Tryz.func72, Tryz.ntmps72
   go_wp2_with fail
   go_ret
   exact ⟨rfl, rfl⟩
 ·obtain rfl : t = false := Bool.eq_false_iff.2 fun h => h0 (ht.1 h).1
  clear ht
  go_enter Tryz.func72, Tryz.ntmps72
  go_wp2_with fail
  go_ret
  exact ⟨rfl, rfl⟩

theorem isNode_not (w : World) (bx bh : Nat) (n : Int) (An : Option Addr) (N cn : Nat) (hbox : w.cell? ⟨bx, 3, none⟩ = some (.slice An N cn)) (hh : w.cell? ⟨bh, 0, none⟩ = some (.func (.func 67) #[] #[.pointer (some ⟨bx, 0, none⟩)])) (t : Bool) (ht : t = true ↔ ¬ (0 ≤ n ∧ n < (N : Int))) :
  Calls Tryz.prog 70 #[.int .i64 n, .pointer (some ⟨bh, 0, none⟩)] w (fun e w' => e = .returned (.bool t) ∧ w' = w) := by
 have hn : (!t) = true ↔ 0 ≤ n ∧ n < (N : Int) := by cases t <;> simp at ht ⊢ <;> omega
 have HN := Lib.hid hn; have HB := Lib.hid hbox
 obtain ⟨s, hs⟩ : ∃ s : Bool, s = !t := ⟨_, rfl⟩
 have HS := Lib.hid hs
 clear hn hbox ht hs
 go_enter Tryz.func70, Tryz.ntmps70
 go_wp2_with (go_at_call 67; refine (isNode_any w bx n An N cn HB.out s (by rw [HS.out]; exact HN.out)).mono ?_; rintro e w' ⟨rfl, hw'⟩; have hw2 := hw'.symm; subst hw2)
 go_ret
 exact ⟨by rw [HS.out]; simp, rfl⟩
theorem isNode_index (w : World) (bx bh : Nat) (v : Value) (l : List Int) (An : Option Addr) (N cn : Nat) (hl : IntsV w w.heap.size v l) (hbox : w.cell? ⟨bx, 3, none⟩ = some (.slice An N cn)) (hh : w.cell? ⟨bh, 0, none⟩ = some (.func (.func 67) #[] #[.pointer (some ⟨bx, 0, none⟩)])) :
  Calls Tryz.prog 115 #[v, .func (.func 70) #[] #[.pointer (some ⟨bh, 0, none⟩)]] w (fun e w' => (∃ k : Int, e = .returned (.int .i64 k) ∧ (0 ≤ k ↔ ∃ x ∈ l, ¬ (0 ≤ x ∧ x < (N : Int))) ∧ -1 ≤ k) ∧ w' = w) := by
 obtain ⟨A, c, rfl, _hc, hlc, hl⟩ := hl
 have hlim : l.length ≤ 17592186044416 := by unfold lim at hlc; omega
 have HW := Lib.hid hl; have HB := Lib.hid hbox; have HH := Lib.hid hh
 clear hl hlc hbox hh
 go_enter Tryz.func115, Tryz.ntmps115
 go_wp2_with fail
 go_loopw [8] (fun i wr => ∃ k : Nat, k ≤ l.length ∧ i = .int .i64 k ∧ wr = w ∧ ∀ x ∈ l.take k, 0 ≤ x ∧ x < (N : Int)) (fun i _ => l.length - (intOf i).toNat)
 case atStart => exact ⟨0, Nat.zero_le _, rfl, rfl, by simp⟩
 case round =>
  obtain ⟨k, hk, rfl, rfl, hno⟩ := hrel
  have HNo := Lib.hid hno; clear hno
  by_cases hlt : k < l.length
  ·obtain ⟨b, off, rfl, hbB, hp⟩ := HW.out (by omega)
   obtain ⟨y, hy⟩ := getE hlt
   have f0 := hp k y hy
   have HY := Lib.hid hy
   clear hp HW hy
   by_cases hxy : 0 ≤ y ∧ y < (N : Int)
   ·have HXY := Lib.hid hxy; clear hxy
    go_wp2_with (go_at_call 70; refine (isNode_not _ bx bh y An N cn HB.out HH.out false ⟨(fun h => by cases h), fun h => absurd HXY.out h⟩).mono ?_; rintro e w' ⟨rfl, hw'⟩; have hw2 := hw'.symm; subst hw2)
    go_roundw
    case rel => exact ⟨k + 1, by omega, by go_num, (by first | rfl | trivial), fun x hx => by
     rw [List.take_add_one, HY.out] at hx
     rcases List.mem_append.1 hx with hx | hx
     ·exact HNo.out x hx
     ·simp only [Option.toList_some, List.mem_singleton] at hx; subst hx; exact HXY.out⟩
    case measure => simp [intOf]; omega
   ·have HXY : Hid ((0 ≤ y ∧ y < (N : Int)) → False) := Lib.hid hxy; clear hxy
    go_wp2_with (go_at_call 70; refine (isNode_not _ bx bh y An N cn HB.out HH.out true ⟨fun _ => HXY.out, fun _ => rfl⟩).mono ?_; rintro e w' ⟨rfl, hw'⟩; have hw2 := hw'.symm; subst hw2)
    go_ret
    exact ⟨⟨k, rfl, ⟨fun _ => ⟨y, List.mem_of_getElem? HY.out, HXY.out⟩, fun _ => by omega⟩, by omega⟩, rfl⟩
  ·go_wp2_with fail
   go_ret
   refine ⟨⟨-1, rfl, ⟨fun h => by omega, fun ⟨x, hx, h⟩ => ?_⟩, by omega⟩, rfl⟩
   exact absurd (HNo.out x (by rw [List.take_of_length_le (by omega)]; exact hx)) h
theorem isNode_contains (w : World) (bx bh : Nat) (v : Value) (l : List Int) (An : Option Addr) (N cn : Nat) (hl : IntsV w w.heap.size v l) (hbox : w.cell? ⟨bx, 3, none⟩ = some (.slice An N cn)) (hh : w.cell? ⟨bh, 0, none⟩ = some (.func (.func 67) #[] #[.pointer (some ⟨bx, 0, none⟩)])) (t : Bool) (ht : t = true ↔ ∃ x ∈ l, ¬ (0 ≤ x ∧ x < (N : Int))) :
  Calls Tryz.prog 65 #[v, .func (.func 70) #[] #[.pointer (some ⟨bh, 0, none⟩)]] w (fun e w' => e = .returned (.bool t) ∧ w' = w) := by
 obtain ⟨A, c, rfl, _hc, hlc, _⟩ := id hl
 have HL := Lib.hid hl; have HB := Lib.hid hbox; have HH := Lib.hid hh
 clear hl hlc hbox hh
 cases t with
 | true =>
  have HX := Lib.hid (ht.1 rfl); clear ht
  go_enter Tryz.func65, Tryz.ntmps65
  go_wp2_with (go_at_call 115; refine (isNode_index w bx bh _ l An N cn HL.out HB.out HH.out).mono ?_; rintro e w' ⟨⟨k, rfl, hk, h1⟩, rfl⟩; have hk0 : 0 ≤ k := hk.2 HX.out; clear hk)
  go_ret
  exact ⟨by simp [hk0], rfl⟩
 | false =>
  have HX : Hid ((∃ x ∈ l, ¬ (0 ≤ x ∧ x < (N : Int))) → False) := Lib.hid (fun h => by have := ht.2 h; cases this)
  clear ht
  go_enter Tryz.func65, Tryz.ntmps65
  go_wp2_with (go_at_call 115; refine (isNode_index w bx bh _ l An N cn HL.out HB.out HH.out).mono ?_; rintro e w' ⟨⟨k, rfl, hk, h1⟩, rfl⟩; obtain rfl : k = -1 := (by have : ¬ 0 ≤ k := fun h => HX.out (hk.1 h); omega); clear hk h1)
  go_ret
  exact ⟨rfl, rfl⟩
theorem isNode_miss (w : World) (bx : Nat) (v : Value) (l : List Int) (An : Option Addr) (N cn : Nat) (hl : IntsV w w.heap.size v l) (hbox : w.cell? ⟨bx, 3, none⟩ = some (.slice An N cn)) (t : Bool) (ht : t = true ↔ ∃ x ∈ l, ¬ (0 ≤ x ∧ x < (N : Int))) :
  Calls Tryz.prog 69 #[v, .func (.func 67) #[] #[.pointer (some ⟨bx, 0, none⟩)]] w (fun e w' => e = .returned (.bool t) ∧ Below w.heap.size w w') := by
 have hl2 := hl.later ((Below.refl w.heap.size w).alloc (Nat.le_refl _) (.cells #[.func (.func 67) #[] #[.pointer (some ⟨bx, 0, none⟩)]] 90)) (Nat.le_refl _)
 have hb2 : (w.alloc (.cells #[.func (.func 67) #[] #[.pointer (some ⟨bx, 0, none⟩)]] 90)).cell? ⟨bx, 3, none⟩ = some (.slice An N cn) := (World.grownBy_alloc w _ none).cell hbox (by simp)
 have hh2 : (w.alloc (.cells #[.func (.func 67) #[] #[.pointer (some ⟨bx, 0, none⟩)]] 90)).cell? ⟨w.heap.size, 0, none⟩ = some (.func (.func 67) #[] #[.pointer (some ⟨bx, 0, none⟩)]) := (Blk.new w _ _).cell 0
 have H1 := Lib.hid hl2; have H2 := Lib.hid hb2; have H3 := Lib.hid hh2; have HT := Lib.hid ht
 obtain ⟨A, c, rfl, _⟩ := hl
 clear hl2 hb2 hh2 hbox ht
 go_enter Tryz.func69, Tryz.ntmps69
 go_wp2_with (go_at_call 65; refine (isNode_contains _ bx w.heap.size _ l An N cn H1.out H2.out H3.out t HT.out).mono ?_; rintro e w' ⟨rfl, rfl⟩)
 go_ret
 exact ⟨rfl, (Below.refl _ _).alloc (Nat.le_refl _) _⟩

theorem isSlot_not (w : World) (bx bh : Nat) (n : Int) (An : Option Addr) (N cn : Nat) (hbox : w.cell? ⟨bx, 3, none⟩ = some (.slice An N cn)) (hh : w.cell? ⟨bh, 0, none⟩ = some (.func (.func 68) #[] #[.pointer (some ⟨bx, 0, none⟩)])) (t : Bool) (ht : t = true ↔ ¬ (-1 ≤ n ∧ n < (N : Int))) :
  Calls Tryz.prog 70 #[.int .i64 n, .pointer (some ⟨bh, 0, none⟩)] w (fun e w' => e = .returned (.bool t) ∧ w' = w) := by
 have hn : (!t) = true ↔ -1 ≤ n ∧ n < (N : Int) := by cases t <;> simp at ht ⊢ <;> omega
 have HN := Lib.hid hn; have HB := Lib.hid hbox
 obtain ⟨s, hs⟩ : ∃ s : Bool, s = !t := ⟨_, rfl⟩
 have HS := Lib.hid hs
 clear hn hbox ht hs
 go_enter Tryz.func70, Tryz.ntmps70
 go_wp2_with (go_at_call 68; refine (isSlot_any w bx n An N cn HB.out s (by rw [HS.out]; exact HN.out)).mono ?_; rintro e w' ⟨rfl, hw'⟩; have hw2 := hw'.symm; subst hw2)
 go_ret
 exact ⟨by rw [HS.out]; simp, rfl⟩
theorem isSlot_index (w : World) (bx bh : Nat) (v : Value) (l : List Int) (An : Option Addr) (N cn : Nat) (hl : IntsV w w.heap.size v l) (hbox : w.cell? ⟨bx, 3, none⟩ = some (.slice An N cn)) (hh : w.cell? ⟨bh, 0, none⟩ = some (.func (.func 68) #[] #[.pointer (some ⟨bx, 0, none⟩)])) :
  Calls Tryz.prog 115 #[v, .func (.func 70) #[] #[.pointer (some ⟨bh, 0, none⟩)]] w (fun e w' => (∃ k : Int, e = .returned (.int .i64 k) ∧ (0 ≤ k ↔ ∃ x ∈ l, ¬ (-1 ≤ x ∧ x < (N : Int))) ∧ -1 ≤ k) ∧ w' = w) := by
 obtain ⟨A, c, rfl, _hc, hlc, hl⟩ := hl
 have hlim : l.length ≤ 17592186044416 := by unfold lim at hlc; omega
 have HW := Lib.hid hl; have HB := Lib.hid hbox; have HH := Lib.hid hh
 clear hl hlc hbox hh
 go_enter Tryz.func115, Tryz.ntmps115
 go_wp2_with fail
 go_loopw [8] (fun i wr => ∃ k : Nat, k ≤ l.length ∧ i = .int .i64 k ∧ wr = w ∧ ∀ x ∈ l.take k, -1 ≤ x ∧ x < (N : Int)) (fun i _ => l.length - (intOf i).toNat)
 case atStart => exact ⟨0, Nat.zero_le _, rfl, rfl, by simp⟩
 case round =>
  obtain ⟨k, hk, rfl, rfl, hno⟩ := hrel
  have HNo := Lib.hid hno; clear hno
  by_cases hlt : k < l.length
  ·obtain ⟨b, off, rfl, hbB, hp⟩ := HW.out (by omega)
   obtain ⟨y, hy⟩ := getE hlt
   have f0 := hp k y hy
   have HY := Lib.hid hy
   clear hp HW hy
   by_cases hxy : -1 ≤ y ∧ y < (N : Int)
   ·have HXY := Lib.hid hxy; clear hxy
    go_wp2_with (go_at_call 70; refine (isSlot_not _ bx bh y An N cn HB.out HH.out false ⟨(fun h => by cases h), fun h => absurd HXY.out h⟩).mono ?_; rintro e w' ⟨rfl, hw'⟩; have hw2 := hw'.symm; subst hw2)
    go_roundw
    case rel => exact ⟨k + 1, by omega, by go_num, (by first | rfl | trivial), fun x hx => by
     rw [List.take_add_one, HY.out] at hx
     rcases List.mem_append.1 hx with hx | hx
     ·exact HNo.out x hx
     ·simp only [Option.toList_some, List.mem_singleton] at hx; subst hx; exact HXY.out⟩
    case measure => simp [intOf]; omega
   ·have HXY : Hid ((-1 ≤ y ∧ y < (N : Int)) → False) := Lib.hid hxy; clear hxy
    go_wp2_with (go_at_call 70; refine (isSlot_not _ bx bh y An N cn HB.out HH.out true ⟨fun _ => HXY.out, fun _ => rfl⟩).mono ?_; rintro e w' ⟨rfl, hw'⟩; have hw2 := hw'.symm; subst hw2)
    go_ret
    exact ⟨⟨k, rfl, ⟨fun _ => ⟨y, List.mem_of_getElem? HY.out, HXY.out⟩, fun _ => by omega⟩, by omega⟩, rfl⟩
  ·go_wp2_with fail
   go_ret
   refine ⟨⟨-1, rfl, ⟨fun h => by omega, fun ⟨x, hx, h⟩ => ?_⟩, by omega⟩, rfl⟩
   exact absurd (HNo.out x (by rw [List.take_of_length_le (by omega)]; exact hx)) h
theorem isSlot_contains (w : World) (bx bh : Nat) (v : Value) (l : List Int) (An : Option Addr) (N cn : Nat) (hl : IntsV w w.heap.size v l) (hbox : w.cell? ⟨bx, 3, none⟩ = some (.slice An N cn)) (hh : w.cell? ⟨bh, 0, none⟩ = some (.func (.func 68) #[] #[.pointer (some ⟨bx, 0, none⟩)])) (t : Bool) (ht : t = true ↔ ∃ x ∈ l, ¬ (-1 ≤ x ∧ x < (N : Int))) :
  Calls Tryz.prog 65 #[v, .func (.func 70) #[] #[.pointer (some ⟨bh, 0, none⟩)]] w (fun e w' => e = .returned (.bool t) ∧ w' = w) := by
 obtain ⟨A, c, rfl, _hc, hlc, _⟩ := id hl
 have HL := Lib.hid hl; have HB := Lib.hid hbox; have HH := Lib.hid hh
 clear hl hlc hbox hh
 cases t with
 | true =>
  have HX := Lib.hid (ht.1 rfl); clear ht
  go_enter Tryz.func65, Tryz.ntmps65
  go_wp2_with (go_at_call 115; refine (isSlot_index w bx bh _ l An N cn HL.out HB.out HH.out).mono ?_; rintro e w' ⟨⟨k, rfl, hk, h1⟩, rfl⟩; have hk0 : 0 ≤ k := hk.2 HX.out; clear hk)
  go_ret
  exact ⟨by simp [hk0], rfl⟩
 | false =>
  have HX : Hid ((∃ x ∈ l, ¬ (-1 ≤ x ∧ x < (N : Int))) → False) := Lib.hid (fun h => by have := ht.2 h; cases this)
  clear ht
  go_enter Tryz.func65, Tryz.ntmps65
  go_wp2_with (go_at_call 115; refine (isSlot_index w bx bh _ l An N cn HL.out HB.out HH.out).mono ?_; rintro e w' ⟨⟨k, rfl, hk, h1⟩, rfl⟩; obtain rfl : k = -1 := (by have : ¬ 0 ≤ k := fun h => HX.out (hk.1 h); omega); clear hk h1)
  go_ret
  exact ⟨rfl, rfl⟩
theorem isSlot_miss (w : World) (bx : Nat) (v : Value) (l : List Int) (An : Option Addr) (N cn : Nat) (hl : IntsV w w.heap.size v l) (hbox : w.cell? ⟨bx, 3, none⟩ = some (.slice An N cn)) (t : Bool) (ht : t = true ↔ ∃ x ∈ l, ¬ (-1 ≤ x ∧ x < (N : Int))) :
  Calls Tryz.prog 69 #[v, .func (.func 68) #[] #[.pointer (some ⟨bx, 0, none⟩)]] w (fun e w' => e = .returned (.bool t) ∧ Below w.heap.size w w') := by
 have hl2 := hl.later ((Below.refl w.heap.size w).alloc (Nat.le_refl _) (.cells #[.func (.func 68) #[] #[.pointer (some ⟨bx, 0, none⟩)]] 90)) (Nat.le_refl _)
 have hb2 : (w.alloc (.cells #[.func (.func 68) #[] #[.pointer (some ⟨bx, 0, none⟩)]] 90)).cell? ⟨bx, 3, none⟩ = some (.slice An N cn) := (World.grownBy_alloc w _ none).cell hbox (by simp)
 have hh2 : (w.alloc (.cells #[.func (.func 68) #[] #[.pointer (some ⟨bx, 0, none⟩)]] 90)).cell? ⟨w.heap.size, 0, none⟩ = some (.func (.func 68) #[] #[.pointer (some ⟨bx, 0, none⟩)]) := (Blk.new w _ _).cell 0
 have H1 := Lib.hid hl2; have H2 := Lib.hid hb2; have H3 := Lib.hid hh2; have HT := Lib.hid ht
 obtain ⟨A, c, rfl, _⟩ := hl
 clear hl2 hb2 hh2 hbox ht
 go_enter Tryz.func69, Tryz.ntmps69
 go_wp2_with (go_at_call 65; refine (isSlot_contains _ bx w.heap.size _ l An N cn H1.out H2.out H3.out t HT.out).mono ?_; rintro e w' ⟨rfl, rfl⟩)
 go_ret
 exact ⟨rfl, (Below.refl _ _).alloc (Nat.le_refl _) _⟩

theorem isBlock_not (w : World) (bx bh : Nat) (n : Int) (An : Option Addr) (N cn : Nat) (hbox : w.cell? ⟨bx, 4, none⟩ = some (.slice An N cn)) (hh : w.cell? ⟨bh, 0, none⟩ = some (.func (.func 72) #[] #[.pointer (some ⟨bx, 0, none⟩)])) (t : Bool) (ht : t = true ↔ ¬ (0 ≤ n ∧ n < (N : Int))) :
  Calls Tryz.prog 70 #[.int .i64 n, .pointer (some ⟨bh, 0, none⟩)] w (fun e w' => e = .returned (.bool t) ∧ w' = w) := by
 have hn : (!t) = true ↔ 0 ≤ n ∧ n < (N : Int) := by cases t <;> simp at ht ⊢ <;> omega
 have HN := Lib.hid hn; have HB := Lib.hid hbox
 obtain ⟨s, hs⟩ : ∃ s : Bool, s = !t := ⟨_, rfl⟩
 have HS := Lib.hid hs
 clear hn hbox ht hs
 go_enter Tryz.func70, Tryz.ntmps70
 go_wp2_with (go_at_call 72; refine (isBlock_any w bx n An N cn HB.out s (by rw [HS.out]; exact HN.out)).mono ?_; rintro e w' ⟨rfl, hw'⟩; have hw2 := hw'.symm; subst hw2)
 go_ret
 exact ⟨by rw [HS.out]; simp, rfl⟩
theorem isBlock_index (w : World) (bx bh : Nat) (v : Value) (l : List Int) (An : Option Addr) (N cn : Nat) (hl : IntsV w w.heap.size v l) (hbox : w.cell? ⟨bx, 4, none⟩ = some (.slice An N cn)) (hh : w.cell? ⟨bh, 0, none⟩ = some (.func (.func 72) #[] #[.pointer (some ⟨bx, 0, none⟩)])) :
  Calls Tryz.prog 115 #[v, .func (.func 70) #[] #[.pointer (some ⟨bh, 0, none⟩)]] w (fun e w' => (∃ k : Int, e = .returned (.int .i64 k) ∧ (0 ≤ k ↔ ∃ x ∈ l, ¬ (0 ≤ x ∧ x < (N : Int))) ∧ -1 ≤ k) ∧ w' = w) := by
 obtain ⟨A, c, rfl, _hc, hlc, hl⟩ := hl
 have hlim : l.length ≤ 17592186044416 := by unfold lim at hlc; omega
 have HW := Lib.hid hl; have HB := Lib.hid hbox; have HH := Lib.hid hh
 clear hl hlc hbox hh
 go_enter Tryz.func115, Tryz.ntmps115
 go_wp2_with fail
 go_loopw [8] (fun i wr => ∃ k : Nat, k ≤ l.length ∧ i = .int .i64 k ∧ wr = w ∧ ∀ x ∈ l.take k, 0 ≤ x ∧ x < (N : Int)) (fun i _ => l.length - (intOf i).toNat)
 case atStart => exact ⟨0, Nat.zero_le _, rfl, rfl, by simp⟩
 case round =>
  obtain ⟨k, hk, rfl, rfl, hno⟩ := hrel
  have HNo := Lib.hid hno; clear hno
  by_cases hlt : k < l.length
  ·obtain ⟨b, off, rfl, hbB, hp⟩ := HW.out (by omega)
   obtain ⟨y, hy⟩ := getE hlt
   have f0 := hp k y hy
   have HY := Lib.hid hy
   clear hp HW hy
   by_cases hxy : 0 ≤ y ∧ y < (N : Int)
   ·have HXY := Lib.hid hxy; clear hxy
    go_wp2_with (go_at_call 70; refine (isBlock_not _ bx bh y An N cn HB.out HH.out false ⟨(fun h => by cases h), fun h => absurd HXY.out h⟩).mono ?_; rintro e w' ⟨rfl, hw'⟩; have hw2 := hw'.symm; subst hw2)
    go_roundw
    case rel => exact ⟨k + 1, by omega, by go_num, (by first | rfl | trivial), fun x hx => by
     rw [List.take_add_one, HY.out] at hx
     rcases List.mem_append.1 hx with hx | hx
     ·exact HNo.out x hx
     ·simp only [Option.toList_some, List.mem_singleton] at hx; subst hx; exact HXY.out⟩
    case measure => simp [intOf]; omega
   ·have HXY : Hid ((0 ≤ y ∧ y < (N : Int)) → False) := Lib.hid hxy; clear hxy
    go_wp2_with (go_at_call 70; refine (isBlock_not _ bx bh y An N cn HB.out HH.out true ⟨fun _ => HXY.out, fun _ => rfl⟩).mono ?_; rintro e w' ⟨rfl, hw'⟩; have hw2 := hw'.symm; subst hw2)
    go_ret
    exact ⟨⟨k, rfl, ⟨fun _ => ⟨y, List.mem_of_getElem? HY.out, HXY.out⟩, fun _ => by omega⟩, by omega⟩, rfl⟩
  ·go_wp2_with fail
   go_ret
   refine ⟨⟨-1, rfl, ⟨fun h => by omega, fun ⟨x, hx, h⟩ => ?_⟩, by omega⟩, rfl⟩
   exact absurd (HNo.out x (by rw [List.take_of_length_le (by omega)]; exact hx)) h
theorem isBlock_contains (w : World) (bx bh : Nat) (v : Value) (l : List Int) (An : Option Addr) (N cn : Nat) (hl : IntsV w w.heap.size v l) (hbox : w.cell? ⟨bx, 4, none⟩ = some (.slice An N cn)) (hh : w.cell? ⟨bh, 0, none⟩ = some (.func (.func 72) #[] #[.pointer (some ⟨bx, 0, none⟩)])) (t : Bool) (ht : t = true ↔ ∃ x ∈ l, ¬ (0 ≤ x ∧ x < (N : Int))) :
  Calls Tryz.prog 65 #[v, .func (.func 70) #[] #[.pointer (some ⟨bh, 0, none⟩)]] w (fun e w' => e = .returned (.bool t) ∧ w' = w) := by
 obtain ⟨A, c, rfl, _hc, hlc, _⟩ := id hl
 have HL := Lib.hid hl; have HB := Lib.hid hbox; have HH := Lib.hid hh
 clear hl hlc hbox hh
 cases t with
 | true =>
  have HX := Lib.hid (ht.1 rfl); clear ht
  go_enter Tryz.func65, Tryz.ntmps65
  go_wp2_with (go_at_call 115; refine (isBlock_index w bx bh _ l An N cn HL.out HB.out HH.out).mono ?_; rintro e w' ⟨⟨k, rfl, hk, h1⟩, rfl⟩; have hk0 : 0 ≤ k := hk.2 HX.out; clear hk)
  go_ret
  exact ⟨by simp [hk0], rfl⟩
 | false =>
  have HX : Hid ((∃ x ∈ l, ¬ (0 ≤ x ∧ x < (N : Int))) → False) := Lib.hid (fun h => by have := ht.2 h; cases this)
  clear ht
  go_enter Tryz.func65, Tryz.ntmps65
  go_wp2_with (go_at_call 115; refine (isBlock_index w bx bh _ l An N cn HL.out HB.out HH.out).mono ?_; rintro e w' ⟨⟨k, rfl, hk, h1⟩, rfl⟩; obtain rfl : k = -1 := (by have : ¬ 0 ≤ k := fun h => HX.out (hk.1 h); omega); clear hk h1)
  go_ret
  exact ⟨rfl, rfl⟩
theorem isBlock_miss (w : World) (bx : Nat) (v : Value) (l : List Int) (An : Option Addr) (N cn : Nat) (hl : IntsV w w.heap.size v l) (hbox : w.cell? ⟨bx, 4, none⟩ = some (.slice An N cn)) (t : Bool) (ht : t = true ↔ ∃ x ∈ l, ¬ (0 ≤ x ∧ x < (N : Int))) :
  Calls Tryz.prog 69 #[v, .func (.func 72) #[] #[.pointer (some ⟨bx, 0, none⟩)]] w (fun e w' => e = .returned (.bool t) ∧ Below w.heap.size w w') := by
 have hl2 := hl.later ((Below.refl w.heap.size w).alloc (Nat.le_refl _) (.cells #[.func (.func 72) #[] #[.pointer (some ⟨bx, 0, none⟩)]] 90)) (Nat.le_refl _)
 have hb2 : (w.alloc (.cells #[.func (.func 72) #[] #[.pointer (some ⟨bx, 0, none⟩)]] 90)).cell? ⟨bx, 4, none⟩ = some (.slice An N cn) := (World.grownBy_alloc w _ none).cell hbox (by simp)
 have hh2 : (w.alloc (.cells #[.func (.func 72) #[] #[.pointer (some ⟨bx, 0, none⟩)]] 90)).cell? ⟨w.heap.size, 0, none⟩ = some (.func (.func 72) #[] #[.pointer (some ⟨bx, 0, none⟩)]) := (Blk.new w _ _).cell 0
 have H1 := Lib.hid hl2; have H2 := Lib.hid hb2; have H3 := Lib.hid hh2; have HT := Lib.hid ht
 obtain ⟨A, c, rfl, _⟩ := hl
 clear hl2 hb2 hh2 hbox ht
 go_enter Tryz.func69, Tryz.ntmps69
 go_wp2_with (go_at_call 65; refine (isBlock_contains _ bx w.heap.size _ l An N cn H1.out H2.out H3.out t HT.out).mono ?_; rintro e w' ⟨rfl, rfl⟩)
 go_ret
 exact ⟨rfl, (Below.refl _ _).alloc (Nat.le_refl _) _⟩
end Go.Proofs.YtkmfdiboekoioaaGreat
