/- Whether a node stands ahead of a place, or above its block, us the reference 16 has it; whether args and a state's slots do. Conditions: places, rows and a graph that lie in memory; numbers of nodes that there are. -/
import Derived.Test.YtkmfdiboekoioaaGreatCRfNode
import Derived.Test.YtkmfdiboekoioaaGreatCRowsOf
set_option linter.unusedSimpArgs false
set_option linter.unusedVariables false
namespace Go.Proofs.YtkmfdiboekoioaaGreat
open Go.RowKit
def PlaceAt (w : World) (b o : Nat) (x : Nat × Nat) : Prop := w.cell? ⟨b, o, none⟩ = some (.int .i64 x.1) ∧ w.cell? ⟨b, o + 1, none⟩ = some (.int .i64 x.2)
abbrev PlacesV (w : World) (B : Nat) := PartsV B (PlaceAt w) 2
theorem PlaceAt.keep {w w' : World} {B b o : Nat} {x : Nat × Nat} (hk : Same B w w') (hb : b < B) (h : PlaceAt w b o x) : PlaceAt w' b o x := ⟨(hk _ hb).trans h.1, (hk _ hb).trans h.2⟩
theorem PlacesV.later {w w' : World} {v : Value} {l : List (Nat × Nat)} (h : PlacesV w w.heap.size v l) (hb : Below w.heap.size w w') : PlacesV w' w'.heap.size v l := h.imp hb.size fun _ _ _ hl h => h.keep (Same.of_below hb) hl
theorem RowsV.later2 {w w' : World} {v : Value} {l : List (List Int)} (h : RowsV w w.heap.size v l) (hb : Below w.heap.size w w') : RowsV w' w'.heap.size v l := (h.keep (Same.of_below hb)).mono hb.size
/-- Does node m stand ahead of the place i of block b, or above it? -/
def standsB (P : List (Nat × Nat)) (ls : List (List Int)) (m b i : Nat) : Bool := if (P.getD m (0, 0)).1 = b then decide ((P.getD m (0, 0)).2 < i) else decide (((P.getD m (0, 0)).1 : Int) ∈ ls.getD b [])
set_option maxRecDepth 100000 in
set_option maxHeartbeats 8000000 in
theorem stands16_any (w : World) (lv av : Value) (P : List (Nat × Nat)) (ls : List (List Int)) (m b i : Nat) (hP : PlacesV w w.heap.size lv P) (hA : RowsV w w.heap.size av ls) (hm : m < P.length) (hb : b < ls.length) :
  Calls Tryz.prog 27 #[lv, av, .int .i64 m, .agg #[.int .i64 b, .int .i64 i]] w (fun e w' => e = .returned (.bool (standsB P ls m b i)) ∧ Below w.heap.size w w') := by
 obtain ⟨A, c, rfl, _, hl, hq⟩ := hP
 obtain ⟨bp, op, rfl, hbp, hq⟩ := hq (by omega)
 obtain ⟨x, hx⟩ := rget hm
 obtain ⟨p0, p1⟩ := hq m x hx
 obtain ⟨A2, c2, rfl, _, hl2, hq2⟩ := hA
 obtain ⟨br, orr, rfl, hbr, hq2⟩ := hq2 (by omega)
 obtain ⟨l, hlb⟩ := rget hb
 obtain ⟨u, r0, hu⟩ := hq2 b l hlb
 have hPl : P.length ≤ 17592186044416 := by unfold lim at hl; omega
 have hll : ls.length ≤ 17592186044416 := by unfold lim at hl2; omega
 have hS : Hid (standsB P ls m b i = if x.1 = b then decide (x.2 < i) else decide ((x.1 : Int) ∈ l)) := Lib.hid (by
  unfold standsB
  rw [List.getD_eq_getElem?_getD, List.getD_eq_getElem?_getD, hx, hlb]; rfl)
 have HU := Lib.hid hu
 obtain ⟨A3, c3, rfl, _, _, _⟩ := hu
 clear hq hq2 hx hlb hl hl2
 obtain ⟨w1, hw1⟩ : ∃ w1, w1 = w.alloc (.cells #[.int .i64 b, .int .i64 i] 64) := ⟨_, rfl⟩
 have hk : Blk w1 w.heap.size 64 #[.int .i64 b, .int .i64 i] := by rw [hw1]; exact Blk.new _ _ _
 have hb1 : Below w.heap.size w w1 := by rw [hw1]; exact (Below.refl _ _).alloc (Nat.le_refl _) _
 have q0 := hk.cell 0
 have q1 := hk.cell 1
 have ql := hk.lt
 have P0 := (hb1.cell (p := ⟨bp, op + m * 2, none⟩) hbp).trans p0
 have P1 := (hb1.cell (p := ⟨bp, op + m * 2 + 1, none⟩) hbp).trans p1
 have R0 := (hb1.cell (p := ⟨br, orr + b, none⟩) hbr).trans r0
 have HB1 := Lib.hid hb1
 clear p0 p1 r0 hb1 hk
 go_enter Tryz.func27, Tryz.ntmps27
 go_upto_region 1 with fail
 rw [← hw1]
 clear hw1
 by_cases hxb : x.1 = b
 ·have e1 : ((x.1 : Int) == (b : Int)) = true := by simp [hxb]
  have HXB := Lib.hid hxb
  clear hxb
  go_wp2_with go_quiet (fail)
  go_ret
  rw [hS.out, if_pos HXB.out]
  exact ⟨by first | rfl | simp, bdrew (bdrew HB1.out)⟩
 ·have e1 : ((x.1 : Int) == (b : Int)) = false := by simp; omega
  have HXB := Lib.hid hxb
  clear hxb
  have HC : Hid (∀ n, Calls Tryz.prog 60 #[.slice A3 l.length c3, .int .i64 x.1] (w1.drewN n) (fun e w' => e = .returned (.bool (decide ((x.1 : Int) ∈ l))) ∧ w' = w1.drewN n)) := Lib.hid (fun n => has16_any (w1.drewN n) _ l x.1 (((HU.out.keep (Same.of_below HB1.out)).mono HB1.out.size).keep (fun _ _ => rfl)))
  go_wp2_with go_quiet ((go_at_call 60; exact (HC.out _).mono (fun e w'' h => ⟨h.1, _, h.2⟩)))
  go_ret
  rw [hS.out, if_neg HXB.out]
  exact ⟨by first | rfl | simp, bdrew (bdrew HB1.out)⟩
/-- Each of these nodes (those that are some) stands ahead of a place, or above its block. -/
def StandF (P : List (Nat × Nat)) (ls : List (List Int)) (us : List Int) (b i : Nat) : Prop := ∀ a ∈ us, 0 ≤ a → a < (P.length : Int) ∧ standsB P ls a.toNat b i = true
structure UsM (w : World) (xv : GVals) (g : GraphP) (lv av : Value) (P : List (Nat × Nat)) (ls : List (List Int)) (b i : Nat) (wr : World) : Prop where
 gr : Blk wr w.heap.size 28 #[.int .i64 g.fn, .int .i64 g.pc, .int .i64 g.slots, xv.vn, xv.vb, xv.vs]
 pl : Blk wr (w.heap.size + 1) 64 #[.int .i64 b, .int .i64 i]
 low : Below w.heap.size w wr
section
variable {w wr w2 : World} {xv : GVals} {g : GraphP} {lv av : Value} {P : List (Nat × Nat)} {ls : List (List Int)} {b i : Nat}
theorem UsM.below (h : UsM w xv g lv av P ls b i wr) (hb : Below wr.heap.size wr w2) : UsM w xv g lv av P ls b i w2 := ⟨h.gr.below hb h.gr.lt, h.pl.below hb h.pl.lt, h.low.trans (hb.mono h.low.size)⟩
theorem UsM.drew (h : UsM w xv g lv av P ls b i wr) {n : Nat} : UsM w xv g lv av P ls b i (wr.drewN n) := h.below (bdrew (Below.refl _ _))
theorem UsM.cells (h : UsM w xv g lv av P ls b i wr) : wr.cell? ⟨w.heap.size, 5, none⟩ = some xv.vs ∧ wr.cell? ⟨w.heap.size + 1, 0, none⟩ = some (.int .i64 b) ∧ wr.cell? ⟨w.heap.size + 1, 1, none⟩ = some (.int .i64 i) ∧ w.heap.size + 1 < wr.heap.size := ⟨h.gr.cell 5, h.pl.cell 0, h.pl.cell 1, h.pl.lt⟩
end
set_option maxRecDepth 100000 in
set_option maxHeartbeats 16000000 in
theorem uses16_any (w : World) (xv : GVals) (g : GraphP) (lv av uv : Value) (P : List (Nat × Nat)) (ls : List (List Int)) (us : List Int) (st : Int) (b i : Nat) (hg : GraphV w w.heap.size xv g) (hP : PlacesV w w.heap.size lv P) (hA : RowsV w w.heap.size av ls) (hu : IntsV w w.heap.size uv us) (hb : b < ls.length)
  (has : ∀ a ∈ us, 0 ≤ a ∧ a < (P.length : Int)) (hst : st < (g.states.length : Int)) (hsl : ∀ a ∈ slotsOf g st, a < (P.length : Int)) :
  Calls Tryz.prog 26 #[gval g xv, lv, av, uv, .int .i64 st, .agg #[.int .i64 b, .int .i64 i]] w (BoolIf (StandF P ls us b i ∧ StandF P ls (slotsOf g st) b i) w) := by
 have HG := Lib.hid hg; have HP := Lib.hid hP; have HA := Lib.hid hA; have HU := Lib.hid hu; have HAS := Lib.hid has; have HSL := Lib.hid hsl
 obtain ⟨vn, vb, vs⟩ := xv
 obtain ⟨⟨An, cn, en, _⟩, ⟨Ab, cb, eb, _⟩, ⟨As, cs, es, _, hls, _⟩⟩ := hg
 simp only at en eb es
 subst en eb es
 obtain ⟨Au, cu, rfl, _, hlu, _⟩ := hu
 have hul : us.length ≤ 17592186044416 := by unfold lim at hlu; omega
 have hsl2 : g.states.length ≤ 17592186044416 := by unfold lim at hls; omega
 clear hls hlu has hsl hP hA
 have ee : gval g ⟨.slice An g.nodes.length cn, .slice Ab g.blocks.length cb, .slice As g.states.length cs⟩ = .agg #[.int .i64 g.fn, .int .i64 g.pc, .int .i64 g.slots, .slice An g.nodes.length cn, .slice Ab g.blocks.length cb, .slice As g.states.length cs] := rfl
 have E0 := Lib.hid ee; clear ee
 rw [E0.out]
 obtain ⟨w1, hw1⟩ : ∃ w1, w1 = (w.alloc (.cells #[.int .i64 g.fn, .int .i64 g.pc, .int .i64 g.slots, .slice An g.nodes.length cn, .slice Ab g.blocks.length cb, .slice As g.states.length cs] 28)).alloc (.cells #[.int .i64 b, .int .i64 i] 64) := ⟨_, rfl⟩
 have HM1 : Hid (UsM w ⟨.slice An g.nodes.length cn, .slice Ab g.blocks.length cb, .slice As g.states.length cs⟩ g lv av P ls b i w1) := Lib.hid (by
  rw [hw1]
  exact ⟨(Blk.new _ _ _).alloc _, by simpa using Blk.new (w.alloc _) _ _, ((Below.refl _ _).alloc (Nat.le_refl _) _).alloc (by simp) _⟩)
 go_enter Tryz.func26, Tryz.ntmps26
 go_upto_region 1 with fail
 rw [← hw1]
 clear hw1
 go_wp2_with fail
 go_loopw [13] (fun t wr => ∃ k : Nat, k ≤ us.length ∧ t = .int .i64 k ∧ Hid (UsM w ⟨.slice An g.nodes.length cn, .slice Ab g.blocks.length cb, .slice As g.states.length cs⟩ g lv av P ls b i wr) ∧ Hid (∀ j a, j < k → us[j]? = some a → standsB P ls a.toNat b i = true)) (fun t _ => us.length - (intOf t).toNat)
 case atStart => exact ⟨0, Nat.zero_le _, rfl, HM1, Lib.hid (fun j a h => by omega)⟩
 case round =>
  obtain ⟨k, hk, rfl, HMr, HR⟩ := hrel
  obtain ⟨q5, q6, q7, ql⟩ := HMr.out.cells
  by_cases hlt : k < us.length
  ·obtain ⟨B1, o1, rfl, _, hp1⟩ := (HU.out.keep (Same.of_below HMr.out.low)).cells hlt
   obtain ⟨a, ha⟩ := rget hlt
   have hr := HAS.out a (List.mem_of_getElem? ha)
   obtain ⟨m, rfl⟩ : ∃ m : Nat, a = (m : Int) := ⟨a.toNat, by omega⟩
   have hml : m < P.length := by omega
   have c0 := hp1 k _ ha
   have HAa := Lib.hid ha
   obtain ⟨t, ht⟩ : ∃ t, t = standsB P ls m b i := ⟨_, rfl⟩
   have HT := Lib.hid ht
   have HC : Hid (∀ n, Calls Tryz.prog 27 #[lv, av, .int .i64 m, .agg #[.int .i64 b, .int .i64 i]] (wr.drewN n) (fun e w' => e = .returned (.bool t) ∧ Below (wr.drewN n).heap.size (wr.drewN n) w')) := Lib.hid (fun n => by
    rw [HT.out]
    exact stands16_any (wr.drewN n) lv av P ls m b i ((HP.out.later HMr.out.drew.low)) (HA.out.later2 HMr.out.drew.low) hml hb)
   clear hp1 ha hr ht
   cases t with
   | false =>
    go_wp2_with (go_region_with (go_at_call 27; refine (HC.out _).mono ?_; rintro e w9 ⟨rfl, hb9⟩))
    all_goals
     go_ret
     exact ⟨⟨false, rfl, fun h => by cases h⟩, (HMr.out.drew.below hb9).low⟩
   | true =>
    go_wp2_with (go_region_with (go_at_call 27; refine (HC.out _).mono ?_; rintro e w9 ⟨rfl, hb9⟩))
    all_goals exact ⟨⟨k + 1, by omega, by go_num, Lib.hid (HMr.out.drew.below hb9), Lib.hid (fun j z hj hz => by
     rcases Nat.lt_or_ge j k with h | h
     ·exact HR.out j z h hz
     ·obtain rfl : j = k := by omega
      rw [HAa.out] at hz; injection hz with hz; subst hz
      exact HT.out.symm)⟩, by simp [intOf]; omega⟩
  ·have hF1 : StandF P ls us b i := fun a ha _ => by
    obtain ⟨j, hj⟩ := List.mem_iff_getElem?.1 ha
    refine ⟨(HAS.out a ha).2, HR.out j a ?_ hj⟩
    rcases Nat.lt_or_ge j us.length with q | q
    ·omega
    ·rw [List.getElem?_eq_none q] at hj; cases hj
   have HF1 := Lib.hid hF1
   clear hF1
   by_cases hs0 : 0 ≤ st
   ·obtain ⟨s, rfl⟩ : ∃ s : Nat, st = (s : Int) := ⟨st.toNat, by omega⟩
    have hsl3 : s < g.states.length := by omega
    obtain ⟨y, hy⟩ := rget hsl3
    have hslots : slotsOf g (s : Int) = y.slots := slotsOf_some hy
    obtain ⟨Az, cz, ez, _, _, hqz⟩ := HG.out.2.2
    injection ez with ez1 ez2 ez3
    obtain ⟨bz, oz, ez4, hbz, hqz⟩ := hqz (by omega)
    rw [← ez1] at ez4
    subst ez4
    obtain ⟨t0, u1, t1, hi1⟩ := hqz s y hy
    have HI1 := Lib.hid hi1
    have HT1 := Lib.hid t1
    obtain ⟨A9, c9, rfl, _, m9, _⟩ := hi1
    have k9 : y.slots.length ≤ 17592186044416 := by unfold lim at m9; omega
    have HSS := Lib.hid hslots
    have T1 := (HMr.out.low.cell (p := ⟨bz, oz + s * 2 + 1, none⟩) hbz).trans t1
    clear hqz hy ez1 ez2 ez3 m9 hslots t0 t1 hst
    go_wp2_with fail
    obtain ⟨wq, rfl⟩ : ∃ wq : World, wq = wr := ⟨_, rfl⟩
    go_loopw [14] (fun t wr => ∃ j : Nat, j ≤ y.slots.length ∧ t = .int .i64 j ∧ Hid (UsM w ⟨.slice An g.nodes.length cn, .slice Ab g.blocks.length cb, .slice (some ⟨bz, oz, none⟩) g.states.length cs⟩ g lv av P ls b i wr) ∧ Hid (∀ n a, n < j → y.slots[n]? = some a → 0 ≤ a → standsB P ls a.toNat b i = true)) (fun t _ => y.slots.length - (intOf t).toNat)
    case atStart => exact ⟨0, Nat.zero_le _, rfl, HMr, Lib.hid (fun j a h => by omega)⟩
    case round =>
     obtain ⟨j, hj, rfl, HMs, HR2⟩ := hrel
     clear q5 q6 q7 ql T1
     obtain ⟨q5, q6, q7, ql⟩ := HMs.out.cells
     have T1 := (HMs.out.low.cell (p := ⟨bz, oz + s * 2 + 1, none⟩) hbz).trans HT1.out
     by_cases hjl : j < y.slots.length
     ·obtain ⟨B8, o8, rfl, _, hp8⟩ := (HI1.out.keep (Same.of_below HMs.out.low)).cells hjl
      obtain ⟨a, ha⟩ := rget hjl
      have c0 := hp8 j a ha
      have HAa := Lib.hid ha
      have hup := HSL.out a (by rw [HSS.out]; exact List.mem_of_getElem? ha)
      clear hp8 ha
      by_cases ha0 : 0 ≤ a
      ·obtain ⟨m, rfl⟩ : ∃ m : Nat, a = (m : Int) := ⟨a.toNat, by omega⟩
       have hml : m < P.length := by omega
       obtain ⟨t, ht⟩ : ∃ t, t = standsB P ls m b i := ⟨_, rfl⟩
       have HT := Lib.hid ht
       have HC : Hid (Calls Tryz.prog 27 #[lv, av, .int .i64 m, .agg #[.int .i64 b, .int .i64 i]] wr (fun e w' => e = .returned (.bool t) ∧ Below wr.heap.size wr w')) := Lib.hid (by
        rw [HT.out]
        exact stands16_any wr lv av P ls m b i (HP.out.later HMs.out.low) (HA.out.later2 HMs.out.low) hml hb)
       clear ht
       cases t with
       | false =>
        go_wp2_with (go_at_call 27; refine HC.out.mono ?_; rintro e w9 ⟨rfl, hb9⟩)
        go_ret
        exact ⟨⟨false, rfl, fun h => by cases h⟩, (HMs.out.below hb9).low⟩
       | true =>
        go_wp2_with (go_at_call 27; refine HC.out.mono ?_; rintro e w9 ⟨rfl, hb9⟩)
        go_roundw
        case rel => exact ⟨j + 1, by omega, by go_num, Lib.hid (HMs.out.below hb9), Lib.hid (fun n z hn hz hz0 => by
         rcases Nat.lt_or_ge n j with h | h
         ·exact HR2.out n z h hz hz0
         ·obtain rfl : n = j := by omega
          rw [HAa.out] at hz; injection hz with hz; subst hz
          exact HT.out.symm)⟩
        case measure => simp [intOf]; omega
      ·have HA0 := Lib.hid (show 0 ≤ a → False from ha0)
       go_wp2_with fail
       go_roundw
       case rel => exact ⟨j + 1, by omega, by go_num, HMs, Lib.hid (fun n z hn hz hz0 => by
        rcases Nat.lt_or_ge n j with h | h
        ·exact HR2.out n z h hz hz0
        ·obtain rfl : n = j := by omega
         rw [HAa.out] at hz; injection hz with hz; subst hz
         exact (HA0.out hz0).elim)⟩
       case measure => simp [intOf]; omega
     ·have HF2 : Hid (StandF P ls (slotsOf g (s : Int)) b i) := Lib.hid (fun a ha ha0 => by
       refine ⟨HSL.out a ha, ?_⟩
       rw [HSS.out] at ha
       obtain ⟨n, hn⟩ := List.mem_iff_getElem?.1 ha
       refine HR2.out n a ?_ hn ha0
       rcases Nat.lt_or_ge n y.slots.length with q | q
       ·omega
       ·rw [List.getElem?_eq_none q] at hn; cases hn)
      go_wp2_with fail
      go_ret
      exact ⟨⟨true, rfl, fun _ => ⟨HF1.out, HF2.out⟩⟩, HMs.out.low⟩
   ·have HF2 : Hid (StandF P ls (slotsOf g st) b i) := Lib.hid (fun a ha => by
     have : slotsOf g st = [] := by unfold slotsOf; simp; omega
     rw [this] at ha; cases ha)
    go_wp2_with fail
    go_loopw [14] (fun t w3 => t = .int .i64 0 ∧ w3 = wr) (fun _ _ => 0)
    case atStart => exact ⟨rfl, by trivial⟩
    case round =>
     obtain ⟨rfl, hw⟩ := hrel
     subst hw
     go_wp2_with fail
     go_ret
     exact ⟨⟨true, rfl, fun _ => ⟨HF1.out, HF2.out⟩⟩, HMr.out.low⟩
end Go.Proofs.YtkmfdiboekoioaaGreat
