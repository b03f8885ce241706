/- A node of a graph, as the reference 16 looks at it: some answer; yes: its args and its state are there. Conditions: a program and a graph that lie in memory, a function of it, whose made functions are there, the node's place. -/
import Derived.Test.YtkmfdiboekoioaaGreatCRfHas
set_option linter.unusedSimpArgs false
set_option linter.unusedVariables false
namespace Go.Proofs.YtkmfdiboekoioaaGreat
open Go.RowKit
theorem ref14Number_any (w : World) (v : Value) (p : List FnP) (fn : Nat) (x : FnP) (op n k args : Int) (hp : ProgV w w.heap.size v p) (hx : p[fn]? = some x) (hm : MadeIn p x) :
  Calls Tryz.prog 64 #[v, .int .i64 fn, .int .u8 op, .int .i64 n, .int .u8 k, .int .i64 args] w (SomeBool w) := by
 have HC := Lib.hid (ref14number_any w v p fn x op n k args hp hx hm)
 obtain ⟨A, c, rfl, _⟩ := hp
 clear hx hm
 go_enter Tryz.func64, Tryz.ntmps64
 go_wp2_with (go_at_call 114; refine HC.out.mono ?_; rintro e w9 ⟨t, rfl, hb⟩)
 go_ret
 exact ⟨_, rfl, hb⟩
/-- Some answer; yes: F. -/
def BoolIf (F : Prop) (w : World) (e : Ending) (w' : World) : Prop := (∃ t : Bool, e = .returned (.bool t) ∧ (t = true → F)) ∧ Below w.heap.size w w'
/-- The memory of a look at a node. -/
structure NdM (w : World) (xv : GVals) (g : GraphP) (y : NodeP) (A1 : Option Addr) (d1 : Nat) (b i : Nat) (wr : World) : Prop where
 gr : Blk wr w.heap.size 28 #[.int .i64 g.fn, .int .i64 g.pc, .int .i64 g.slots, xv.vn, xv.vb, xv.vs]
 pl : Blk wr (w.heap.size + 1) 64 #[.int .i64 b, .int .i64 i]
 nd : Blk wr (w.heap.size + 1 + 1) 68 #[.int .u8 y.op, .slice A1 y.args.length d1, .int .i64 y.N, .int .u8 y.kind, .int .i64 y.state]
 low : Below w.heap.size w wr
section
variable {w wr w2 : World} {xv : GVals} {g : GraphP} {y : NodeP} {A1 : Option Addr} {d1 : Nat} {b i : Nat}
theorem NdM.below (h : NdM w xv g y A1 d1 b i wr) (hb : Below wr.heap.size wr w2) : NdM w xv g y A1 d1 b i w2 := ⟨h.gr.below hb h.gr.lt, h.pl.below hb h.pl.lt, h.nd.below hb h.nd.lt, h.low.trans (hb.mono h.low.size)⟩
theorem NdM.drew (h : NdM w xv g y A1 d1 b i wr) {n : Nat} : NdM w xv g y A1 d1 b i (wr.drewN n) := h.below (bdrew (Below.refl _ _))
theorem NdM.cells (h : NdM w xv g y A1 d1 b i wr) : wr.cell? ⟨w.heap.size, 0, none⟩ = some (.int .i64 g.fn) ∧ wr.cell? ⟨w.heap.size, 2, none⟩ = some (.int .i64 g.slots) ∧ wr.cell? ⟨w.heap.size, 3, none⟩ = some xv.vn ∧ wr.cell? ⟨w.heap.size, 4, none⟩ = some xv.vb ∧ wr.cell? ⟨w.heap.size, 5, none⟩ = some xv.vs ∧
  wr.cell? ⟨w.heap.size + 1, 0, none⟩ = some (.int .i64 b) ∧ wr.cell? ⟨w.heap.size + 1, 1, none⟩ = some (.int .i64 i) ∧
  wr.cell? ⟨w.heap.size + 1 + 1, 0, none⟩ = some (.int .u8 y.op) ∧ wr.cell? ⟨w.heap.size + 1 + 1, 1, none⟩ = some (.slice A1 y.args.length d1) ∧ wr.cell? ⟨w.heap.size + 1 + 1, 2, none⟩ = some (.int .i64 y.N) ∧ wr.cell? ⟨w.heap.size + 1 + 1, 3, none⟩ = some (.int .u8 y.kind) ∧ wr.cell? ⟨w.heap.size + 1 + 1, 4, none⟩ = some (.int .i64 y.state) ∧ w.heap.size + 1 + 1 < wr.heap.size :=
 ⟨h.gr.cell 0, h.gr.cell 2, h.gr.cell 3, h.gr.cell 4, h.gr.cell 5, h.pl.cell 0, h.pl.cell 1, h.nd.cell 0, h.nd.cell 1, h.nd.cell 2, h.nd.cell 3, h.nd.cell 4, h.nd.lt⟩
end
theorem args14_call (n : Int) : (args14 24 n).2 = true := by simp [args14, row14]
/-- What is known of a node that may be. -/
structure NdF (g : GraphP) (y : NodeP) (b : Nat) (x : BlockP) (i : Nat) : Prop where
 args : ∀ a ∈ y.args, 0 ≤ a ∧ a < (g.nodes.length : Int)
 state : -1 ≤ y.state ∧ y.state < (g.states.length : Int)
 phi : y.op = 2 → 0 < b ∧ y.args.length = x.ahead.length
 first : y.op = 2 → ∀ (j m : Nat) z, j < i → x.nodes[j]? = some (m : Int) → g.nodes[m]? = some z → z.op = 2
set_option maxRecDepth 100000 in
set_option maxHeartbeats 16000000 in
theorem ref16node_any (w : World) (v : Value) (p : List FnP) (fn : Nat) (f : FnP) (xv : GVals) (g : GraphP) (n b i : Nat) (y : NodeP) (x : BlockP) (hp : ProgV w w.heap.size v p) (hf : p[fn]? = some f) (hm : MadeIn p f) (hg : GraphV w w.heap.size xv g) (hfn : g.fn = (fn : Int)) (hy : g.nodes[n]? = some y) (hx : g.blocks[b]? = some x) (hi : i ≤ x.nodes.length) (hn : ∀ j a, j < i → x.nodes[j]? = some a → 0 ≤ a ∧ a < (g.nodes.length : Int)) :
  Calls Tryz.prog 25 #[v, gval g xv, .int .i64 n, .agg #[.int .i64 b, .int .i64 i]] w (BoolIf (NdF g y b x i) w) := by
 have HP := Lib.hid hp; have HF := Lib.hid hf; have HM := Lib.hid hm; have HG := Lib.hid hg; have HFN := Lib.hid hfn; have HY := Lib.hid hy; have HX := Lib.hid hx; have HN := Lib.hid hn
 obtain ⟨vn, vb, vs⟩ := xv
 obtain ⟨⟨An, cn, en, _, hln, hqn⟩, ⟨Ab, cb, eb, _, hlb, hqb⟩, ⟨As, cs, es, _, hls, _⟩⟩ := hg
 simp only at en eb es
 subst en eb es
 have hnl : n < g.nodes.length := by
  rcases Nat.lt_or_ge n g.nodes.length with h | h
  ·exact h
  ·rw [List.getElem?_eq_none h] at hy; cases hy
 have hbl : b < g.blocks.length := by
  rcases Nat.lt_or_ge b g.blocks.length with h | h
  ·exact h
  ·rw [List.getElem?_eq_none h] at hx; cases hx
 obtain ⟨bn, on, rfl, hbn, hqn⟩ := hqn (by omega)
 obtain ⟨bb, ob, rfl, hbb, hqb⟩ := hqb (by omega)
 have hln2 : g.nodes.length ≤ 17592186044416 := by unfold lim at hln; omega
 have hlb2 : g.blocks.length ≤ 17592186044416 := by unfold lim at hlb; omega
 have hls2 : g.states.length ≤ 17592186044416 := by unfold lim at hls; omega
 obtain ⟨g0, ⟨u1, g1, i1⟩, g2, g3, g4⟩ := hqn n y hy
 have HBk := Lib.hid (hqb b x hx)
 have HI1 := Lib.hid i1
 obtain ⟨A1, d1, rfl, _, hl1, _⟩ := i1
 have hl2 : y.args.length ≤ 17592186044416 := by unfold lim at hl1; omega
 clear hln hlb hls hl1 hqn hqb hp hf hm hfn hy hx hn
 have e0 : gval g ⟨.slice (some ⟨bn, on, none⟩) g.nodes.length cn, .slice (some ⟨bb, ob, none⟩) g.blocks.length cb, .slice As g.states.length cs⟩ = .agg #[.int .i64 g.fn, .int .i64 g.pc, .int .i64 g.slots, .slice (some ⟨bn, on, none⟩) g.nodes.length cn, .slice (some ⟨bb, ob, none⟩) g.blocks.length cb, .slice As g.states.length cs] := rfl
 have E0 := Lib.hid e0; clear e0
 rw [E0.out]
 obtain ⟨w1, hw1⟩ : ∃ w1, w1 = ((w.alloc (.cells #[.int .i64 g.fn, .int .i64 g.pc, .int .i64 g.slots, .slice (some ⟨bn, on, none⟩) g.nodes.length cn, .slice (some ⟨bb, ob, none⟩) g.blocks.length cb, .slice As g.states.length cs] 28)).alloc (.cells #[.int .i64 b, .int .i64 i] 64)).alloc (.cells #[.int .u8 y.op, .slice A1 y.args.length d1, .int .i64 y.N, .int .u8 y.kind, .int .i64 y.state] 68) := ⟨_, rfl⟩
 have HM1 : Hid (NdM w ⟨.slice (some ⟨bn, on, none⟩) g.nodes.length cn, .slice (some ⟨bb, ob, none⟩) g.blocks.length cb, .slice As g.states.length cs⟩ g y A1 d1 b i w1) := Lib.hid (by
  rw [hw1]
  exact ⟨((Blk.new _ _ _).alloc _).alloc _, by simpa using (Blk.new (w.alloc _) _ _).alloc _, by simpa using Blk.new ((w.alloc _).alloc _) _ _, (((Below.refl _ _).alloc (Nat.le_refl _) _).alloc (by simp) _).alloc (by simp; omega) _⟩)
 go_enter Tryz.func25, Tryz.ntmps25
 go_upto_region 2 with fail
 rw [← hw1]
 clear hw1
 go_wp2_with fail
 go_loopw [10] (fun t wr => ∃ k : Nat, k ≤ y.args.length ∧ t = .int .i64 k ∧ Hid (NdM w ⟨.slice (some ⟨bn, on, none⟩) g.nodes.length cn, .slice (some ⟨bb, ob, none⟩) g.blocks.length cb, .slice As g.states.length cs⟩ g y A1 d1 b i wr) ∧ Hid (∀ j a, j < k → y.args[j]? = some a → 0 ≤ a ∧ a < (g.nodes.length : Int))) (fun t _ => y.args.length - (intOf t).toNat)
 case atStart => exact ⟨0, Nat.zero_le _, rfl, HM1, Lib.hid (fun j a h => by omega)⟩
 case round =>
  obtain ⟨k, hk, rfl, HMr, HA⟩ := hrel
  obtain ⟨q0, q2, q3, q4, q5, q6, q7, q8, q9, q10, q11, q12, ql⟩ := HMr.out.cells
  clear g0 g1 g2 g3 g4
  by_cases hlt : k < y.args.length
  ·obtain ⟨B1, o1, rfl, _, hp1⟩ := (HI1.out.keep (Same.of_below HMr.out.low)).cells hlt
   obtain ⟨a, ha⟩ := rget hlt
   have c0 := hp1 k a ha
   have HAa := Lib.hid ha
   clear hp1 ha
   rcases h1 : decide (a < 0) with _ | _
   ·rcases h2 : decide ((g.nodes.length : Int) ≤ a) with _ | _
    ·have H1 := Lib.hid h1; have H2 := Lib.hid h2
     go_wp2_with go_quiet (fail)
     go_roundw
     case rel => exact ⟨k + 1, by omega, by go_num, Lib.hid HMr.out.drew, Lib.hid (fun j z hj hz => by
      rcases Nat.lt_or_ge j k with h | h
      ·exact HA.out j z h hz
      ·obtain rfl : j = k := by omega
       rw [HAa.out] at hz; injection hz with hz; subst hz
       have h3 := of_decide_eq_false H1.out
       have h4 := of_decide_eq_false H2.out
       omega)⟩
     case measure => simp [intOf]; omega
    ·go_wp2_with go_quiet (fail)
     go_ret
     exact ⟨⟨false, rfl, fun h => by cases h⟩, HMr.out.drew.low⟩
   ·go_wp2_with go_quiet (fail)
    go_ret
    exact ⟨⟨false, rfl, fun h => by cases h⟩, HMr.out.drew.low⟩
  ·have hAll : ∀ a ∈ y.args, 0 ≤ a ∧ a < (g.nodes.length : Int) := fun a ha => by
    obtain ⟨j, hj⟩ := List.mem_iff_getElem?.1 ha
    refine HA.out j a ?_ hj
    rcases Nat.lt_or_ge j y.args.length with q | q
    ·omega
    ·rw [List.getElem?_eq_none q] at hj; cases hj
   have HAL := Lib.hid hAll
   clear hAll
   by_cases hst : -1 ≤ y.state ∧ y.state < (g.states.length : Int)
   rotate_left
   ·have HST := Lib.hid (show (-1 ≤ y.state ∧ y.state < (g.states.length : Int)) → False from hst)
    clear hst
    go_upto_region 9 with fail
    all_goals first
     | (go_ret; exact ⟨⟨false, rfl, fun h => by cases h⟩, HMr.out.low⟩)
     | (exfalso; exact HST.out ⟨by omega, by omega⟩)
   ·obtain ⟨hs1, hs2⟩ := hst
    obtain ⟨⟨v0, f0, i0⟩, f1, ⟨v2, f2, i2⟩, ⟨v3, f3, i3⟩, ⟨v4, f4, i4⟩, f5⟩ := HBk.out.keep (Same.of_below HMr.out.low) hbb
    have HI0 := Lib.hid i0
    obtain ⟨B0, e0, rfl, _, m0, _⟩ := i0
    obtain ⟨B2, e2, rfl, _, m2, _⟩ := i2
    obtain ⟨B3, e3, rfl, _, m3, _⟩ := i3
    obtain ⟨B4, e4, rfl, _, m4, _⟩ := i4
    have k0 : x.nodes.length ≤ 17592186044416 := by unfold lim at m0; omega
    have k4 : x.ahead.length ≤ 17592186044416 := by unfold lim at m4; omega
    obtain ⟨w2, hw2⟩ : ∃ w2, w2 = wr.alloc (.cells #[.slice B0 x.nodes.length e0, .int .u8 x.fin, .slice B2 x.args.length e2, .slice B3 x.next.length e3, .slice B4 x.ahead.length e4, .int .i64 x.state] 41) := ⟨_, rfl⟩
    have hb2 : Below wr.heap.size wr w2 := by rw [hw2]; exact (Below.refl _ _).alloc (Nat.le_refl _) _
    have HK2 : Hid (Blk w2 wr.heap.size 41 #[.slice B0 x.nodes.length e0, .int .u8 x.fin, .slice B2 x.args.length e2, .slice B3 x.next.length e3, .slice B4 x.ahead.length e4, .int .i64 x.state]) := Lib.hid (by rw [hw2]; exact Blk.new _ _ _)
    have HM2 := Lib.hid (HMr.out.below hb2)
    have HS1 := Lib.hid hs1; have HS2 := Lib.hid hs2
    have ds1 : decide (y.state < -1) = false := decide_eq_false (by omega)
    have ds2 : decide ((g.states.length : Int) ≤ y.state) = false := decide_eq_false (by omega)
    have HI0' : Hid (IntsV w2 w2.heap.size (.slice B0 x.nodes.length e0) x.nodes) := Lib.hid ((HI0.out.mono HMr.out.low.size).later hb2 (Nat.le_refl _))
    clear m0 m2 m3 m4 HI0
    go_upto_region 10 with fail
    rw [← hw2]
    clear hw2 q0 q2 q3 q4 q5 q6 q7 q8 q9 q10 q11 q12 ql f0 f1 f2 f3 f4 f5 hs1 hs2
    obtain ⟨q0, q2, q3, q4, q5, q6, q7, q8, q9, q10, q11, q12, ql⟩ := HM2.out.cells
    have b0 := HK2.out.cell 0
    have b4 := HK2.out.cell 4
    have bl := HK2.out.lt
    rcases ho1 : (y.op == 1) with _ | _
    ·rcases ho2 : (y.op == 2) with _ | _
     ·have hno : y.op = 2 → False := fun h => by rw [h] at ho2; cases ho2
      have HF2 : Hid (NdF g y b x i) := Lib.hid ⟨HAL.out, ⟨HS1.out, HS2.out⟩, fun h => (hno h).elim, fun h => (hno h).elim⟩
      clear hno
      rcases hok : (args14 (reg12 y.op) y.args.length).1 with _ | _
      ·go_wp2_with first
        | (go_at_call 62; refine (ref12Reg_any _ _).mono ?_; rintro e w9 ⟨rfl, rfl⟩)
        | (go_at_call 63; refine (ref14Args_any _ _ _).mono ?_; rintro e w9 ⟨rfl, hb9⟩; rw [hok]; have HM9 := Lib.hid (HM2.out.below hb9); clear hb9; obtain ⟨q0, q2, q3, q4, q5, q6, q7, q8, q9, q10, q11, q12, ql⟩ := HM9.out.cells)
        | fail
       go_ret
       exact ⟨⟨false, rfl, fun h => by cases h⟩, HM9.out.low⟩
      ·obtain ⟨ex, hex⟩ : ∃ ex, ex = (args14 (reg12 y.op) y.args.length).2 := ⟨_, rfl⟩
       have HEX := Lib.hid hex
       have HOK := Lib.hid hok
       have HRA : Hid (∀ w', Calls Tryz.prog 63 #[.int .u8 (reg12 y.op), .int .i64 y.args.length] w' (fun e w'' => e = .returned (.tuple #[.bool true, .bool ex]) ∧ Below w'.heap.size w' w'')) := Lib.hid (fun w' => by
        have := ref14Args_any w' (reg12 y.op) y.args.length
        rw [HOK.out, ← HEX.out] at this
        exact this)
       clear hex hok
       have hend : ∀ (t : Bool), t = decide (0 ≤ y.state) → (ex != t) = !(ex == t) := fun t _ => rfl
       clear hend
       rcases hss : decide (0 ≤ y.state) with _ | _
       ·cases ex with
        | true =>
         go_wp2_with first
          | (go_at_call 62; refine (ref12Reg_any _ _).mono ?_; rintro e w9 ⟨rfl, rfl⟩)
          | (go_at_call 63; refine (HRA.out _).mono ?_; rintro e w9 ⟨rfl, hb9⟩; have HM9 := Lib.hid (HM2.out.below hb9); have HP9 := Lib.hid (HP.out.later HM9.out.low (Nat.le_refl _)); clear hb9; obtain ⟨q0, q2, q3, q4, q5, q6, q7, q8, q9, q10, q11, q12, ql⟩ := HM9.out.cells; rw [HFN.out] at q0)
          | (go_at_call 64; refine (ref14Number_any _ v p fn f _ _ _ _ HP9.out HF.out HM.out).mono ?_; rintro e w8 ⟨t, rfl, hb8⟩; have HM8 := Lib.hid (HM9.out.below hb8); clear hb8; clear q0 q2 q3 q4 q5 q6 q7 q8 q9 q10 q11 q12 ql; obtain ⟨q0, q2, q3, q4, q5, q6, q7, q8, q9, q10, q11, q12, ql⟩ := HM8.out.cells; rw [HFN.out] at q0; cases t)
          | fail
         all_goals go_ret
         all_goals exact ⟨⟨false, rfl, fun h => by cases h⟩, HM8.out.low⟩
        | false =>
         rcases ho22 : (y.op == 22) with _ | _
         ·go_wp2_with first
           | (go_at_call 62; refine (ref12Reg_any _ _).mono ?_; rintro e w9 ⟨rfl, rfl⟩)
           | (go_at_call 63; refine (HRA.out _).mono ?_; rintro e w9 ⟨rfl, hb9⟩; have HM9 := Lib.hid (HM2.out.below hb9); have HP9 := Lib.hid (HP.out.later HM9.out.low (Nat.le_refl _)); clear hb9; obtain ⟨q0, q2, q3, q4, q5, q6, q7, q8, q9, q10, q11, q12, ql⟩ := HM9.out.cells; rw [HFN.out] at q0)
           | (go_at_call 64; refine (ref14Number_any _ v p fn f _ _ _ _ HP9.out HF.out HM.out).mono ?_; rintro e w8 ⟨t, rfl, hb8⟩; have HM8 := Lib.hid (HM9.out.below hb8); clear hb8; clear q0 q2 q3 q4 q5 q6 q7 q8 q9 q10 q11 q12 ql; obtain ⟨q0, q2, q3, q4, q5, q6, q7, q8, q9, q10, q11, q12, ql⟩ := HM8.out.cells; rw [HFN.out] at q0; cases t)
           | fail
          all_goals go_ret
          all_goals exact ⟨⟨_, rfl, fun _ => HF2.out⟩, HM8.out.low⟩
         ·exfalso
          have h1 : y.op = 22 := by simpa using ho22
          have h2 := HEX.out
          rw [h1] at h2
          have h3 := args14_call y.args.length
          have h4 : reg12 22 = 24 := rfl
          rw [h4, h3] at h2
          cases h2
       ·cases ex with
        | false =>
         go_wp2_with first
          | (go_at_call 62; refine (ref12Reg_any _ _).mono ?_; rintro e w9 ⟨rfl, rfl⟩)
          | (go_at_call 63; refine (HRA.out _).mono ?_; rintro e w9 ⟨rfl, hb9⟩; have HM9 := Lib.hid (HM2.out.below hb9); have HP9 := Lib.hid (HP.out.later HM9.out.low (Nat.le_refl _)); clear hb9; obtain ⟨q0, q2, q3, q4, q5, q6, q7, q8, q9, q10, q11, q12, ql⟩ := HM9.out.cells; rw [HFN.out] at q0)
          | (go_at_call 64; refine (ref14Number_any _ v p fn f _ _ _ _ HP9.out HF.out HM.out).mono ?_; rintro e w8 ⟨t, rfl, hb8⟩; have HM8 := Lib.hid (HM9.out.below hb8); clear hb8; clear q0 q2 q3 q4 q5 q6 q7 q8 q9 q10 q11 q12 ql; obtain ⟨q0, q2, q3, q4, q5, q6, q7, q8, q9, q10, q11, q12, ql⟩ := HM8.out.cells; rw [HFN.out] at q0; cases t)
          | fail
         all_goals go_ret
         all_goals exact ⟨⟨false, rfl, fun h => by cases h⟩, HM8.out.low⟩
        | true =>
         rcases ho22 : (y.op == 22) with _ | _
         ·go_wp2_with first
           | (go_at_call 62; refine (ref12Reg_any _ _).mono ?_; rintro e w9 ⟨rfl, rfl⟩)
           | (go_at_call 63; refine (HRA.out _).mono ?_; rintro e w9 ⟨rfl, hb9⟩; have HM9 := Lib.hid (HM2.out.below hb9); have HP9 := Lib.hid (HP.out.later HM9.out.low (Nat.le_refl _)); clear hb9; obtain ⟨q0, q2, q3, q4, q5, q6, q7, q8, q9, q10, q11, q12, ql⟩ := HM9.out.cells; rw [HFN.out] at q0)
           | (go_at_call 64; refine (ref14Number_any _ v p fn f _ _ _ _ HP9.out HF.out HM.out).mono ?_; rintro e w8 ⟨t, rfl, hb8⟩; have HM8 := Lib.hid (HM9.out.below hb8); clear hb8; clear q0 q2 q3 q4 q5 q6 q7 q8 q9 q10 q11 q12 ql; obtain ⟨q0, q2, q3, q4, q5, q6, q7, q8, q9, q10, q11, q12, ql⟩ := HM8.out.cells; rw [HFN.out] at q0; cases t)
           | fail
          all_goals go_ret
          all_goals exact ⟨⟨_, rfl, fun _ => HF2.out⟩, HM8.out.low⟩
         ·have hs0 : 0 ≤ y.state := of_decide_eq_true hss
          obtain ⟨sn, hsn⟩ : ∃ sn : Nat, y.state = (sn : Int) := ⟨y.state.toNat, by omega⟩
          have HSN := Lib.hid hsn
          have hsl : sn < g.states.length := by have := HS2.out; omega
          obtain ⟨Az, cz, ez, _, _, hqz⟩ := HG.out.2.2
          injection ez with ez1 ez2 ez3
          obtain ⟨bz, oz, ez4, hbz, hqz⟩ := hqz (by omega)
          rw [← ez1] at ez4
          subst ez4
          obtain ⟨⟨spc, ssl⟩, hst⟩ := rget hsl
          have HST := Lib.hid (hqz sn _ hst)
          obtain ⟨Ap, cp, ep, _, _, hqp⟩ := HP.out
          have hfl : fn < p.length := by
           rcases Nat.lt_or_ge fn p.length with h | h
           ·exact h
           ·have := HF.out; rw [List.getElem?_eq_none h] at this; cases this
          obtain ⟨bp, op, rfl, hbp, hqp⟩ := hqp (by omega)
          obtain ⟨fy, hfv, hfc⟩ := hqp fn f HF.out
          obtain ⟨A3, c3, A4, c4, A5, c5, A6, c6, A7, c7, ey, hk3, hk4, hk5, hk6, hk7⟩ := fn_shape hfv
          subst ey ep
          have HFV := Lib.hid hfv; have HFC := Lib.hid hfc
          have hpl : p.length ≤ 17592186044416 := by
           obtain ⟨_, _, _, _, h, _⟩ := HP.out; unfold lim at h; omega
          clear hqz hst ez1 ez2 ez3 hqp hfv hfc hs0
          rw [HSN.out] at q12
          clear hss ds1 ds2 hsn
          have dsa : decide ((sn : Int) < -1) = false := decide_eq_false (by omega)
          go_upto_region 27 with first
           | (go_at_call 62; refine (ref12Reg_any _ _).mono ?_; rintro e w9 ⟨rfl, rfl⟩)
           | (go_at_call 63; refine (HRA.out _).mono ?_; rintro e w9 ⟨rfl, hb9⟩; have HM9 := Lib.hid (HM2.out.below hb9); have HP9 := Lib.hid (HP.out.later HM9.out.low (Nat.le_refl _)); clear hb9; obtain ⟨q0, q2, q3, q4, q5, q6, q7, q8, q9, q10, q11, q12, ql⟩ := HM9.out.cells; rw [HFN.out] at q0; rw [HSN.out] at q12)
           | (go_at_call 64; refine (ref14Number_any _ _ p fn f _ _ _ _ HP9.out HF.out HM.out).mono ?_; rintro e w8 ⟨t, rfl, hb8⟩; have HM8 := Lib.hid (HM9.out.below hb8); clear hb8; clear q0 q2 q3 q4 q5 q6 q7 q8 q9 q10 q11 q12 ql; obtain ⟨q0, q2, q3, q4, q5, q6, q7, q8, q9, q10, q11, q12, ql⟩ := HM8.out.cells; rw [HFN.out] at q0; rw [HSN.out] at q12; have t0 : w8.cell? ⟨bz, oz + sn * 2, none⟩ = some (.int .i64 spc) := (HST.out.keep (Same.of_below HM8.out.low) hbz).1; have p5 : w8.cell? ⟨bp, op + fn * 8 + 5, none⟩ = some (.slice A5 f.code.length c5) := (HM8.out.low.cell (p := ⟨bp, op + fn * 8 + 5, none⟩) hbp).trans (HFC.out 5 (by omega)); cases t)
           | fail
          ·go_ret
           exact ⟨⟨false, rfl, fun h => by cases h⟩, HM8.out.low⟩
          rcases h1 : decide (0 ≤ spc) with _ | _
          ·go_wp2_with go_quiet (fail)
           go_ret
           exact ⟨⟨_, rfl, fun _ => HF2.out⟩, HM8.out.drew.low⟩
          ·rcases h2 : decide (spc < (f.code.length : Int)) with _ | _
           ·go_wp2_with go_quiet (fail)
            go_ret
            exact ⟨⟨_, rfl, fun _ => HF2.out⟩, HM8.out.drew.low⟩
           ·obtain ⟨pc, hpc⟩ : ∃ pc : Nat, spc = (pc : Int) := ⟨spc.toNat, by have := of_decide_eq_true h1; omega⟩
            have hpl2 : pc < f.code.length := by have := of_decide_eq_true h2; omega
            obtain ⟨ins, hins⟩ := rget hpl2
            obtain ⟨Ac, cc, ec, _, _, hqc⟩ := HFV.out.code
            injection ec with ec1 ec2 ec3
            obtain ⟨bc, oc, ec4, hbc, hqc⟩ := hqc (by omega)
            rw [← ec1] at ec4
            subst ec4
            obtain ⟨j0, j1, _⟩ := (hqc pc ins hins).keep (Same.of_below HM8.out.low) hbc
            clear hqc hins ec1 ec2 ec3
            subst hpc
            rcases h3 : (ins.op == 27) with _ | _
            ·go_wp2_with go_quiet (fail)
             go_ret
             exact ⟨⟨_, rfl, fun _ => HF2.out⟩, HM8.out.drew.low⟩
            ·go_wp2_with go_quiet (fail)
             go_ret
             exact ⟨⟨_, rfl, fun _ => HF2.out⟩, HM8.out.drew.low⟩
     ·have hop : y.op = 2 := by simpa using ho2
      have HOP := Lib.hid hop
      have HBW := Lib.hid (show Below w.heap.size w w2 from HM2.out.low)
      clear hop
      go_wp2_with fail
      go_loopw [12] (fun t w3 => ∃ k : Nat, k ≤ i ∧ t = .int .i64 k ∧ Hid (NdM w ⟨.slice (some ⟨bn, on, none⟩) g.nodes.length cn, .slice (some ⟨bb, ob, none⟩) g.blocks.length cb, .slice As g.states.length cs⟩ g y A1 d1 b i w3) ∧ Hid (Below w2.heap.size w2 w3) ∧ Hid (∀ (j m : Nat) z, j < k → x.nodes[j]? = some (m : Int) → g.nodes[m]? = some z → z.op = 2)) (fun t _ => i - (intOf t).toNat)
      case atStart => exact ⟨0, Nat.zero_le _, rfl, HM2, Lib.hid (Below.refl _ _), Lib.hid (fun j m z h => by omega)⟩
      case round =>
       obtain ⟨k3, hk3, rfl, HM3, HB3, HPF⟩ := hrel
       clear q0 q2 q3 q4 q5 q6 q7 q8 q9 q10 q11 q12 ql b0 b4
       obtain ⟨q0, q2, q3, q4, q5, q6, q7, q8, q9, q10, q11, q12, ql⟩ := HM3.out.cells
       have hk3' := HK2.out.below HB3.out HK2.out.lt
       have b0 := hk3'.cell 0
       have b4 := hk3'.cell 4
       have bl3 := hk3'.lt
       clear hk3'
       by_cases hlt3 : k3 < i
       ·obtain ⟨C0, p0, rfl, _, hp0⟩ := (HI0'.out.keep (Same.of_below HB3.out)).cells (show k3 < x.nodes.length by omega)
        obtain ⟨a, ha⟩ := rget (show k3 < x.nodes.length by omega)
        have c0 := hp0 k3 a ha
        obtain ⟨a1, a2⟩ := HN.out k3 a hlt3 ha
        obtain ⟨m, rfl⟩ : ∃ m : Nat, a = (m : Int) := ⟨a.toNat, by omega⟩
        have hml : m < g.nodes.length := by omega
        obtain ⟨z, hz⟩ := rget hml
        obtain ⟨Az, cz, ez, _, _, hqz⟩ := (HG.out.keep (Same.of_below HM3.out.low)).1
        injection ez with ez1 ez2 ez3
        obtain ⟨bz, oz, ez4, _, hqz⟩ := hqz (by omega)
        rw [← ez1] at ez4
        injection ez4 with ez4
        injection ez4 with ez5 ez6
        subst ez5 ez6
        have z0 := (hqz m z hz).1
        have HZz := Lib.hid hz; have HAz := Lib.hid ha
        clear hp0 ha hqz hz ez1 ez2 ez3 a1 a2
        rcases hzo : (z.op != 2) with _ | _
        ·have HZo := Lib.hid hzo
         go_wp2_with go_quiet (fail)
         go_roundw
         case rel => exact ⟨k3 + 1, by omega, by go_num, Lib.hid HM3.out.drew, Lib.hid (bdrew HB3.out), Lib.hid (fun j m' z' hj hm' hz' => by
          rcases Nat.lt_or_ge j k3 with h | h
          ·exact HPF.out j m' z' h hm' hz'
          ·obtain rfl : j = k3 := by omega
           rw [HAz.out] at hm'; injection hm' with hm'
           obtain rfl : m' = m := by omega
           rw [HZz.out] at hz'; injection hz' with hz'; subst hz'
           have := HZo.out
           simpa using this)⟩
         case measure => simp [intOf]; omega
        ·go_wp2_with go_quiet (fail)
         go_ret
         exact ⟨⟨false, rfl, fun h => by cases h⟩, HM3.out.drew.low⟩
       ·by_cases hb0 : 0 < b ∧ y.args.length = x.ahead.length
        ·obtain ⟨hb1, hb2⟩ := hb0
         have HF2 : Hid (∀ l, l = y.args.length → NdF g y b x i) := Lib.hid fun _ _ => ⟨HAL.out, ⟨HS1.out, HS2.out⟩, fun _ => ⟨hb1, hb2⟩, fun _ j m z hj hm hz => HPF.out j m z (by omega) hm hz⟩
         have HB2 := Lib.hid hb2
         have e3 : ((y.args.length : Int) == (x.ahead.length : Int)) = true := by simp [hb2]
         clear hb2
         go_wp2_with fail
         all_goals go_ret
         all_goals exact ⟨⟨_, rfl, fun _ => HF2.out _ rfl⟩, HM3.out.low⟩
        ·have HB0 := Lib.hid (show (0 < b ∧ y.args.length = x.ahead.length) → False from hb0)
         clear hb0
         go_wp2_with fail
         all_goals go_ret
         all_goals first
          | exact ⟨⟨false, rfl, fun h => by cases h⟩, HM3.out.low⟩
          | (exfalso; exact HB0.out ⟨by omega, by omega⟩)
    ·have hno : y.op = 2 → False := fun h => by rw [h] at ho1; cases ho1
     have HF2 : Hid (∀ b', NdF g y b' x i) := Lib.hid fun _ => ⟨HAL.out, ⟨HS1.out, HS2.out⟩, fun h => (hno h).elim, fun h => (hno h).elim⟩
     clear hno
     go_wp2_with fail
     all_goals go_ret
     all_goals exact ⟨⟨_, rfl, fun _ => HF2.out _⟩, HM2.out.low⟩
end Go.Proofs.YtkmfdiboekoioaaGreat
