/- The reference 20 asks all sets once: its memory, the loop over the blocks next to one. Conditions: a small graph, rows of sets that lie in memory. -/
import Derived.Test.YtkmfdiboekoioaaGreatCRfUsed
set_option linter.unusedSimpArgs false
set_option linter.unusedVariables false
namespace Go.Proofs.YtkmfdiboekoioaaGreat
open Go.RowKit
/-- The slices of rows. -/
def rcells (N nb : Nat) (r : Nat → Nat) : Array Value := ((List.range nb).map (fun i => Value.slice (some ⟨r i, 0, none⟩) N N)).toArray
theorem rcells_get {N nb k : Nat} {r : Nat → Nat} (h : k < nb) : (rcells N nb r)[k]? = some (.slice (some ⟨r k, 0, none⟩) N N) := by simp [rcells, h]
theorem rcells_set {N nb k : Nat} {r : Nat → Nat} (h : k < nb) (q : Nat) : (rcells N nb r).setIfInBounds k (.slice (some ⟨q, 0, none⟩) N N) = rcells N nb (fun z => if z = k then q else r z) := by
 apply Array.ext
 ·simp [rcells]
 ·intro i h1 h2
  simp only [rcells, List.setIfInBounds_toArray, List.getElem_toArray, List.getElem_set, List.getElem_map, List.getElem_range]
  by_cases e : k = i
  ·subst e; simp
  ·have e2 : (i = k) = False := by simp; omega
   simp [e, e2]
/-- Sets as rows of Bools. -/
structure Rows20 (w : World) (B b N nb : Nat) (I : Sets) (r : Nat → Nat) : Prop where
 row : Blk w b 168 (rcells N nb r)
 each : ∀ i, i < nb → BRow w (r i) N (I.at_ i)
 low : B ≤ b ∧ ∀ i, i < nb → B ≤ r i
section
variable {w w' : World} {B b N nb : Nat} {I : Sets} {r : Nat → Nat}
theorem Rows20.below (h : Rows20 w B b N nb I r) (hb : Below w.heap.size w w') : Rows20 w' B b N nb I r := ⟨h.row.below hb h.row.lt, fun i hi => (h.each i hi).below hb (h.each i hi).lt, h.low⟩
theorem Rows20.cell (h : Rows20 w B b N nb I r) {k : Nat} (hk : k < nb) : w.cell? ⟨b, k, none⟩ = some (.slice (some ⟨r k, 0, none⟩) N N) := (h.row.cell k).trans (rcells_get hk)
theorem Rows20.at_ (h : Rows20 w B b N nb I r) {k j : Nat} (hk : k < nb) (hj : j < N) : w.cell? ⟨r k, j, none⟩ = some (.bool (I.at_ k (j : Int))) := ((h.each k hk).cell j).trans (bcells_get hj)
theorem Rows20.ne (h : Rows20 w B b N nb I r) {q : Nat} {t : TypeId} {cs : Array Value} (hq : Blk w q t cs) (ht : t ≠ 168) : q ≠ b := fun e => by
 subst e
 have := h.row
 unfold Blk at this hq
 rw [hq] at this
 injection this with this
 injection this with _ h2 _
 exact ht h2
theorem Rows20.set_ (h : Rows20 w B b N nb I r) {k q : Nat} {p : ISet} (hk : k < nb) (hq : BRow w q N p) (hB : B ≤ q) : Rows20 (w.setCell ⟨b, k, none⟩ (.slice (some ⟨q, 0, none⟩) N N)) B b N nb (I.put k p) (fun z => if z = k then q else r z) := by
 refine ⟨?_, fun i hi => ?_, h.low.1, fun i hi => ?_⟩
 ·have := h.row.set_ k (.slice (some ⟨q, 0, none⟩) N N)
  rwa [rcells_set hk] at this
 ·by_cases e : i = k
  ·subst e
   simp only [if_true]
   rw [Sets.put_at]
   exact hq.far (h.ne hq (by decide)) _
  ·simp only [if_neg e]
   have e2 : (I.put k p).at_ i = I.at_ i := by unfold Sets.at_; rw [Sets.put_other I p e]
   rw [e2]
   exact (h.each i hi).far (h.ne (h.each i hi) (by decide)) _
 ·by_cases e : i = k
  ·simp only [if_pos e]; exact hB
  ·simp only [if_neg e]; exact h.low.2 i hi
theorem Rows20.far (h : Rows20 w B b N nb I r) {q k : Nat} {v : Value} {cs : Array Value} (hq : Blk w q 168 cs) (hne : b ≠ q) : Rows20 (w.setCell ⟨q, k, none⟩ v) B b N nb I r :=
 ⟨h.row.far hne _, fun i hi => (h.each i hi).far (fun e => by
  have h1 := h.each i hi
  have e : r i = q := e
  rw [e] at h1
  unfold BRow Blk at h1
  unfold Blk at hq
  rw [hq] at h1
  injection h1 with h1
  injection h1 with _ h2 _
  exact absurd h2 (by decide)) _, h.low⟩
end
/-- The memory of 'once'. -/
structure OnM (w0 : World) (B bi bo gb : Nat) (xv : GVals) (g : GraphP) (I O : Sets) (ri ro : Nat → Nat) (W : World) : Prop where
 gr : GCtx W B gb xv g
 rI : Rows20 W B bi g.nodes.length g.blocks.length I ri
 rO : Rows20 W B bo g.nodes.length g.blocks.length O ro
 low : Below B w0 W
 ne : bi ≠ bo
 gB : B ≤ gb
theorem OnM.below {w0 : World} {B bi bo gb : Nat} {xv : GVals} {g : GraphP} {I O : Sets} {ri ro : Nat → Nat} {W W' : World} (h : OnM w0 B bi bo gb xv g I O ri ro W) (hb : Below W.heap.size W W') : OnM w0 B bi bo gb xv g I O ri ro W' :=
 ⟨h.gr.below hb, h.rI.below hb, h.rO.below hb, h.low.trans (hb.mono h.gr.hB), h.ne, h.gB⟩
def loopsO : Code → List Code
 | .loop c => c :: loopsO c
 | .seq a b => loopsO a ++ loopsO b
 | .block _ c => loopsO c
 | .scope c => loopsO c
 | .cond _ a b => loopsO a ++ loopsO b
 | _ => []
noncomputable def oloop (k : Nat) : Code := ((Tryz.f121.body.map loopsO).getD []).getD k .skip
theorem blocks_at {w : World} {B b off n c : Nat} {l : List BlockP} (h : BlocksV w B (.slice (some ⟨b, off, none⟩) n c) l) {k : Nat} {y : BlockP} (hy : l[k]? = some y) : b < B ∧ BlockAt w B b (off + k * 6) y := by
 obtain ⟨A, c', e, _, _, h⟩ := h
 injection e with e1 e2 e3
 obtain ⟨b', o', e4, hb, h⟩ := h (by have := (List.getElem?_eq_some_iff.1 hy).1; omega)
 rw [← e1] at e4
 injection e4 with e4
 injection e4 with e4 e5
 subst e4 e5
 exact ⟨hb, h k y hy⟩
set_option maxRecDepth 100000 in
set_option maxHeartbeats 8000000 in
theorem onext_any (w0 : World) (B bi bo gb : Nat) (g : GraphP) (An Ab As : Option Addr) (cn cb cs : Nat) (I O : Sets) (ri ro : Nat → Nat) (b : Nat) (x : BlockP) (W0 : World) (ob : Nat) (A3 : Option Addr) (c3 : Nat) (W1 : World) (hs : Small g) (hx : g.blocks[b]? = some x) (M0 : OnM w0 B bi bo gb ⟨.slice An g.nodes.length cn, .slice Ab g.blocks.length cb, .slice As g.states.length cs⟩ g I O ri ro W0) (hob : W0.heap.size ≤ ob) (hr : BRow W1 ob g.nodes.length ISet.empty) (hl : Below W0.heap.size W0 W1) (hi3 : IntsV W0 B (.slice A3 x.next.length c3) x.next)
  (u4 u5 u6 u7 u12 u13 u14 u15 u16 u17 u18 u19 u20 u21 u22 u23 u24 u25 u26 u27 u28 u29 u30 u31 u32 u33 u34 u35 u36 u37 u38 u39 u40 u41 u42 u43 u44 u45 u46 u47 u48 u49 u50 u51 u52 u53 u54 u55 u56 u57 u58 u59 u60 u61 u62 u63 u64 u65 u66 u67 u68 u69 u70 u71 u72 u73 u74 u75 u76 u77 u78 u79 u80 u81 u82 u83 u84 u85 u86 u87 u88 u89 u90 u91 u92 u93 u94 u95 u96 u97 u98 u99 u100 u101 u102 u103 u104 u105 u106 u107 u108 u109 u110 u111 u112 u113 u114 u115 u116 u117 u118 u119 u120 u121 u122 u123 u124 u125 u126 u127 u128 u129 u130 u131 u132 u133 u134 u135 u136 u137 u138 u139 u140 u141 u142 u143 u144 u145 u146 u147 u148 u149 u150 u151 u152 u153 u154 u155 u156 u157 : Value) (Q : Exit → Act → World → Prop)
  (hpan : ∀ c d v a w, Q (.panic c) (Act.put a d v) w → Q (.panic c) a w)
  (hexit : ∀ (x11 x33 x34 x35 x36 x37 x38 x39 x40 x41 x42 x43 x44 x45 x46 x47 x48 x49 x50 x51 x52 x53 x54 x55 x56 x57 x58 x59 x60 x61 x62 x63 x64 x65 x66 x67 x68 x69 x70 x71 x72 x73 x74 : Value) (W' : World), (BRow W' ob g.nodes.length (outF g I b x) ∧ Below W0.heap.size W0 W') → Q (.exit 2) ⟨#[.agg #[.int .i64 g.fn, .int .i64 g.pc, .int .i64 g.slots, .slice An g.nodes.length cn, .slice Ab g.blocks.length cb, .slice As g.states.length cs], .slice (some ⟨bi, 0, none⟩) g.blocks.length g.blocks.length, .slice (some ⟨bo, 0, none⟩) g.blocks.length g.blocks.length, .pointer (some ⟨gb, 0, none⟩), u4, u5, u6, u7, .int .i64 (b : Int), .slice (some ⟨ob, 0, none⟩) g.nodes.length g.nodes.length, .slice A3 x.next.length c3, x11, u12, u13, u14, u15, u16, u17, u18, u19, u20, u21, u22, u23, u24, u25, u26, u27, u28, u29, u30, u31, u32, x33, x34, x35, x36, x37, x38, x39, x40, x41, x42, x43, x44, x45, x46, x47, x48, x49, x50, x51, x52, x53, x54, x55, x56, x57, x58, x59, x60, x61, x62, x63, x64, x65, x66, x67, x68, x69, x70, x71, x72, x73, x74, u75, u76, u77, u78, u79, u80, u81, u82, u83, u84, u85, u86, u87, u88, u89, u90, u91, u92, u93, u94, u95, u96, u97, u98, u99, u100, u101, u102, u103, u104, u105, u106, u107, u108, u109, u110, u111, u112, u113, u114, u115, u116, u117, u118, u119, u120, u121, u122, u123, u124, u125, u126, u127, u128, u129, u130, u131, u132, u133, u134, u135, u136, u137, u138, u139, u140, u141, u142, u143, u144, u145, u146, u147, u148, u149, u150, u151, u152, u153, u154, u155, u156, u157], []⟩ W') :
  Code.wp Tryz.prog (Code.loop (oloop 1)) Q ⟨#[.agg #[.int .i64 g.fn, .int .i64 g.pc, .int .i64 g.slots, .slice An g.nodes.length cn, .slice Ab g.blocks.length cb, .slice As g.states.length cs], .slice (some ⟨bi, 0, none⟩) g.blocks.length g.blocks.length, .slice (some ⟨bo, 0, none⟩) g.blocks.length g.blocks.length, .pointer (some ⟨gb, 0, none⟩), u4, u5, u6, u7, .int .i64 (b : Int), .slice (some ⟨ob, 0, none⟩) g.nodes.length g.nodes.length, .slice A3 x.next.length c3, .int .i64 (0 : Int), u12, u13, u14, u15, u16, u17, u18, u19, u20, u21, u22, u23, u24, u25, u26, u27, u28, u29, u30, u31, u32, u33, u34, u35, u36, u37, u38, u39, u40, u41, u42, u43, u44, u45, u46, u47, u48, u49, u50, u51, u52, u53, u54, u55, u56, u57, u58, u59, u60, u61, u62, u63, u64, u65, u66, u67, u68, u69, u70, u71, u72, u73, u74, u75, u76, u77, u78, u79, u80, u81, u82, u83, u84, u85, u86, u87, u88, u89, u90, u91, u92, u93, u94, u95, u96, u97, u98, u99, u100, u101, u102, u103, u104, u105, u106, u107, u108, u109, u110, u111, u112, u113, u114, u115, u116, u117, u118, u119, u120, u121, u122, u123, u124, u125, u126, u127, u128, u129, u130, u131, u132, u133, u134, u135, u136, u137, u138, u139, u140, u141, u142, u143, u144, u145, u146, u147, u148, u149, u150, u151, u152, u153, u154, u155, u156, u157], []⟩ W1 := by
 have HM0 := Lib.hid M0; have HI3 := Lib.hid hi3; have HX := Lib.hid hx; have HEx := Lib.hid hexit; have HPan := Lib.hid hpan; have HR1 := Lib.hid hr; have HL1 := Lib.hid hl
 have HB := Lib.hid M0.gr.hB
 obtain ⟨l1, l2, l3⟩ := hs.lens
 obtain ⟨m1, m2, m3, m4⟩ := hs.block hx
 clear M0 hx hexit hr hl hi3 hpan
 conv => arg 2; arg 1; whnf
 dsimp only
 have HA : Hid (∀ W p l v, BRow W ob g.nodes.length p → Below W0.heap.size W0 W → IntsV W W.heap.size v l →
   Calls Tryz.prog 146 #[.agg #[.int .i64 g.fn, .int .i64 g.pc, .int .i64 g.slots, .slice An g.nodes.length cn, .slice Ab g.blocks.length cb, .slice As g.states.length cs], .slice (some ⟨ob, 0, none⟩) g.nodes.length g.nodes.length, v] W (fun e w' => e = .returned (.tuple #[]) ∧ BRow w' ob g.nodes.length (p.add g.nodes.length l) ∧ Below W0.heap.size W0 w')) := Lib.hid (fun W p l v hr hl hv => by
  have hG := (HM0.out.gr.below hl).graph
  have := add20_any W ⟨.slice An g.nodes.length cn, .slice Ab g.blocks.length cb, .slice As g.states.length cs⟩ g ob p v l hG.1 hr hv
  exact this.mono (fun e w' h => ⟨h.1, h.2.1, hl.grown h.2.2 hl.size (fun k e => by injection e with e; omega)⟩))
 go_loopw [11] (fun i wr => ∃ k : Nat, k ≤ x.next.length ∧ i = .int .i64 k ∧ Hid (BRow wr ob g.nodes.length (outTo g I b x k)) ∧ Hid (Below W0.heap.size W0 wr)) (fun i _ => x.next.length - (intOf i).toNat)
 case atStart => exact ⟨0, Nat.zero_le _, rfl, HR1, HL1⟩
 case round =>
  obtain ⟨k, hk, rfl, HR, HL⟩ := hrel
  obtain ⟨wo, rfl⟩ : ∃ wo : World, wo = wr := ⟨_, rfl⟩
  by_cases hlt : k < x.next.length
  ·have HM := Lib.hid (HM0.out.below HL.out)
   obtain ⟨bn, on, e1, hbn, hpn⟩ := (HI3.out.keep (Same.of_below (HL.out.mono HB.out))).cells hlt
   subst e1
   obtain ⟨z, hz⟩ := getE hlt
   have e0 := hpn k z hz
   have HZ := Lib.hid hz
   have HBn : Hid (bn < W0.heap.size) := Lib.hid (Nat.lt_of_lt_of_le hbn HB.out)
   have HE0 : Hid (∀ W, Below wo.heap.size wo W → W.cell? ⟨bn, on + k, none⟩ = some (.int .i64 z)) := Lib.hid (fun W hW => (hW.cell (p := ⟨bn, on + k, none⟩) (Nat.lt_of_lt_of_le HBn.out HL.out.size)).trans (hpn k z hz))
   clear hz hpn
   obtain ⟨q0, q1, q2, q3, q4, q5⟩ := HM.out.gr.cells
   have ql := HM.out.gr.lt
   simp only at q3 q4 q5
   rcases d1 : decide (z < 0) with _ | _
   rotate_left
   ·have D1 := Lib.hid d1
    go_wp2_with go_quiet (fail)
    go_roundw
    case rel => exact ⟨k + 1, by omega, by go_num, Lib.hid (by rw [outTo_step g I b x k z HZ.out, outStep_none (blockAt_neg (of_decide_eq_true D1.out))]; exact HR.out), Lib.hid (bdrew HL.out)⟩
    case measure => simp [intOf]; omega
   ·obtain ⟨zk, rfl⟩ : ∃ m : Nat, z = (m : Int) := ⟨z.toNat, by have := of_decide_eq_false d1; omega⟩
    rcases d2 : decide (g.blocks.length ≤ zk) with _ | _
    rotate_left
    ·have D2 := Lib.hid d2
     go_wp2_with go_quiet (fail)
     go_roundw
     case rel => exact ⟨k + 1, by omega, by go_num, Lib.hid (by
      have e : blockAt g (zk : Int) = none := by rw [blockAt_nat]; exact List.getElem?_eq_none (of_decide_eq_true D2.out)
      rw [outTo_step g I b x k _ HZ.out, outStep_none e]; exact HR.out), Lib.hid (bdrew HL.out)⟩
     case measure => simp [intOf]; omega
    ·have h1 : zk < g.blocks.length := by have := of_decide_eq_false d2; omega
     obtain ⟨y, hy⟩ := getE h1
     have HY := Lib.hid hy
     clear hy
     go_upto_region 11 with go_quiet (fail)
     clear q0 q1 q2 q3 q4 q5 ql e0 d1 d2
     obtain ⟨wd, hwd⟩ : ∃ wd : World, wd = wo.drewN nq := ⟨_, rfl⟩
     rw [← hwd]
     have HWd : Hid (Below wo.heap.size wo wd) := Lib.hid (by rw [hwd]; exact bdrew (Below.refl _ _))
     clear hwd
     have HMd := Lib.hid (HM.out.below HWd.out)
     have HLd := Lib.hid (HL.out.trans (HWd.out.mono HL.out.size))
     have HRd := Lib.hid (HR.out.below HWd.out HR.out.lt)
     have HK : Hid (∀ W, Below wo.heap.size wo W → W.cell? ⟨gb, 0, none⟩ = some (.int .i64 g.fn) ∧ W.cell? ⟨gb, 1, none⟩ = some (.int .i64 g.pc) ∧ W.cell? ⟨gb, 2, none⟩ = some (.int .i64 g.slots) ∧ W.cell? ⟨gb, 3, none⟩ = some (.slice An g.nodes.length cn) ∧ W.cell? ⟨gb, 4, none⟩ = some (.slice Ab g.blocks.length cb) ∧ W.cell? ⟨gb, 5, none⟩ = some (.slice As g.states.length cs) ∧ W.cell? ⟨bn, on + k, none⟩ = some (.int .i64 (zk : Int)) ∧ W.cell? ⟨bi, zk, none⟩ = some (.slice (some ⟨ri zk, 0, none⟩) g.nodes.length g.nodes.length)) := Lib.hid (fun W hW => by
      have h := HM.out.below hW
      obtain ⟨q0, q1, q2, q3, q4, q5⟩ := h.gr.cells
      exact ⟨q0, q1, q2, q3, q4, q5, HE0.out W hW, h.rI.cell h1⟩)
     have HS6 : Hid ((fun W : World => W.cell? ⟨gb, 0, none⟩ = some (.int .i64 g.fn) ∧ W.cell? ⟨gb, 1, none⟩ = some (.int .i64 g.pc) ∧ W.cell? ⟨gb, 2, none⟩ = some (.int .i64 g.slots) ∧ W.cell? ⟨gb, 3, none⟩ = some (.slice An g.nodes.length cn) ∧ W.cell? ⟨gb, 4, none⟩ = some (.slice Ab g.blocks.length cb) ∧ W.cell? ⟨gb, 5, none⟩ = some (.slice As g.states.length cs) ∧ W.cell? ⟨bn, on + k, none⟩ = some (.int .i64 (zk : Int)) ∧ W.cell? ⟨bi, zk, none⟩ = some (.slice (some ⟨ri zk, 0, none⟩) g.nodes.length g.nodes.length)) wd.drew) := Lib.hid (HK.out _ HWd.out.drew)
     refine wp_region_H2 (fun W : World => W.cell? ⟨gb, 0, none⟩ = some (.int .i64 g.fn) ∧ W.cell? ⟨gb, 1, none⟩ = some (.int .i64 g.pc) ∧ W.cell? ⟨gb, 2, none⟩ = some (.int .i64 g.slots) ∧ W.cell? ⟨gb, 3, none⟩ = some (.slice An g.nodes.length cn) ∧ W.cell? ⟨gb, 4, none⟩ = some (.slice Ab g.blocks.length cb) ∧ W.cell? ⟨gb, 5, none⟩ = some (.slice As g.states.length cs) ∧ W.cell? ⟨bn, on + k, none⟩ = some (.int .i64 (zk : Int)) ∧ W.cell? ⟨bi, zk, none⟩ = some (.slice (some ⟨ri zk, 0, none⟩) g.nodes.length g.nodes.length)) (by kernel_rfl) HS6.out (fun HSn => ?_)
     clear HSn
     refine tkL 0 rfl (fun c a w h => HPan.out c _ _ a w h) HS6.out ?_
     try simp only [Act.put, List.setIfInBounds_toArray, List.set_cons_zero, List.set_cons_succ]
     refine tkL 1 rfl (fun c a w h => HPan.out c _ _ a w h) HS6.out ?_
     try simp only [Act.put, List.setIfInBounds_toArray, List.set_cons_zero, List.set_cons_succ]
     refine tkL 2 rfl (fun c a w h => HPan.out c _ _ a w h) HS6.out ?_
     try simp only [Act.put, List.setIfInBounds_toArray, List.set_cons_zero, List.set_cons_succ]
     refine tkL 3 rfl (fun c a w h => HPan.out c _ _ a w h) HS6.out ?_
     try simp only [Act.put, List.setIfInBounds_toArray, List.set_cons_zero, List.set_cons_succ]
     refine tkL 4 rfl (fun c a w h => HPan.out c _ _ a w h) HS6.out ?_
     try simp only [Act.put, List.setIfInBounds_toArray, List.set_cons_zero, List.set_cons_succ]
     refine tkL 5 rfl (fun c a w h => HPan.out c _ _ a w h) HS6.out ?_
     try simp only [Act.put, List.setIfInBounds_toArray, List.set_cons_zero, List.set_cons_succ]
     refine tkL 6 rfl (fun c a w h => HPan.out c _ _ a w h) HS6.out ?_
     try simp only [Act.put, List.setIfInBounds_toArray, List.set_cons_zero, List.set_cons_succ]
     refine tkL 7 rfl (fun c a w h => HPan.out c _ _ a w h) HS6.out ?_
     try simp only [Act.put, List.setIfInBounds_toArray, List.set_cons_zero, List.set_cons_succ]
     refine tkL 8 rfl (fun c a w h => HPan.out c _ _ a w h) HS6.out ?_
     try simp only [Act.put, List.setIfInBounds_toArray, List.set_cons_zero, List.set_cons_succ]
     refine wpAnyH_ready (rs := [9]) (by kernel_rfl) (by simp) (AllReadyH.cons (o := _) rfl (fun K hK => ?_) AllReadyH.nil)
     go_simp
     (go_at_call 122; refine (list20_any wd.drew (ri zk) g.nodes.length (I.at_ zk) ((HMd.out.below (Below.refl _ _).drew).rI.each zk h1) (by omega)).mono ?_; rintro e w7 ⟨v7, rfl, hv7, hb7⟩; have HV7 := Lib.hid hv7; have HB7 : Hid (Below wd.heap.size wd w7) := Lib.hid ((Below.refl _ _).drew.trans hb7); clear hv7 hb7)
     try go_wp2_with fail
     have HS7 : Hid ((fun W : World => W.cell? ⟨gb, 0, none⟩ = some (.int .i64 g.fn) ∧ W.cell? ⟨gb, 1, none⟩ = some (.int .i64 g.pc) ∧ W.cell? ⟨gb, 2, none⟩ = some (.int .i64 g.slots) ∧ W.cell? ⟨gb, 3, none⟩ = some (.slice An g.nodes.length cn) ∧ W.cell? ⟨gb, 4, none⟩ = some (.slice Ab g.blocks.length cb) ∧ W.cell? ⟨gb, 5, none⟩ = some (.slice As g.states.length cs) ∧ W.cell? ⟨bn, on + k, none⟩ = some (.int .i64 (zk : Int)) ∧ W.cell? ⟨bi, zk, none⟩ = some (.slice (some ⟨ri zk, 0, none⟩) g.nodes.length g.nodes.length)) w7) := Lib.hid (HK.out _ (HWd.out.trans (HB7.out.mono HWd.out.size)))
     refine hK.out _ _ HS7.out (fun HSn => ?_)
     clear hK K HSn
     try simp only [Act.put, List.setIfInBounds_toArray, List.set_cons_zero, List.set_cons_succ]
     refine wpAnyH_ready (rs := [10]) (by kernel_rfl) (by simp) (AllReadyH.cons (o := _) rfl (fun K hK => ?_) AllReadyH.nil)
     go_simp
     (go_at_call 146; (with_reducible refine Calls.mono (HA.out _ _ _ _ (HRd.out.below HB7.out HRd.out.lt) (HLd.out.trans (HB7.out.mono HLd.out.size)) (HV7.out.ints (by have := listOf_len g.nodes.length (I.at_ zk); unfold lim; omega))) ?_); rintro e w8 ⟨rfl, hr8, hl8⟩; have HR8 := Lib.hid hr8; have HL8 := Lib.hid hl8; clear hr8 hl8)
     try go_wp2_with fail
     have HM8 := Lib.hid (HM0.out.below HL8.out)
     have HE8 : Hid (∀ W, Below w8.heap.size w8 W → W.cell? ⟨bn, on + k, none⟩ = some (.int .i64 (zk : Int))) := Lib.hid (fun W hW => ((HL8.out.trans (hW.mono HL8.out.size)).cell (p := ⟨bn, on + k, none⟩) HBn.out).trans ((HL.out.cell (p := ⟨bn, on + k, none⟩) HBn.out).symm.trans (HE0.out wo (Below.refl _ _))))
     have HK8 : Hid (∀ W, Below w8.heap.size w8 W → W.cell? ⟨gb, 0, none⟩ = some (.int .i64 g.fn) ∧ W.cell? ⟨gb, 1, none⟩ = some (.int .i64 g.pc) ∧ W.cell? ⟨gb, 2, none⟩ = some (.int .i64 g.slots) ∧ W.cell? ⟨gb, 3, none⟩ = some (.slice An g.nodes.length cn) ∧ W.cell? ⟨gb, 4, none⟩ = some (.slice Ab g.blocks.length cb) ∧ W.cell? ⟨gb, 5, none⟩ = some (.slice As g.states.length cs) ∧ W.cell? ⟨bn, on + k, none⟩ = some (.int .i64 (zk : Int)) ∧ W.cell? ⟨bi, zk, none⟩ = some (.slice (some ⟨ri zk, 0, none⟩) g.nodes.length g.nodes.length)) := Lib.hid (fun W hW => by
      have h := HM8.out.below hW
      obtain ⟨q0, q1, q2, q3, q4, q5⟩ := h.gr.cells
      exact ⟨q0, q1, q2, q3, q4, q5, HE8.out W hW, h.rI.cell h1⟩)
     have HS8 : Hid ((fun W : World => W.cell? ⟨gb, 0, none⟩ = some (.int .i64 g.fn) ∧ W.cell? ⟨gb, 1, none⟩ = some (.int .i64 g.pc) ∧ W.cell? ⟨gb, 2, none⟩ = some (.int .i64 g.slots) ∧ W.cell? ⟨gb, 3, none⟩ = some (.slice An g.nodes.length cn) ∧ W.cell? ⟨gb, 4, none⟩ = some (.slice Ab g.blocks.length cb) ∧ W.cell? ⟨gb, 5, none⟩ = some (.slice As g.states.length cs) ∧ W.cell? ⟨bn, on + k, none⟩ = some (.int .i64 (zk : Int)) ∧ W.cell? ⟨bi, zk, none⟩ = some (.slice (some ⟨ri zk, 0, none⟩) g.nodes.length g.nodes.length)) w8) := Lib.hid (HK8.out _ (Below.refl _ _))
     refine hK.out _ _ HS8.out (fun HSn => ?_)
     clear hK K HSn
     try simp only [Act.put, List.setIfInBounds_toArray, List.set_cons_zero, List.set_cons_succ]
     refine wpAnyH_done (by kernel_rfl) ?_ _
     have HS9 : Hid ((fun W : World => W.cell? ⟨gb, 0, none⟩ = some (.int .i64 g.fn) ∧ W.cell? ⟨gb, 1, none⟩ = some (.int .i64 g.pc) ∧ W.cell? ⟨gb, 2, none⟩ = some (.int .i64 g.slots) ∧ W.cell? ⟨gb, 3, none⟩ = some (.slice An g.nodes.length cn) ∧ W.cell? ⟨gb, 4, none⟩ = some (.slice Ab g.blocks.length cb) ∧ W.cell? ⟨gb, 5, none⟩ = some (.slice As g.states.length cs) ∧ W.cell? ⟨bn, on + k, none⟩ = some (.int .i64 (zk : Int)) ∧ W.cell? ⟨bi, zk, none⟩ = some (.slice (some ⟨ri zk, 0, none⟩) g.nodes.length g.nodes.length)) w8.drew) := Lib.hid (HK8.out _ (Below.refl _ _).drew)
     go_upto_region 12 with fail
     refine wp_region_H2 (fun W : World => W.cell? ⟨gb, 0, none⟩ = some (.int .i64 g.fn) ∧ W.cell? ⟨gb, 1, none⟩ = some (.int .i64 g.pc) ∧ W.cell? ⟨gb, 2, none⟩ = some (.int .i64 g.slots) ∧ W.cell? ⟨gb, 3, none⟩ = some (.slice An g.nodes.length cn) ∧ W.cell? ⟨gb, 4, none⟩ = some (.slice Ab g.blocks.length cb) ∧ W.cell? ⟨gb, 5, none⟩ = some (.slice As g.states.length cs) ∧ W.cell? ⟨bn, on + k, none⟩ = some (.int .i64 (zk : Int)) ∧ W.cell? ⟨bi, zk, none⟩ = some (.slice (some ⟨ri zk, 0, none⟩) g.nodes.length g.nodes.length)) (by kernel_rfl) HS9.out (fun HSn => ?_)
     clear HSn
     refine tkL 0 rfl (fun c a w h => HPan.out c _ _ a w h) HS9.out ?_
     try simp only [Act.put, List.setIfInBounds_toArray, List.set_cons_zero, List.set_cons_succ]
     refine tkL 1 rfl (fun c a w h => HPan.out c _ _ a w h) HS9.out ?_
     try simp only [Act.put, List.setIfInBounds_toArray, List.set_cons_zero, List.set_cons_succ]
     refine tkL 2 rfl (fun c a w h => HPan.out c _ _ a w h) HS9.out ?_
     try simp only [Act.put, List.setIfInBounds_toArray, List.set_cons_zero, List.set_cons_succ]
     refine tkL 3 rfl (fun c a w h => HPan.out c _ _ a w h) HS9.out ?_
     try simp only [Act.put, List.setIfInBounds_toArray, List.set_cons_zero, List.set_cons_succ]
     refine tkL 4 rfl (fun c a w h => HPan.out c _ _ a w h) HS9.out ?_
     try simp only [Act.put, List.setIfInBounds_toArray, List.set_cons_zero, List.set_cons_succ]
     refine tkL 5 rfl (fun c a w h => HPan.out c _ _ a w h) HS9.out ?_
     try simp only [Act.put, List.setIfInBounds_toArray, List.set_cons_zero, List.set_cons_succ]
     refine tkL 6 rfl (fun c a w h => HPan.out c _ _ a w h) HS9.out ?_
     try simp only [Act.put, List.setIfInBounds_toArray, List.set_cons_zero, List.set_cons_succ]
     refine tkL 7 rfl (fun c a w h => HPan.out c _ _ a w h) HS9.out ?_
     try simp only [Act.put, List.setIfInBounds_toArray, List.set_cons_zero, List.set_cons_succ]
     refine wpAnyH_ready (rs := [8]) (by kernel_rfl) (by simp) (AllReadyH.cons (o := _) rfl (fun K hK => ?_) AllReadyH.nil)
     go_simp
     (go_at_call 147; refine (phis20_any w8.drew ⟨.slice An g.nodes.length cn, .slice Ab g.blocks.length cb, .slice As g.states.length cs⟩ g zk y b (HM8.out.below (Below.refl _ _).drew).gr.graph hs HY.out).mono ?_; rintro e w9 ⟨v9, rfl, hv9, hb9⟩; have HV9 := Lib.hid hv9; have HB9 : Hid (Below w8.heap.size w8 w9) := Lib.hid ((Below.refl _ _).drew.trans hb9); clear hv9 hb9)
     try go_wp2_with fail
     have HSa : Hid ((fun W : World => W.cell? ⟨gb, 0, none⟩ = some (.int .i64 g.fn) ∧ W.cell? ⟨gb, 1, none⟩ = some (.int .i64 g.pc) ∧ W.cell? ⟨gb, 2, none⟩ = some (.int .i64 g.slots) ∧ W.cell? ⟨gb, 3, none⟩ = some (.slice An g.nodes.length cn) ∧ W.cell? ⟨gb, 4, none⟩ = some (.slice Ab g.blocks.length cb) ∧ W.cell? ⟨gb, 5, none⟩ = some (.slice As g.states.length cs) ∧ W.cell? ⟨bn, on + k, none⟩ = some (.int .i64 (zk : Int)) ∧ W.cell? ⟨bi, zk, none⟩ = some (.slice (some ⟨ri zk, 0, none⟩) g.nodes.length g.nodes.length)) w9) := Lib.hid (HK8.out _ HB9.out)
     refine hK.out _ _ HSa.out (fun HSn => ?_)
     clear hK K HSn
     try simp only [Act.put, List.setIfInBounds_toArray, List.set_cons_zero, List.set_cons_succ]
     refine wpAnyH_ready (rs := [9]) (by kernel_rfl) (by simp) (AllReadyH.cons (o := _) rfl (fun K hK => ?_) AllReadyH.nil)
     go_simp
     (go_at_call 146; (with_reducible refine Calls.mono (HA.out _ _ _ _ (HR8.out.below HB9.out HR8.out.lt) (HL8.out.trans (HB9.out.mono HL8.out.size)) (HV9.out.ints (by have := phisTo_len hs y b y.nodes.length; rw [phisTo_all] at this; have := (hs.block HY.out).1; unfold lim; omega))) ?_); rintro e w10 ⟨rfl, hr10, hl10⟩; have HR10 := Lib.hid hr10; have HL10 := Lib.hid hl10; clear hr10 hl10)
     try go_wp2_with fail
     have HSb : Hid ((fun W : World => W.cell? ⟨gb, 0, none⟩ = some (.int .i64 g.fn) ∧ W.cell? ⟨gb, 1, none⟩ = some (.int .i64 g.pc) ∧ W.cell? ⟨gb, 2, none⟩ = some (.int .i64 g.slots) ∧ W.cell? ⟨gb, 3, none⟩ = some (.slice An g.nodes.length cn) ∧ W.cell? ⟨gb, 4, none⟩ = some (.slice Ab g.blocks.length cb) ∧ W.cell? ⟨gb, 5, none⟩ = some (.slice As g.states.length cs) ∧ W.cell? ⟨bn, on + k, none⟩ = some (.int .i64 (zk : Int)) ∧ W.cell? ⟨bi, zk, none⟩ = some (.slice (some ⟨ri zk, 0, none⟩) g.nodes.length g.nodes.length)) w10) := Lib.hid (by
      have h := HM0.out.below HL10.out
      obtain ⟨q0, q1, q2, q3, q4, q5⟩ := h.gr.cells
      exact ⟨q0, q1, q2, q3, q4, q5, (HL10.out.cell (p := ⟨bn, on + k, none⟩) HBn.out).trans ((HL.out.cell (p := ⟨bn, on + k, none⟩) HBn.out).symm.trans (HE0.out wo (Below.refl _ _))), h.rI.cell h1⟩)
     refine hK.out _ _ HSb.out (fun HSn => ?_)
     clear hK K HSn
     try simp only [Act.put, List.setIfInBounds_toArray, List.set_cons_zero, List.set_cons_succ]
     refine wpAnyH_done (by kernel_rfl) ?_ _
     go_wp2_with fail
     go_roundw
     case rel => exact ⟨k + 1, by omega, by go_num, Lib.hid (by
      have e : blockAt g (zk : Int) = some y := by rw [blockAt_nat]; exact HY.out
      rw [outTo_step g I b x k _ HZ.out, outStep_some e, Int.toNat_natCast]; exact HR10.out), HL10⟩
     case measure => simp [intOf]; omega
  ·go_wp2_with fail
   refine HEx.out _ _ _ _ _ _ _ _ _ _ _ _ _ _ _ _ _ _ _ _ _ _ _ _ _ _ _ _ _ _ _ _ _ _ _ _ _ _ _ _ _ _ _ _ ⟨?_, HL.out⟩
   have h1 := HR.out
   rw [show k = x.next.length from by omega, outTo_all] at h1
   exact h1
end Go.Proofs.YtkmfdiboekoioaaGreat
