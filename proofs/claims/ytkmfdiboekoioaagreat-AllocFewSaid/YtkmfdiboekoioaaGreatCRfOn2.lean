/- The reference 20 asks all sets once: a block's own nodes are taken away; rows are compared. Conditions: a small graph, rows of sets that lie in memory. -/
import Derived.Test.YtkmfdiboekoioaaGreatCRfOn1
set_option linter.unusedSimpArgs false
set_option linter.unusedVariables false
namespace Go.Proofs.YtkmfdiboekoioaaGreat
open Go.RowKit
theorem bcells_del_out {N : Nat} {p : ISet} {z : Int} (h : ¬ (0 ≤ z ∧ z < (N : Int))) : bcells N (p.del z) = bcells N p := bcells_congr fun i hi => by
 have : ((i : Int) == z) = false := by rw [beq_eq_false_iff_ne]; omega
 simp [ISet.del, this]
theorem bcells_del {N m : Nat} {p : ISet} (h : m < N) : (bcells N p).setIfInBounds m (.bool false) = bcells N (p.del (m : Int)) := by
 rw [bcells_set h]
 exact bcells_congr fun i hi => by
  by_cases e : (i : Int) = (m : Int) <;> simp [ISet.del, e]
/-- Are two sets unlike two others below k? -/
def diffTo (p q p' q' : ISet) (k : Nat) : Bool := (List.range k).any (fun (j : Nat) => (p (j : Int) != p' (j : Int)) || (q (j : Int) != q' (j : Int)))
theorem diffTo_succ (p q p' q' : ISet) (k : Nat) : diffTo p q p' q' (k + 1) = (diffTo p q p' q' k || ((p (k : Int) != p' (k : Int)) || (q (k : Int) != q' (k : Int)))) := by
 unfold diffTo; rw [List.range_succ, List.any_append]; simp
set_option maxRecDepth 100000 in
set_option maxHeartbeats 8000000 in
theorem odel_any (w0 : World) (B bi bo gb : Nat) (g : GraphP) (An Ab As : Option Addr) (cn cb cs : Nat) (I O : Sets) (ri ro : Nat → Nat) (b : Nat) (x : BlockP) (W0 : World) (ob : Nat) (ub : Nat) (p : ISet) (W1 : World) (hs : Small g) (hx : g.blocks[b]? = some x) (M0 : OnM w0 B bi bo gb ⟨.slice An g.nodes.length cn, .slice Ab g.blocks.length cb, .slice As g.states.length cs⟩ g I O ri ro W0) (hub : W0.heap.size ≤ ub) (hr : BRow W1 ub g.nodes.length p) (hl : Below W0.heap.size W0 W1) (hne : ob ≠ ub) (po : ISet) (hro : BRow W1 ob g.nodes.length po)
  (u4 u5 u6 u7 u10 u11 u14 u15 u16 u17 u18 u19 u20 u21 u22 u23 u24 u25 u26 u27 u28 u29 u30 u31 u32 u33 u34 u35 u36 u37 u38 u39 u40 u41 u42 u43 u44 u45 u46 u47 u48 u49 u50 u51 u52 u53 u54 u55 u56 u57 u58 u59 u60 u61 u62 u63 u64 u65 u66 u67 u68 u69 u70 u71 u72 u73 u74 u75 u76 u77 u78 u79 u80 u81 u82 u83 u84 u85 u86 u87 u88 u89 u90 u91 u92 u93 u94 u95 u96 u97 u98 u99 u100 u101 u102 u103 u104 u105 u106 u107 u108 u109 u110 u111 u112 u113 u114 u115 u116 u117 u118 u119 u120 u121 u122 u123 u124 u125 u126 u127 u128 u129 u130 u131 u132 u133 u134 u135 u136 u137 u138 u139 u140 u141 u142 u143 u144 u145 u146 u147 u148 u149 u150 u151 u152 u153 u154 u155 u156 u157 : Value) (Q : Exit → Act → World → Prop)
  (hexit : ∀ (x13 x14 x83 x84 x85 x86 x87 x88 x89 x90 x91 x92 x93 x94 x95 x96 x97 x98 x99 x100 x101 x102 x103 x104 x105 x106 x107 x108 x109 x110 x111 x112 x113 : Value) (W' : World), (BRow W' ub g.nodes.length (delTo x p x.nodes.length) ∧ BRow W' ob g.nodes.length po ∧ Below W0.heap.size W0 W') → Q (.exit 4) ⟨#[.agg #[.int .i64 g.fn, .int .i64 g.pc, .int .i64 g.slots, .slice An g.nodes.length cn, .slice Ab g.blocks.length cb, .slice As g.states.length cs], .slice (some ⟨bi, 0, none⟩) g.blocks.length g.blocks.length, .slice (some ⟨bo, 0, none⟩) g.blocks.length g.blocks.length, .pointer (some ⟨gb, 0, none⟩), u4, u5, u6, u7, .int .i64 (b : Int), .slice (some ⟨ob, 0, none⟩) g.nodes.length g.nodes.length, u10, u11, .slice (some ⟨ub, 0, none⟩) g.nodes.length g.nodes.length, x13, x14, u15, u16, u17, u18, u19, u20, u21, u22, u23, u24, u25, u26, u27, u28, u29, u30, u31, u32, u33, u34, u35, u36, u37, u38, u39, u40, u41, u42, u43, u44, u45, u46, u47, u48, u49, u50, u51, u52, u53, u54, u55, u56, u57, u58, u59, u60, u61, u62, u63, u64, u65, u66, u67, u68, u69, u70, u71, u72, u73, u74, u75, u76, u77, u78, u79, u80, u81, u82, x83, x84, x85, x86, x87, x88, x89, x90, x91, x92, x93, x94, x95, x96, x97, x98, x99, x100, x101, x102, x103, x104, x105, x106, x107, x108, x109, x110, x111, x112, x113, u114, u115, u116, u117, u118, u119, u120, u121, u122, u123, u124, u125, u126, u127, u128, u129, u130, u131, u132, u133, u134, u135, u136, u137, u138, u139, u140, u141, u142, u143, u144, u145, u146, u147, u148, u149, u150, u151, u152, u153, u154, u155, u156, u157], []⟩ W') :
  Code.wp Tryz.prog (Code.loop (oloop 2)) Q ⟨#[.agg #[.int .i64 g.fn, .int .i64 g.pc, .int .i64 g.slots, .slice An g.nodes.length cn, .slice Ab g.blocks.length cb, .slice As g.states.length cs], .slice (some ⟨bi, 0, none⟩) g.blocks.length g.blocks.length, .slice (some ⟨bo, 0, none⟩) g.blocks.length g.blocks.length, .pointer (some ⟨gb, 0, none⟩), u4, u5, u6, u7, .int .i64 (b : Int), .slice (some ⟨ob, 0, none⟩) g.nodes.length g.nodes.length, u10, u11, .slice (some ⟨ub, 0, none⟩) g.nodes.length g.nodes.length, .int .i64 (0 : Int), u14, u15, u16, u17, u18, u19, u20, u21, u22, u23, u24, u25, u26, u27, u28, u29, u30, u31, u32, u33, u34, u35, u36, u37, u38, u39, u40, u41, u42, u43, u44, u45, u46, u47, u48, u49, u50, u51, u52, u53, u54, u55, u56, u57, u58, u59, u60, u61, u62, u63, u64, u65, u66, u67, u68, u69, u70, u71, u72, u73, u74, u75, u76, u77, u78, u79, u80, u81, u82, u83, u84, u85, u86, u87, u88, u89, u90, u91, u92, u93, u94, u95, u96, u97, u98, u99, u100, u101, u102, u103, u104, u105, u106, u107, u108, u109, u110, u111, u112, u113, u114, u115, u116, u117, u118, u119, u120, u121, u122, u123, u124, u125, u126, u127, u128, u129, u130, u131, u132, u133, u134, u135, u136, u137, u138, u139, u140, u141, u142, u143, u144, u145, u146, u147, u148, u149, u150, u151, u152, u153, u154, u155, u156, u157], []⟩ W1 := by
 have HM0 := Lib.hid M0; have HX := Lib.hid hx; have HEx := Lib.hid hexit; have HR1 := Lib.hid hr; have HL1 := Lib.hid hl; have HRo := Lib.hid hro; have HNe := Lib.hid hne
 have HB := Lib.hid M0.gr.hB
 obtain ⟨l1, l2, l3⟩ := hs.lens
 obtain ⟨m1, m2, m3, m4⟩ := hs.block hx
 have hbl : b < g.blocks.length := (List.getElem?_eq_some_iff.1 hx).1
 clear M0 hx hexit hr hl hro hne
 conv => arg 2; arg 1; whnf
 dsimp only
 go_loopw [13] (fun i wr => ∃ k : Nat, k ≤ x.nodes.length ∧ i = .int .i64 k ∧ Hid (BRow wr ub g.nodes.length (delTo x p k)) ∧ Hid (BRow wr ob g.nodes.length po) ∧ Hid (Below W0.heap.size W0 wr)) (fun i _ => x.nodes.length - (intOf i).toNat)
 case atStart => exact ⟨0, Nat.zero_le _, rfl, Lib.hid (by simpa [delTo] using HR1.out), HRo, HL1⟩
 case round =>
  obtain ⟨k, hk, rfl, HR, HO, HL⟩ := hrel
  obtain ⟨wo, rfl⟩ : ∃ wo : World, wo = wr := ⟨_, rfl⟩
  have HM := Lib.hid (HM0.out.below HL.out)
  obtain ⟨q0, q1, q2, q3, q4, q5⟩ := HM.out.gr.cells
  have ql := HM.out.gr.lt
  simp only at q3 q4 q5
  obtain ⟨Aq, cq, eq, _, _, hqb⟩ := HM.out.gr.gr.2.1
  obtain ⟨bb, obb, eq2, hbb, hqb⟩ := hqb (by omega)
  simp only at eq
  injection eq with e1 e2 e3
  rw [eq2] at e1
  subst e1
  obtain ⟨⟨v0, f0, hv0⟩, _⟩ := hqb b x HX.out
  have HV0 := Lib.hid hv0
  obtain ⟨A0, c0, rfl, _, _, _⟩ := hv0
  clear hqb e2 e3 eq2
  by_cases hlt : k < x.nodes.length
  ·obtain ⟨bn, on, e1, hbn, hpn⟩ := HV0.out.cells hlt
   subst e1
   obtain ⟨z, hz⟩ := getE hlt
   have e0 := hpn k z hz
   have HZ := Lib.hid hz
   clear hz hpn
   rcases d1 : decide (0 ≤ z) with _ | _
   ·have D1 := Lib.hid d1
    go_wp2_with fail
    go_roundw
    case rel => exact ⟨k + 1, by omega, by go_num, Lib.hid (by rw [delTo_step x p k z HZ.out]; unfold BRow; rw [bcells_del_out (fun h => of_decide_eq_false D1.out h.1)]; exact HR.out), HO, HL⟩
    case measure => simp [intOf]; omega
   ·obtain ⟨zk, rfl⟩ : ∃ m : Nat, z = (m : Int) := ⟨z.toNat, by have := of_decide_eq_true d1; omega⟩
    rcases d2 : decide (zk < g.nodes.length) with _ | _
    ·have D2 := Lib.hid d2
     go_wp2_with fail
     go_roundw
     case rel => exact ⟨k + 1, by omega, by go_num, Lib.hid (by rw [delTo_step x p k _ HZ.out]; unfold BRow; rw [bcells_del_out (fun h => of_decide_eq_false D2.out (by omega))]; exact HR.out), HO, HL⟩
     case measure => simp [intOf]; omega
    ·have hm : zk < g.nodes.length := of_decide_eq_true d2
     have b0 : wo.cell? ⟨ub, zk, none⟩ = some (.bool (delTo x p k (zk : Int))) := (HR.out.cell zk).trans (bcells_get hm)
     have b1 := HR.out.frozen zk
     have b2 := HR.out.lt
     have HMm := Lib.hid hm
     go_wp2_with fail
     go_roundw
     case rel => exact ⟨k + 1, by omega, by go_num, Lib.hid (by
       have h1 := HR.out.set_ zk (.bool false)
       rw [bcells_del HMm.out] at h1
       rw [delTo_step x p k _ HZ.out]
       exact h1), Lib.hid (HO.out.far HNe.out _), Lib.hid (HL.out.setCell (p := ⟨ub, zk, none⟩) hub _)⟩
     case measure => simp [intOf]; omega
  ·go_wp2_with fail
   refine HEx.out _ _ _ _ _ _ _ _ _ _ _ _ _ _ _ _ _ _ _ _ _ _ _ _ _ _ _ _ _ _ _ _ _ _ ⟨?_, HO.out, HL.out⟩
   have h1 := HR.out
   rw [show k = x.nodes.length from by omega] at h1
   exact h1
set_option maxRecDepth 100000 in
set_option maxHeartbeats 8000000 in
theorem ocmp_any (w0 : World) (B bi bo gb : Nat) (g : GraphP) (An Ab As : Option Addr) (cn cb cs : Nat) (I O : Sets) (ri ro : Nat → Nat) (b : Nat) (x : BlockP) (W0 : World) (ob : Nat) (ub : Nat) (p po : ISet) (c : Bool) (W1 : World) (hs : Small g) (hb : b < g.blocks.length) (M0 : OnM w0 B bi bo gb ⟨.slice An g.nodes.length cn, .slice Ab g.blocks.length cb, .slice As g.states.length cs⟩ g I O ri ro W0) (hr : BRow W1 ub g.nodes.length p) (hro : BRow W1 ob g.nodes.length po) (hl : Below W0.heap.size W0 W1)
  (u4 u5 u6 u10 u11 u13 u14 u16 u17 u18 u19 u20 u21 u22 u23 u24 u25 u26 u27 u28 u29 u30 u31 u32 u33 u34 u35 u36 u37 u38 u39 u40 u41 u42 u43 u44 u45 u46 u47 u48 u49 u50 u51 u52 u53 u54 u55 u56 u57 u58 u59 u60 u61 u62 u63 u64 u65 u66 u67 u68 u69 u70 u71 u72 u73 u74 u75 u76 u77 u78 u79 u80 u81 u82 u83 u84 u85 u86 u87 u88 u89 u90 u91 u92 u93 u94 u95 u96 u97 u98 u99 u100 u101 u102 u103 u104 u105 u106 u107 u108 u109 u110 u111 u112 u113 u114 u115 u116 u117 u118 u119 u120 u121 u122 u123 u124 u125 u126 u127 u128 u129 u130 u131 u132 u133 u134 u135 u136 u137 u138 u139 u140 u141 u142 u143 u144 u145 u146 u147 u148 u149 u150 u151 u152 u153 u154 u155 u156 u157 : Value) (Q : Exit → Act → World → Prop)
  (hexit : ∀ (x15 x114 x115 x116 x117 x118 x119 x120 x121 x122 x123 x124 x125 x126 x127 x128 x129 x130 x131 x132 x133 x134 x135 x136 x137 x138 x139 x140 x141 x142 x143 x144 x145 x146 x147 x148 : Value) (W' : World), (Below W1.heap.size W1 W') → Q (.exit 6) ⟨#[.agg #[.int .i64 g.fn, .int .i64 g.pc, .int .i64 g.slots, .slice An g.nodes.length cn, .slice Ab g.blocks.length cb, .slice As g.states.length cs], .slice (some ⟨bi, 0, none⟩) g.blocks.length g.blocks.length, .slice (some ⟨bo, 0, none⟩) g.blocks.length g.blocks.length, .pointer (some ⟨gb, 0, none⟩), u4, u5, u6, .bool (c || diffTo p po (I.at_ b) (O.at_ b) g.nodes.length), .int .i64 (b : Int), .slice (some ⟨ob, 0, none⟩) g.nodes.length g.nodes.length, u10, u11, .slice (some ⟨ub, 0, none⟩) g.nodes.length g.nodes.length, u13, u14, x15, u16, u17, u18, u19, u20, u21, u22, u23, u24, u25, u26, u27, u28, u29, u30, u31, u32, u33, u34, u35, u36, u37, u38, u39, u40, u41, u42, u43, u44, u45, u46, u47, u48, u49, u50, u51, u52, u53, u54, u55, u56, u57, u58, u59, u60, u61, u62, u63, u64, u65, u66, u67, u68, u69, u70, u71, u72, u73, u74, u75, u76, u77, u78, u79, u80, u81, u82, u83, u84, u85, u86, u87, u88, u89, u90, u91, u92, u93, u94, u95, u96, u97, u98, u99, u100, u101, u102, u103, u104, u105, u106, u107, u108, u109, u110, u111, u112, u113, x114, x115, x116, x117, x118, x119, x120, x121, x122, x123, x124, x125, x126, x127, x128, x129, x130, x131, x132, x133, x134, x135, x136, x137, x138, x139, x140, x141, x142, x143, x144, x145, x146, x147, x148, u149, u150, u151, u152, u153, u154, u155, u156, u157], []⟩ W') :
  Code.wp Tryz.prog (Code.loop (oloop 3)) Q ⟨#[.agg #[.int .i64 g.fn, .int .i64 g.pc, .int .i64 g.slots, .slice An g.nodes.length cn, .slice Ab g.blocks.length cb, .slice As g.states.length cs], .slice (some ⟨bi, 0, none⟩) g.blocks.length g.blocks.length, .slice (some ⟨bo, 0, none⟩) g.blocks.length g.blocks.length, .pointer (some ⟨gb, 0, none⟩), u4, u5, u6, .bool c, .int .i64 (b : Int), .slice (some ⟨ob, 0, none⟩) g.nodes.length g.nodes.length, u10, u11, .slice (some ⟨ub, 0, none⟩) g.nodes.length g.nodes.length, u13, u14, .int .i64 (0 : Int), u16, u17, u18, u19, u20, u21, u22, u23, u24, u25, u26, u27, u28, u29, u30, u31, u32, u33, u34, u35, u36, u37, u38, u39, u40, u41, u42, u43, u44, u45, u46, u47, u48, u49, u50, u51, u52, u53, u54, u55, u56, u57, u58, u59, u60, u61, u62, u63, u64, u65, u66, u67, u68, u69, u70, u71, u72, u73, u74, u75, u76, u77, u78, u79, u80, u81, u82, u83, u84, u85, u86, u87, u88, u89, u90, u91, u92, u93, u94, u95, u96, u97, u98, u99, u100, u101, u102, u103, u104, u105, u106, u107, u108, u109, u110, u111, u112, u113, u114, u115, u116, u117, u118, u119, u120, u121, u122, u123, u124, u125, u126, u127, u128, u129, u130, u131, u132, u133, u134, u135, u136, u137, u138, u139, u140, u141, u142, u143, u144, u145, u146, u147, u148, u149, u150, u151, u152, u153, u154, u155, u156, u157], []⟩ W1 := by
 have HM0 := Lib.hid M0; have HEx := Lib.hid hexit; have HR1 := Lib.hid hr; have HL1 := Lib.hid hl; have HRo := Lib.hid hro
 obtain ⟨l1, l2, l3⟩ := hs.lens
 clear M0 hexit hr hl hro
 conv => arg 2; arg 1; whnf
 dsimp only
 go_loopw [7, 15] (fun c' i wr => ∃ k : Nat, k ≤ g.nodes.length ∧ i = .int .i64 k ∧ c' = .bool (c || diffTo p po (I.at_ b) (O.at_ b) k) ∧ Hid (Below W1.heap.size W1 wr)) (fun _ i _ => g.nodes.length - (intOf i).toNat)
 case atStart => exact ⟨0, Nat.zero_le _, rfl, by simp [diffTo], Lib.hid (Below.refl _ _)⟩
 case round =>
  obtain ⟨k, hk, rfl, hc', HL⟩ := hrel
  obtain ⟨wo, rfl⟩ : ∃ wo : World, wo = wr := ⟨_, rfl⟩
  subst hc'
  have HM := Lib.hid (HM0.out.below (HL1.out.trans (HL.out.mono HL1.out.size)))
  have hr := HR1.out.below HL.out HR1.out.lt
  have hro := HRo.out.below HL.out HRo.out.lt
  by_cases hlt : k < g.nodes.length
  ·have a0 : wo.cell? ⟨ub, k, none⟩ = some (.bool (p (k : Int))) := (hr.cell k).trans (bcells_get hlt)
   have a1 : wo.cell? ⟨ob, k, none⟩ = some (.bool (po (k : Int))) := (hro.cell k).trans (bcells_get hlt)
   have a2 := HM.out.rI.cell hb
   have a3 := HM.out.rO.cell hb
   have a4 := HM.out.rI.at_ hb hlt
   have a5 := HM.out.rO.at_ hb hlt
   have s0 := hr.lt; have s1 := hro.lt; have s2 := HM.out.rI.row.lt; have s3 := HM.out.rO.row.lt; have s4 := (HM.out.rI.each b hb).lt; have s5 := (HM.out.rO.each b hb).lt
   clear hr hro
   have HD := Lib.hid (diffTo_succ p po (I.at_ b) (O.at_ b) k)
   obtain ⟨u1, hu1⟩ : ∃ u, u = p (k : Int) := ⟨_, rfl⟩
   obtain ⟨u2, hu2⟩ : ∃ u, u = po (k : Int) := ⟨_, rfl⟩
   obtain ⟨u3, hu3⟩ : ∃ u, u = I.at_ b (k : Int) := ⟨_, rfl⟩
   obtain ⟨u4', hu4⟩ : ∃ u, u = O.at_ b (k : Int) := ⟨_, rfl⟩
   obtain ⟨t, ht⟩ : ∃ t, t = (c || diffTo p po (I.at_ b) (O.at_ b) k) := ⟨_, rfl⟩
   rw [← hu1, ← hu2, ← hu3, ← hu4] at HD
   rw [← hu1] at a0; rw [← hu2] at a1; rw [← hu3] at a4; rw [← hu4] at a5
   rw [← ht]
   have HT := Lib.hid ht
   clear hu1 hu2 hu3 hu4 ht
   cases t
   ·cases u1 <;> cases u3 <;> cases u2 <;> cases u4'
    all_goals
     go_wp2_with go_quiet (fail)
     go_roundw
     case rel => exact ⟨k + 1, by omega, by go_num, by rw [HD.out, ← Bool.or_assoc, ← HT.out]; first | rfl | trivial, Lib.hid (bdrew HL.out)⟩
     case measure => simp [intOf]; omega
   ·go_wp2_with go_quiet (fail)
    go_roundw
    case rel => exact ⟨k + 1, by omega, by go_num, by rw [HD.out, ← Bool.or_assoc, ← HT.out]; simp, Lib.hid (bdrew HL.out)⟩
    case measure => simp [intOf]; omega
  ·go_wp2_with fail
   have e : k = g.nodes.length := by omega
   subst e
   exact HEx.out _ _ _ _ _ _ _ _ _ _ _ _ _ _ _ _ _ _ _ _ _ _ _ _ _ _ _ _ _ _ _ _ _ _ _ _ _ HL.out
end Go.Proofs.YtkmfdiboekoioaaGreat
