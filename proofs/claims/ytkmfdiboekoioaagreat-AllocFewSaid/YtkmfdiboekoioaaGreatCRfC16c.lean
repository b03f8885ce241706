/- The reference 16's look at a graph: what nodes use. Conditions: a small graph, a program that lie in memory. -/
import Derived.Test.YtkmfdiboekoioaaGreatCRfC16b
set_option linter.unusedSimpArgs false
set_option linter.unusedVariables false
namespace Go.Proofs.YtkmfdiboekoioaaGreat
open Go.RowKit
set_option maxRecDepth 100000 in
set_option maxHeartbeats 8000000 in
theorem cphi_any (w : World) (v : Value) (p : List FnP) (g : GraphP) (An Ab As : Option Addr) (cn cb cs : Nat) (W0 : World) (P : List (Nat × Nat)) (Ap : Option Addr) (cp : Nat) (av : Value) (y : NodeP) (x : BlockP) (nb xb : Nat) (A1 : Option Addr) (c1 : Nat) (A0 : Option Addr) (c0 : Nat) (v2 v3 : Value) (A4 : Option Addr) (c4 : Nat) (hs : Small g) (M0 : K16 w v p ⟨.slice An g.nodes.length cn, .slice Ab g.blocks.length cb, .slice As g.states.length cs⟩ g W0) (hP : PlacesV W0 W0.heap.size (.slice Ap g.nodes.length cp) P) (hok : PlOk2 g P) (hav : RowsV W0 W0.heap.size av (above_ g))
  (hnb : Blk W0 nb 68 #[.int .u8 y.op, .slice A1 y.args.length c1, .int .i64 y.N, .int .u8 y.kind, .int .i64 y.state]) (hxb : Blk W0 xb 41 #[.slice A0 x.nodes.length c0, .int .u8 x.fin, v2, v3, .slice A4 x.ahead.length c4, .int .i64 x.state]) (ha : IntsV W0 W0.heap.size (.slice A1 y.args.length c1) y.args) (hh : IntsV W0 W0.heap.size (.slice A4 x.ahead.length c4) x.ahead) (har : ∀ a ∈ y.args, 0 ≤ a ∧ a < (g.nodes.length : Int)) (hhr : ∀ a ∈ x.ahead, 0 ≤ a ∧ a < (g.blocks.length : Int)) (hlen : y.args.length = x.ahead.length)
  (u1 u2 u4 u5 u6 u7 u8 u9 u11 u12 u13 u15 u16 u20 u21 u22 u23 u24 u25 u26 u27 u28 u29 u30 u31 u32 u33 u34 u35 u36 u37 u38 u39 u40 u41 u42 u43 u44 u45 u46 u47 u48 u49 u50 u51 u52 u53 u54 u55 u56 u57 u58 u59 u60 u61 u62 u63 u64 u65 u66 u67 u68 u69 u70 u71 u72 u73 u74 u75 u76 u77 u78 u79 u80 u81 u82 u83 u84 u85 u86 u87 u88 u89 u90 u91 u92 u93 u94 u95 u96 u97 u98 u99 u100 u101 u102 u103 u104 u105 u106 u107 u108 u109 u110 u111 u112 u113 u114 u115 u116 u117 u118 u119 u120 u121 u122 u123 u124 u125 u126 u127 u128 u129 u130 u131 u132 u133 u134 u135 u136 u137 u138 u139 u140 u141 u142 u143 u144 u145 u146 u147 u148 u149 u150 u151 u152 u153 u154 u155 u156 u157 u158 u159 u160 u161 u162 u163 u164 u165 u166 u167 u168 u169 u170 u171 u172 u173 u174 u175 u176 u177 u178 u179 u180 u181 u182 u183 u184 u185 u186 u187 u188 u189 u190 u191 u192 u193 u194 u195 u196 u197 u198 u199 u200 u201 u202 u203 u204 u205 u206 u207 u208 u209 u210 u211 u212 u213 u214 u215 u216 u217 u218 u219 u220 u221 u222 u223 u224 u225 u226 u227 u228 u229 u230 u231 u232 u233 u234 u235 u236 u237 u238 u239 u240 u241 u242 u243 u244 u245 u246 u247 u248 u249 : Value) (Q : Exit → Act → World → Prop)
  (hret : ∀ (a : Act) (W : World), bodyPost Tryz.prog Tryz.f7 (Chk16 p g w) .ret a W → Q .ret a W) (hpan : ∀ c d v a w, Q (.panic c) (Act.put a d v) w → Q (.panic c) a w)
  (hexit : ∀ (x4 x19 x184 x185 x186 x187 x188 x189 x190 x191 x192 x193 x194 x195 x196 x197 x198 x199 x200 x201 x202 x203 x204 x205 x206 x207 x208 x209 x210 x211 x212 x213 x214 x215 x216 : Value) (W' : World), (Below W0.heap.size W0 W' ∧ ∀ (k : Nat) a c, k < y.args.length → y.args[k]? = some a → x.ahead[k]? = some c → ∃ z, g.blocks[c.toNat]? = some z ∧ standsB P (above_ g) a.toNat c.toNat z.nodes.length = true) → Q (.exit 8) ⟨#[v, u1, u2, .pointer (some ⟨w.heap.size, 0, none⟩), x4, u5, u6, u7, u8, u9, .slice Ap g.nodes.length cp, u11, u12, u13, av, u15, u16, .pointer (some ⟨nb, 0, none⟩), .pointer (some ⟨xb, 0, none⟩), x19, u20, u21, u22, u23, u24, u25, u26, u27, u28, u29, u30, u31, u32, u33, u34, u35, u36, u37, u38, u39, u40, u41, u42, u43, u44, u45, u46, u47, u48, u49, u50, u51, u52, u53, u54, u55, u56, u57, u58, u59, u60, u61, u62, u63, u64, u65, u66, u67, u68, u69, u70, u71, u72, u73, u74, u75, u76, u77, u78, u79, u80, u81, u82, u83, u84, u85, u86, u87, u88, u89, u90, u91, u92, u93, u94, u95, u96, u97, u98, u99, u100, u101, u102, u103, u104, u105, u106, u107, u108, u109, u110, u111, u112, u113, u114, u115, u116, u117, u118, u119, u120, u121, u122, u123, u124, u125, u126, u127, u128, u129, u130, u131, u132, u133, u134, u135, u136, u137, u138, u139, u140, u141, u142, u143, u144, u145, u146, u147, u148, u149, u150, u151, u152, u153, u154, u155, u156, u157, u158, u159, u160, u161, u162, u163, u164, u165, u166, u167, u168, u169, u170, u171, u172, u173, u174, u175, u176, u177, u178, u179, u180, u181, u182, u183, x184, x185, x186, x187, x188, x189, x190, x191, x192, x193, x194, x195, x196, x197, x198, x199, x200, x201, x202, x203, x204, x205, x206, x207, x208, x209, x210, x211, x212, x213, x214, x215, x216, u217, u218, u219, u220, u221, u222, u223, u224, u225, u226, u227, u228, u229, u230, u231, u232, u233, u234, u235, u236, u237, u238, u239, u240, u241, u242, u243, u244, u245, u246, u247, u248, u249], []⟩ W') :
  Code.wp Tryz.prog (Code.loop (cloop 4)) Q ⟨#[v, u1, u2, .pointer (some ⟨w.heap.size, 0, none⟩), u4, u5, u6, u7, u8, u9, .slice Ap g.nodes.length cp, u11, u12, u13, av, u15, u16, .pointer (some ⟨nb, 0, none⟩), .pointer (some ⟨xb, 0, none⟩), .int .i64 (0 : Int), u20, u21, u22, u23, u24, u25, u26, u27, u28, u29, u30, u31, u32, u33, u34, u35, u36, u37, u38, u39, u40, u41, u42, u43, u44, u45, u46, u47, u48, u49, u50, u51, u52, u53, u54, u55, u56, u57, u58, u59, u60, u61, u62, u63, u64, u65, u66, u67, u68, u69, u70, u71, u72, u73, u74, u75, u76, u77, u78, u79, u80, u81, u82, u83, u84, u85, u86, u87, u88, u89, u90, u91, u92, u93, u94, u95, u96, u97, u98, u99, u100, u101, u102, u103, u104, u105, u106, u107, u108, u109, u110, u111, u112, u113, u114, u115, u116, u117, u118, u119, u120, u121, u122, u123, u124, u125, u126, u127, u128, u129, u130, u131, u132, u133, u134, u135, u136, u137, u138, u139, u140, u141, u142, u143, u144, u145, u146, u147, u148, u149, u150, u151, u152, u153, u154, u155, u156, u157, u158, u159, u160, u161, u162, u163, u164, u165, u166, u167, u168, u169, u170, u171, u172, u173, u174, u175, u176, u177, u178, u179, u180, u181, u182, u183, u184, u185, u186, u187, u188, u189, u190, u191, u192, u193, u194, u195, u196, u197, u198, u199, u200, u201, u202, u203, u204, u205, u206, u207, u208, u209, u210, u211, u212, u213, u214, u215, u216, u217, u218, u219, u220, u221, u222, u223, u224, u225, u226, u227, u228, u229, u230, u231, u232, u233, u234, u235, u236, u237, u238, u239, u240, u241, u242, u243, u244, u245, u246, u247, u248, u249], []⟩ W0 := by
 have ee : gval g ⟨.slice An g.nodes.length cn, .slice Ab g.blocks.length cb, .slice As g.states.length cs⟩ = .agg #[.int .i64 g.fn, .int .i64 g.pc, .int .i64 g.slots, .slice An g.nodes.length cn, .slice Ab g.blocks.length cb, .slice As g.states.length cs] := rfl
 have E0 := Lib.hid ee
 obtain ⟨l1, l2, l3⟩ := hs.lens
 have HM0 := Lib.hid M0; have HEx := Lib.hid hexit; have HRet := Lib.hid hret; have HPan := Lib.hid hpan; have HPl := Lib.hid hP; have HOk := Lib.hid hok
 have HAv := Lib.hid hav; have HNb := Lib.hid hnb; have HXb := Lib.hid hxb; have HIa := Lib.hid ha; have HIh := Lib.hid hh; have HAr := Lib.hid har; have HHr := Lib.hid hhr
 have hpl := hok.len
 have hal : y.args.length ≤ 17592186044416 := by obtain ⟨_, _, _, _, q, _⟩ := ha; unfold lim at q; omega
 clear M0 hexit hret ee hpan hP hok hav hnb hxb ha hh har hhr
 conv => arg 2; arg 1; whnf
 dsimp only
 go_loopw [19] (fun t wr => ∃ k0 : Nat, k0 ≤ y.args.length ∧ t = .int .i64 k0 ∧ Hid (Below W0.heap.size W0 wr) ∧ Hid (∀ (k : Nat) a c, k < k0 → y.args[k]? = some a → x.ahead[k]? = some c → ∃ z, g.blocks[c.toNat]? = some z ∧ standsB P (above_ g) a.toNat c.toNat z.nodes.length = true)) (fun t _ => y.args.length - (intOf t).toNat)
 case atStart => exact ⟨0, Nat.zero_le _, rfl, Lib.hid (Below.refl _ _), Lib.hid (fun k a c h => by omega)⟩
 case round =>
  obtain ⟨k, hk, rfl, HB, HA⟩ := hrel
  obtain ⟨wq, rfl⟩ : ∃ wq : World, wq = wr := ⟨_, rfl⟩
  have HM := Lib.hid (HM0.out.below HB.out)
  have n1 : wq.cell? ⟨nb, 1, none⟩ = some (.slice A1 y.args.length c1) := (HNb.out.below HB.out HNb.out.lt).cell 1
  have nl := (HNb.out.below HB.out HNb.out.lt).lt
  by_cases hlt : k < y.args.length
  ·obtain ⟨ba, oa, rfl, hba, hpa⟩ := HIa.out.cells hlt
   obtain ⟨bh, oh, rfl, hbh, hph⟩ := HIh.out.cells (k := k) (by omega)
   obtain ⟨aa, haa⟩ := rget hlt
   obtain ⟨cc, hcc⟩ := rget (l := x.ahead) (k := k) (by omega)
   have r1 := HAr.out aa (List.mem_of_getElem? haa)
   have r2 := HHr.out cc (List.mem_of_getElem? hcc)
   obtain ⟨an, rfl⟩ : ∃ m : Nat, aa = (m : Int) := ⟨aa.toNat, by omega⟩
   obtain ⟨ch, rfl⟩ : ∃ m : Nat, cc = (m : Int) := ⟨cc.toNat, by omega⟩
   have c0' := hpa k _ haa
   have c1' := hph k _ hcc
   obtain ⟨z, hz⟩ := rget (l := g.blocks) (k := ch) (by omega)
   have HZ := Lib.hid hz
   obtain ⟨Aq, cq, eq, _, _, hqb⟩ := HM.out.gr.gr.2.1
   obtain ⟨bb, ob, eq2, hbb, _⟩ := hqb (by omega)
   simp only at eq
   injection eq with e1 e2 e3
   rw [eq2] at e1
   subst e1
   clear hqb e2 e3 eq2
   have HBk : Hid (∀ W, Below wq.heap.size wq W → BlockAt W w.heap.size bb (ob + ch * 6) z) := Lib.hid (fun W hW => (blocks_at ((HM.out.below hW).gr.gr.2.1) HZ.out).2)
   obtain ⟨⟨vz, f0, iz⟩, _⟩ := HBk.out wq (Below.refl _ _)
   obtain ⟨Az, cz, rfl, _⟩ := iz
   have HKp : Hid (∀ W, Below wq.heap.size wq W → W.cell? ⟨w.heap.size, 0, none⟩ = some (.int .i64 g.fn) ∧ W.cell? ⟨w.heap.size, 1, none⟩ = some (.int .i64 g.pc) ∧ W.cell? ⟨w.heap.size, 2, none⟩ = some (.int .i64 g.slots) ∧ W.cell? ⟨w.heap.size, 3, none⟩ = some (.slice An g.nodes.length cn) ∧ W.cell? ⟨w.heap.size, 4, none⟩ = some (.slice (some ⟨bb, ob, none⟩) g.blocks.length cb) ∧ W.cell? ⟨w.heap.size, 5, none⟩ = some (.slice As g.states.length cs) ∧ W.cell? ⟨nb, 1, none⟩ = some (.slice (some ⟨ba, oa, none⟩) y.args.length c1) ∧ W.cell? ⟨xb, 4, none⟩ = some (.slice (some ⟨bh, oh, none⟩) x.ahead.length c4) ∧ W.cell? ⟨ba, oa + k, none⟩ = some (.int .i64 (an : Int)) ∧ W.cell? ⟨bh, oh + k, none⟩ = some (.int .i64 (ch : Int)) ∧ W.cell? ⟨bb, ob + ch * 6, none⟩ = some (.slice Az z.nodes.length cz)) := Lib.hid (fun W hW => by
    obtain ⟨q0, q1, q2, q3, q4, q5⟩ := (HM.out.below hW).gr.cells
    have hWW := HB.out.trans (hW.mono HB.out.size)
    exact ⟨q0, q1, q2, q3, q4, q5, (HNb.out.below hWW HNb.out.lt).cell 1, (HXb.out.below hWW HXb.out.lt).cell 4, (hWW.cell (p := ⟨ba, oa + k, none⟩) hba).trans c0', (hWW.cell (p := ⟨bh, oh + k, none⟩) hbh).trans c1', (hW.cell (p := ⟨bb, ob + ch * 6, none⟩) (Nat.lt_of_lt_of_le hbb HM.out.low.size)).trans f0⟩)
   have hbd : Below W0.heap.size W0 wq.drew := HB.out.trans ((Below.refl _ wq).drew.mono HB.out.size)
   have HC := Lib.hid (stands16_any wq.drew (.slice Ap g.nodes.length cp) av P (above_ g) an ch z.nodes.length ((PlacesV.keep2 HPl.out (Same.of_below hbd)).mono2 hbd.size) ((RowsV.keep HAv.out (Same.of_below hbd)).mono hbd.size) (by rw [hpl]; omega) (by unfold above_; simp; omega))
   have HSa : Hid ((fun W : World => W.cell? ⟨w.heap.size, 0, none⟩ = some (.int .i64 g.fn) ∧ W.cell? ⟨w.heap.size, 1, none⟩ = some (.int .i64 g.pc) ∧ W.cell? ⟨w.heap.size, 2, none⟩ = some (.int .i64 g.slots) ∧ W.cell? ⟨w.heap.size, 3, none⟩ = some (.slice An g.nodes.length cn) ∧ W.cell? ⟨w.heap.size, 4, none⟩ = some (.slice (some ⟨bb, ob, none⟩) g.blocks.length cb) ∧ W.cell? ⟨w.heap.size, 5, none⟩ = some (.slice As g.states.length cs) ∧ W.cell? ⟨nb, 1, none⟩ = some (.slice (some ⟨ba, oa, none⟩) y.args.length c1) ∧ W.cell? ⟨xb, 4, none⟩ = some (.slice (some ⟨bh, oh, none⟩) x.ahead.length c4) ∧ W.cell? ⟨ba, oa + k, none⟩ = some (.int .i64 (an : Int)) ∧ W.cell? ⟨bh, oh + k, none⟩ = some (.int .i64 (ch : Int)) ∧ W.cell? ⟨bb, ob + ch * 6, none⟩ = some (.slice Az z.nodes.length cz)) wq.drew) := Lib.hid (HKp.out wq.drew (Below.refl _ _).drew)
   have HAa := Lib.hid haa; have HCc := Lib.hid hcc
   obtain ⟨t4, ht4⟩ : ∃ t4, t4 = standsB P (above_ g) an ch z.nodes.length := ⟨_, rfl⟩
   rw [← ht4] at HC
   have HT4 := Lib.hid ht4
   have hchl : ch < g.blocks.length := by omega
   clear ht4 hbd hz haa hcc hpa hph r1 r2
   go_upto_region 39 with fail
   clear n1 nl f0 c0' c1'
   refine wp_region_H2 (fun W : World => W.cell? ⟨w.heap.size, 0, none⟩ = some (.int .i64 g.fn) ∧ W.cell? ⟨w.heap.size, 1, none⟩ = some (.int .i64 g.pc) ∧ W.cell? ⟨w.heap.size, 2, none⟩ = some (.int .i64 g.slots) ∧ W.cell? ⟨w.heap.size, 3, none⟩ = some (.slice An g.nodes.length cn) ∧ W.cell? ⟨w.heap.size, 4, none⟩ = some (.slice (some ⟨bb, ob, none⟩) g.blocks.length cb) ∧ W.cell? ⟨w.heap.size, 5, none⟩ = some (.slice As g.states.length cs) ∧ W.cell? ⟨nb, 1, none⟩ = some (.slice (some ⟨ba, oa, none⟩) y.args.length c1) ∧ W.cell? ⟨xb, 4, none⟩ = some (.slice (some ⟨bh, oh, none⟩) x.ahead.length c4) ∧ W.cell? ⟨ba, oa + k, none⟩ = some (.int .i64 (an : Int)) ∧ W.cell? ⟨bh, oh + k, none⟩ = some (.int .i64 (ch : Int)) ∧ W.cell? ⟨bb, ob + ch * 6, none⟩ = some (.slice Az z.nodes.length cz)) (by kernel_rfl) HSa.out (fun HSn => ?_)
   clear HSn
   refine tkL 0 rfl (fun c a w h => HPan.out c _ _ a w h) HSa.out ?_
   try simp only [Act.put, List.setIfInBounds_toArray, List.set_cons_zero, List.set_cons_succ]
   refine tkL 1 rfl (fun c a w h => HPan.out c _ _ a w h) HSa.out ?_
   try simp only [Act.put, List.setIfInBounds_toArray, List.set_cons_zero, List.set_cons_succ]
   refine tkL 2 rfl (fun c a w h => HPan.out c _ _ a w h) HSa.out ?_
   try simp only [Act.put, List.setIfInBounds_toArray, List.set_cons_zero, List.set_cons_succ]
   refine tkL 3 rfl (fun c a w h => HPan.out c _ _ a w h) HSa.out ?_
   try simp only [Act.put, List.setIfInBounds_toArray, List.set_cons_zero, List.set_cons_succ]
   refine tkL 4 rfl (fun c a w h => HPan.out c _ _ a w h) HSa.out ?_
   try simp only [Act.put, List.setIfInBounds_toArray, List.set_cons_zero, List.set_cons_succ]
   refine tkL 5 rfl (fun c a w h => HPan.out c _ _ a w h) HSa.out ?_
   try simp only [Act.put, List.setIfInBounds_toArray, List.set_cons_zero, List.set_cons_succ]
   refine tkL 6 rfl (fun c a w h => HPan.out c _ _ a w h) HSa.out ?_
   try simp only [Act.put, List.setIfInBounds_toArray, List.set_cons_zero, List.set_cons_succ]
   refine tkL 7 rfl (fun c a w h => HPan.out c _ _ a w h) HSa.out ?_
   try simp only [Act.put, List.setIfInBounds_toArray, List.set_cons_zero, List.set_cons_succ]
   refine tkL 8 rfl (fun c a w h => HPan.out c _ _ a w h) HSa.out ?_
   try simp only [Act.put, List.setIfInBounds_toArray, List.set_cons_zero, List.set_cons_succ]
   refine tkL 9 rfl (fun c a w h => HPan.out c _ _ a w h) HSa.out ?_
   try simp only [Act.put, List.setIfInBounds_toArray, List.set_cons_zero, List.set_cons_succ]
   refine tkL 10 rfl (fun c a w h => HPan.out c _ _ a w h) HSa.out ?_
   try simp only [Act.put, List.setIfInBounds_toArray, List.set_cons_zero, List.set_cons_succ]
   refine tkL 11 rfl (fun c a w h => HPan.out c _ _ a w h) HSa.out ?_
   try simp only [Act.put, List.setIfInBounds_toArray, List.set_cons_zero, List.set_cons_succ]
   refine tkL 12 rfl (fun c a w h => HPan.out c _ _ a w h) HSa.out ?_
   try simp only [Act.put, List.setIfInBounds_toArray, List.set_cons_zero, List.set_cons_succ]
   refine tkL 13 rfl (fun c a w h => HPan.out c _ _ a w h) HSa.out ?_
   try simp only [Act.put, List.setIfInBounds_toArray, List.set_cons_zero, List.set_cons_succ]
   refine tkL 14 rfl (fun c a w h => HPan.out c _ _ a w h) HSa.out ?_
   try simp only [Act.put, List.setIfInBounds_toArray, List.set_cons_zero, List.set_cons_succ]
   refine tkL 15 rfl (fun c a w h => HPan.out c _ _ a w h) HSa.out ?_
   try simp only [Act.put, List.setIfInBounds_toArray, List.set_cons_zero, List.set_cons_succ]
   refine tkL 16 rfl (fun c a w h => HPan.out c _ _ a w h) HSa.out ?_
   try simp only [Act.put, List.setIfInBounds_toArray, List.set_cons_zero, List.set_cons_succ]
   refine tkL 17 rfl (fun c a w h => HPan.out c _ _ a w h) HSa.out ?_
   try simp only [Act.put, List.setIfInBounds_toArray, List.set_cons_zero, List.set_cons_succ]
   refine tkL 18 rfl (fun c a w h => HPan.out c _ _ a w h) HSa.out ?_
   try simp only [Act.put, List.setIfInBounds_toArray, List.set_cons_zero, List.set_cons_succ]
   refine tkL 19 rfl (fun c a w h => HPan.out c _ _ a w h) HSa.out ?_
   try simp only [Act.put, List.setIfInBounds_toArray, List.set_cons_zero, List.set_cons_succ]
   refine tkL 20 rfl (fun c a w h => HPan.out c _ _ a w h) HSa.out ?_
   try simp only [Act.put, List.setIfInBounds_toArray, List.set_cons_zero, List.set_cons_succ]
   refine tkL 21 rfl (fun c a w h => HPan.out c _ _ a w h) HSa.out ?_
   try simp only [Act.put, List.setIfInBounds_toArray, List.set_cons_zero, List.set_cons_succ]
   refine tkL 22 rfl (fun c a w h => HPan.out c _ _ a w h) HSa.out ?_
   try simp only [Act.put, List.setIfInBounds_toArray, List.set_cons_zero, List.set_cons_succ]
   refine tkL 23 rfl (fun c a w h => HPan.out c _ _ a w h) HSa.out ?_
   try simp only [Act.put, List.setIfInBounds_toArray, List.set_cons_zero, List.set_cons_succ]
   refine wpAnyH_ready (rs := [24]) (by kernel_rfl) (by simp) (AllReadyH_consL (o := _) rfl (fun K hK => ?_) AllReadyH.nil)
   go_simp
   (go_at_call 27; (with_reducible refine Calls.mono HC.out ?_); rintro e w4 ⟨rfl, hb4⟩; have HB4 : Hid (Below wq.heap.size wq w4) := Lib.hid ((Below.refl _ _).drew.trans hb4); clear hb4)
   try go_wp2_with fail
   have HSb : Hid ((fun W : World => W.cell? ⟨w.heap.size, 0, none⟩ = some (.int .i64 g.fn) ∧ W.cell? ⟨w.heap.size, 1, none⟩ = some (.int .i64 g.pc) ∧ W.cell? ⟨w.heap.size, 2, none⟩ = some (.int .i64 g.slots) ∧ W.cell? ⟨w.heap.size, 3, none⟩ = some (.slice An g.nodes.length cn) ∧ W.cell? ⟨w.heap.size, 4, none⟩ = some (.slice (some ⟨bb, ob, none⟩) g.blocks.length cb) ∧ W.cell? ⟨w.heap.size, 5, none⟩ = some (.slice As g.states.length cs) ∧ W.cell? ⟨nb, 1, none⟩ = some (.slice (some ⟨ba, oa, none⟩) y.args.length c1) ∧ W.cell? ⟨xb, 4, none⟩ = some (.slice (some ⟨bh, oh, none⟩) x.ahead.length c4) ∧ W.cell? ⟨ba, oa + k, none⟩ = some (.int .i64 (an : Int)) ∧ W.cell? ⟨bh, oh + k, none⟩ = some (.int .i64 (ch : Int)) ∧ W.cell? ⟨bb, ob + ch * 6, none⟩ = some (.slice Az z.nodes.length cz)) w4) := Lib.hid (HKp.out _ HB4.out)
   refine hK.out _ _ HSb.out (fun HSn => ?_)
   clear hK K HSn
   try simp only [Act.put, List.setIfInBounds_toArray, List.set_cons_zero, List.set_cons_succ]
   refine tkL 25 rfl (fun c a w h => HPan.out c _ _ a w h) HSb.out ?_
   try simp only [Act.put, List.setIfInBounds_toArray, List.set_cons_zero, List.set_cons_succ]
   refine wpAnyH_done (by kernel_rfl) ?_ _
   cases t4
   ·go_wp2_with fail
    refine HRet.out _ _ ?_
    go_ret
    exact ⟨8, rfl, fun h => absurd h (by decide), (HM.out.below HB4.out).low⟩
   ·go_wp2_with fail
    go_roundw
    case rel => exact ⟨k + 1, by omega, by go_num, Lib.hid (HB.out.trans (HB4.out.mono HB.out.size)), Lib.hid (fun j a' c' hj ha' hc' => by
     rcases Nat.lt_or_ge j k with h | h
     ·exact HA.out j a' c' h ha' hc'
     ·obtain rfl : j = k := by omega
      rw [HAa.out] at ha'; injection ha' with ha'; subst ha'
      rw [HCc.out] at hc'; injection hc' with hc'; subst hc'
      rw [Int.toNat_natCast, Int.toNat_natCast]
      exact ⟨z, HZ.out, HT4.out.symm⟩)⟩
    case measure => simp [intOf]; omega
  ·go_wp2_with fail
   exact HEx.out _ _ _ _ _ _ _ _ _ _ _ _ _ _ _ _ _ _ _ _ _ _ _ _ _ _ _ _ _ _ _ _ _ _ _ _ ⟨HB.out, fun j a c hj => HA.out j a c (by omega)⟩
end Go.Proofs.YtkmfdiboekoioaaGreat

/- The reference 16's look at a graph: what nodes use, all of them. Conditions: a small graph, a program that lie in memory. -/
namespace Go.Proofs.YtkmfdiboekoioaaGreat
open Go.RowKit
set_option maxRecDepth 100000 in
set_option maxHeartbeats 8000000 in
theorem cuse_any (w : World) (v : Value) (p : List FnP) (g : GraphP) (An Ab As : Option Addr) (cn cb cs : Nat) (W0 : World) (P : List (Nat × Nat)) (Ap : Option Addr) (cp : Nat) (av : Value) (hs : Small g) (M0 : K16 w v p ⟨.slice An g.nodes.length cn, .slice Ab g.blocks.length cb, .slice As g.states.length cs⟩ g W0) (hP : PlacesV W0 W0.heap.size (.slice Ap g.nodes.length cp) P) (hok : PlOk2 g P) (hav : RowsV W0 W0.heap.size av (above_ g)) (hst : StF g) (hah : ∀ (b : Nat) x, g.blocks[b]? = some x → AhF g x b)
  (hnd : ∀ (n : Nat) y, g.nodes[n]? = some y → ∃ x, g.blocks[(P.getD n (0, 0)).1]? = some x ∧ NdF g y (P.getD n (0, 0)).1 x (P.getD n (0, 0)).2)
  (u1 u2 u4 u5 u6 u7 u8 u9 u11 u12 u13 u15 u17 u18 u19 u20 u21 u22 u23 u24 u25 u26 u27 u28 u29 u30 u31 u32 u33 u34 u35 u36 u37 u38 u39 u40 u41 u42 u43 u44 u45 u46 u47 u48 u49 u50 u51 u52 u53 u54 u55 u56 u57 u58 u59 u60 u61 u62 u63 u64 u65 u66 u67 u68 u69 u70 u71 u72 u73 u74 u75 u76 u77 u78 u79 u80 u81 u82 u83 u84 u85 u86 u87 u88 u89 u90 u91 u92 u93 u94 u95 u96 u97 u98 u99 u100 u101 u102 u103 u104 u105 u106 u107 u108 u109 u110 u111 u112 u113 u114 u115 u116 u117 u118 u119 u120 u121 u122 u123 u124 u125 u126 u127 u128 u129 u130 u131 u132 u133 u134 u135 u136 u137 u138 u139 u140 u141 u142 u143 u144 u145 u146 u147 u148 u149 u150 u151 u152 u153 u154 u155 u156 u157 u158 u159 u160 u161 u162 u163 u164 u165 u166 u167 u168 u169 u170 u171 u172 u173 u174 u175 u176 u177 u178 u179 u180 u181 u182 u183 u184 u185 u186 u187 u188 u189 u190 u191 u192 u193 u194 u195 u196 u197 u198 u199 u200 u201 u202 u203 u204 u205 u206 u207 u208 u209 u210 u211 u212 u213 u214 u215 u216 u217 u218 u219 u220 u221 u222 u223 u224 u225 u226 u227 u228 u229 u230 u231 u232 u233 u234 u235 u236 u237 u238 u239 u240 u241 u242 u243 u244 u245 u246 u247 u248 u249 : Value) (Q : Exit → Act → World → Prop)
  (hret : ∀ (a : Act) (W : World), bodyPost Tryz.prog Tryz.f7 (Chk16 p g w) .ret a W → Q .ret a W) (hpan : ∀ c d v a w, Q (.panic c) (Act.put a d v) w → Q (.panic c) a w)
  (hexit : ∀ (x4 x16 x17 x18 x19 x147 x148 x149 x150 x151 x152 x153 x154 x155 x156 x157 x158 x159 x160 x161 x162 x163 x164 x165 x166 x167 x168 x169 x170 x171 x172 x173 x174 x175 x176 x177 x178 x179 x180 x181 x182 x183 x184 x185 x186 x187 x188 x189 x190 x191 x192 x193 x194 x195 x196 x197 x198 x199 x200 x201 x202 x203 x204 x205 x206 x207 x208 x209 x210 x211 x212 x213 x214 x215 x216 : Value) (W' : World), (Below W0.heap.size W0 W' ∧ (∀ (n : Nat) y, g.nodes[n]? = some y → (y.op ≠ 2 → StandF P (above_ g) y.args (P.getD n (0, 0)).1 (P.getD n (0, 0)).2 ∧ StandF P (above_ g) (slotsOf g y.state) (P.getD n (0, 0)).1 (P.getD n (0, 0)).2) ∧ (y.op = 2 → ∀ x, g.blocks[(P.getD n (0, 0)).1]? = some x → ∀ (k : Nat) a c, y.args[k]? = some a → x.ahead[k]? = some c → ∃ z, g.blocks[c.toNat]? = some z ∧ standsB P (above_ g) a.toNat c.toNat z.nodes.length = true))) → Q (.exit 6) ⟨#[v, u1, u2, .pointer (some ⟨w.heap.size, 0, none⟩), x4, u5, u6, u7, u8, u9, .slice Ap g.nodes.length cp, u11, u12, u13, av, u15, x16, x17, x18, x19, u20, u21, u22, u23, u24, u25, u26, u27, u28, u29, u30, u31, u32, u33, u34, u35, u36, u37, u38, u39, u40, u41, u42, u43, u44, u45, u46, u47, u48, u49, u50, u51, u52, u53, u54, u55, u56, u57, u58, u59, u60, u61, u62, u63, u64, u65, u66, u67, u68, u69, u70, u71, u72, u73, u74, u75, u76, u77, u78, u79, u80, u81, u82, u83, u84, u85, u86, u87, u88, u89, u90, u91, u92, u93, u94, u95, u96, u97, u98, u99, u100, u101, u102, u103, u104, u105, u106, u107, u108, u109, u110, u111, u112, u113, u114, u115, u116, u117, u118, u119, u120, u121, u122, u123, u124, u125, u126, u127, u128, u129, u130, u131, u132, u133, u134, u135, u136, u137, u138, u139, u140, u141, u142, u143, u144, u145, u146, x147, x148, x149, x150, x151, x152, x153, x154, x155, x156, x157, x158, x159, x160, x161, x162, x163, x164, x165, x166, x167, x168, x169, x170, x171, x172, x173, x174, x175, x176, x177, x178, x179, x180, x181, x182, x183, x184, x185, x186, x187, x188, x189, x190, x191, x192, x193, x194, x195, x196, x197, x198, x199, x200, x201, x202, x203, x204, x205, x206, x207, x208, x209, x210, x211, x212, x213, x214, x215, x216, u217, u218, u219, u220, u221, u222, u223, u224, u225, u226, u227, u228, u229, u230, u231, u232, u233, u234, u235, u236, u237, u238, u239, u240, u241, u242, u243, u244, u245, u246, u247, u248, u249], []⟩ W') :
  Code.wp Tryz.prog (Code.loop (cloop 3)) Q ⟨#[v, u1, u2, .pointer (some ⟨w.heap.size, 0, none⟩), u4, u5, u6, u7, u8, u9, .slice Ap g.nodes.length cp, u11, u12, u13, av, u15, .int .i64 (0 : Int), u17, u18, u19, u20, u21, u22, u23, u24, u25, u26, u27, u28, u29, u30, u31, u32, u33, u34, u35, u36, u37, u38, u39, u40, u41, u42, u43, u44, u45, u46, u47, u48, u49, u50, u51, u52, u53, u54, u55, u56, u57, u58, u59, u60, u61, u62, u63, u64, u65, u66, u67, u68, u69, u70, u71, u72, u73, u74, u75, u76, u77, u78, u79, u80, u81, u82, u83, u84, u85, u86, u87, u88, u89, u90, u91, u92, u93, u94, u95, u96, u97, u98, u99, u100, u101, u102, u103, u104, u105, u106, u107, u108, u109, u110, u111, u112, u113, u114, u115, u116, u117, u118, u119, u120, u121, u122, u123, u124, u125, u126, u127, u128, u129, u130, u131, u132, u133, u134, u135, u136, u137, u138, u139, u140, u141, u142, u143, u144, u145, u146, u147, u148, u149, u150, u151, u152, u153, u154, u155, u156, u157, u158, u159, u160, u161, u162, u163, u164, u165, u166, u167, u168, u169, u170, u171, u172, u173, u174, u175, u176, u177, u178, u179, u180, u181, u182, u183, u184, u185, u186, u187, u188, u189, u190, u191, u192, u193, u194, u195, u196, u197, u198, u199, u200, u201, u202, u203, u204, u205, u206, u207, u208, u209, u210, u211, u212, u213, u214, u215, u216, u217, u218, u219, u220, u221, u222, u223, u224, u225, u226, u227, u228, u229, u230, u231, u232, u233, u234, u235, u236, u237, u238, u239, u240, u241, u242, u243, u244, u245, u246, u247, u248, u249], []⟩ W0 := by
 have ee : gval g ⟨.slice An g.nodes.length cn, .slice Ab g.blocks.length cb, .slice As g.states.length cs⟩ = .agg #[.int .i64 g.fn, .int .i64 g.pc, .int .i64 g.slots, .slice An g.nodes.length cn, .slice Ab g.blocks.length cb, .slice As g.states.length cs] := rfl
 have E0 := Lib.hid ee
 obtain ⟨l1, l2, l3⟩ := hs.lens
 have HM0 := Lib.hid M0; have HEx := Lib.hid hexit; have HRet := Lib.hid hret; have HPan := Lib.hid hpan; have HPl := Lib.hid hP; have HOk := Lib.hid hok
 have HAv := Lib.hid hav; have HSt := Lib.hid hst; have HAh := Lib.hid hah; have HNd := Lib.hid hnd
 have hpl := hok.len
 clear M0 hexit hret ee hpan hP hok hav hst hah hnd
 conv => arg 2; arg 1; whnf
 dsimp only
 go_loopw [16] (fun t wr => ∃ k : Nat, k ≤ g.nodes.length ∧ t = .int .i64 k ∧ Hid (Below W0.heap.size W0 wr) ∧ Hid (∀ (n : Nat) y, n < k → g.nodes[n]? = some y → (y.op ≠ 2 → StandF P (above_ g) y.args (P.getD n (0, 0)).1 (P.getD n (0, 0)).2 ∧ StandF P (above_ g) (slotsOf g y.state) (P.getD n (0, 0)).1 (P.getD n (0, 0)).2) ∧ (y.op = 2 → ∀ x, g.blocks[(P.getD n (0, 0)).1]? = some x → ∀ (k' : Nat) a c, y.args[k']? = some a → x.ahead[k']? = some c → ∃ z, g.blocks[c.toNat]? = some z ∧ standsB P (above_ g) a.toNat c.toNat z.nodes.length = true))) (fun t _ => g.nodes.length - (intOf t).toNat)
 case atStart => exact ⟨0, Nat.zero_le _, rfl, Lib.hid (Below.refl _ _), Lib.hid (fun n y h => by omega)⟩
 case round =>
  obtain ⟨k, hk, rfl, HB, HA⟩ := hrel
  obtain ⟨wq, rfl⟩ : ∃ wq : World, wq = wr := ⟨_, rfl⟩
  have HM := Lib.hid (HM0.out.below HB.out)
  obtain ⟨q0, q1, q2, q3, q4, q5⟩ := HM.out.gr.cells
  have ql := HM.out.gr.lt
  simp only at q3 q4 q5
  by_cases hlt : k < g.nodes.length
  ·obtain ⟨y, hy⟩ := getE hlt
   have HY := Lib.hid hy
   obtain ⟨Aq, cq, eq, _, _, hqb⟩ := HM.out.gr.gr.1
   obtain ⟨bm, om, eq2, hbm, hqb⟩ := hqb (by omega)
   simp only at eq
   injection eq with e1 e2 e3
   rw [eq2] at e1
   subst e1
   obtain ⟨g0, ⟨v1, g1, i1⟩, g2, g3, g4⟩ := hqb k y hy
   have HI1 := Lib.hid i1
   obtain ⟨A1, c1, rfl, _⟩ := i1
   clear hqb e2 e3 eq2
   obtain ⟨bp, op, eA, hbp, p0, p1⟩ := places_cell HPl.out (k := k) (by omega)
   subst eA
   obtain ⟨qb, hqb⟩ : ∃ qb, qb = (P.getD k (0, 0)).1 := ⟨_, rfl⟩
   obtain ⟨qi, hqi⟩ : ∃ qi, qi = (P.getD k (0, 0)).2 := ⟨_, rfl⟩
   rw [← hqb] at p0
   rw [← hqi] at p1
   have HQ : Hid (P.getD k (0, 0) = (qb, qi)) := Lib.hid (Prod.ext hqb.symm hqi.symm)
   obtain ⟨x, hx, hnd⟩ := HNd.out k y hy
   rw [HQ.out] at hx hnd
   have HX := Lib.hid hx
   have HN := Lib.hid hnd
   have HP0 := Lib.hid p0; have HP1 := Lib.hid p1
   obtain ⟨w4, hw4⟩ : ∃ w4, w4 = wq.alloc (.cells #[.int .u8 y.op, .slice A1 y.args.length c1, .int .i64 y.N, .int .u8 y.kind, .int .i64 y.state] 68) := ⟨_, rfl⟩
   have HB4 : Hid (Below wq.heap.size wq w4) := Lib.hid (by rw [hw4]; exact (Below.refl _ _).alloc (Nat.le_refl _) _)
   have HK4 : Hid (Blk w4 wq.heap.size 68 #[.int .u8 y.op, .slice A1 y.args.length c1, .int .i64 y.N, .int .u8 y.kind, .int .i64 y.state]) := Lib.hid (by rw [hw4]; exact Blk.new _ _ _)
   clear hx hnd hy hqb hqi p0 p1
   go_upto_region 32 with fail
   rw [← hw4]
   clear hw4 q0 q1 q2 q3 q4 q5 ql g0 g1 g2 g3 g4
   have HL4 := Lib.hid (HB.out.trans (HB4.out.mono HB.out.size))
   have HM4 := Lib.hid (HM.out.below HB4.out)
   have n0 := HK4.out.cell 0
   have nl := HK4.out.lt
   rcases ho : (y.op != 2) with _ | _
   rotate_left
   ·have HO : Hid (y.op ≠ 2) := Lib.hid (by simpa using ho)
    have HKp : Hid (∀ W, Below w4.heap.size w4 W → W.cell? ⟨w.heap.size, 0, none⟩ = some (.int .i64 g.fn) ∧ W.cell? ⟨w.heap.size, 1, none⟩ = some (.int .i64 g.pc) ∧ W.cell? ⟨w.heap.size, 2, none⟩ = some (.int .i64 g.slots) ∧ W.cell? ⟨w.heap.size, 3, none⟩ = some (.slice (some ⟨bm, om, none⟩) g.nodes.length cn) ∧ W.cell? ⟨w.heap.size, 4, none⟩ = some (.slice Ab g.blocks.length cb) ∧ W.cell? ⟨w.heap.size, 5, none⟩ = some (.slice As g.states.length cs) ∧ W.cell? ⟨wq.heap.size, 1, none⟩ = some (.slice A1 y.args.length c1) ∧ W.cell? ⟨wq.heap.size, 4, none⟩ = some (.int .i64 y.state) ∧ W.cell? ⟨bp, op + k * 2, none⟩ = some (.int .i64 (qb : Int)) ∧ W.cell? ⟨bp, op + k * 2 + 1, none⟩ = some (.int .i64 (qi : Int))) := Lib.hid (fun W hW => by
     obtain ⟨q0, q1, q2, q3, q4, q5⟩ := (HM4.out.below hW).gr.cells
     have hWW := HL4.out.trans (hW.mono HL4.out.size)
     exact ⟨q0, q1, q2, q3, q4, q5, (HK4.out.below hW HK4.out.lt).cell 1, (HK4.out.below hW HK4.out.lt).cell 4, (hWW.cell (p := ⟨bp, op + k * 2, none⟩) hbp).trans HP0.out, (hWW.cell (p := ⟨bp, op + k * 2 + 1, none⟩) hbp).trans HP1.out⟩)
    have hbd : Below W0.heap.size W0 w4.drew := HL4.out.trans ((Below.refl _ w4).drew.mono HL4.out.size)
    have hc := uses16_any w4.drew ⟨.slice (some ⟨bm, om, none⟩) g.nodes.length cn, .slice Ab g.blocks.length cb, .slice As g.states.length cs⟩ g (.slice (some ⟨bp, op, none⟩) g.nodes.length cp) av (.slice A1 y.args.length c1) P (above_ g) y.args y.state qb qi (HM4.out.below (Below.refl _ _).drew).gr.graph ((PlacesV.keep2 HPl.out (Same.of_below hbd)).mono2 hbd.size) ((RowsV.keep HAv.out (Same.of_below hbd)).mono hbd.size) ((HI1.out.keep (Same.of_below ((HB4.out.trans ((Below.refl _ w4).drew.mono HB4.out.size)).mono HM.out.low.size))).mono (Nat.le_trans HM.out.low.size HB4.out.size)) (by unfold above_; have := (List.getElem?_eq_some_iff.1 HX.out).1; simpa using this) (by rw [hpl]; exact HN.out.args) HN.out.state.2 (by rw [hpl]; exact fun a ha => (slots_in HSt.out y.state a ha).2)
    rw [E0.out] at hc
    have HC := Lib.hid hc
    have HSa : Hid ((fun W : World => W.cell? ⟨w.heap.size, 0, none⟩ = some (.int .i64 g.fn) ∧ W.cell? ⟨w.heap.size, 1, none⟩ = some (.int .i64 g.pc) ∧ W.cell? ⟨w.heap.size, 2, none⟩ = some (.int .i64 g.slots) ∧ W.cell? ⟨w.heap.size, 3, none⟩ = some (.slice (some ⟨bm, om, none⟩) g.nodes.length cn) ∧ W.cell? ⟨w.heap.size, 4, none⟩ = some (.slice Ab g.blocks.length cb) ∧ W.cell? ⟨w.heap.size, 5, none⟩ = some (.slice As g.states.length cs) ∧ W.cell? ⟨wq.heap.size, 1, none⟩ = some (.slice A1 y.args.length c1) ∧ W.cell? ⟨wq.heap.size, 4, none⟩ = some (.int .i64 y.state) ∧ W.cell? ⟨bp, op + k * 2, none⟩ = some (.int .i64 (qb : Int)) ∧ W.cell? ⟨bp, op + k * 2 + 1, none⟩ = some (.int .i64 (qi : Int))) w4.drew) := Lib.hid (HKp.out w4.drew (Below.refl _ _).drew)
    clear hc hbd
    go_upto_region 33 with fail
    clear n0 nl
    refine wp_region_H2 (fun W : World => W.cell? ⟨w.heap.size, 0, none⟩ = some (.int .i64 g.fn) ∧ W.cell? ⟨w.heap.size, 1, none⟩ = some (.int .i64 g.pc) ∧ W.cell? ⟨w.heap.size, 2, none⟩ = some (.int .i64 g.slots) ∧ W.cell? ⟨w.heap.size, 3, none⟩ = some (.slice (some ⟨bm, om, none⟩) g.nodes.length cn) ∧ W.cell? ⟨w.heap.size, 4, none⟩ = some (.slice Ab g.blocks.length cb) ∧ W.cell? ⟨w.heap.size, 5, none⟩ = some (.slice As g.states.length cs) ∧ W.cell? ⟨wq.heap.size, 1, none⟩ = some (.slice A1 y.args.length c1) ∧ W.cell? ⟨wq.heap.size, 4, none⟩ = some (.int .i64 y.state) ∧ W.cell? ⟨bp, op + k * 2, none⟩ = some (.int .i64 (qb : Int)) ∧ W.cell? ⟨bp, op + k * 2 + 1, none⟩ = some (.int .i64 (qi : Int))) (by kernel_rfl) HSa.out (fun HSn => ?_)
    clear HSn
    refine tkL 0 rfl (fun c a w h => HPan.out c _ _ a w h) HSa.out ?_
    try simp only [Act.put, List.setIfInBounds_toArray, List.set_cons_zero, List.set_cons_succ]
    refine tkL 1 rfl (fun c a w h => HPan.out c _ _ a w h) HSa.out ?_
    try simp only [Act.put, List.setIfInBounds_toArray, List.set_cons_zero, List.set_cons_succ]
    refine tkL 2 rfl (fun c a w h => HPan.out c _ _ a w h) HSa.out ?_
    try simp only [Act.put, List.setIfInBounds_toArray, List.set_cons_zero, List.set_cons_succ]
    refine tkL 3 rfl (fun c a w h => HPan.out c _ _ a w h) HSa.out ?_
    try simp only [Act.put, List.setIfInBounds_toArray, List.set_cons_zero, List.set_cons_succ]
    refine tkL 4 rfl (fun c a w h => HPan.out c _ _ a w h) HSa.out ?_
    try simp only [Act.put, List.setIfInBounds_toArray, List.set_cons_zero, List.set_cons_succ]
    refine tkL 5 rfl (fun c a w h => HPan.out c _ _ a w h) HSa.out ?_
    try simp only [Act.put, List.setIfInBounds_toArray, List.set_cons_zero, List.set_cons_succ]
    refine tkL 6 rfl (fun c a w h => HPan.out c _ _ a w h) HSa.out ?_
    try simp only [Act.put, List.setIfInBounds_toArray, List.set_cons_zero, List.set_cons_succ]
    refine tkL 7 rfl (fun c a w h => HPan.out c _ _ a w h) HSa.out ?_
    try simp only [Act.put, List.setIfInBounds_toArray, List.set_cons_zero, List.set_cons_succ]
    refine tkL 8 rfl (fun c a w h => HPan.out c _ _ a w h) HSa.out ?_
    try simp only [Act.put, List.setIfInBounds_toArray, List.set_cons_zero, List.set_cons_succ]
    refine tkL 9 rfl (fun c a w h => HPan.out c _ _ a w h) HSa.out ?_
    try simp only [Act.put, List.setIfInBounds_toArray, List.set_cons_zero, List.set_cons_succ]
    refine tkL 10 rfl (fun c a w h => HPan.out c _ _ a w h) HSa.out ?_
    try simp only [Act.put, List.setIfInBounds_toArray, List.set_cons_zero, List.set_cons_succ]
    refine wpAnyH_ready (rs := [11]) (by kernel_rfl) (by simp) (AllReadyH.cons (o := _) rfl (fun K hK => ?_) AllReadyH.nil)
    go_simp
    (go_at_call 26; (with_reducible refine Calls.mono HC.out ?_); rintro e w6 ⟨⟨t6, rfl, ht6⟩, hb6⟩; have HT6 := Lib.hid ht6; have HB6 : Hid (Below w4.heap.size w4 w6) := Lib.hid ((Below.refl _ _).drew.trans hb6); clear ht6 hb6)
    try go_wp2_with fail
    have HSb : Hid ((fun W : World => W.cell? ⟨w.heap.size, 0, none⟩ = some (.int .i64 g.fn) ∧ W.cell? ⟨w.heap.size, 1, none⟩ = some (.int .i64 g.pc) ∧ W.cell? ⟨w.heap.size, 2, none⟩ = some (.int .i64 g.slots) ∧ W.cell? ⟨w.heap.size, 3, none⟩ = some (.slice (some ⟨bm, om, none⟩) g.nodes.length cn) ∧ W.cell? ⟨w.heap.size, 4, none⟩ = some (.slice Ab g.blocks.length cb) ∧ W.cell? ⟨w.heap.size, 5, none⟩ = some (.slice As g.states.length cs) ∧ W.cell? ⟨wq.heap.size, 1, none⟩ = some (.slice A1 y.args.length c1) ∧ W.cell? ⟨wq.heap.size, 4, none⟩ = some (.int .i64 y.state) ∧ W.cell? ⟨bp, op + k * 2, none⟩ = some (.int .i64 (qb : Int)) ∧ W.cell? ⟨bp, op + k * 2 + 1, none⟩ = some (.int .i64 (qi : Int))) w6) := Lib.hid (HKp.out _ HB6.out)
    refine hK.out _ _ HSb.out (fun HSn => ?_)
    clear hK K HSn
    try simp only [Act.put, List.setIfInBounds_toArray, List.set_cons_zero, List.set_cons_succ]
    refine tkL 12 rfl (fun c a w h => HPan.out c _ _ a w h) HSb.out ?_
    try simp only [Act.put, List.setIfInBounds_toArray, List.set_cons_zero, List.set_cons_succ]
    refine wpAnyH_done (by kernel_rfl) ?_ _
    cases t6
    ·go_wp2_with fail
     refine HRet.out _ _ ?_
     go_ret
     exact ⟨8, rfl, fun h => absurd h (by decide), (HM4.out.below HB6.out).low⟩
    ·go_wp2_with fail
     go_roundw
     case rel => exact ⟨k + 1, by omega, by go_num, Lib.hid (HL4.out.trans (HB6.out.mono HL4.out.size)), Lib.hid (fun n y' hn hy' => by
      rcases Nat.lt_or_ge n k with h | h
      ·exact HA.out n y' h hy'
      ·obtain rfl : n = k := by omega
       rw [HY.out] at hy'; injection hy' with hy'; subst hy'
       rw [HQ.out]
       exact ⟨fun _ => HT6.out (by first | trivial | rfl), fun h => absurd h HO.out⟩)⟩
     case measure => simp [intOf]; omega
   ·have HO : Hid (y.op = 2) := Lib.hid (by simpa using ho)
    have hqbl : qb < g.blocks.length := (List.getElem?_eq_some_iff.1 HX.out).1
    obtain ⟨Aq, cq, eq, _, _, hqb⟩ := HM4.out.gr.gr.2.1
    obtain ⟨bb, ob, eq2, hbb, hqb⟩ := hqb (by omega)
    simp only at eq
    injection eq with e1 e2 e3
    rw [eq2] at e1
    subst e1
    obtain ⟨⟨v0, f0, i0⟩, f1, ⟨v2, f2, i2⟩, ⟨v3, f3, i3⟩, ⟨v4, f4, i4⟩, f5⟩ := hqb qb x HX.out
    have HI4 := Lib.hid i4
    obtain ⟨A0, c0, rfl, _⟩ := i0
    obtain ⟨A2, c2, rfl, _⟩ := i2
    obtain ⟨A3, c3, rfl, _⟩ := i3
    obtain ⟨A4, c4, rfl, _⟩ := i4
    clear hqb e2 e3 eq2
    have r4 : w4.cell? ⟨w.heap.size, 4, none⟩ = some (.slice (some ⟨bb, ob, none⟩) g.blocks.length cb) := HM4.out.gr.box.cell 4
    have rl := HM4.out.gr.lt
    have p0 : w4.cell? ⟨bp, op + k * 2, none⟩ = some (.int .i64 (qb : Int)) := (HL4.out.cell (p := ⟨bp, op + k * 2, none⟩) hbp).trans HP0.out
    have hblim : g.blocks.length ≤ 17592186044416 := by omega
    have HKp : Hid (∀ W, Below w4.heap.size w4 W → W.cell? ⟨w.heap.size, 4, none⟩ = some (.slice (some ⟨bb, ob, none⟩) g.blocks.length cb) ∧ W.cell? ⟨bp, op + k * 2, none⟩ = some (.int .i64 (qb : Int)) ∧ W.cell? ⟨bb, ob + qb * 6, none⟩ = some (.slice A0 x.nodes.length c0) ∧ W.cell? ⟨bb, ob + qb * 6 + 1, none⟩ = some (.int .u8 x.fin) ∧ W.cell? ⟨bb, ob + qb * 6 + 2, none⟩ = some (.slice A2 x.args.length c2) ∧ W.cell? ⟨bb, ob + qb * 6 + 3, none⟩ = some (.slice A3 x.next.length c3) ∧ W.cell? ⟨bb, ob + qb * 6 + 4, none⟩ = some (.slice A4 x.ahead.length c4) ∧ W.cell? ⟨bb, ob + qb * 6 + 5, none⟩ = some (.int .i64 x.state)) := Lib.hid (fun W hW => by
     have c := fun (a : Addr) (v : Value) (h : w4.cell? a = some v) => (hW.cell (World.block_lt_of_cell? w4 a h)).trans h
     exact ⟨c _ _ r4, c _ _ p0, c _ _ f0, c _ _ f1, c _ _ f2, c _ _ f3, c _ _ f4, c _ _ f5⟩)
    have HSa : Hid ((fun W : World => W.cell? ⟨w.heap.size, 4, none⟩ = some (.slice (some ⟨bb, ob, none⟩) g.blocks.length cb) ∧ W.cell? ⟨bp, op + k * 2, none⟩ = some (.int .i64 (qb : Int)) ∧ W.cell? ⟨bb, ob + qb * 6, none⟩ = some (.slice A0 x.nodes.length c0) ∧ W.cell? ⟨bb, ob + qb * 6 + 1, none⟩ = some (.int .u8 x.fin) ∧ W.cell? ⟨bb, ob + qb * 6 + 2, none⟩ = some (.slice A2 x.args.length c2) ∧ W.cell? ⟨bb, ob + qb * 6 + 3, none⟩ = some (.slice A3 x.next.length c3) ∧ W.cell? ⟨bb, ob + qb * 6 + 4, none⟩ = some (.slice A4 x.ahead.length c4) ∧ W.cell? ⟨bb, ob + qb * 6 + 5, none⟩ = some (.int .i64 x.state)) w4.drew) := Lib.hid (HKp.out w4.drew (Below.refl _ _).drew)
    go_upto_region 35 with fail
    clear n0 nl r4 rl p0 f0 f1 f2 f3 f4 f5
    refine wp_region_H2 (fun W : World => W.cell? ⟨w.heap.size, 4, none⟩ = some (.slice (some ⟨bb, ob, none⟩) g.blocks.length cb) ∧ W.cell? ⟨bp, op + k * 2, none⟩ = some (.int .i64 (qb : Int)) ∧ W.cell? ⟨bb, ob + qb * 6, none⟩ = some (.slice A0 x.nodes.length c0) ∧ W.cell? ⟨bb, ob + qb * 6 + 1, none⟩ = some (.int .u8 x.fin) ∧ W.cell? ⟨bb, ob + qb * 6 + 2, none⟩ = some (.slice A2 x.args.length c2) ∧ W.cell? ⟨bb, ob + qb * 6 + 3, none⟩ = some (.slice A3 x.next.length c3) ∧ W.cell? ⟨bb, ob + qb * 6 + 4, none⟩ = some (.slice A4 x.ahead.length c4) ∧ W.cell? ⟨bb, ob + qb * 6 + 5, none⟩ = some (.int .i64 x.state)) (by kernel_rfl) HSa.out (fun HSn => ?_)
    clear HSn
    refine tkL 0 rfl (fun c a w h => HPan.out c _ _ a w h) HSa.out ?_
    try simp only [Act.put, List.setIfInBounds_toArray, List.set_cons_zero, List.set_cons_succ]
    refine tkL 1 rfl (fun c a w h => HPan.out c _ _ a w h) HSa.out ?_
    try simp only [Act.put, List.setIfInBounds_toArray, List.set_cons_zero, List.set_cons_succ]
    refine tkL 2 rfl (fun c a w h => HPan.out c _ _ a w h) HSa.out ?_
    try simp only [Act.put, List.setIfInBounds_toArray, List.set_cons_zero, List.set_cons_succ]
    refine tkL 3 rfl (fun c a w h => HPan.out c _ _ a w h) HSa.out ?_
    try simp only [Act.put, List.setIfInBounds_toArray, List.set_cons_zero, List.set_cons_succ]
    refine tkL 4 rfl (fun c a w h => HPan.out c _ _ a w h) HSa.out ?_
    try simp only [Act.put, List.setIfInBounds_toArray, List.set_cons_zero, List.set_cons_succ]
    refine tkL 5 rfl (fun c a w h => HPan.out c _ _ a w h) HSa.out ?_
    try simp only [Act.put, List.setIfInBounds_toArray, List.set_cons_zero, List.set_cons_succ]
    refine tkL 6 rfl (fun c a w h => HPan.out c _ _ a w h) HSa.out ?_
    try simp only [Act.put, List.setIfInBounds_toArray, List.set_cons_zero, List.set_cons_succ]
    refine tkL 7 rfl (fun c a w h => HPan.out c _ _ a w h) HSa.out ?_
    try simp only [Act.put, List.setIfInBounds_toArray, List.set_cons_zero, List.set_cons_succ]
    refine tkL 8 rfl (fun c a w h => HPan.out c _ _ a w h) HSa.out ?_
    try simp only [Act.put, List.setIfInBounds_toArray, List.set_cons_zero, List.set_cons_succ]
    refine wpAnyH_ready (rs := [9]) (by kernel_rfl) (by simp) (AllReadyH.cons (o := _) rfl (fun K hK => ?_) AllReadyH.nil)
    go_simp
    obtain ⟨wz, hwz⟩ : ∃ wz : World, wz = (w4.alloc (.cells #[.slice none 0 0, .int .u8 0, .slice none 0 0, .slice none 0 0, .slice none 0 0, .int .i64 0] 41)).drew := ⟨_, rfl⟩
    have HBz : Hid (Below w4.heap.size w4 wz) := Lib.hid (by rw [hwz]; exact ((Below.refl _ _).alloc (Nat.le_refl _) _).drew)
    have HKz : Hid (Blk wz w4.heap.size 41 #[.slice none 0 0, .int .u8 0, .slice none 0 0, .slice none 0 0, .slice none 0 0, .int .i64 0]) := Lib.hid (by rw [hwz]; exact (Blk.new _ _ _).drew)
    rw [← hwz]
    clear hwz
    have HSz : Hid ((fun W : World => W.cell? ⟨w.heap.size, 4, none⟩ = some (.slice (some ⟨bb, ob, none⟩) g.blocks.length cb) ∧ W.cell? ⟨bp, op + k * 2, none⟩ = some (.int .i64 (qb : Int)) ∧ W.cell? ⟨bb, ob + qb * 6, none⟩ = some (.slice A0 x.nodes.length c0) ∧ W.cell? ⟨bb, ob + qb * 6 + 1, none⟩ = some (.int .u8 x.fin) ∧ W.cell? ⟨bb, ob + qb * 6 + 2, none⟩ = some (.slice A2 x.args.length c2) ∧ W.cell? ⟨bb, ob + qb * 6 + 3, none⟩ = some (.slice A3 x.next.length c3) ∧ W.cell? ⟨bb, ob + qb * 6 + 4, none⟩ = some (.slice A4 x.ahead.length c4) ∧ W.cell? ⟨bb, ob + qb * 6 + 5, none⟩ = some (.int .i64 x.state)) wz) := Lib.hid (HKp.out _ HBz.out)
    refine hK.out _ _ HSz.out (fun HSn => ?_)
    clear hK K HSn
    try simp only [Act.put, List.setIfInBounds_toArray, List.set_cons_zero, List.set_cons_succ]
    have z0 := HKz.out.cell 0
    have z1 := HKz.out.cell 1
    have z2 := HKz.out.cell 2
    have z3 := HKz.out.cell 3
    have z4 := HKz.out.cell 4
    have z5 := HKz.out.cell 5
    have y0 := HKz.out.frozen 0
    have y1 := HKz.out.frozen 1
    have y2 := HKz.out.frozen 2
    have y3 := HKz.out.frozen 3
    have y4 := HKz.out.frozen 4
    have y5 := HKz.out.frozen 5
    have zl := HKz.out.lt
    refine wpAnyH_ready (rs := [10]) (by kernel_rfl) (by simp) (AllReadyH.cons (o := _) rfl (fun K hK => ?_) AllReadyH.nil)
    go_simp
    clear z0 z1 z2 z3 z4 z5 y0 y1 y2 y3 y4 y5 zl
    obtain ⟨w5, hw5⟩ : ∃ w5 : World, w5 = ((((((wz.setCell ⟨w4.heap.size, 0, none⟩ (.slice A0 x.nodes.length c0)).setCell ⟨w4.heap.size, 1, none⟩ (.int .u8 x.fin)).setCell ⟨w4.heap.size, 2, none⟩ (.slice A2 x.args.length c2)).setCell ⟨w4.heap.size, 3, none⟩ (.slice A3 x.next.length c3)).setCell ⟨w4.heap.size, 4, none⟩ (.slice A4 x.ahead.length c4)).setCell ⟨w4.heap.size, 5, none⟩ (.int .i64 x.state)) := ⟨_, rfl⟩
    have HB5 : Hid (Below w4.heap.size w4 w5) := Lib.hid (by
     rw [hw5]
     exact ((((((HBz.out.setCell (p := ⟨w4.heap.size, 0, none⟩) (Nat.le_refl _) _).setCell (p := ⟨w4.heap.size, 1, none⟩) (Nat.le_refl _) _).setCell (p := ⟨w4.heap.size, 2, none⟩) (Nat.le_refl _) _).setCell (p := ⟨w4.heap.size, 3, none⟩) (Nat.le_refl _) _).setCell (p := ⟨w4.heap.size, 4, none⟩) (Nat.le_refl _) _).setCell (p := ⟨w4.heap.size, 5, none⟩) (Nat.le_refl _) _))
    have HK5 : Hid (Blk w5 w4.heap.size 41 #[.slice A0 x.nodes.length c0, .int .u8 x.fin, .slice A2 x.args.length c2, .slice A3 x.next.length c3, .slice A4 x.ahead.length c4, .int .i64 x.state]) := Lib.hid (by
     rw [hw5]
     exact (((((HKz.out.set_ 0 (.slice A0 x.nodes.length c0)).set_ 1 (.int .u8 x.fin)).set_ 2 (.slice A2 x.args.length c2)).set_ 3 (.slice A3 x.next.length c3)).set_ 4 (.slice A4 x.ahead.length c4)).set_ 5 (.int .i64 x.state))
    rw [← hw5]
    clear hw5
    have HS5 : Hid ((fun W : World => W.cell? ⟨w.heap.size, 4, none⟩ = some (.slice (some ⟨bb, ob, none⟩) g.blocks.length cb) ∧ W.cell? ⟨bp, op + k * 2, none⟩ = some (.int .i64 (qb : Int)) ∧ W.cell? ⟨bb, ob + qb * 6, none⟩ = some (.slice A0 x.nodes.length c0) ∧ W.cell? ⟨bb, ob + qb * 6 + 1, none⟩ = some (.int .u8 x.fin) ∧ W.cell? ⟨bb, ob + qb * 6 + 2, none⟩ = some (.slice A2 x.args.length c2) ∧ W.cell? ⟨bb, ob + qb * 6 + 3, none⟩ = some (.slice A3 x.next.length c3) ∧ W.cell? ⟨bb, ob + qb * 6 + 4, none⟩ = some (.slice A4 x.ahead.length c4) ∧ W.cell? ⟨bb, ob + qb * 6 + 5, none⟩ = some (.int .i64 x.state)) w5) := Lib.hid (HKp.out _ HB5.out)
    refine hK.out _ _ HS5.out (fun HSn => ?_)
    clear hK K HSn
    try simp only [Act.put, List.setIfInBounds_toArray, List.set_cons_zero, List.set_cons_succ]
    refine wpAnyH_done (by kernel_rfl) ?_ _
    have HL5 := Lib.hid (HL4.out.trans (HB5.out.mono HL4.out.size))
    have hwq5 : Below wq.heap.size wq w5 := HB4.out.trans (HB5.out.mono HB4.out.size)
    have HPh := HN.out.phi HO.out
    go_upto_region 37 with fail
    refine cphi_any w v p g (some ⟨bm, om, none⟩) (some ⟨bb, ob, none⟩) As cn cb cs w5 P (some ⟨bp, op, none⟩) cp av y x wq.heap.size w4.heap.size A1 c1 A0 c0 (.slice A2 x.args.length c2) (.slice A3 x.next.length c3) A4 c4 hs (HM4.out.below HB5.out) ((PlacesV.keep2 HPl.out (Same.of_below HL5.out)).mono2 HL5.out.size) HOk.out ((RowsV.keep HAv.out (Same.of_below HL5.out)).mono HL5.out.size) (HK4.out.below HB5.out HK4.out.lt) HK5.out ((HI1.out.keep (Same.of_below (hwq5.mono HM.out.low.size))).mono (Nat.le_trans HM.out.low.size hwq5.size)) ((HI4.out.keep (Same.of_below (HB5.out.mono HM4.out.low.size))).mono (Nat.le_trans HM4.out.low.size HB5.out.size)) HN.out.args (HAh.out qb x HX.out).rng HPh.2 _ _ _ _ _ _ _ _ _ _ _ _ _ _ _ _ _ _ _ _ _ _ _ _ _ _ _ _ _ _ _ _ _ _ _ _ _ _ _ _ _ _ _ _ _ _ _ _ _ _ _ _ _ _ _ _ _ _ _ _ _ _ _ _ _ _ _ _ _ _ _ _ _ _ _ _ _ _ _ _ _ _ _ _ _ _ _ _ _ _ _ _ _ _ _ _ _ _ _ _ _ _ _ _ _ _ _ _ _ _ _ _ _ _ _ _ _ _ _ _ _ _ _ _ _ _ _ _ _ _ _ _ _ _ _ _ _ _ _ _ _ _ _ _ _ _ _ _ _ _ _ _ _ _ _ _ _ _ _ _ _ _ _ _ _ _ _ _ _ _ _ _ _ _ _ _ _ _ _ _ _ _ _ _ _ _ _ _ _ _ _ _ _ _ _ _ _ _ _ _ _ _ _ _ _ _ _ _ _ _ _ _ _ _ _ _ _ _ _ _ _ _ _ _ _ _ _ _ _ _ _ _ _ _ _ _ _ _ _ _ _ _ _ _ (fun a W h => HRet.out a W h) (fun c d v a w h => HPan.out c d v a w h) ?_
    intro x4 x19 x184 x185 x186 x187 x188 x189 x190 x191 x192 x193 x194 x195 x196 x197 x198 x199 x200 x201 x202 x203 x204 x205 x206 x207 x208 x209 x210 x211 x212 x213 x214 x215 x216 w6 ⟨hb6, hph6⟩
    have HB6 := Lib.hid hb6; have HPh6 := Lib.hid hph6
    clear hb6 hph6
    dsimp only [Exit.inBlock]
    go_wp2_with fail
    go_roundw
    case rel => exact ⟨k + 1, by omega, by go_num, Lib.hid (HL5.out.trans (HB6.out.mono HL5.out.size)), Lib.hid (fun n y' hn hy' => by
     rcases Nat.lt_or_ge n k with h | h
     ·exact HA.out n y' h hy'
     ·obtain rfl : n = k := by omega
      rw [HY.out] at hy'; injection hy' with hy'; subst hy'
      rw [HQ.out]
      refine ⟨fun h => absurd HO.out h, fun _ x' hx' j a c ha hc => ?_⟩
      simp only at hx'
      rw [HX.out] at hx'; injection hx' with hx'; subst hx'
      exact HPh6.out j a c (List.getElem?_eq_some_iff.1 ha).1 ha hc)⟩
    case measure => simp [intOf]; omega
  ·go_wp2_with fail
   exact HEx.out _ _ _ _ _ _ _ _ _ _ _ _ _ _ _ _ _ _ _ _ _ _ _ _ _ _ _ _ _ _ _ _ _ _ _ _ _ _ _ _ _ _ _ _ _ _ _ _ _ _ _ _ _ _ _ _ _ _ _ _ _ _ _ _ _ _ _ _ _ _ _ _ _ _ _ _ ⟨HB.out, fun n y hy => HA.out n y (by have := (List.getElem?_eq_some_iff.1 hy).1; omega) hy⟩
end Go.Proofs.YtkmfdiboekoioaaGreat
