/- The reference 16's look at a graph: its place, its states. Conditions: a small graph, a program that lie in memory. -/
import Derived.Test.YtkmfdiboekoioaaGreatCRfC16c
import Derived.Test.YtkmfdiboekoioaaGreatCRfGrow
import Derived.BigGuardPart
import Derived.Test.YtkmfdiboekoioaaGreatCRfReach
import Derived.Test.YtkmfdiboekoioaaGreatCRfMost
import Derived.Test.YtkmfdiboekoioaaGreatCDo
import Derived.Test.YtkmfdiboekoioaaGreatCAbvPure
import Derived.Test.YtkmfdiboekoioaaGreatCBeyond
import Derived.Test.YtkmfdiboekoioaaGreatCProgSize
set_option linter.unusedSimpArgs false
set_option linter.unusedVariables false
namespace Go.Proofs.YtkmfdiboekoioaaGreat
open Go.RowKit
noncomputable def c7Region : Code := ((Tryz.f7.body.bind (regOf 7))).getD .skip
set_option maxRecDepth 100000 in
set_option maxHeartbeats 8000000 in
theorem c7_any (w : World) (p : List FnP) (g : GraphP) (An Ab As : Option Addr) (cn cb cs : Nat) (W0 : World) (b off c : Nat) (fn : Nat) (f : FnP) (ds : List Int) (Ad : Option Addr) (cd : Nat) (hs : Small g) (M0 : K16 w (.slice (some ⟨b, off, none⟩) p.length c) p ⟨.slice An g.nodes.length cn, .slice Ab g.blocks.length cb, .slice As g.states.length cs⟩ g W0) (hf : p[fn]? = some f) (hfn : g.fn = (fn : Int)) (hd : IntsV W0 W0.heap.size (.slice Ad ds.length cd) ds)
  (u1 u2 u4 u5 u6 u7 u9 u10 u11 u12 u13 u14 u15 u16 u17 u18 u19 u20 u21 u22 u23 u24 u25 u26 u27 u28 u29 u30 u31 u32 u33 u34 u35 u36 u37 u38 u39 u40 u41 u42 u43 u44 u45 u46 u47 u48 u49 u50 u51 u52 u53 u54 u55 u56 u57 u58 u59 u60 u61 u62 u63 u64 u65 u66 u67 u68 u69 u70 u71 u72 u73 u74 u75 u76 u77 u78 u79 u80 u81 u82 u83 u84 u85 u86 u87 u88 u89 u90 u91 u92 u93 u94 u95 u96 u97 u98 u99 u100 u101 u102 u103 u104 u105 u106 u107 u108 u109 u110 u111 u112 u113 u114 u115 u116 u117 u118 u119 u120 u121 u122 u123 u124 u125 u126 u127 u128 u129 u130 u131 u132 u133 u134 u135 u136 u137 u138 u139 u140 u141 u142 u143 u144 u145 u146 u147 u148 u149 u150 u151 u152 u153 u154 u155 u156 u157 u158 u159 u160 u161 u162 u163 u164 u165 u166 u167 u168 u169 u170 u171 u172 u173 u174 u175 u176 u177 u178 u179 u180 u181 u182 u183 u184 u185 u186 u187 u188 u189 u190 u191 u192 u193 u194 u195 u196 u197 u198 u199 u200 u201 u202 u203 u204 u205 u206 u207 u208 u209 u210 u211 u212 u213 u214 u215 u216 u217 u218 u219 u220 u221 u222 u223 u224 u225 u226 u227 u228 u229 u230 u231 u232 u233 u234 u235 u236 u237 u238 u239 u240 u241 u242 u243 u244 u245 u246 u247 u248 u249 : Value) (Q : Exit → Act → World → Prop)
  (hpan : ∀ c d v a w, Q (.panic c) (Act.put a d v) w → Q (.panic c) a w)
  (hexit : ∀ (x53 x54 x55 x56 x57 x58 x59 x60 x61 x62 x63 x64 x65 x66 x67 x68 x69 x70 x71 x72 x73 x74 x75 x76 x77 x78 x79 x80 x81 x82 x83 x84 x85 x86 x87 x88 x89 x90 x91 x92 x93 : Value) (t : Bool) (W' : World), Below W0.heap.size W0 W' → (t = false → StF g) → Q .normal ⟨#[.slice (some ⟨b, off, none⟩) p.length c, u1, u2, .pointer (some ⟨w.heap.size, 0, none⟩), u4, u5, u6, u7, .slice Ad ds.length cd, u9, u10, u11, u12, u13, u14, u15, u16, u17, u18, u19, u20, u21, u22, u23, u24, u25, u26, u27, u28, u29, u30, u31, u32, u33, u34, u35, u36, u37, u38, u39, u40, u41, u42, u43, u44, u45, u46, u47, u48, u49, u50, u51, u52, x53, x54, x55, x56, x57, x58, x59, x60, x61, x62, x63, x64, x65, x66, x67, x68, x69, x70, x71, x72, x73, x74, x75, x76, x77, x78, x79, x80, x81, x82, x83, x84, x85, x86, x87, x88, x89, x90, x91, x92, x93, .bool t, u95, u96, u97, u98, u99, u100, u101, u102, u103, u104, u105, u106, u107, u108, u109, u110, u111, u112, u113, u114, u115, u116, u117, u118, u119, u120, u121, u122, u123, u124, u125, u126, u127, u128, u129, u130, u131, u132, u133, u134, u135, u136, u137, u138, u139, u140, u141, u142, u143, u144, u145, u146, u147, u148, u149, u150, u151, u152, u153, u154, u155, u156, u157, u158, u159, u160, u161, u162, u163, u164, u165, u166, u167, u168, u169, u170, u171, u172, u173, u174, u175, u176, u177, u178, u179, u180, u181, u182, u183, u184, u185, u186, u187, u188, u189, u190, u191, u192, u193, u194, u195, u196, u197, u198, u199, u200, u201, u202, u203, u204, u205, u206, u207, u208, u209, u210, u211, u212, u213, u214, u215, u216, u217, u218, u219, u220, u221, u222, u223, u224, u225, u226, u227, u228, u229, u230, u231, u232, u233, u234, u235, u236, u237, u238, u239, u240, u241, u242, u243, u244, u245, u246, u247, u248, u249], []⟩ W') :
  Code.wp Tryz.prog c7Region Q ⟨#[.slice (some ⟨b, off, none⟩) p.length c, u1, u2, .pointer (some ⟨w.heap.size, 0, none⟩), u4, u5, u6, u7, .slice Ad ds.length cd, u9, u10, u11, u12, u13, u14, u15, u16, u17, u18, u19, u20, u21, u22, u23, u24, u25, u26, u27, u28, u29, u30, u31, u32, u33, u34, u35, u36, u37, u38, u39, u40, u41, u42, u43, u44, u45, u46, u47, u48, u49, u50, u51, u52, u53, u54, u55, u56, u57, u58, u59, u60, u61, u62, u63, u64, u65, u66, u67, u68, u69, u70, u71, u72, u73, u74, u75, u76, u77, u78, u79, u80, u81, u82, u83, u84, u85, u86, u87, u88, u89, u90, u91, u92, u93, u94, u95, u96, u97, u98, u99, u100, u101, u102, u103, u104, u105, u106, u107, u108, u109, u110, u111, u112, u113, u114, u115, u116, u117, u118, u119, u120, u121, u122, u123, u124, u125, u126, u127, u128, u129, u130, u131, u132, u133, u134, u135, u136, u137, u138, u139, u140, u141, u142, u143, u144, u145, u146, u147, u148, u149, u150, u151, u152, u153, u154, u155, u156, u157, u158, u159, u160, u161, u162, u163, u164, u165, u166, u167, u168, u169, u170, u171, u172, u173, u174, u175, u176, u177, u178, u179, u180, u181, u182, u183, u184, u185, u186, u187, u188, u189, u190, u191, u192, u193, u194, u195, u196, u197, u198, u199, u200, u201, u202, u203, u204, u205, u206, u207, u208, u209, u210, u211, u212, u213, u214, u215, u216, u217, u218, u219, u220, u221, u222, u223, u224, u225, u226, u227, u228, u229, u230, u231, u232, u233, u234, u235, u236, u237, u238, u239, u240, u241, u242, u243, u244, u245, u246, u247, u248, u249], []⟩ W0 := by
 have HM0 := Lib.hid M0; have HEx := Lib.hid hexit; have HPan := Lib.hid hpan; have HF := Lib.hid hf; have HFn := Lib.hid hfn; have HD := Lib.hid hd
 obtain ⟨l1, l2, l3⟩ := hs.lens
 have hfl : fn < p.length := (List.getElem?_eq_some_iff.1 hf).1
 have hpl : p.length ≤ 17592186044416 := by obtain ⟨_, _, _, _, q, _⟩ := M0.pr; unfold lim at q; omega
 have hdl : ds.length ≤ 17592186044416 := by obtain ⟨_, _, _, _, q, _⟩ := hd; unfold lim at q; omega
 obtain ⟨q0, q1, q2, q3, q4, q5⟩ := M0.gr.cells
 have ql := M0.gr.lt
 simp only at q3 q4 q5
 rw [hfn] at q0
 obtain ⟨_, _, _, _, _, _, _, _, _, _, _, _, _, u2, _⟩ := prog_fn M0.pr hf
 clear M0 hexit hpan hf hfn hd
 rcases d1 : decide (g.pc < 0) with _ | _
 rotate_left
 ·conv => arg 2; whnf
  dsimp only
  clear u2
  go_quiet (fail)
  exact HEx.out _ _ _ _ _ _ _ _ _ _ _ _ _ _ _ _ _ _ _ _ _ _ _ _ _ _ _ _ _ _ _ _ _ _ _ _ _ _ _ _ _ true _ (bdrew (Below.refl _ _)) (fun h => by cases h)
 ·obtain ⟨pc, hpc⟩ : ∃ pc : Nat, g.pc = (pc : Int) := ⟨g.pc.toNat, by have := of_decide_eq_false d1; omega⟩
  have HPc := Lib.hid hpc
  rw [hpc] at q1
  have d0 : decide ((pc : Int) < 0) = false := decide_eq_false (by omega)
  clear d1 hpc
  rcases d2 : decide (ds.length ≤ pc) with _ | _
  rotate_left
  ·conv => arg 2; whnf
   dsimp only
   clear u2
   go_quiet (fail)
   exact HEx.out _ _ _ _ _ _ _ _ _ _ _ _ _ _ _ _ _ _ _ _ _ _ _ _ _ _ _ _ _ _ _ _ _ _ _ _ _ _ _ _ _ true _ (bdrew (Below.refl _ _)) (fun h => by cases h)
  ·have hpl2 : pc < ds.length := by have := of_decide_eq_false d2; omega
   obtain ⟨bd, od, eA, hbd, hpd⟩ := HD.out.cells hpl2
   subst eA
   obtain ⟨d, hdd⟩ := rget hpl2
   have c0 := hpd pc d hdd
   clear hpd hdd
   rcases d3 : decide (d < 0) with _ | _
   rotate_left
   ·conv => arg 2; whnf
    dsimp only
    clear u2
    go_quiet (fail)
    exact HEx.out _ _ _ _ _ _ _ _ _ _ _ _ _ _ _ _ _ _ _ _ _ _ _ _ _ _ _ _ _ _ _ _ _ _ _ _ _ _ _ _ _ true _ (bdrew (Below.refl _ _)) (fun h => by cases h)
   ·rcases d4 : (g.slots != IntKind.i64.wrap (f.locals + d)) with _ | _
    rotate_left
    ·conv => arg 2; whnf
     dsimp only
     go_quiet (fail)
     exact HEx.out _ _ _ _ _ _ _ _ _ _ _ _ _ _ _ _ _ _ _ _ _ _ _ _ _ _ _ _ _ _ _ _ _ _ _ _ _ _ _ _ _ true _ (bdrew (Below.refl _ _)) (fun h => by cases h)
    ·have HKp : Hid (∀ W, Below W0.heap.size W0 W → W.cell? ⟨w.heap.size, 0, none⟩ = some (.int .i64 (fn : Int)) ∧ W.cell? ⟨w.heap.size, 1, none⟩ = some (.int .i64 (pc : Int)) ∧ W.cell? ⟨w.heap.size, 2, none⟩ = some (.int .i64 g.slots) ∧ W.cell? ⟨w.heap.size, 3, none⟩ = some (.slice An g.nodes.length cn) ∧ W.cell? ⟨w.heap.size, 4, none⟩ = some (.slice Ab g.blocks.length cb) ∧ W.cell? ⟨w.heap.size, 5, none⟩ = some (.slice As g.states.length cs) ∧ W.cell? ⟨bd, od + pc, none⟩ = some (.int .i64 d) ∧ W.cell? ⟨b, off + fn * 8 + 2, none⟩ = some (.int .i64 f.locals)) := Lib.hid (fun W hW => by
      have c := fun (a : Addr) (v : Value) (h : W0.cell? a = some v) => (hW.cell (World.block_lt_of_cell? W0 a h)).trans h
      exact ⟨c _ _ q0, c _ _ q1, c _ _ q2, c _ _ q3, c _ _ q4, c _ _ q5, c _ _ c0, c _ _ u2⟩)
     have hc := ref16states_any W0.drew (.slice (some ⟨b, off, none⟩) p.length c) (.slice (some ⟨bd, od, none⟩) ds.length cd) p fn f ds ⟨.slice An g.nodes.length cn, .slice Ab g.blocks.length cb, .slice As g.states.length cs⟩ g ((HM0.out.pr.keep (Same.of_below ((Below.refl _ W0).drew.mono HM0.out.low.size))).mono HM0.out.low.size) HF.out (HM0.out.below (Below.refl _ _).drew).gr.graph HFn.out (HD.out.keep (Same.of_below (Below.refl _ W0).drew))
     have ee : gval g ⟨.slice An g.nodes.length cn, .slice Ab g.blocks.length cb, .slice As g.states.length cs⟩ = .agg #[.int .i64 g.fn, .int .i64 g.pc, .int .i64 g.slots, .slice An g.nodes.length cn, .slice Ab g.blocks.length cb, .slice As g.states.length cs] := rfl
     rw [ee, HFn.out, HPc.out] at hc
     have HC := Lib.hid hc
     have HSa : Hid ((fun W : World => W.cell? ⟨w.heap.size, 0, none⟩ = some (.int .i64 (fn : Int)) ∧ W.cell? ⟨w.heap.size, 1, none⟩ = some (.int .i64 (pc : Int)) ∧ W.cell? ⟨w.heap.size, 2, none⟩ = some (.int .i64 g.slots) ∧ W.cell? ⟨w.heap.size, 3, none⟩ = some (.slice An g.nodes.length cn) ∧ W.cell? ⟨w.heap.size, 4, none⟩ = some (.slice Ab g.blocks.length cb) ∧ W.cell? ⟨w.heap.size, 5, none⟩ = some (.slice As g.states.length cs) ∧ W.cell? ⟨bd, od + pc, none⟩ = some (.int .i64 d) ∧ W.cell? ⟨b, off + fn * 8 + 2, none⟩ = some (.int .i64 f.locals)) W0.drew) := Lib.hid (HKp.out _ (Below.refl _ _).drew)
     clear hc ee q0 q1 q2 q3 q4 q5 ql c0 u2
     conv => arg 2; whnf
     dsimp only
     refine wp_region_H2 (fun W : World => W.cell? ⟨w.heap.size, 0, none⟩ = some (.int .i64 (fn : Int)) ∧ W.cell? ⟨w.heap.size, 1, none⟩ = some (.int .i64 (pc : Int)) ∧ W.cell? ⟨w.heap.size, 2, none⟩ = some (.int .i64 g.slots) ∧ W.cell? ⟨w.heap.size, 3, none⟩ = some (.slice An g.nodes.length cn) ∧ W.cell? ⟨w.heap.size, 4, none⟩ = some (.slice Ab g.blocks.length cb) ∧ W.cell? ⟨w.heap.size, 5, none⟩ = some (.slice As g.states.length cs) ∧ W.cell? ⟨bd, od + pc, none⟩ = some (.int .i64 d) ∧ W.cell? ⟨b, off + fn * 8 + 2, none⟩ = some (.int .i64 f.locals)) (by kernel_rfl) HSa.out (fun HSn => ?_)
     clear HSn
     refine tkL 0 rfl (fun c a w h => HPan.out c _ _ a w h) HSa.out ?_
     try simp only [Act.put, List.setIfInBounds_toArray, List.set_cons_zero, List.set_cons_succ]
     refine tkL 1 rfl (fun c a w h => HPan.out c _ _ a w h) HSa.out ?_
     try simp only [Act.put, List.setIfInBounds_toArray, List.set_cons_zero, List.set_cons_succ]
     refine tkL 2 rfl (fun c a w h => HPan.out c _ _ a w h) HSa.out ?_
     try simp only [Act.put, List.setIfInBounds_toArray, List.set_cons_zero, List.set_cons_succ]
     refine tkL 3 rfl (fun c a w h => HPan.out c _ _ a w h) HSa.out ?_
     try simp only [Act.put, List.setIfInBounds_toArray, List.set_cons_zero, List.set_cons_succ]
     refine tkL 4 rfl (fun c a w h => HPan.out c _ _ a w h) HSa.out ?_
     try simp only [Act.put, List.setIfInBounds_toArray, List.set_cons_zero, List.set_cons_succ]
     refine tkL 5 rfl (fun c a w h => HPan.out c _ _ a w h) HSa.out ?_
     try simp only [Act.put, List.setIfInBounds_toArray, List.set_cons_zero, List.set_cons_succ]
     refine tkL 6 rfl (fun c a w h => HPan.out c _ _ a w h) HSa.out ?_
     try simp only [Act.put, List.setIfInBounds_toArray, List.set_cons_zero, List.set_cons_succ]
     refine tkL 7 rfl (fun c a w h => HPan.out c _ _ a w h) HSa.out ?_
     try simp only [Act.put, List.setIfInBounds_toArray, List.set_cons_zero, List.set_cons_succ]
     refine tkL 8 rfl (fun c a w h => HPan.out c _ _ a w h) HSa.out ?_
     try simp only [Act.put, List.setIfInBounds_toArray, List.set_cons_zero, List.set_cons_succ]
     refine tkL 9 rfl (fun c a w h => HPan.out c _ _ a w h) HSa.out ?_
     try simp only [Act.put, List.setIfInBounds_toArray, List.set_cons_zero, List.set_cons_succ]
     refine tkL 10 rfl (fun c a w h => HPan.out c _ _ a w h) HSa.out ?_
     try simp only [Act.put, List.setIfInBounds_toArray, List.set_cons_zero, List.set_cons_succ]
     refine tkL 11 rfl (fun c a w h => HPan.out c _ _ a w h) HSa.out ?_
     try simp only [Act.put, List.setIfInBounds_toArray, List.set_cons_zero, List.set_cons_succ]
     refine tkL 12 rfl (fun c a w h => HPan.out c _ _ a w h) HSa.out ?_
     try simp only [Act.put, List.setIfInBounds_toArray, List.set_cons_zero, List.set_cons_succ]
     refine tkL 13 rfl (fun c a w h => HPan.out c _ _ a w h) HSa.out ?_
     try simp only [Act.put, List.setIfInBounds_toArray, List.set_cons_zero, List.set_cons_succ]
     refine tkL 14 rfl (fun c a w h => HPan.out c _ _ a w h) HSa.out ?_
     try simp only [Act.put, List.setIfInBounds_toArray, List.set_cons_zero, List.set_cons_succ]
     refine tkL 15 rfl (fun c a w h => HPan.out c _ _ a w h) HSa.out ?_
     try simp only [Act.put, List.setIfInBounds_toArray, List.set_cons_zero, List.set_cons_succ]
     refine tkL 16 rfl (fun c a w h => HPan.out c _ _ a w h) HSa.out ?_
     try simp only [Act.put, List.setIfInBounds_toArray, List.set_cons_zero, List.set_cons_succ]
     refine tkL 17 rfl (fun c a w h => HPan.out c _ _ a w h) HSa.out ?_
     try simp only [Act.put, List.setIfInBounds_toArray, List.set_cons_zero, List.set_cons_succ]
     refine tkL 18 rfl (fun c a w h => HPan.out c _ _ a w h) HSa.out ?_
     try simp only [Act.put, List.setIfInBounds_toArray, List.set_cons_zero, List.set_cons_succ]
     refine tkL 19 rfl (fun c a w h => HPan.out c _ _ a w h) HSa.out ?_
     try simp only [Act.put, List.setIfInBounds_toArray, List.set_cons_zero, List.set_cons_succ]
     refine tkL 20 rfl (fun c a w h => HPan.out c _ _ a w h) HSa.out ?_
     try simp only [Act.put, List.setIfInBounds_toArray, List.set_cons_zero, List.set_cons_succ]
     refine tkL 21 rfl (fun c a w h => HPan.out c _ _ a w h) HSa.out ?_
     try simp only [Act.put, List.setIfInBounds_toArray, List.set_cons_zero, List.set_cons_succ]
     refine tkL 22 rfl (fun c a w h => HPan.out c _ _ a w h) HSa.out ?_
     try simp only [Act.put, List.setIfInBounds_toArray, List.set_cons_zero, List.set_cons_succ]
     refine tkL 23 rfl (fun c a w h => HPan.out c _ _ a w h) HSa.out ?_
     try simp only [Act.put, List.setIfInBounds_toArray, List.set_cons_zero, List.set_cons_succ]
     refine tkL 24 rfl (fun c a w h => HPan.out c _ _ a w h) HSa.out ?_
     try simp only [Act.put, List.setIfInBounds_toArray, List.set_cons_zero, List.set_cons_succ]
     refine tkL 25 rfl (fun c a w h => HPan.out c _ _ a w h) HSa.out ?_
     try simp only [Act.put, List.setIfInBounds_toArray, List.set_cons_zero, List.set_cons_succ]
     refine tkL 26 rfl (fun c a w h => HPan.out c _ _ a w h) HSa.out ?_
     try simp only [Act.put, List.setIfInBounds_toArray, List.set_cons_zero, List.set_cons_succ]
     refine tkL 27 rfl (fun c a w h => HPan.out c _ _ a w h) HSa.out ?_
     try simp only [Act.put, List.setIfInBounds_toArray, List.set_cons_zero, List.set_cons_succ]
     refine tkL 28 rfl (fun c a w h => HPan.out c _ _ a w h) HSa.out ?_
     try simp only [Act.put, List.setIfInBounds_toArray, List.set_cons_zero, List.set_cons_succ]
     refine tkL 29 rfl (fun c a w h => HPan.out c _ _ a w h) HSa.out ?_
     try simp only [Act.put, List.setIfInBounds_toArray, List.set_cons_zero, List.set_cons_succ]
     refine tkL 30 rfl (fun c a w h => HPan.out c _ _ a w h) HSa.out ?_
     try simp only [Act.put, List.setIfInBounds_toArray, List.set_cons_zero, List.set_cons_succ]
     refine tkL 31 rfl (fun c a w h => HPan.out c _ _ a w h) HSa.out ?_
     try simp only [Act.put, List.setIfInBounds_toArray, List.set_cons_zero, List.set_cons_succ]
     refine tkL 32 rfl (fun c a w h => HPan.out c _ _ a w h) HSa.out ?_
     try simp only [Act.put, List.setIfInBounds_toArray, List.set_cons_zero, List.set_cons_succ]
     refine tkL 33 rfl (fun c a w h => HPan.out c _ _ a w h) HSa.out ?_
     try simp only [Act.put, List.setIfInBounds_toArray, List.set_cons_zero, List.set_cons_succ]
     refine tkL 34 rfl (fun c a w h => HPan.out c _ _ a w h) HSa.out ?_
     try simp only [Act.put, List.setIfInBounds_toArray, List.set_cons_zero, List.set_cons_succ]
     refine tkL 35 rfl (fun c a w h => HPan.out c _ _ a w h) HSa.out ?_
     try simp only [Act.put, List.setIfInBounds_toArray, List.set_cons_zero, List.set_cons_succ]
     refine tkL 36 rfl (fun c a w h => HPan.out c _ _ a w h) HSa.out ?_
     try simp only [Act.put, List.setIfInBounds_toArray, List.set_cons_zero, List.set_cons_succ]
     refine tkL 37 rfl (fun c a w h => HPan.out c _ _ a w h) HSa.out ?_
     try simp only [Act.put, List.setIfInBounds_toArray, List.set_cons_zero, List.set_cons_succ]
     refine tkL 38 rfl (fun c a w h => HPan.out c _ _ a w h) HSa.out ?_
     try simp only [Act.put, List.setIfInBounds_toArray, List.set_cons_zero, List.set_cons_succ]
     refine wpAnyH_ready (rs := [39]) (by kernel_rfl) (by simp) (AllReadyH_consL (o := _) rfl (fun K hK => ?_) AllReadyH.nil)
     go_simp
     (go_at_call 19; (with_reducible refine Calls.mono HC.out ?_); rintro e w4 ⟨⟨t4, rfl, ht4⟩, hb4⟩; have HT4 := Lib.hid ht4; have HB4 : Hid (Below W0.heap.size W0 w4) := Lib.hid ((Below.refl _ _).drew.trans hb4); clear ht4 hb4)
     try go_wp2_with fail
     have HSb : Hid ((fun W : World => W.cell? ⟨w.heap.size, 0, none⟩ = some (.int .i64 (fn : Int)) ∧ W.cell? ⟨w.heap.size, 1, none⟩ = some (.int .i64 (pc : Int)) ∧ W.cell? ⟨w.heap.size, 2, none⟩ = some (.int .i64 g.slots) ∧ W.cell? ⟨w.heap.size, 3, none⟩ = some (.slice An g.nodes.length cn) ∧ W.cell? ⟨w.heap.size, 4, none⟩ = some (.slice Ab g.blocks.length cb) ∧ W.cell? ⟨w.heap.size, 5, none⟩ = some (.slice As g.states.length cs) ∧ W.cell? ⟨bd, od + pc, none⟩ = some (.int .i64 d) ∧ W.cell? ⟨b, off + fn * 8 + 2, none⟩ = some (.int .i64 f.locals)) w4) := Lib.hid (HKp.out _ HB4.out)
     refine hK.out _ _ HSb.out (fun HSn => ?_)
     clear hK K HSn
     try simp only [Act.put, List.setIfInBounds_toArray, List.set_cons_zero, List.set_cons_succ]
     refine tkL 40 rfl (fun c a w h => HPan.out c _ _ a w h) HSb.out ?_
     try simp only [Act.put, List.setIfInBounds_toArray, List.set_cons_zero, List.set_cons_succ]
     refine tkL 41 rfl (fun c a w h => HPan.out c _ _ a w h) HSb.out ?_
     try simp only [Act.put, List.setIfInBounds_toArray, List.set_cons_zero, List.set_cons_succ]
     refine wpAnyH_done (by kernel_rfl) ?_ _
     exact HEx.out _ _ _ _ _ _ _ _ _ _ _ _ _ _ _ _ _ _ _ _ _ _ _ _ _ _ _ _ _ _ _ _ _ _ _ _ _ _ _ _ _ (!t4) w4 HB4.out (fun h => HT4.out (by simpa using h))
end Go.Proofs.YtkmfdiboekoioaaGreat

/- The reference 16's look at a graph, joined. Conditions: a small graph, a program that lie in memory. -/
namespace Go.Proofs.YtkmfdiboekoioaaGreat
open Go.RowKit
set_option maxRecDepth 100000 in
set_option maxHeartbeats 16000000 in
theorem ref16Check_any (w : World) (v : Value) (p : List FnP) (xv : GVals) (g : GraphP) (hs : Small g) (hp : ProgV w w.heap.size v p) (hg : GraphV w w.heap.size xv g) :
  Calls Tryz.prog 7 #[v, gval g xv] w (Chk16 p g w) := by
 have HP := Lib.hid hp; have HG := Lib.hid hg; have HSm := Lib.hid hs
 obtain ⟨vn, vb, vs⟩ := xv
 obtain ⟨⟨An, cn, en, _⟩, ⟨Ab, cb, eb, _⟩, ⟨As, cs, es, _⟩⟩ := hg
 simp only at en eb es
 subst en eb es
 obtain ⟨A, c, rfl, _, hl, hq⟩ := hp
 have HQ := Lib.hid hq
 have hpl : p.length ≤ 17592186044416 := by unfold lim at hl; omega
 obtain ⟨l1, l2, l3⟩ := hs.lens
 have ee : gval g ⟨.slice An g.nodes.length cn, .slice Ab g.blocks.length cb, .slice As g.states.length cs⟩ = .agg #[.int .i64 g.fn, .int .i64 g.pc, .int .i64 g.slots, .slice An g.nodes.length cn, .slice Ab g.blocks.length cb, .slice As g.states.length cs] := rfl
 have E0 := Lib.hid ee
 rw [E0.out]
 obtain ⟨w1, hw1⟩ : ∃ w1, w1 = w.alloc (.cells #[.int .i64 g.fn, .int .i64 g.pc, .int .i64 g.slots, .slice An g.nodes.length cn, .slice Ab g.blocks.length cb, .slice As g.states.length cs] 28) := ⟨_, rfl⟩
 have HM1 : Hid (K16 w (.slice A p.length c) p ⟨.slice An g.nodes.length cn, .slice Ab g.blocks.length cb, .slice As g.states.length cs⟩ g w1) := Lib.hid (by
  have hb : Below w.heap.size w w1 := by rw [hw1]; exact (Below.refl _ _).alloc (Nat.le_refl _) _
  exact ⟨⟨HG.out.keep (Same.of_below hb), hb.size, by rw [hw1]; exact Blk.new w _ _⟩, HP.out.keep (Same.of_below hb), hb⟩)
 have HCk := Lib.hid (ref09Check_any w1 (.slice A p.length c) p (HM1.out.pr.mono HM1.out.low.size))
 clear hl hq hs ee
 go_enter Tryz.func7, Tryz.ntmps7
 go_upto_region 1 with fail
 rw [← hw1]
 clear hw1
 go_upto_region 2 with (go_at_call 17; (with_reducible refine Calls.mono HCk.out ?_); rintro e w2 ⟨a2, b2, z2, rfl, hz2, hb2⟩; have HZ2 := Lib.hid hz2; have HB2 := Lib.hid hb2; clear hz2 hb2)
 have HM2 := Lib.hid (HM1.out.below HB2.out)
 rcases d2 : (z2 != 0) with _ | _
 rotate_left
 ·go_wp2_with fail
  go_ret
  exact ⟨z2, rfl, fun h => by simp [h] at d2, HM2.out.low⟩
 ·have HAll : Hid (∀ (j : Nat) x, p[j]? = some x → HeadF x ∧ CodeF p.length x) := Lib.hid (HZ2.out (by simpa using d2))
  obtain ⟨q0, q1, q2, q3, q4, q5⟩ := HM2.out.gr.cells
  have ql := HM2.out.gr.lt
  simp only at q3 q4 q5
  rcases d3 : decide (g.fn < 0) with _ | _
  rotate_left
  ·go_wp2_with fail
   go_ret
   exact ⟨8, rfl, fun h => absurd h (by decide), HM2.out.low⟩
  ·obtain ⟨fn, hfn⟩ : ∃ fn : Nat, g.fn = (fn : Int) := ⟨g.fn.toNat, by have := of_decide_eq_false d3; omega⟩
   have HFn := Lib.hid hfn
   rw [hfn] at q0
   have d0 : decide ((fn : Int) < 0) = false := decide_eq_false (by omega)
   clear d3 hfn
   rcases d4 : decide (p.length ≤ fn) with _ | _
   rotate_left
   ·go_wp2_with fail
    go_ret
    exact ⟨8, rfl, fun h => absurd h (by decide), HM2.out.low⟩
   ·have hlt : fn < p.length := by have := of_decide_eq_false d4; omega
    rcases d5 : ((g.blocks.length : Int) == 0) with _ | _
    rotate_left
    ·go_wp2_with fail
     go_ret
     exact ⟨8, rfl, fun h => absurd h (by decide), HM2.out.low⟩
    ·have hpos : 0 < g.blocks.length := by rw [beq_eq_false_iff_ne] at d5; omega
     obtain ⟨f, hf⟩ := rget hlt
     have HF := Lib.hid hf
     have HPos := Lib.hid hpos
     have HMd : Hid (MadeIn p f) := Lib.hid (fun i hi ho => by
      obtain ⟨pc, hpc⟩ := List.getElem?_of_mem hi
      have := ((HAll.out fn f HF.out).2.num pc i hpc).fn ho
      omega)
     obtain ⟨b, off, eA, _, _⟩ := HQ.out (by omega)
     subst eA
     have HDp := Lib.hid (ref09Depths_any w2 (.slice (some ⟨b, off, none⟩) p.length c) p (fn : Int) (HM2.out.pr.mono HM2.out.low.size))
     clear hf hpos HQ
     go_upto_region 7 with (go_at_call 18; (with_reducible refine Calls.mono HDp.out ?_); rintro e w3 ⟨ds, v3, z3, rfl, hd3, hb3⟩; have HD3 := Lib.hid hd3; have HB3 := Lib.hid hb3; obtain ⟨Ad, cd, rfl, _⟩ := hd3; clear hb3)
     have HM3 := Lib.hid (HM2.out.below HB3.out)
     clear q0 q1 q2 q3 q4 q5 ql d0 d2 d4 d5
     refine c7_any w p g An Ab As cn cb cs w3 b off c fn f ds Ad cd HSm.out HM3.out HF.out HFn.out HD3.out _ _ _ _ _ _ _ _ _ _ _ _ _ _ _ _ _ _ _ _ _ _ _ _ _ _ _ _ _ _ _ _ _ _ _ _ _ _ _ _ _ _ _ _ _ _ _ _ _ _ _ _ _ _ _ _ _ _ _ _ _ _ _ _ _ _ _ _ _ _ _ _ _ _ _ _ _ _ _ _ _ _ _ _ _ _ _ _ _ _ _ _ _ _ _ _ _ _ _ _ _ _ _ _ _ _ _ _ _ _ _ _ _ _ _ _ _ _ _ _ _ _ _ _ _ _ _ _ _ _ _ _ _ _ _ _ _ _ _ _ _ _ _ _ _ _ _ _ _ _ _ _ _ _ _ _ _ _ _ _ _ _ _ _ _ _ _ _ _ _ _ _ _ _ _ _ _ _ _ _ _ _ _ _ _ _ _ _ _ _ _ _ _ _ _ _ _ _ _ _ _ _ _ _ _ _ _ _ _ _ _ _ _ _ _ _ _ _ _ _ _ _ _ _ _ _ _ _ _ _ _ _ _ _ _ _ _ _ _ _ _ _ _ _ _ _ _ _ (fun c d v a w h => by cases d <;> exact h) ?_
     intro x53 x54 x55 x56 x57 x58 x59 x60 x61 x62 x63 x64 x65 x66 x67 x68 x69 x70 x71 x72 x73 x74 x75 x76 x77 x78 x79 x80 x81 x82 x83 x84 x85 x86 x87 x88 x89 x90 x91 x92 x93 t4 w4 hb4 hst4
     have HB4 := Lib.hid hb4; have HSt := Lib.hid hst4
     clear hb4 hst4
     have HM4 := Lib.hid (HM3.out.below HB4.out)
     cases t4
     rotate_left
     ·go_wp2_with fail
      go_ret
      exact ⟨8, rfl, fun h => absurd h (by decide), HM4.out.low⟩
     ·have HStF := Lib.hid (HSt.out rfl)
      obtain ⟨q0, q1, q2, q3, q4, q5⟩ := HM4.out.gr.cells
      have ql := HM4.out.gr.lt
      simp only at q3 q4 q5
      have hc := places16_any w4 ⟨.slice An g.nodes.length cn, .slice Ab g.blocks.length cb, .slice As g.states.length cs⟩ g HSm.out (HM4.out.gr.gr.mono HM4.out.low.size)
      rw [E0.out] at hc
      have HC := Lib.hid hc
      clear hc
      go_upto_region 10 with (go_at_call 20; (with_reducible refine Calls.mono HC.out ?_); rintro e w5 ⟨t5, v5, rfl, ht5, hb5⟩; have HT5 := Lib.hid ht5; have HB5 := Lib.hid hb5; clear ht5 hb5)
      have HM5 := Lib.hid (HM4.out.below HB5.out)
      clear q0 q1 q2 q3 q4 q5 ql HC
      obtain ⟨q0, q1, q2, q3, q4, q5⟩ := HM5.out.gr.cells
      have ql := HM5.out.gr.lt
      simp only at q3 q4 q5
      cases t5
      ·go_wp2_with fail
       go_ret
       exact ⟨8, rfl, fun h => absurd h (by decide), HM5.out.low⟩
      ·obtain ⟨P, hP, hok⟩ := HT5.out rfl
       have HPl0 := Lib.hid hP; have HOk := Lib.hid hok
       obtain ⟨Ap, cp, rfl, _⟩ := hP
       have HPl : Hid (PlacesV w5 w5.heap.size (.slice Ap g.nodes.length cp) P) := Lib.hid (by have := HPl0.out; rw [HOk.out.len] at this; exact this)
       have hel := hok.len
       rw [hel]
       clear HPl0 hok hel HT5
       have hc := ref16slots_any w5 ⟨.slice An g.nodes.length cn, .slice Ab g.blocks.length cb, .slice As g.states.length cs⟩ g HSm.out (HM5.out.gr.gr.mono HM5.out.low.size)
       rw [E0.out] at hc
       have HC := Lib.hid hc
       clear hc
       go_upto_region 13 with (go_at_call 21; (with_reducible refine Calls.mono HC.out ?_); rintro e w6 ⟨t6, rfl, hb6⟩; have HB6 := Lib.hid hb6; clear hb6; cases t6)
       ·go_ret
        exact ⟨8, rfl, fun h => absurd h (by decide), (HM5.out.below HB6.out).low⟩
       ·have HM6 := Lib.hid (HM5.out.below HB6.out)
        clear q0 q1 q2 q3 q4 q5 ql HC
        refine cends_any w (.slice (some ⟨b, off, none⟩) p.length c) p g An Ab As cn cb cs w6 HSm.out HM6.out _ _ _ _ _ _ _ _ _ _ _ _ _ _ _ _ _ _ _ _ _ _ _ _ _ _ _ _ _ _ _ _ _ _ _ _ _ _ _ _ _ _ _ _ _ _ _ _ _ _ _ _ _ _ _ _ _ _ _ _ _ _ _ _ _ _ _ _ _ _ _ _ _ _ _ _ _ _ _ _ _ _ _ _ _ _ _ _ _ _ _ _ _ _ _ _ _ _ _ _ _ _ _ _ _ _ _ _ _ _ _ _ _ _ _ _ _ _ _ _ _ _ _ _ _ _ _ _ _ _ _ _ _ _ _ _ _ _ _ _ _ _ _ _ _ _ _ _ _ _ _ _ _ _ _ _ _ _ _ _ _ _ _ _ _ _ _ _ _ _ _ _ _ _ _ _ _ _ _ _ _ _ _ _ _ _ _ _ _ _ _ _ _ _ _ _ _ _ _ _ _ _ _ _ _ _ _ _ _ _ _ _ _ _ _ _ _ _ _ _ _ _ _ _ _ _ _ _ _ _ _ _ _ _ _ _ _ _ _ _ _ _ _ _ _ _ _ _ (fun a W h => h) ?_
        intro x4 x12 x107 x108 x109 x110 x111 x112 x113 x114 x115 x116 x117 w7 ⟨hb7, hed⟩
        have Hb7 := Lib.hid hb7; have Hed := Lib.hid hed
        clear hb7 hed
        dsimp only [Exit.inBlock]
        have HM7 := Lib.hid (HM6.out.below Hb7.out)
        go_upto_region 18 with fail
        refine caheads_any w (.slice (some ⟨b, off, none⟩) p.length c) p g An Ab As cn cb cs w7 HSm.out HM7.out _ _ _ _ _ _ _ _ _ _ _ _ _ _ _ _ _ _ _ _ _ _ _ _ _ _ _ _ _ _ _ _ _ _ _ _ _ _ _ _ _ _ _ _ _ _ _ _ _ _ _ _ _ _ _ _ _ _ _ _ _ _ _ _ _ _ _ _ _ _ _ _ _ _ _ _ _ _ _ _ _ _ _ _ _ _ _ _ _ _ _ _ _ _ _ _ _ _ _ _ _ _ _ _ _ _ _ _ _ _ _ _ _ _ _ _ _ _ _ _ _ _ _ _ _ _ _ _ _ _ _ _ _ _ _ _ _ _ _ _ _ _ _ _ _ _ _ _ _ _ _ _ _ _ _ _ _ _ _ _ _ _ _ _ _ _ _ _ _ _ _ _ _ _ _ _ _ _ _ _ _ _ _ _ _ _ _ _ _ _ _ _ _ _ _ _ _ _ _ _ _ _ _ _ _ _ _ _ _ _ _ _ _ _ _ _ _ _ _ _ _ _ _ _ _ _ _ _ _ _ _ _ _ _ _ _ _ _ _ _ _ _ _ _ _ _ _ _ (fun a W h => h) ?_
        intro x4 x13 x118 x119 x120 x121 x122 x123 x124 x125 x126 x127 x128 w8 ⟨hb8, hah⟩
        have Hb8 := Lib.hid hb8; have Hah := Lib.hid hah
        clear hb8 hah
        dsimp only [Exit.inBlock]
        have HM8 := Lib.hid (HM7.out.below Hb8.out)
        obtain ⟨q0, q1, q2, q3, q4, q5⟩ := HM8.out.gr.cells
        have ql := HM8.out.gr.lt
        simp only at q3 q4 q5
        have hc := above16_any w8 g ⟨.slice An g.nodes.length cn, .slice Ab g.blocks.length cb, .slice As g.states.length cs⟩ HSm.out (HM8.out.gr.gr.mono HM8.out.low.size)
        rw [E0.out] at hc
        have HC := Lib.hid hc
        clear hc
        go_upto_region 24 with (go_at_call 24; (with_reducible refine Calls.mono HC.out ?_); rintro e w9 ⟨av, rfl, hav, hb9⟩; have HAv9 := Lib.hid hav; have HB9 := Lib.hid hb9; clear hav hb9)
        clear q0 q1 q2 q3 q4 q5 ql HC
        have HM9 := Lib.hid (HM8.out.below HB9.out)
        have HPl9 : Hid (PlacesV w9 w9.heap.size (.slice Ap g.nodes.length cp) P) := Lib.hid (by
         have s6 := HB6.out.size; have s7 := Hb7.out.size; have s8 := Hb8.out.size; have s9 := HB9.out.size
         have hbb : Below w5.heap.size w5 w9 := ((HB6.out.trans (Hb7.out.mono s6)).trans (Hb8.out.mono (by omega))).trans (HB9.out.mono (by omega))
         exact (HPl.out.keep2 (Same.of_below hbb)).mono2 hbb.size)
        refine cnodes_any w (.slice (some ⟨b, off, none⟩) p.length c) p g An Ab As cn cb cs w9 fn f P Ap cp av HSm.out HM9.out HF.out HMd.out HFn.out HPl9.out HOk.out _ _ _ _ _ _ _ _ _ _ _ _ _ _ _ _ _ _ _ _ _ _ _ _ _ _ _ _ _ _ _ _ _ _ _ _ _ _ _ _ _ _ _ _ _ _ _ _ _ _ _ _ _ _ _ _ _ _ _ _ _ _ _ _ _ _ _ _ _ _ _ _ _ _ _ _ _ _ _ _ _ _ _ _ _ _ _ _ _ _ _ _ _ _ _ _ _ _ _ _ _ _ _ _ _ _ _ _ _ _ _ _ _ _ _ _ _ _ _ _ _ _ _ _ _ _ _ _ _ _ _ _ _ _ _ _ _ _ _ _ _ _ _ _ _ _ _ _ _ _ _ _ _ _ _ _ _ _ _ _ _ _ _ _ _ _ _ _ _ _ _ _ _ _ _ _ _ _ _ _ _ _ _ _ _ _ _ _ _ _ _ _ _ _ _ _ _ _ _ _ _ _ _ _ _ _ _ _ _ _ _ _ _ _ _ _ _ _ _ _ _ _ _ _ _ _ _ _ _ _ _ _ _ _ _ _ _ _ _ _ _ _ _ _ _ _ (fun a W h => h) (fun c d v a w h => by cases d <;> exact h) ?_
        intro x4 x15 x131 x132 x133 x134 x135 x136 x137 x138 x139 x140 x141 x142 x143 x144 x145 x146 w10 ⟨hb10, hnd⟩
        have Hb10 := Lib.hid hb10; have Hnd := Lib.hid hnd
        clear hb10 hnd
        dsimp only [Exit.inBlock]
        have HM10 := Lib.hid (HM9.out.below Hb10.out)
        have HPl10 : Hid (PlacesV w10 w10.heap.size (.slice Ap g.nodes.length cp) P) := Lib.hid ((HPl9.out.keep2 (Same.of_below Hb10.out)).mono2 Hb10.out.size)
        have HAv10 : Hid (RowsV w10 w10.heap.size av (above_ g)) := Lib.hid ((RowsV.keep HAv9.out (Same.of_below Hb10.out)).mono Hb10.out.size)
        go_upto_region 29 with fail
        refine cuse_any w (.slice (some ⟨b, off, none⟩) p.length c) p g An Ab As cn cb cs w10 P Ap cp av HSm.out HM10.out HPl10.out HOk.out HAv10.out HStF.out Hah.out Hnd.out _ _ _ _ _ _ _ _ _ _ _ _ _ _ _ _ _ _ _ _ _ _ _ _ _ _ _ _ _ _ _ _ _ _ _ _ _ _ _ _ _ _ _ _ _ _ _ _ _ _ _ _ _ _ _ _ _ _ _ _ _ _ _ _ _ _ _ _ _ _ _ _ _ _ _ _ _ _ _ _ _ _ _ _ _ _ _ _ _ _ _ _ _ _ _ _ _ _ _ _ _ _ _ _ _ _ _ _ _ _ _ _ _ _ _ _ _ _ _ _ _ _ _ _ _ _ _ _ _ _ _ _ _ _ _ _ _ _ _ _ _ _ _ _ _ _ _ _ _ _ _ _ _ _ _ _ _ _ _ _ _ _ _ _ _ _ _ _ _ _ _ _ _ _ _ _ _ _ _ _ _ _ _ _ _ _ _ _ _ _ _ _ _ _ _ _ _ _ _ _ _ _ _ _ _ _ _ _ _ _ _ _ _ _ _ _ _ _ _ _ _ _ _ _ _ _ _ _ _ _ _ _ _ _ _ _ _ _ _ _ _ _ _ _ _ _ (fun a W h => h) (fun c d v a w h => by cases d <;> exact h) ?_
        intro x4 x16 x17 x18 x19 x147 x148 x149 x150 x151 x152 x153 x154 x155 x156 x157 x158 x159 x160 x161 x162 x163 x164 x165 x166 x167 x168 x169 x170 x171 x172 x173 x174 x175 x176 x177 x178 x179 x180 x181 x182 x183 x184 x185 x186 x187 x188 x189 x190 x191 x192 x193 x194 x195 x196 x197 x198 x199 x200 x201 x202 x203 x204 x205 x206 x207 x208 x209 x210 x211 x212 x213 x214 x215 x216 w11 ⟨hb11, hus⟩
        have Hb11 := Lib.hid hb11; have Hus := Lib.hid hus
        clear hb11 hus
        dsimp only [Exit.inBlock]
        have HM11 := Lib.hid (HM10.out.below Hb11.out)
        have HPl11 : Hid (PlacesV w11 w11.heap.size (.slice Ap g.nodes.length cp) P) := Lib.hid ((HPl10.out.keep2 (Same.of_below Hb11.out)).mono2 Hb11.out.size)
        have HAv11 : Hid (RowsV w11 w11.heap.size av (above_ g)) := Lib.hid ((RowsV.keep HAv10.out (Same.of_below Hb11.out)).mono Hb11.out.size)
        go_upto_region 42 with fail
        refine cfins_any w (.slice (some ⟨b, off, none⟩) p.length c) p g An Ab As cn cb cs w11 P Ap cp av HSm.out HM11.out HPl11.out HOk.out HAv11.out HStF.out Hed.out _ _ _ _ _ _ _ _ _ _ _ _ _ _ _ _ _ _ _ _ _ _ _ _ _ _ _ _ _ _ _ _ _ _ _ _ _ _ _ _ _ _ _ _ _ _ _ _ _ _ _ _ _ _ _ _ _ _ _ _ _ _ _ _ _ _ _ _ _ _ _ _ _ _ _ _ _ _ _ _ _ _ _ _ _ _ _ _ _ _ _ _ _ _ _ _ _ _ _ _ _ _ _ _ _ _ _ _ _ _ _ _ _ _ _ _ _ _ _ _ _ _ _ _ _ _ _ _ _ _ _ _ _ _ _ _ _ _ _ _ _ _ _ _ _ _ _ _ _ _ _ _ _ _ _ _ _ _ _ _ _ _ _ _ _ _ _ _ _ _ _ _ _ _ _ _ _ _ _ _ _ _ _ _ _ _ _ _ _ _ _ _ _ _ _ _ _ _ _ _ _ _ _ _ _ _ _ _ _ _ _ _ _ _ _ _ _ _ _ _ _ _ _ _ _ _ _ _ _ _ _ _ _ _ _ _ _ _ _ _ _ _ _ _ _ _ (fun a W h => h) (fun c d v a w h => by cases d <;> exact h) ?_
        intro x4 x20 x217 x218 x219 x220 x221 x222 x223 x224 x225 x226 x227 x228 x229 x230 x231 x232 x233 x234 x235 x236 x237 x238 x239 x240 x241 x242 x243 x244 x245 x246 x247 x248 x249 w12 ⟨hb12, hfi⟩
        have Hb12 := Lib.hid hb12; have Hfi := Lib.hid hfi
        clear hb12 hfi
        dsimp only [Exit.inBlock]
        go_wp2_with fail
        go_ret
        exact ⟨0, rfl, fun _ => ⟨P, HPos.out, HStF.out, HOk.out, Hed.out, Hah.out, Hnd.out, fun n y hy ho => (Hus.out n y hy).1 ho, fun n y hy ho => (Hus.out n y hy).2 ho, Hfi.out⟩, (HM11.out.below Hb12.out).low⟩
end Go.Proofs.YtkmfdiboekoioaaGreat

/- A graph that the reference 16 lets pass: what is known of it, in plain. What is live is one. No condition. -/
namespace Go.Proofs.YtkmfdiboekoioaaGreat
open Go.RowKit
def placeOf (P : List (Nat × Nat)) (k : Nat) : Nat × Nat := P.getD k (0, 0)
theorem above_at (g : GraphP) {b : Nat} (hb : b < g.blocks.length) : (above_ g).getD b [] = aboveTo g b g.blocks.length := by
 unfold above_
 rw [List.getD_eq_getElem?_getD, List.getElem?_map]
 simp [hb]
theorem stands_of {g : GraphP} {P : List (Nat × Nat)} (hok : PlOk2 g P) {b i : Nat} {a : Int} (hb : b < g.blocks.length) (h0 : 0 ≤ a) (hl : a < (P.length : Int)) (h : standsB P (above_ g) a.toNat b i = true) : standsP g (placeOf P) a b i := by
 refine ⟨h0, by rw [hok.len] at hl; exact hl, ?_⟩
 unfold standsB at h
 unfold placeOf
 by_cases e : (P.getD a.toNat (0, 0)).1 = b
 ·rw [if_pos e] at h
  exact .inl ⟨e, of_decide_eq_true h⟩
 ·rw [if_neg e, above_at g hb] at h
  obtain ⟨c, _, hc, hab⟩ := mem_aboveTo.1 (of_decide_eq_true h)
  have : (P.getD a.toNat (0, 0)).1 = c := by omega
  exact .inr ⟨e, by rw [this]; exact hab⟩
theorem lt_of_some {α : Type} {l : List α} {k : Nat} {x : α} (h : l[k]? = some x) : k < l.length := (List.getElem?_eq_some_iff.1 h).1
theorem gok_of {g : GraphP} {P : List (Nat × Nat)} (h : Ok16 g P) : GOk g (placeOf P) := by
 refine ⟨h.pos, h.pl.pl, fun b x hx n hn => (h.ends b x hx).next n hn, fun n y hy ho x hx i a c ha hc => ?_, fun n y hy ho => ?_, fun b x hx => ?_⟩
 ·obtain ⟨z, hz, hst⟩ := h.phi n y hy ho x hx i a c ha hc
  obtain ⟨_, _, hnd⟩ := h.nds n y hy
  have har := hnd.args a (List.mem_of_getElem? ha)
  have hcr := (h.ahs _ x hx).rng c (List.mem_of_getElem? hc)
  exact ⟨z, hz, hcr.1, stands_of h.pl (lt_of_some hz) har.1 (by rw [h.pl.len]; exact har.2) hst⟩
 ·obtain ⟨x, hx, hnd⟩ := h.nds n y hy
  obtain ⟨h1, h2⟩ := h.use n y hy ho
  have hb : (placeOf P n).1 < g.blocks.length := lt_of_some hx
  exact ⟨fun a ha => stands_of h.pl hb (hnd.args a ha).1 (h1 a ha (hnd.args a ha).1).1 (h1 a ha (hnd.args a ha).1).2, fun s hs h0 => stands_of h.pl hb h0 (h2 s hs h0).1 (h2 s hs h0).2⟩
 ·obtain ⟨h1, h2⟩ := h.fin b x hx
  have hb := lt_of_some hx
  exact ⟨fun a ha => stands_of h.pl hb ((h.ends b x hx).args a ha).1 (h1 a ha ((h.ends b x hx).args a ha).1).1 (h1 a ha ((h.ends b x hx).args a ha).1).2, fun s hs h0 => stands_of h.pl hb h0 (h2 s hs h0).1 (h2 s hs h0).2⟩
theorem reach_of16 {g : GraphP} {P : List (Nat × Nat)} (h : Ok16 g P) : AllReach g := by
 refine allReach_of h.pos fun n h0 hn => ?_
 obtain ⟨x, hx⟩ := getE hn
 obtain ⟨m, y, hm, hy, hmem⟩ := (h.ahs n x hx).pred h0
 exact ⟨m, hm, by unfold nextOf; rw [blockAt_nat, hy]; exact hmem⟩
theorem phis_of16 {g : GraphP} {P : List (Nat × Nat)} (h : Ok16 g P) : PhiFirst g (placeOf P) := by
 intro k y hy ho x hx j m z hj hm hz
 obtain ⟨x', hx', hnd⟩ := h.nds k y hy
 have e : g.blocks[(P.getD k (0, 0)).1]? = some x := hx
 rw [e] at hx'; injection hx' with hx'; subst hx'
 exact hnd.first ho j m z hj hm hz
theorem bad_no {lo : Int} {N : Nat} {l : List Int} (h : ∀ x ∈ l, lo ≤ x ∧ x < (N : Int)) : bad lo N l = false := by
 rw [← Bool.not_eq_true, bad_iff]
 rintro ⟨x, hx, hn⟩
 exact hn (h x hx)
theorem sound_of16 {g : GraphP} {P : List (Nat × Nat)} (h : Ok16 g P) : soundB g = true := by
 unfold soundB
 simp only [Bool.and_eq_true, List.all_eq_true]
 refine ⟨⟨fun y hy => ?_, fun x hx => ?_⟩, fun s hs => ?_⟩
 ·obtain ⟨n, hn⟩ := List.getElem?_of_mem hy
  obtain ⟨_, _, hnd⟩ := h.nds n y hn
  unfold nodeOk
  rw [bad_no hnd.args, (off_iff _ _ _).2 hnd.state]; rfl
 ·obtain ⟨b, hb⟩ := List.getElem?_of_mem hx
  have he := h.ends b x hb
  unfold blockOk
  rw [bad_no (N := g.nodes.length) (l := x.nodes) (fun n hn => by
    obtain ⟨i, hi⟩ := List.getElem?_of_mem hn
    obtain ⟨k, rfl, hk, _⟩ := h.pl.pl.put b x i n hb hi
    omega), bad_no he.args, bad_no (lo := 0) (l := x.next) (fun n hn => by have := he.next n hn; omega), bad_no (h.ahs b x hb).rng, (off_iff _ _ _).2 he.state]; rfl
 ·unfold stateOk
  rw [bad_no (h.st s hs)]; rfl
theorem live_one {g : GraphP} {I O J Q : Sets} (h : LiveIs g I O) (h' : LiveIs g J Q) : (∀ b, I.at_ b = J.at_ b) ∧ ∀ b, O.at_ b = Q.at_ b := by
 have key : ∀ {I O J Q : Sets}, LiveIs g I O → LiveIs g J Q → I.le J ∧ O.le Q := fun {I O J Q} h h' => h.least J Q fun b x hx => by
  refine ⟨?_, ?_⟩
  ·rw [Sets.at_some (h'.isO b x hx)]; exact ISet.le_refl _
  ·rw [Sets.at_some (h'.isI b x hx)]; exact ISet.le_refl _
 obtain ⟨a1, a2⟩ := key h h'
 obtain ⟨b1, b2⟩ := key h' h
 exact ⟨fun b => ISet.le_antisymm (a1 b) (b1 b), fun b => ISet.le_antisymm (a2 b) (b2 b)⟩
theorem most_one {g : GraphP} {I O J Q : Sets} (h : LiveIs g I O) (h' : LiveIs g J Q) : mostOf g I O = mostOf g J Q := by
 obtain ⟨e1, e2⟩ := live_one h h'
 have e3 : ∀ b, lensOf g I O b = lensOf g J Q b := fun b => by
  unfold lensOf
  cases g.blocks[b]? with
  | none => rfl
  | some x => simp only [blockSpots, rEnd, rAt, rFirst, e1, e2]
 unfold mostOf spotLens
 rw [show lensOf g I O = lensOf g J Q from funext e3]
/-- THE LAW: the registers are as many as the most that are together. -/
theorem few_of16 {g : GraphP} {P : List (Nat × Nat)} (h : Ok16 g P) {I O J Q : Sets} (hl : LiveIs g I O) (hl' : LiveIs g J Q) {rs : List Int} (ht : GTo (meetAll g I O) g.nodes.length (orderOf g) rs) : regsOf rs = (mostOf g J Q : Int) := by
 rw [few_regs (gok_of h) hl (reach_of16 h) (phis_of16 h) (orderOf_in (sound_of16 h)) ht, most_one hl hl']
end Go.Proofs.YtkmfdiboekoioaaGreat

/- The walk of AllocFew: it answers true. Conditions: a program and a graph that lie in memory. -/
namespace Go.Proofs.YtkmfdiboekoioaaGreat
open Go.RowKit
/-- The memory of AllocFew behind Do. -/
structure FewM (w : World) (xv : GVals) (g : GraphP) (br : Nat) (rs : List Int) (W : World) : Prop where
 gc : GCtx W w.heap.size w.heap.size xv g
 rg : Blk W br 3 (doCells rs)
 low : Below w.heap.size w W
section
variable {w : World} {xv : GVals} {g : GraphP} {br : Nat} {rs : List Int} {W W' : World}
theorem FewM.below (h : FewM w xv g br rs W) (hb : Below W.heap.size W W') : FewM w xv g br rs W' := ⟨h.gc.below hb, h.rg.below hb h.rg.lt, h.low.trans (hb.mono h.low.size)⟩
theorem FewM.drew (h : FewM w xv g br rs W) {n : Nat} : FewM w xv g br rs (W.drewN n) := h.below (bdrew (Below.refl _ _))
theorem FewM.cell (h : FewM w xv g br rs W) {k : Nat} {r : Int} (hk : rs[k]? = some r) : W.cell? ⟨br, k, none⟩ = some (.int .i64 r) := by
 rw [h.rg.cell]; simp [doCells, hk]
end
theorem two_b (b : Bool) : b = true ∨ b = false := by cases b <;> simp
theorem regs_step {rs : List Int} {k : Nat} {r : Int} (h : rs[k]? = some r) : regsOf (rs.take (k + 1)) = max (regsOf (rs.take k)) (r + 1) := by
 unfold regsOf
 rw [List.take_add_one, h, List.foldl_append]; rfl
theorem do_ok {g : GraphP} {w w' : World} {e : Ending} (hs : soundB g = true) (h : DoIs g w e w') : ∃ (br : Nat) (rs : List Int) (I O : Sets), e = .returned (.tuple #[.slice (some ⟨br, 0, none⟩) g.nodes.length g.nodes.length, .int .i64 0]) ∧ LiveIs g I O ∧ GTo (meetAll g I O) g.nodes.length (orderOf g) rs ∧ Blk w' br 3 (doCells rs) ∧ Below w.heap.size w w' := by
 rcases h with ⟨h, _⟩ | ⟨_, h⟩
 ·rw [hs] at h; cases h
 ·exact h
set_option maxRecDepth 100000 in
set_option maxHeartbeats 8000000 in
theorem allocFew_any (w : World) (pv : Value) (p : List FnP) (xv : GVals) (g : GraphP) (hp : ProgV w w.heap.size pv p) (hg : GraphV w w.heap.size xv g) :
  Calls Tryz.prog 3 #[pv, gval g xv] w (LivesIs w) := by
 have HP := Lib.hid hp; have HG := Lib.hid hg
 obtain ⟨vn, vb, vs⟩ := xv
 obtain ⟨⟨An, cn, en, _⟩, ⟨Ab, cb, eb, _⟩, ⟨As, cs, es, _⟩⟩ := hg
 simp only at en eb es
 subst en eb es
 have ee : gval g ⟨.slice An g.nodes.length cn, .slice Ab g.blocks.length cb, .slice As g.states.length cs⟩ = .agg #[.int .i64 g.fn, .int .i64 g.pc, .int .i64 g.slots, .slice An g.nodes.length cn, .slice Ab g.blocks.length cb, .slice As g.states.length cs] := rfl
 have E0 := Lib.hid ee
 rw [E0.out]
 obtain ⟨w1, hw1⟩ : ∃ w1, w1 = w.alloc (.cells #[.int .i64 g.fn, .int .i64 g.pc, .int .i64 g.slots, .slice An g.nodes.length cn, .slice Ab g.blocks.length cb, .slice As g.states.length cs] 28) := ⟨_, rfl⟩
 have HB1 : Hid (Below w.heap.size w w1) := Lib.hid (by rw [hw1]; exact (Below.refl _ _).alloc (Nat.le_refl _) _)
 have HC1 : Hid (GCtx w1 w.heap.size w.heap.size ⟨.slice An g.nodes.length cn, .slice Ab g.blocks.length cb, .slice As g.states.length cs⟩ g) := Lib.hid ⟨HG.out.keep (Same.of_below HB1.out), HB1.out.size, by rw [hw1]; exact Blk.new w _ _⟩
 clear hp ee
 go_enter Tryz.func3, Tryz.ntmps3
 go_upto_region 1 with fail
 rw [← hw1]
 clear hw1
 obtain ⟨q0, q1, q2, q3, q4, q5⟩ := HC1.out.cells
 have ql := HC1.out.lt
 simp only at q3 q4 q5
 have HBy : Hid (Calls Tryz.prog 5 #[.agg #[.int .i64 g.fn, .int .i64 g.pc, .int .i64 g.slots, .slice An g.nodes.length cn, .slice Ab g.blocks.length cb, .slice As g.states.length cs]] w1 (BeyondIs g w1)) := Lib.hid (beyond_any ⟨.slice An g.nodes.length cn, .slice Ab g.blocks.length cb, .slice As g.states.length cs⟩ g w1 HC1.out.graph)
 have HPs : Hid (∀ W, Below w.heap.size w W → Calls Tryz.prog 6 #[pv] W (SomeInt W)) := Lib.hid (fun W hb => programSize_any pv p W (HP.out.later hb (Nat.le_refl _)))
 have HCh : Hid (Small g → ∀ W, Below w.heap.size w W → Calls Tryz.prog 7 #[pv, .agg #[.int .i64 g.fn, .int .i64 g.pc, .int .i64 g.slots, .slice An g.nodes.length cn, .slice Ab g.blocks.length cb, .slice As g.states.length cs]] W (Chk16 p g W)) := Lib.hid (fun hs W hb => ref16Check_any W pv p ⟨.slice An g.nodes.length cn, .slice Ab g.blocks.length cb, .slice As g.states.length cs⟩ g hs (HP.out.later hb (Nat.le_refl _)) (HG.out.later hb (Nat.le_refl _)))
 go_upto_region 3 with (first
  | (go_at_call 8; refine (lives_any _).mono ?_; rintro e w9 ⟨rfl, hb9⟩; have HB9 := Lib.hid hb9; clear hb9)
  | (go_at_call 7; (with_reducible refine Calls.mono (HCh.out (HSm.out (by first | trivial | rfl)) w3 HB3.out) ?_); rintro e w4 ⟨z, rfl, hz, hb4⟩; have HZ := Lib.hid hz; have HC4 := Lib.hid (HC3.out.below hb4); have HB4 := Lib.hid (HB3.out.trans (hb4.mono HB3.out.size)); clear hb4 hz; rcases two_b (z != 0) with hzz | hzz)
  | (go_at_call 6; (with_reducible refine Calls.mono (HPs.out w2 HB2.out) ?_); rintro e w3 ⟨N, rfl, hb3⟩; have HC3 := Lib.hid (HC2.out.below hb3); have HB3 := Lib.hid (HB2.out.trans (hb3.mono HB2.out.size)); clear hb3 q0 q1 q2 q3 q4 q5 ql; obtain ⟨q0, q1, q2, q3, q4, q5⟩ := HC3.out.cells; have ql := HC3.out.lt; simp only at q3 q4 q5; by_cases hN : 20000 < N)
  | (go_at_call 5; (with_reducible refine Calls.mono HBy.out ?_); rintro e w2 ⟨b, rfl, hnb, hb2⟩; have HB2 := Lib.hid (HB1.out.trans (hb2.mono HB1.out.size)); have HC2 := Lib.hid (HC1.out.below hb2); have HNb := Lib.hid hnb; clear hb2 hnb q0 q1 q2 q3 q4 q5 ql; obtain ⟨q0, q1, q2, q3, q4, q5⟩ := HC2.out.cells; have ql := HC2.out.lt; simp only at q3 q4 q5; have HSm : Hid (b = false → Small g) := Lib.hid (fun h => Nat.le_trans (HNb.out h).1 (by omega)); cases b)
  | fail)
 all_goals first
  | (go_ret; exact ⟨rfl, HB4.out.trans (HB9.out.mono HB4.out.size)⟩)
  | (go_ret; exact ⟨rfl, HB3.out.trans (HB9.out.mono HB3.out.size)⟩)
  | (go_ret; exact ⟨rfl, HB2.out.trans (HB9.out.mono HB2.out.size)⟩)
  | skip
 have hz0 : z = 0 := by simpa [bne_eq_false_iff_eq] using hzz
 obtain ⟨P, hok⟩ := HZ.out hz0
 have HOk := Lib.hid hok
 have HSm2 : Hid (Small g) := Lib.hid (HSm.out (by first | trivial | rfl))
 obtain ⟨l1, l2, l3⟩ := HSm2.out.lens
 clear hz0 hok hzz HZ HSm q0 q1 q2 q3 q4 q5 ql
 obtain ⟨q0, q1, q2, q3, q4, q5⟩ := HC4.out.cells
 have ql := HC4.out.lt
 simp only at q3 q4 q5
 have hd := do_any w4 g ⟨.slice An g.nodes.length cn, .slice Ab g.blocks.length cb, .slice As g.states.length cs⟩ HSm2.out HC4.out.graph
 rw [E0.out] at hd
 have HD := Lib.hid hd
 clear hd
 go_upto_region 4 with (go_at_call 9; (with_reducible refine Calls.mono HD.out ?_); rintro e w5 hd5; obtain ⟨br, rs, I, O, rfl, hlv, ht, hk, hb5⟩ := (do_ok (sound_of16 HOk.out) hd5); have HLv := Lib.hid hlv; have HT := Lib.hid ht; have HM := Lib.hid (FewM.mk (HC4.out.below hb5) hk (HB4.out.trans (hb5.mono HB4.out.size))); clear hd5 hlv ht hk hb5)
 clear q0 q1 q2 q3 q4 q5 ql HD
 have HRk := Lib.hid HT.out.ok
 go_wp2_with fail
 go_loopw [7, 8] (fun m i wr => ∃ k : Nat, m = .int .i64 (regsOf (rs.take k)) ∧ i = .int .i64 k ∧ k ≤ g.nodes.length ∧ Hid (FewM w ⟨.slice An g.nodes.length cn, .slice Ab g.blocks.length cb, .slice As g.states.length cs⟩ g br rs wr)) (fun m i _ => g.nodes.length - (intOf i).toNat)
 case atStart => exact ⟨0, rfl, rfl, Nat.zero_le _, HM⟩
 case round =>
  obtain ⟨k, rfl, rfl, hk, HMk⟩ := hrel
  obtain ⟨wq, rfl⟩ : ∃ wq : World, wq = wr := ⟨_, rfl⟩
  by_cases hlt : k < g.nodes.length
  ·obtain ⟨r, hr⟩ := getE (l := rs) (k := k) (by rw [HRk.out.len]; exact hlt)
   have HR := Lib.hid hr
   have f0 := HMk.out.cell hr
   have f1 := HMk.out.rg.lt
   have hlo := HRk.out.low r (List.mem_of_getElem? hr)
   have hol := orderOf_len HSm2.out
   have hw : IntKind.i64.wrap (r + 1) = r + 1 := by rw [IntKind.wrap_i64]; omega
   clear hr
   go_wp2_with fail
   go_roundw
   case rel =>
    refine ⟨k + 1, ?_, by go_num, by omega, HMk⟩
    rw [regs_step HR.out]
   case measure => simp [intOf]; omega
  ·have e : k = g.nodes.length := by omega
   subst e
   have e2 : rs.take g.nodes.length = rs := by rw [List.take_of_length_le]; rw [HRk.out.len]; exact Nat.le_refl _
   rw [e2]
   clear e2
   obtain ⟨M, hM⟩ : ∃ M, M = regsOf rs := ⟨_, rfl⟩
   rw [← hM]
   have HMx := Lib.hid hM
   clear hM
   have hm := most21_any wq ⟨.slice An g.nodes.length cn, .slice Ab g.blocks.length cb, .slice As g.states.length cs⟩ g HSm2.out HMk.out.gc.graph
   rw [E0.out] at hm
   have HMo := Lib.hid hm
   clear hm
   obtain ⟨q0, q1, q2, q3, q4, q5⟩ := HMk.out.gc.cells
   have ql := HMk.out.gc.lt
   simp only at q3 q4 q5
   go_wp2_with (first
    | (go_at_call 8; refine (lives_any _).mono ?_; rintro e w9 ⟨rfl, hb9⟩; have HB9 := Lib.hid hb9; clear hb9)
    | (go_at_call 10; (with_reducible refine Calls.mono HMo.out ?_); rintro e w8 ⟨J, Q, rfl, hl8, hb8⟩; have HB8 := Lib.hid (HMk.out.low.trans (hb8.mono HMk.out.low.size)); have hee := few_of16 HOk.out HLv.out hl8 HT.out; rw [← hee, ← HMx.out]; clear hl8 hb8 hee))
   go_ret
   exact ⟨rfl, HB8.out.trans (HB9.out.mono HB8.out.size)⟩
end Go.Proofs.YtkmfdiboekoioaaGreat
