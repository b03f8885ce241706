/- The reference 16's look at a graph: its loop over nodes. Conditions: a small graph, a program that lie in memory. -/
import Derived.Test.YtkmfdiboekoioaaGreatCRfChk9
set_option linter.unusedSimpArgs false
set_option linter.unusedVariables false
namespace Go.Proofs.YtkmfdiboekoioaaGreat
open Go.RowKit
theorem PlacesV.keep2 {w w' : World} {B : Nat} {v : Value} {P : List (Nat × Nat)} (h : PlacesV w B v P) (hk : Same B w w') : PlacesV w' B v P :=
 h.imp (Nat.le_refl _) fun _ _ _ hb h => ⟨(hk _ hb).trans h.1, (hk _ hb).trans h.2⟩
theorem PlacesV.mono2 {w : World} {B B' : Nat} {v : Value} {P : List (Nat × Nat)} (h : PlacesV w B v P) (hB : B ≤ B') : PlacesV w B' v P := h.imp hB fun _ _ _ _ h => h
theorem places_cell {w : World} {B n c k : Nat} {A : Option Addr} {P : List (Nat × Nat)} (h : PlacesV w B (.slice A n c) P) (hk : k < P.length) : ∃ bp op, A = some ⟨bp, op, none⟩ ∧ bp < B ∧ w.cell? ⟨bp, op + k * 2, none⟩ = some (.int .i64 ((P.getD k (0, 0)).1 : Nat)) ∧ w.cell? ⟨bp, op + k * 2 + 1, none⟩ = some (.int .i64 ((P.getD k (0, 0)).2 : Nat)) := by
 obtain ⟨A', c', e, _, _, h⟩ := h
 injection e with e1 e2 e3
 obtain ⟨b, o, e4, hb, h⟩ := h (by omega)
 obtain ⟨q, hq⟩ := rget hk
 obtain ⟨h1, h2⟩ := h k q hq
 have e5 : P.getD k (0, 0) = q := by rw [List.getD_eq_getElem?_getD, hq]; rfl
 rw [e5]
 exact ⟨b, o, e1.trans e4, hb, h1, h2⟩
set_option maxRecDepth 100000 in
set_option maxHeartbeats 8000000 in
theorem cnodes_any (w : World) (v : Value) (p : List FnP) (g : GraphP) (An Ab As : Option Addr) (cn cb cs : Nat) (W0 : World) (fn : Nat) (f : FnP) (P : List (Nat × Nat)) (Ap : Option Addr) (cp : Nat) (av : Value) (hs : Small g) (M0 : K16 w v p ⟨.slice An g.nodes.length cn, .slice Ab g.blocks.length cb, .slice As g.states.length cs⟩ g W0) (hf : p[fn]? = some f) (hmd : MadeIn p f) (hfn : g.fn = (fn : Int)) (hP : PlacesV W0 W0.heap.size (.slice Ap g.nodes.length cp) P) (hok : PlOk2 g P)
  (u1 u2 u4 u5 u6 u7 u8 u9 u11 u12 u13 u16 u17 u18 u19 u20 u21 u22 u23 u24 u25 u26 u27 u28 u29 u30 u31 u32 u33 u34 u35 u36 u37 u38 u39 u40 u41 u42 u43 u44 u45 u46 u47 u48 u49 u50 u51 u52 u53 u54 u55 u56 u57 u58 u59 u60 u61 u62 u63 u64 u65 u66 u67 u68 u69 u70 u71 u72 u73 u74 u75 u76 u77 u78 u79 u80 u81 u82 u83 u84 u85 u86 u87 u88 u89 u90 u91 u92 u93 u94 u95 u96 u97 u98 u99 u100 u101 u102 u103 u104 u105 u106 u107 u108 u109 u110 u111 u112 u113 u114 u115 u116 u117 u118 u119 u120 u121 u122 u123 u124 u125 u126 u127 u128 u129 u130 u131 u132 u133 u134 u135 u136 u137 u138 u139 u140 u141 u142 u143 u144 u145 u146 u147 u148 u149 u150 u151 u152 u153 u154 u155 u156 u157 u158 u159 u160 u161 u162 u163 u164 u165 u166 u167 u168 u169 u170 u171 u172 u173 u174 u175 u176 u177 u178 u179 u180 u181 u182 u183 u184 u185 u186 u187 u188 u189 u190 u191 u192 u193 u194 u195 u196 u197 u198 u199 u200 u201 u202 u203 u204 u205 u206 u207 u208 u209 u210 u211 u212 u213 u214 u215 u216 u217 u218 u219 u220 u221 u222 u223 u224 u225 u226 u227 u228 u229 u230 u231 u232 u233 u234 u235 u236 u237 u238 u239 u240 u241 u242 u243 u244 u245 u246 u247 u248 u249 : Value) (Q : Exit → Act → World → Prop)
  (hret : ∀ (a : Act) (W : World), bodyPost Tryz.prog Tryz.f7 (Chk16 p g w) .ret a W → Q .ret a W) (hpan : ∀ c d v a w, Q (.panic c) (Act.put a d v) w → Q (.panic c) a w)
  (hexit : ∀ (x4 x15 x131 x132 x133 x134 x135 x136 x137 x138 x139 x140 x141 x142 x143 x144 x145 x146 : Value) (W' : World), (Below W0.heap.size W0 W' ∧ ∀ (n : Nat) y, g.nodes[n]? = some y → ∃ x, g.blocks[(P.getD n (0, 0)).1]? = some x ∧ NdF g y (P.getD n (0, 0)).1 x (P.getD n (0, 0)).2) → Q (.exit 4) ⟨#[v, u1, u2, .pointer (some ⟨w.heap.size, 0, none⟩), x4, u5, u6, u7, u8, u9, .slice Ap g.nodes.length cp, u11, u12, u13, av, x15, u16, u17, u18, u19, u20, u21, u22, u23, u24, u25, u26, u27, u28, u29, u30, u31, u32, u33, u34, u35, u36, u37, u38, u39, u40, u41, u42, u43, u44, u45, u46, u47, u48, u49, u50, u51, u52, u53, u54, u55, u56, u57, u58, u59, u60, u61, u62, u63, u64, u65, u66, u67, u68, u69, u70, u71, u72, u73, u74, u75, u76, u77, u78, u79, u80, u81, u82, u83, u84, u85, u86, u87, u88, u89, u90, u91, u92, u93, u94, u95, u96, u97, u98, u99, u100, u101, u102, u103, u104, u105, u106, u107, u108, u109, u110, u111, u112, u113, u114, u115, u116, u117, u118, u119, u120, u121, u122, u123, u124, u125, u126, u127, u128, u129, u130, x131, x132, x133, x134, x135, x136, x137, x138, x139, x140, x141, x142, x143, x144, x145, x146, u147, u148, u149, u150, u151, u152, u153, u154, u155, u156, u157, u158, u159, u160, u161, u162, u163, u164, u165, u166, u167, u168, u169, u170, u171, u172, u173, u174, u175, u176, u177, u178, u179, u180, u181, u182, u183, u184, u185, u186, u187, u188, u189, u190, u191, u192, u193, u194, u195, u196, u197, u198, u199, u200, u201, u202, u203, u204, u205, u206, u207, u208, u209, u210, u211, u212, u213, u214, u215, u216, u217, u218, u219, u220, u221, u222, u223, u224, u225, u226, u227, u228, u229, u230, u231, u232, u233, u234, u235, u236, u237, u238, u239, u240, u241, u242, u243, u244, u245, u246, u247, u248, u249], []⟩ W') :
  Code.wp Tryz.prog (Code.loop (cloop 2)) Q ⟨#[v, u1, u2, .pointer (some ⟨w.heap.size, 0, none⟩), u4, u5, u6, u7, u8, u9, .slice Ap g.nodes.length cp, u11, u12, u13, av, .int .i64 (0 : Int), u16, u17, u18, u19, u20, u21, u22, u23, u24, u25, u26, u27, u28, u29, u30, u31, u32, u33, u34, u35, u36, u37, u38, u39, u40, u41, u42, u43, u44, u45, u46, u47, u48, u49, u50, u51, u52, u53, u54, u55, u56, u57, u58, u59, u60, u61, u62, u63, u64, u65, u66, u67, u68, u69, u70, u71, u72, u73, u74, u75, u76, u77, u78, u79, u80, u81, u82, u83, u84, u85, u86, u87, u88, u89, u90, u91, u92, u93, u94, u95, u96, u97, u98, u99, u100, u101, u102, u103, u104, u105, u106, u107, u108, u109, u110, u111, u112, u113, u114, u115, u116, u117, u118, u119, u120, u121, u122, u123, u124, u125, u126, u127, u128, u129, u130, u131, u132, u133, u134, u135, u136, u137, u138, u139, u140, u141, u142, u143, u144, u145, u146, u147, u148, u149, u150, u151, u152, u153, u154, u155, u156, u157, u158, u159, u160, u161, u162, u163, u164, u165, u166, u167, u168, u169, u170, u171, u172, u173, u174, u175, u176, u177, u178, u179, u180, u181, u182, u183, u184, u185, u186, u187, u188, u189, u190, u191, u192, u193, u194, u195, u196, u197, u198, u199, u200, u201, u202, u203, u204, u205, u206, u207, u208, u209, u210, u211, u212, u213, u214, u215, u216, u217, u218, u219, u220, u221, u222, u223, u224, u225, u226, u227, u228, u229, u230, u231, u232, u233, u234, u235, u236, u237, u238, u239, u240, u241, u242, u243, u244, u245, u246, u247, u248, u249], []⟩ W0 := by
 have ee : gval g ⟨.slice An g.nodes.length cn, .slice Ab g.blocks.length cb, .slice As g.states.length cs⟩ = .agg #[.int .i64 g.fn, .int .i64 g.pc, .int .i64 g.slots, .slice An g.nodes.length cn, .slice Ab g.blocks.length cb, .slice As g.states.length cs] := rfl
 have E0 := Lib.hid ee
 obtain ⟨l1, l2, l3⟩ := hs.lens
 have HM0 := Lib.hid M0; have HEx := Lib.hid hexit; have HRet := Lib.hid hret; have HPan := Lib.hid hpan; have HPl := Lib.hid hP; have HOk := Lib.hid hok
 have HF := Lib.hid hf; have HMd := Lib.hid hmd; have HFn := Lib.hid hfn
 have hpl := hok.len
 clear M0 hexit hret ee hpan hP hok hf hmd hfn
 conv => arg 2; arg 1; whnf
 dsimp only
 go_loopw [15] (fun t wr => ∃ k : Nat, k ≤ g.nodes.length ∧ t = .int .i64 k ∧ Hid (Below W0.heap.size W0 wr) ∧ Hid (∀ (n : Nat) y, n < k → g.nodes[n]? = some y → ∃ x, g.blocks[(P.getD n (0, 0)).1]? = some x ∧ NdF g y (P.getD n (0, 0)).1 x (P.getD n (0, 0)).2)) (fun t _ => g.nodes.length - (intOf t).toNat)
 case atStart => exact ⟨0, Nat.zero_le _, rfl, Lib.hid (Below.refl _ _), Lib.hid (fun b x h => by omega)⟩
 case round =>
  obtain ⟨k, hk, rfl, HB, HA⟩ := hrel
  obtain ⟨wq, rfl⟩ : ∃ wq : World, wq = wr := ⟨_, rfl⟩
  have HM := Lib.hid (HM0.out.below HB.out)
  obtain ⟨q0, q1, q2, q3, q4, q5⟩ := HM.out.gr.cells
  have ql := HM.out.gr.lt
  simp only at q3 q4 q5
  by_cases hlt : k < g.nodes.length
  ·obtain ⟨y, hy⟩ := getE hlt
   have HY := Lib.hid hy
   obtain ⟨bp, op, eA, hbp, c0, c1⟩ := places_cell HPl.out (k := k) (by omega)
   subst eA
   obtain ⟨qb, hqb⟩ : ∃ qb, qb = (P.getD k (0, 0)).1 := ⟨_, rfl⟩
   obtain ⟨qi, hqi⟩ : ∃ qi, qi = (P.getD k (0, 0)).2 := ⟨_, rfl⟩
   rw [← hqb] at c0
   rw [← hqi] at c1
   have HQ : Hid (P.getD k (0, 0) = (qb, qi)) := Lib.hid (Prod.ext hqb.symm hqi.symm)
   obtain ⟨x, hx, hxi⟩ := HOk.out.pl.has k hlt
   (try simp only at hx hxi)
   rw [HQ.out] at hx hxi
   have HX := Lib.hid hx
   have hil : qi < x.nodes.length := (List.getElem?_eq_some_iff.1 hxi).1
   have HKp : Hid (∀ W, Below wq.heap.size wq W → W.cell? ⟨w.heap.size, 0, none⟩ = some (.int .i64 g.fn) ∧ W.cell? ⟨w.heap.size, 1, none⟩ = some (.int .i64 g.pc) ∧ W.cell? ⟨w.heap.size, 2, none⟩ = some (.int .i64 g.slots) ∧ W.cell? ⟨w.heap.size, 3, none⟩ = some (.slice An g.nodes.length cn) ∧ W.cell? ⟨w.heap.size, 4, none⟩ = some (.slice Ab g.blocks.length cb) ∧ W.cell? ⟨w.heap.size, 5, none⟩ = some (.slice As g.states.length cs) ∧ W.cell? ⟨bp, op + k * 2, none⟩ = some (.int .i64 (qb : Int)) ∧ W.cell? ⟨bp, op + k * 2 + 1, none⟩ = some (.int .i64 (qi : Int))) := Lib.hid (fun W hW => by
    obtain ⟨q0, q1, q2, q3, q4, q5⟩ := (HM.out.below hW).gr.cells
    have hWW := HB.out.trans (hW.mono HB.out.size)
    exact ⟨q0, q1, q2, q3, q4, q5, (hWW.cell (p := ⟨bp, op + k * 2, none⟩) hbp).trans c0, (hWW.cell (p := ⟨bp, op + k * 2 + 1, none⟩) hbp).trans c1⟩)
   have hc := ref16node_any wq.drew v p fn f ⟨.slice An g.nodes.length cn, .slice Ab g.blocks.length cb, .slice As g.states.length cs⟩ g k qb qi y x ((HM.out.pr.keep (Same.of_below ((Below.refl _ wq).drew.mono HM.out.low.size))).mono HM.out.low.size) HF.out HMd.out (HM.out.below (Below.refl _ _).drew).gr.graph HFn.out hy hx (Nat.le_of_lt hil) (fun j a _ ha => by
    obtain ⟨m, rfl, hm, _⟩ := HOk.out.pl.put qb x j a hx ha
    omega)
   rw [E0.out] at hc
   have HC := Lib.hid hc
   have HS := Lib.hid (HKp.out wq.drew (Below.refl _ _).drew)
   have HSa : Hid ((fun W : World => W.cell? ⟨w.heap.size, 0, none⟩ = some (.int .i64 g.fn) ∧ W.cell? ⟨w.heap.size, 1, none⟩ = some (.int .i64 g.pc) ∧ W.cell? ⟨w.heap.size, 2, none⟩ = some (.int .i64 g.slots) ∧ W.cell? ⟨w.heap.size, 3, none⟩ = some (.slice An g.nodes.length cn) ∧ W.cell? ⟨w.heap.size, 4, none⟩ = some (.slice Ab g.blocks.length cb) ∧ W.cell? ⟨w.heap.size, 5, none⟩ = some (.slice As g.states.length cs) ∧ W.cell? ⟨bp, op + k * 2, none⟩ = some (.int .i64 (qb : Int)) ∧ W.cell? ⟨bp, op + k * 2 + 1, none⟩ = some (.int .i64 (qi : Int))) wq.drew) := HS
   clear hc hx hxi hy hqb hqi
   go_upto_region 26 with fail
   clear q0 q1 q2 q3 q4 q5 ql c0 c1
   refine wp_region_H2 (fun W : World => W.cell? ⟨w.heap.size, 0, none⟩ = some (.int .i64 g.fn) ∧ W.cell? ⟨w.heap.size, 1, none⟩ = some (.int .i64 g.pc) ∧ W.cell? ⟨w.heap.size, 2, none⟩ = some (.int .i64 g.slots) ∧ W.cell? ⟨w.heap.size, 3, none⟩ = some (.slice An g.nodes.length cn) ∧ W.cell? ⟨w.heap.size, 4, none⟩ = some (.slice Ab g.blocks.length cb) ∧ W.cell? ⟨w.heap.size, 5, none⟩ = some (.slice As g.states.length cs) ∧ W.cell? ⟨bp, op + k * 2, none⟩ = some (.int .i64 (qb : Int)) ∧ W.cell? ⟨bp, op + k * 2 + 1, none⟩ = some (.int .i64 (qi : Int))) (by kernel_rfl) HSa.out (fun HSn => ?_)
   clear HSn
   refine tkL 0 rfl (fun c a w h => HPan.out c _ _ a w h) HSa.out ?_
   try simp only [Act.put, List.setIfInBounds_toArray, List.set_cons_zero, List.set_cons_succ]
   refine tkL 1 rfl (fun c a w h => HPan.out c _ _ a w h) HSa.out ?_
   try simp only [Act.put, List.setIfInBounds_toArray, List.set_cons_zero, List.set_cons_succ]
   refine tkL 2 rfl (fun c a w h => HPan.out c _ _ a w h) HSa.out ?_
   try simp only [Act.put, List.setIfInBounds_toArray, List.set_cons_zero, List.set_cons_succ]
   refine tkL 3 rfl (fun c a w h => HPan.out c _ _ a w h) HSa.out ?_
   try simp only [Act.put, List.setIfInBounds_toArray, List.set_cons_zero, List.set_cons_succ]
   refine tkL 4 rfl (fun c a w h => HPan.out c _ _ a w h) HSa.out ?_
   try simp only [Act.put, List.setIfInBounds_toArray, List.set_cons_zero, List.set_cons_succ]
   refine tkL 5 rfl (fun c a w h => HPan.out c _ _ a w h) HSa.out ?_
   try simp only [Act.put, List.setIfInBounds_toArray, List.set_cons_zero, List.set_cons_succ]
   refine tkL 6 rfl (fun c a w h => HPan.out c _ _ a w h) HSa.out ?_
   try simp only [Act.put, List.setIfInBounds_toArray, List.set_cons_zero, List.set_cons_succ]
   refine wpAnyH_ready (rs := [7]) (by kernel_rfl) (by simp) (AllReadyH.cons (o := _) rfl (fun K hK => ?_) AllReadyH.nil)
   go_simp
   (go_at_call 25; (with_reducible refine Calls.mono HC.out ?_); rintro e w4 ⟨⟨t4, rfl, ht4⟩, hb4⟩; have HT4 := Lib.hid ht4; have HB4 : Hid (Below wq.heap.size wq w4) := Lib.hid ((Below.refl _ _).drew.trans hb4); clear ht4 hb4)
   try go_wp2_with fail
   have HSb : Hid ((fun W : World => W.cell? ⟨w.heap.size, 0, none⟩ = some (.int .i64 g.fn) ∧ W.cell? ⟨w.heap.size, 1, none⟩ = some (.int .i64 g.pc) ∧ W.cell? ⟨w.heap.size, 2, none⟩ = some (.int .i64 g.slots) ∧ W.cell? ⟨w.heap.size, 3, none⟩ = some (.slice An g.nodes.length cn) ∧ W.cell? ⟨w.heap.size, 4, none⟩ = some (.slice Ab g.blocks.length cb) ∧ W.cell? ⟨w.heap.size, 5, none⟩ = some (.slice As g.states.length cs) ∧ W.cell? ⟨bp, op + k * 2, none⟩ = some (.int .i64 (qb : Int)) ∧ W.cell? ⟨bp, op + k * 2 + 1, none⟩ = some (.int .i64 (qi : Int))) w4) := Lib.hid (HKp.out _ HB4.out)
   refine hK.out _ _ HSb.out (fun HSn => ?_)
   clear hK K HSn
   try simp only [Act.put, List.setIfInBounds_toArray, List.set_cons_zero, List.set_cons_succ]
   refine tkL 8 rfl (fun c a w h => HPan.out c _ _ a w h) HSb.out ?_
   try simp only [Act.put, List.setIfInBounds_toArray, List.set_cons_zero, List.set_cons_succ]
   refine wpAnyH_done (by kernel_rfl) ?_ _
   cases t4
   ·go_wp2_with fail
    refine HRet.out _ _ ?_
    go_ret
    exact ⟨8, rfl, fun h => absurd h (by decide), (HM.out.below HB4.out).low⟩
   ·go_wp2_with fail
    go_roundw
    case rel => exact ⟨k + 1, by omega, by go_num, Lib.hid (HB.out.trans (HB4.out.mono HB.out.size)), Lib.hid (fun n y' hn hy' => by
     rcases Nat.lt_or_ge n k with h | h
     ·exact HA.out n y' h hy'
     ·obtain rfl : n = k := by omega
      rw [HY.out] at hy'; injection hy' with hy'; subst hy'
      rw [HQ.out]
      exact ⟨x, HX.out, HT4.out (by first | trivial | rfl)⟩)⟩
    case measure => simp [intOf]; omega
  ·go_wp2_with fail
   exact HEx.out _ _ _ _ _ _ _ _ _ _ _ _ _ _ _ _ _ _ _ ⟨HB.out, fun n y hy => HA.out n y (by have := (List.getElem?_eq_some_iff.1 hy).1; omega) hy⟩
theorem slots_in {g : GraphP} (h : StF g) (k : Int) : ∀ a ∈ slotsOf g k, -1 ≤ a ∧ a < (g.nodes.length : Int) := by
 intro a ha
 unfold slotsOf at ha
 split at ha
 ·cases ha
 ·split at ha
  ·rename_i s hs
   exact h s (List.mem_of_getElem? hs) a ha
  ·cases ha
set_option maxRecDepth 100000 in
set_option maxHeartbeats 8000000 in
theorem cfins_any (w : World) (v : Value) (p : List FnP) (g : GraphP) (An Ab As : Option Addr) (cn cb cs : Nat) (W0 : World) (P : List (Nat × Nat)) (Ap : Option Addr) (cp : Nat) (av : Value) (hs : Small g) (M0 : K16 w v p ⟨.slice An g.nodes.length cn, .slice Ab g.blocks.length cb, .slice As g.states.length cs⟩ g W0) (hP : PlacesV W0 W0.heap.size (.slice Ap g.nodes.length cp) P) (hok : PlOk2 g P) (hav : RowsV W0 W0.heap.size av (above_ g)) (hst : StF g) (hed : ∀ (b : Nat) x, g.blocks[b]? = some x → EdF g x)
  (u1 u2 u4 u5 u6 u7 u8 u9 u11 u12 u13 u15 u16 u17 u18 u19 u21 u22 u23 u24 u25 u26 u27 u28 u29 u30 u31 u32 u33 u34 u35 u36 u37 u38 u39 u40 u41 u42 u43 u44 u45 u46 u47 u48 u49 u50 u51 u52 u53 u54 u55 u56 u57 u58 u59 u60 u61 u62 u63 u64 u65 u66 u67 u68 u69 u70 u71 u72 u73 u74 u75 u76 u77 u78 u79 u80 u81 u82 u83 u84 u85 u86 u87 u88 u89 u90 u91 u92 u93 u94 u95 u96 u97 u98 u99 u100 u101 u102 u103 u104 u105 u106 u107 u108 u109 u110 u111 u112 u113 u114 u115 u116 u117 u118 u119 u120 u121 u122 u123 u124 u125 u126 u127 u128 u129 u130 u131 u132 u133 u134 u135 u136 u137 u138 u139 u140 u141 u142 u143 u144 u145 u146 u147 u148 u149 u150 u151 u152 u153 u154 u155 u156 u157 u158 u159 u160 u161 u162 u163 u164 u165 u166 u167 u168 u169 u170 u171 u172 u173 u174 u175 u176 u177 u178 u179 u180 u181 u182 u183 u184 u185 u186 u187 u188 u189 u190 u191 u192 u193 u194 u195 u196 u197 u198 u199 u200 u201 u202 u203 u204 u205 u206 u207 u208 u209 u210 u211 u212 u213 u214 u215 u216 u217 u218 u219 u220 u221 u222 u223 u224 u225 u226 u227 u228 u229 u230 u231 u232 u233 u234 u235 u236 u237 u238 u239 u240 u241 u242 u243 u244 u245 u246 u247 u248 u249 : Value) (Q : Exit → Act → World → Prop)
  (hret : ∀ (a : Act) (W : World), bodyPost Tryz.prog Tryz.f7 (Chk16 p g w) .ret a W → Q .ret a W) (hpan : ∀ c d v a w, Q (.panic c) (Act.put a d v) w → Q (.panic c) a w)
  (hexit : ∀ (x4 x20 x217 x218 x219 x220 x221 x222 x223 x224 x225 x226 x227 x228 x229 x230 x231 x232 x233 x234 x235 x236 x237 x238 x239 x240 x241 x242 x243 x244 x245 x246 x247 x248 x249 : Value) (W' : World), (Below W0.heap.size W0 W' ∧ ∀ (b : Nat) x, g.blocks[b]? = some x → StandF P (above_ g) x.args b x.nodes.length ∧ StandF P (above_ g) (slotsOf g x.state) b x.nodes.length) → Q (.exit 10) ⟨#[v, u1, u2, .pointer (some ⟨w.heap.size, 0, none⟩), x4, u5, u6, u7, u8, u9, .slice Ap g.nodes.length cp, u11, u12, u13, av, u15, u16, u17, u18, u19, x20, u21, u22, u23, u24, u25, u26, u27, u28, u29, u30, u31, u32, u33, u34, u35, u36, u37, u38, u39, u40, u41, u42, u43, u44, u45, u46, u47, u48, u49, u50, u51, u52, u53, u54, u55, u56, u57, u58, u59, u60, u61, u62, u63, u64, u65, u66, u67, u68, u69, u70, u71, u72, u73, u74, u75, u76, u77, u78, u79, u80, u81, u82, u83, u84, u85, u86, u87, u88, u89, u90, u91, u92, u93, u94, u95, u96, u97, u98, u99, u100, u101, u102, u103, u104, u105, u106, u107, u108, u109, u110, u111, u112, u113, u114, u115, u116, u117, u118, u119, u120, u121, u122, u123, u124, u125, u126, u127, u128, u129, u130, u131, u132, u133, u134, u135, u136, u137, u138, u139, u140, u141, u142, u143, u144, u145, u146, u147, u148, u149, u150, u151, u152, u153, u154, u155, u156, u157, u158, u159, u160, u161, u162, u163, u164, u165, u166, u167, u168, u169, u170, u171, u172, u173, u174, u175, u176, u177, u178, u179, u180, u181, u182, u183, u184, u185, u186, u187, u188, u189, u190, u191, u192, u193, u194, u195, u196, u197, u198, u199, u200, u201, u202, u203, u204, u205, u206, u207, u208, u209, u210, u211, u212, u213, u214, u215, u216, x217, x218, x219, x220, x221, x222, x223, x224, x225, x226, x227, x228, x229, x230, x231, x232, x233, x234, x235, x236, x237, x238, x239, x240, x241, x242, x243, x244, x245, x246, x247, x248, x249], []⟩ W') :
  Code.wp Tryz.prog (Code.loop (cloop 5)) Q ⟨#[v, u1, u2, .pointer (some ⟨w.heap.size, 0, none⟩), u4, u5, u6, u7, u8, u9, .slice Ap g.nodes.length cp, u11, u12, u13, av, u15, u16, u17, u18, u19, .int .i64 (0 : Int), u21, u22, u23, u24, u25, u26, u27, u28, u29, u30, u31, u32, u33, u34, u35, u36, u37, u38, u39, u40, u41, u42, u43, u44, u45, u46, u47, u48, u49, u50, u51, u52, u53, u54, u55, u56, u57, u58, u59, u60, u61, u62, u63, u64, u65, u66, u67, u68, u69, u70, u71, u72, u73, u74, u75, u76, u77, u78, u79, u80, u81, u82, u83, u84, u85, u86, u87, u88, u89, u90, u91, u92, u93, u94, u95, u96, u97, u98, u99, u100, u101, u102, u103, u104, u105, u106, u107, u108, u109, u110, u111, u112, u113, u114, u115, u116, u117, u118, u119, u120, u121, u122, u123, u124, u125, u126, u127, u128, u129, u130, u131, u132, u133, u134, u135, u136, u137, u138, u139, u140, u141, u142, u143, u144, u145, u146, u147, u148, u149, u150, u151, u152, u153, u154, u155, u156, u157, u158, u159, u160, u161, u162, u163, u164, u165, u166, u167, u168, u169, u170, u171, u172, u173, u174, u175, u176, u177, u178, u179, u180, u181, u182, u183, u184, u185, u186, u187, u188, u189, u190, u191, u192, u193, u194, u195, u196, u197, u198, u199, u200, u201, u202, u203, u204, u205, u206, u207, u208, u209, u210, u211, u212, u213, u214, u215, u216, u217, u218, u219, u220, u221, u222, u223, u224, u225, u226, u227, u228, u229, u230, u231, u232, u233, u234, u235, u236, u237, u238, u239, u240, u241, u242, u243, u244, u245, u246, u247, u248, u249], []⟩ W0 := by
 have ee : gval g ⟨.slice An g.nodes.length cn, .slice Ab g.blocks.length cb, .slice As g.states.length cs⟩ = .agg #[.int .i64 g.fn, .int .i64 g.pc, .int .i64 g.slots, .slice An g.nodes.length cn, .slice Ab g.blocks.length cb, .slice As g.states.length cs] := rfl
 have E0 := Lib.hid ee
 obtain ⟨l1, l2, l3⟩ := hs.lens
 have HM0 := Lib.hid M0; have HEx := Lib.hid hexit; have HRet := Lib.hid hret; have HPan := Lib.hid hpan; have HPl := Lib.hid hP; have HOk := Lib.hid hok
 have HAv := Lib.hid hav; have HSt := Lib.hid hst; have HEd := Lib.hid hed
 have hpl := hok.len
 clear M0 hexit hret ee hpan hP hok hav hst hed
 conv => arg 2; arg 1; whnf
 dsimp only
 go_loopw [20] (fun t wr => ∃ k : Nat, k ≤ g.blocks.length ∧ t = .int .i64 k ∧ Hid (Below W0.heap.size W0 wr) ∧ Hid (∀ (b : Nat) x, b < k → g.blocks[b]? = some x → StandF P (above_ g) x.args b x.nodes.length ∧ StandF P (above_ g) (slotsOf g x.state) b x.nodes.length)) (fun t _ => g.blocks.length - (intOf t).toNat)
 case atStart => exact ⟨0, Nat.zero_le _, rfl, Lib.hid (Below.refl _ _), Lib.hid (fun b x h => by omega)⟩
 case round =>
  obtain ⟨k, hk, rfl, HB, HA⟩ := hrel
  obtain ⟨wq, rfl⟩ : ∃ wq : World, wq = wr := ⟨_, rfl⟩
  have HM := Lib.hid (HM0.out.below HB.out)
  obtain ⟨q0, q1, q2, q3, q4, q5⟩ := HM.out.gr.cells
  have ql := HM.out.gr.lt
  simp only at q3 q4 q5
  by_cases hlt : k < g.blocks.length
  ·obtain ⟨x, hx⟩ := getE hlt
   have HX := Lib.hid hx
   obtain ⟨Aq, cq, eq, _, _, hqb⟩ := HM.out.gr.gr.2.1
   obtain ⟨bb, ob, eq2, hbb, _⟩ := hqb (by omega)
   simp only at eq
   injection eq with e1 e2 e3
   rw [eq2] at e1
   subst e1
   clear hqb e2 e3 eq2
   have HBk : Hid (∀ W, Below wq.heap.size wq W → BlockAt W w.heap.size bb (ob + k * 6) x) := Lib.hid (fun W hW => (blocks_at ((HM.out.below hW).gr.gr.2.1) HX.out).2)
   obtain ⟨⟨v0, f0, i0⟩, _, ⟨v2, f2, i2⟩, _, _, f5⟩ := HBk.out wq (Below.refl _ _)
   have HI2 := Lib.hid i2
   obtain ⟨A0, c0, rfl, _⟩ := i0
   obtain ⟨A2, c2, rfl, _⟩ := i2
   have HKp : Hid (∀ W, Below wq.heap.size wq W → W.cell? ⟨w.heap.size, 0, none⟩ = some (.int .i64 g.fn) ∧ W.cell? ⟨w.heap.size, 1, none⟩ = some (.int .i64 g.pc) ∧ W.cell? ⟨w.heap.size, 2, none⟩ = some (.int .i64 g.slots) ∧ W.cell? ⟨w.heap.size, 3, none⟩ = some (.slice An g.nodes.length cn) ∧ W.cell? ⟨w.heap.size, 4, none⟩ = some (.slice (some ⟨bb, ob, none⟩) g.blocks.length cb) ∧ W.cell? ⟨w.heap.size, 5, none⟩ = some (.slice As g.states.length cs) ∧ W.cell? ⟨bb, ob + k * 6, none⟩ = some (.slice A0 x.nodes.length c0) ∧ W.cell? ⟨bb, ob + k * 6 + 2, none⟩ = some (.slice A2 x.args.length c2) ∧ W.cell? ⟨bb, ob + k * 6 + 5, none⟩ = some (.int .i64 x.state)) := Lib.hid (fun W hW => by
    obtain ⟨q0, q1, q2, q3, q4, q5⟩ := (HM.out.below hW).gr.cells
    have hbw : bb < wq.heap.size := Nat.lt_of_lt_of_le hbb HM.out.low.size
    exact ⟨q0, q1, q2, q3, q4, q5, (hW.cell (p := ⟨bb, ob + k * 6, none⟩) hbw).trans f0, (hW.cell (p := ⟨bb, ob + k * 6 + 2, none⟩) hbw).trans f2, (hW.cell (p := ⟨bb, ob + k * 6 + 5, none⟩) hbw).trans f5⟩)
   have hbd : Below W0.heap.size W0 wq.drew := HB.out.trans ((Below.refl _ wq).drew.mono HB.out.size)
   have hE := HEd.out k x hx
   have hc := uses16_any wq.drew ⟨.slice An g.nodes.length cn, .slice (some ⟨bb, ob, none⟩) g.blocks.length cb, .slice As g.states.length cs⟩ g (.slice Ap g.nodes.length cp) av (.slice A2 x.args.length c2) P (above_ g) x.args x.state k x.nodes.length (HM.out.below (Below.refl _ _).drew).gr.graph ((PlacesV.keep2 HPl.out (Same.of_below hbd)).mono2 hbd.size) ((RowsV.keep HAv.out (Same.of_below hbd)).mono hbd.size) ((HI2.out.keep (Same.of_below ((Below.refl _ wq).drew.mono HM.out.low.size))).mono HM.out.low.size) (by unfold above_; simpa using hlt) (by rw [hpl]; exact hE.args) hE.state.2 (by rw [hpl]; exact fun a ha => (slots_in HSt.out x.state a ha).2)
   rw [E0.out] at hc
   have HC := Lib.hid hc
   have HSa : Hid ((fun W : World => W.cell? ⟨w.heap.size, 0, none⟩ = some (.int .i64 g.fn) ∧ W.cell? ⟨w.heap.size, 1, none⟩ = some (.int .i64 g.pc) ∧ W.cell? ⟨w.heap.size, 2, none⟩ = some (.int .i64 g.slots) ∧ W.cell? ⟨w.heap.size, 3, none⟩ = some (.slice An g.nodes.length cn) ∧ W.cell? ⟨w.heap.size, 4, none⟩ = some (.slice (some ⟨bb, ob, none⟩) g.blocks.length cb) ∧ W.cell? ⟨w.heap.size, 5, none⟩ = some (.slice As g.states.length cs) ∧ W.cell? ⟨bb, ob + k * 6, none⟩ = some (.slice A0 x.nodes.length c0) ∧ W.cell? ⟨bb, ob + k * 6 + 2, none⟩ = some (.slice A2 x.args.length c2) ∧ W.cell? ⟨bb, ob + k * 6 + 5, none⟩ = some (.int .i64 x.state)) wq.drew) := Lib.hid (HKp.out wq.drew (Below.refl _ _).drew)
   clear hc hx hE hbd
   go_upto_region 44 with fail
   clear q0 q1 q2 q3 q4 q5 ql f0 f2 f5
   refine wp_region_H2 (fun W : World => W.cell? ⟨w.heap.size, 0, none⟩ = some (.int .i64 g.fn) ∧ W.cell? ⟨w.heap.size, 1, none⟩ = some (.int .i64 g.pc) ∧ W.cell? ⟨w.heap.size, 2, none⟩ = some (.int .i64 g.slots) ∧ W.cell? ⟨w.heap.size, 3, none⟩ = some (.slice An g.nodes.length cn) ∧ W.cell? ⟨w.heap.size, 4, none⟩ = some (.slice (some ⟨bb, ob, none⟩) g.blocks.length cb) ∧ W.cell? ⟨w.heap.size, 5, none⟩ = some (.slice As g.states.length cs) ∧ W.cell? ⟨bb, ob + k * 6, none⟩ = some (.slice A0 x.nodes.length c0) ∧ W.cell? ⟨bb, ob + k * 6 + 2, none⟩ = some (.slice A2 x.args.length c2) ∧ W.cell? ⟨bb, ob + k * 6 + 5, none⟩ = some (.int .i64 x.state)) (by kernel_rfl) HSa.out (fun HSn => ?_)
   clear HSn
   refine tkL 0 rfl (fun c a w h => HPan.out c _ _ a w h) HSa.out ?_
   try simp only [Act.put, List.setIfInBounds_toArray, List.set_cons_zero, List.set_cons_succ]
   refine tkL 1 rfl (fun c a w h => HPan.out c _ _ a w h) HSa.out ?_
   try simp only [Act.put, List.setIfInBounds_toArray, List.set_cons_zero, List.set_cons_succ]
   refine tkL 2 rfl (fun c a w h => HPan.out c _ _ a w h) HSa.out ?_
   try simp only [Act.put, List.setIfInBounds_toArray, List.set_cons_zero, List.set_cons_succ]
   refine tkL 3 rfl (fun c a w h => HPan.out c _ _ a w h) HSa.out ?_
   try simp only [Act.put, List.setIfInBounds_toArray, List.set_cons_zero, List.set_cons_succ]
   refine tkL 4 rfl (fun c a w h => HPan.out c _ _ a w h) HSa.out ?_
   try simp only [Act.put, List.setIfInBounds_toArray, List.set_cons_zero, List.set_cons_succ]
   refine tkL 5 rfl (fun c a w h => HPan.out c _ _ a w h) HSa.out ?_
   try simp only [Act.put, List.setIfInBounds_toArray, List.set_cons_zero, List.set_cons_succ]
   refine tkL 6 rfl (fun c a w h => HPan.out c _ _ a w h) HSa.out ?_
   try simp only [Act.put, List.setIfInBounds_toArray, List.set_cons_zero, List.set_cons_succ]
   refine tkL 7 rfl (fun c a w h => HPan.out c _ _ a w h) HSa.out ?_
   try simp only [Act.put, List.setIfInBounds_toArray, List.set_cons_zero, List.set_cons_succ]
   refine tkL 8 rfl (fun c a w h => HPan.out c _ _ a w h) HSa.out ?_
   try simp only [Act.put, List.setIfInBounds_toArray, List.set_cons_zero, List.set_cons_succ]
   refine tkL 9 rfl (fun c a w h => HPan.out c _ _ a w h) HSa.out ?_
   try simp only [Act.put, List.setIfInBounds_toArray, List.set_cons_zero, List.set_cons_succ]
   refine tkL 10 rfl (fun c a w h => HPan.out c _ _ a w h) HSa.out ?_
   try simp only [Act.put, List.setIfInBounds_toArray, List.set_cons_zero, List.set_cons_succ]
   refine tkL 11 rfl (fun c a w h => HPan.out c _ _ a w h) HSa.out ?_
   try simp only [Act.put, List.setIfInBounds_toArray, List.set_cons_zero, List.set_cons_succ]
   refine tkL 12 rfl (fun c a w h => HPan.out c _ _ a w h) HSa.out ?_
   try simp only [Act.put, List.setIfInBounds_toArray, List.set_cons_zero, List.set_cons_succ]
   refine tkL 13 rfl (fun c a w h => HPan.out c _ _ a w h) HSa.out ?_
   try simp only [Act.put, List.setIfInBounds_toArray, List.set_cons_zero, List.set_cons_succ]
   refine tkL 14 rfl (fun c a w h => HPan.out c _ _ a w h) HSa.out ?_
   try simp only [Act.put, List.setIfInBounds_toArray, List.set_cons_zero, List.set_cons_succ]
   refine tkL 15 rfl (fun c a w h => HPan.out c _ _ a w h) HSa.out ?_
   try simp only [Act.put, List.setIfInBounds_toArray, List.set_cons_zero, List.set_cons_succ]
   refine tkL 16 rfl (fun c a w h => HPan.out c _ _ a w h) HSa.out ?_
   try simp only [Act.put, List.setIfInBounds_toArray, List.set_cons_zero, List.set_cons_succ]
   refine tkL 17 rfl (fun c a w h => HPan.out c _ _ a w h) HSa.out ?_
   try simp only [Act.put, List.setIfInBounds_toArray, List.set_cons_zero, List.set_cons_succ]
   refine tkL 18 rfl (fun c a w h => HPan.out c _ _ a w h) HSa.out ?_
   try simp only [Act.put, List.setIfInBounds_toArray, List.set_cons_zero, List.set_cons_succ]
   refine tkL 19 rfl (fun c a w h => HPan.out c _ _ a w h) HSa.out ?_
   try simp only [Act.put, List.setIfInBounds_toArray, List.set_cons_zero, List.set_cons_succ]
   refine tkL 20 rfl (fun c a w h => HPan.out c _ _ a w h) HSa.out ?_
   try simp only [Act.put, List.setIfInBounds_toArray, List.set_cons_zero, List.set_cons_succ]
   refine tkL 21 rfl (fun c a w h => HPan.out c _ _ a w h) HSa.out ?_
   try simp only [Act.put, List.setIfInBounds_toArray, List.set_cons_zero, List.set_cons_succ]
   refine tkL 22 rfl (fun c a w h => HPan.out c _ _ a w h) HSa.out ?_
   try simp only [Act.put, List.setIfInBounds_toArray, List.set_cons_zero, List.set_cons_succ]
   refine tkL 23 rfl (fun c a w h => HPan.out c _ _ a w h) HSa.out ?_
   try simp only [Act.put, List.setIfInBounds_toArray, List.set_cons_zero, List.set_cons_succ]
   refine wpAnyH_ready (rs := [24]) (by kernel_rfl) (by simp) (AllReadyH_consL (o := _) rfl (fun K hK => ?_) AllReadyH.nil)
   go_simp
   (go_at_call 26; (with_reducible refine Calls.mono HC.out ?_); rintro e w4 ⟨⟨t4, rfl, ht4⟩, hb4⟩; have HT4 := Lib.hid ht4; have HB4 : Hid (Below wq.heap.size wq w4) := Lib.hid ((Below.refl _ _).drew.trans hb4); clear ht4 hb4)
   try go_wp2_with fail
   have HSb : Hid ((fun W : World => W.cell? ⟨w.heap.size, 0, none⟩ = some (.int .i64 g.fn) ∧ W.cell? ⟨w.heap.size, 1, none⟩ = some (.int .i64 g.pc) ∧ W.cell? ⟨w.heap.size, 2, none⟩ = some (.int .i64 g.slots) ∧ W.cell? ⟨w.heap.size, 3, none⟩ = some (.slice An g.nodes.length cn) ∧ W.cell? ⟨w.heap.size, 4, none⟩ = some (.slice (some ⟨bb, ob, none⟩) g.blocks.length cb) ∧ W.cell? ⟨w.heap.size, 5, none⟩ = some (.slice As g.states.length cs) ∧ W.cell? ⟨bb, ob + k * 6, none⟩ = some (.slice A0 x.nodes.length c0) ∧ W.cell? ⟨bb, ob + k * 6 + 2, none⟩ = some (.slice A2 x.args.length c2) ∧ W.cell? ⟨bb, ob + k * 6 + 5, none⟩ = some (.int .i64 x.state)) w4) := Lib.hid (HKp.out _ HB4.out)
   refine hK.out _ _ HSb.out (fun HSn => ?_)
   clear hK K HSn
   try simp only [Act.put, List.setIfInBounds_toArray, List.set_cons_zero, List.set_cons_succ]
   refine tkL 25 rfl (fun c a w h => HPan.out c _ _ a w h) HSb.out ?_
   try simp only [Act.put, List.setIfInBounds_toArray, List.set_cons_zero, List.set_cons_succ]
   refine wpAnyH_done (by kernel_rfl) ?_ _
   cases t4
   ·go_wp2_with fail
    refine HRet.out _ _ ?_
    go_ret
    exact ⟨8, rfl, fun h => absurd h (by decide), (HM.out.below HB4.out).low⟩
   ·go_wp2_with fail
    go_roundw
    case rel => exact ⟨k + 1, by omega, by go_num, Lib.hid (HB.out.trans (HB4.out.mono HB.out.size)), Lib.hid (fun b x' hb hx' => by
     rcases Nat.lt_or_ge b k with h | h
     ·exact HA.out b x' h hx'
     ·obtain rfl : b = k := by omega
      rw [HX.out] at hx'; injection hx' with hx'; subst hx'
      exact HT4.out (by first | trivial | rfl))⟩
    case measure => simp [intOf]; omega
  ·go_wp2_with fail
   exact HEx.out _ _ _ _ _ _ _ _ _ _ _ _ _ _ _ _ _ _ _ _ _ _ _ _ _ _ _ _ _ _ _ _ _ _ _ _ ⟨HB.out, fun b x hx => HA.out b x (by have := (List.getElem?_eq_some_iff.1 hx).1; omega) hx⟩
end Go.Proofs.YtkmfdiboekoioaaGreat
