/- The walk of the loop of live.Of that puts what a block's nodes use into a set. Conditions: a graph that is small. -/
import Derived.Test.YtkmfdiboekoioaaGreatCLoop5
import Derived.Deep.RegionHeld3
set_option linter.unusedSimpArgs false
set_option linter.unusedVariables false
namespace Go.Proofs.YtkmfdiboekoioaaGreat
open Go.RowKit
theorem sevenB {w w' : World} (a0 a1 a2 a3 a4 a5 a6 : Addr) {v0 v1 v2 v3 v4 v5 v6 : Value} (h : w.cell? a0 = some v0 ∧ w.cell? a1 = some v1 ∧ w.cell? a2 = some v2 ∧ w.cell? a3 = some v3 ∧ w.cell? a4 = some v4 ∧ w.cell? a5 = some v5 ∧ w.cell? a6 = some v6) (hb : Below w.heap.size w w') :
  w'.cell? a0 = some v0 ∧ w'.cell? a1 = some v1 ∧ w'.cell? a2 = some v2 ∧ w'.cell? a3 = some v3 ∧ w'.cell? a4 = some v4 ∧ w'.cell? a5 = some v5 ∧ w'.cell? a6 = some v6 := by
 have k : ∀ {a : Addr} {v : Value}, w.cell? a = some v → w'.cell? a = some v := fun h => (hb.cell (World.block_lt_of_cell? w _ h)).trans h
 exact ⟨k h.1, k h.2.1, k h.2.2.1, k h.2.2.2.1, k h.2.2.2.2.1, k h.2.2.2.2.2.1, k h.2.2.2.2.2.2⟩
theorem sevenG {w w' : World} {r : Nat} {p q : ISet} (a0 a1 a2 a3 a4 a5 a6 : Addr) {v0 v1 v2 v3 v4 v5 v6 : Value} (h : w.cell? a0 = some v0 ∧ w.cell? a1 = some v1 ∧ w.cell? a2 = some v2 ∧ w.cell? a3 = some v3 ∧ w.cell? a4 = some v4 ∧ w.cell? a5 = some v5 ∧ w.cell? a6 = some v6) (hp : SetM w r p) (hq : SetM w' r q) (hg : w.grownBy w' (some r)) :
  w'.cell? a0 = some v0 ∧ w'.cell? a1 = some v1 ∧ w'.cell? a2 = some v2 ∧ w'.cell? a3 = some v3 ∧ w'.cell? a4 = some v4 ∧ w'.cell? a5 = some v5 ∧ w'.cell? a6 = some v6 := by
 have k : ∀ {a : Addr} {v : Value}, w.cell? a = some v → w'.cell? a = some v := fun h => grown_cell hp hq hg h
 exact ⟨k h.1, k h.2.1, k h.2.2.1, k h.2.2.2.1, k h.2.2.2.2.1, k h.2.2.2.2.2.1, k h.2.2.2.2.2.2⟩
noncomputable def loop4 : Code := ((Tryz.f15.body.map loopsOf).getD []).getD 3 .skip

set_option maxRecDepth 100000 in
set_option maxHeartbeats 4000000 in
theorem loop4_any (w : World) (B r bx : Nat) (p : ISet) (xv : GVals) (g : GraphP) (x : BlockP) (A : Option Addr) (c : Nat) (hs : Small g) (hset : SetM w r p) (hl : IntsV w w.heap.size (.slice A x.nodes.length c) x.nodes) (hctx : GCtx w B bx xv g)
  (u0 u2 u3 u4 u6 u7 u8 u9 u10 u11 u12 u13 u15 u16 u17 u18 u19 u20 u21 u22 u23 u24 u25 u26 u27 u28 u29 u30 u31 u32 u33 u34 u35 u36 u37 u38 u39 u40 u41 u42 u43 u44 u45 u46 u47 u48 u49 u50 u51 u52 u53 u54 u55 u56 u57 u58 u59 u60 u61 u62 u63 u64 u65 u66 u67 u68 u69 u70 u71 u72 u73 u74 u75 u76 u77 u78 u79 u80 u81 u82 u83 u84 u85 u86 u87 u88 u89 u90 u91 u92 u93 u94 u95 u96 u100 u101 u102 u103 u104 u105 u106 u107 u108 u109 u110 u111 u112 u113 u114 u115 u116 u117 u118 u119 u120 u121 u122 u123 u124 u125 u126 u127 u128 u129 u130 u131 u132 u133 u134 u135 u136 u137 u138 u139 u140 u141 u142 u143 u144 u145 u146 u147 u148 u149 u150 u151 u152 u153 u154 u155 u156 u157 u158 u159 u160 u161 u162 u163 u164 u165 u166 u167 u168 u169 u170 u171 u172 u173 u174 u175 u176 u177 u178 u179 u180 u181 u182 u183 u184 u185 u186 u187 u188 u189 u190 u191 u192 u193 u194 u195 u196 u197 u198 u199 u200 u201 u202 u203 u204 u205 u206 u207 u208 u209 u210 u211 u212 : Value) (Q : Exit → Act → World → Prop)
  (hexit : ∀ (x16 x99 x100 x101 x102 x103 x104 x105 x106 x107 x108 x109 x110 x111 x112 x113 x114 x115 x116 x117 x118 x119 x120 x121 x122 x123 x124 x125 x126 x127 x128 x129 x130 x131 x132 x133 x134 x135 x136 x137 x138 x139 x140 x141 : Value) (w' : World), (SetM w' r (usesTo g x p x.nodes.length) ∧ w.grownBy w' (some r)) → Q (.exit 6) ⟨#[u0, .pointer (some ⟨bx, 0, none⟩), u2, u3, u4, .func (.func 50) #[] #[.pointer (some ⟨bx, 0, none⟩)], u6, u7, u8, u9, u10, u11, u12, u13, .map (some r), u15, x16, u17, u18, u19, u20, u21, u22, u23, u24, u25, u26, u27, u28, u29, u30, u31, u32, u33, u34, u35, u36, u37, u38, u39, u40, u41, u42, u43, u44, u45, u46, u47, u48, u49, u50, u51, u52, u53, u54, u55, u56, u57, u58, u59, u60, u61, u62, u63, u64, u65, u66, u67, u68, u69, u70, u71, u72, u73, u74, u75, u76, u77, u78, u79, u80, u81, u82, u83, u84, u85, u86, u87, u88, u89, u90, u91, u92, u93, u94, u95, u96, .slice A x.nodes.length c, .int .i64 x.nodes.length, x99, x100, x101, x102, x103, x104, x105, x106, x107, x108, x109, x110, x111, x112, x113, x114, x115, x116, x117, x118, x119, x120, x121, x122, x123, x124, x125, x126, x127, x128, x129, x130, x131, x132, x133, x134, x135, x136, x137, x138, x139, x140, x141, u142, u143, u144, u145, u146, u147, u148, u149, u150, u151, u152, u153, u154, u155, u156, u157, u158, u159, u160, u161, u162, u163, u164, u165, u166, u167, u168, u169, u170, u171, u172, u173, u174, u175, u176, u177, u178, u179, u180, u181, u182, u183, u184, u185, u186, u187, u188, u189, u190, u191, u192, u193, u194, u195, u196, u197, u198, u199, u200, u201, u202, u203, u204, u205, u206, u207, u208, u209, u210, u211, u212], []⟩ w') :
  Code.wp Tryz.prog (Code.loop loop4) Q ⟨#[u0, .pointer (some ⟨bx, 0, none⟩), u2, u3, u4, .func (.func 50) #[] #[.pointer (some ⟨bx, 0, none⟩)], u6, u7, u8, u9, u10, u11, u12, u13, .map (some r), u15, u16, u17, u18, u19, u20, u21, u22, u23, u24, u25, u26, u27, u28, u29, u30, u31, u32, u33, u34, u35, u36, u37, u38, u39, u40, u41, u42, u43, u44, u45, u46, u47, u48, u49, u50, u51, u52, u53, u54, u55, u56, u57, u58, u59, u60, u61, u62, u63, u64, u65, u66, u67, u68, u69, u70, u71, u72, u73, u74, u75, u76, u77, u78, u79, u80, u81, u82, u83, u84, u85, u86, u87, u88, u89, u90, u91, u92, u93, u94, u95, u96, .slice A x.nodes.length c, .int .i64 x.nodes.length, .int .i64 0, u100, u101, u102, u103, u104, u105, u106, u107, u108, u109, u110, u111, u112, u113, u114, u115, u116, u117, u118, u119, u120, u121, u122, u123, u124, u125, u126, u127, u128, u129, u130, u131, u132, u133, u134, u135, u136, u137, u138, u139, u140, u141, u142, u143, u144, u145, u146, u147, u148, u149, u150, u151, u152, u153, u154, u155, u156, u157, u158, u159, u160, u161, u162, u163, u164, u165, u166, u167, u168, u169, u170, u171, u172, u173, u174, u175, u176, u177, u178, u179, u180, u181, u182, u183, u184, u185, u186, u187, u188, u189, u190, u191, u192, u193, u194, u195, u196, u197, u198, u199, u200, u201, u202, u203, u204, u205, u206, u207, u208, u209, u210, u211, u212], []⟩ w := by
 have HSet := Lib.hid hset; have HL := Lib.hid hl; have HC := Lib.hid hctx
 have hlim : x.nodes.length ≤ 17592186044416 := by obtain ⟨_, _, _, _, hlc, _⟩ := hl; unfold lim at hlc; omega
 obtain ⟨l1, l2, l3⟩ := hs.lens
 obtain ⟨vn, vb, vs⟩ := xv
 obtain ⟨An, cn, en, _, _, _⟩ := hctx.gr.1
 simp only at en
 subst en
 have hNl : g.nodes.length ≤ lim := by unfold lim; omega
 clear hset hl hctx
 conv => arg 2; arg 1; whnf
 dsimp only
 go_loopw [99] (fun i wr => ∃ k : Nat, k ≤ x.nodes.length ∧ i = .int .i64 k ∧ SetM wr r (usesTo g x p k) ∧ w.grownBy wr (some r)) (fun i _ => x.nodes.length - (intOf i).toNat)
 case atStart => exact ⟨0, Nat.zero_le _, rfl, HSet.out, World.grownBy.refl _ _⟩
 case round =>
  obtain ⟨k, hk, rfl, hsr, hg⟩ := hrel
  have HS := Lib.hid hsr; have HG := Lib.hid hg
  have hcr := HC.out.turn HSet.out hsr hg
  have HCR := Lib.hid hcr
  clear hsr hg
  obtain ⟨q0, q1, q2, q3, q4, q5⟩ := hcr.cells
  simp only at q3 q4 q5
  by_cases hlt : k < x.nodes.length
  ·obtain ⟨b, off, rfl, hbB, hp⟩ := (grown_ints HSet.out HS.out HG.out (Nat.le_refl _) HL.out).cells hlt
   obtain ⟨z, hz⟩ := getE hlt
   have f0 := hp k z hz
   have HZ := Lib.hid hz
   clear hp hz
   by_cases h0 : z < 0
   ·clear hcr
    go_wp2_with fail
    go_roundw
    case rel => exact ⟨k + 1, by omega, by go_num, by rw [usesTo_step g x p k z HZ.out, nodeUse_none (nodeAt_neg h0)]; exact HS.out, HG.out⟩
    case measure => simp [intOf]; omega
   ·obtain ⟨zk, rfl⟩ := Int.eq_ofNat_of_zero_le (Int.not_lt.1 h0)
    by_cases h1 : zk < g.nodes.length
    ·obtain ⟨An', cn', en, _, _, hpn⟩ := hcr.gr.1
     simp only at en
     obtain ⟨bm, offm, hAm, hbmB, hpm⟩ := hpn (by omega)
     injection en with en1 en2 en3
     subst en1 hAm
     obtain ⟨y, hy⟩ := getE h1
     obtain ⟨g0, ⟨vg, g1, hvg⟩, g2, g3, g4⟩ := hpm zk y hy
     have HVG := Lib.hid (hvg.mono HCR.out.hB)
     obtain ⟨Ag, cg, rfl, _, _, _⟩ := hvg
     have HY := Lib.hid hy
     clear hy hpm hpn hcr en3
     by_cases hop : y.op = 2
     ·rw [hop] at g0
      have HOP := Lib.hid hop; clear hop
      go_wp2_with fail
      go_roundw
      case rel => exact ⟨k + 1, by omega, by go_num, by rw [usesTo_step g x p k _ HZ.out, nodeUse_phi ((nodeAt_nat g zk).trans HY.out) HOP.out]; exact HS.out, HG.out⟩
      case measure => simp [intOf]; omega
     ·have hopb : (y.op != 2) = true := by simp [hop]
      have HOP := Lib.hid hop; clear hop
      go_upto_region 28 with (go_at_call 50; refine (put_any _ r _ _ y.args bx _ g.nodes.length cn HS.out HVG.out q3 hNl).mono ?_; rintro e w1 ⟨rfl, hm1, hg1⟩)
      have hc1 := HCR.out.turn HS.out hm1 hg1
      have HM1 := Lib.hid hm1; have HG1 := Lib.hid hg1; have HC1 := Lib.hid hc1
      have g0' := grown_cell HS.out hm1 hg1 g0
      have g4' := grown_cell HS.out hm1 hg1 g4
      clear q0 q1 q2 q3 q4 q5 g0 g1 g2 g3 g4 hm1 hg1
      obtain ⟨q0, q1, q2, q3, q4, q5⟩ := hc1.cells
      simp only at q3 q4 q5
      clear hc1
      have hS1 : w1.drew.cell? ⟨bx, 0, none⟩ = some (.int .i64 g.fn) ∧ w1.drew.cell? ⟨bx, 1, none⟩ = some (.int .i64 g.pc) ∧ w1.drew.cell? ⟨bx, 2, none⟩ = some (.int .i64 g.slots) ∧ w1.drew.cell? ⟨bx, 3, none⟩ = some (.slice (some ⟨bm, offm, none⟩) g.nodes.length cn) ∧ w1.drew.cell? ⟨bx, 4, none⟩ = some vb ∧ w1.drew.cell? ⟨bx, 5, none⟩ = some vs ∧ w1.drew.cell? ⟨bm, offm + zk * 5 + 4, none⟩ = some (.int .i64 y.state) := ⟨q0, q1, q2, q3, q4, q5, g4'⟩
      have HS1 := Lib.hid hS1
      clear q0 q1 q2 q3 q4 q5 g4' g0'
      go_region_held3 (fun W => W.cell? ⟨bx, 0, none⟩ = some (.int .i64 g.fn) ∧ W.cell? ⟨bx, 1, none⟩ = some (.int .i64 g.pc) ∧ W.cell? ⟨bx, 2, none⟩ = some (.int .i64 g.slots) ∧ W.cell? ⟨bx, 3, none⟩ = some (.slice (some ⟨bm, offm, none⟩) g.nodes.length cn) ∧ W.cell? ⟨bx, 4, none⟩ = some vb ∧ W.cell? ⟨bx, 5, none⟩ = some vs ∧ W.cell? ⟨bm, offm + zk * 5 + 4, none⟩ = some (.int .i64 y.state)) (first | exact hS1 | exact hS2 | exact hS3) (first | (go_at_call 54; refine (slots_any ⟨.slice (some ⟨bm, offm, none⟩) g.nodes.length cn, vb, vs⟩ g y.state w1.drew HC1.out.graph).mono ?_; rintro e w2 ⟨v2, rfl, hv2, hb2⟩; have hS2 := sevenB _ _ _ _ _ _ _ HS1.out hb2; have HV2 := Lib.hid (hv2.mono hb2.size); have HB2 := Lib.hid hb2; have HM2 := Lib.hid (SetM.below (w := w1.drew) HM1.out hb2); clear hv2 hb2) | (go_at_call 50; refine (put_any w2 r _ v2 (slotsOf g y.state) bx (some ⟨bm, offm, none⟩) g.nodes.length cn HM2.out HV2.out hS2.2.2.2.1 hNl).mono ?_; rintro e w3 ⟨rfl, hm3, hg3⟩; have hS3 := sevenG _ _ _ _ _ _ _ hS2 HM2.out hm3 hg3))
      have HM3 := Lib.hid hm3; have HG3 := Lib.hid hg3
      clear hS1 hS2 hS3 hm3 hg3
      go_wp2_with fail
      go_roundw
      case rel =>
       refine ⟨k + 1, by omega, by go_num, ?_, ((HG.out.trans HG1.out).trans (grown_undrew (grown_of_below (w := w1.drew) HB2.out _))).trans HG3.out⟩
       rw [usesTo_step g x p k _ HZ.out, nodeUse_some ((nodeAt_nat g zk).trans HY.out) HOP.out]; exact HM3.out
      case measure => simp [intOf]; omega
    ·clear hcr
     go_wp2_with fail
     go_roundw
     case rel => exact ⟨k + 1, by omega, by go_num, by rw [usesTo_step g x p k _ HZ.out, nodeUse_none ((nodeAt_nat g zk).trans (List.getElem?_eq_none (by omega)))]; exact HS.out, HG.out⟩
     case measure => simp [intOf]; omega
  ·clear hcr
   go_wp2_with fail
   refine ⟨?_, HG.out⟩
   have := HS.out
   rwa [show k = x.nodes.length from by omega] at this

end Go.Proofs.YtkmfdiboekoioaaGreat

/- The walk of the loop of live.Of that puts what is live at the beginnings of the blocks behind into a set. Conditions: a graph that is small. -/
namespace Go.Proofs.YtkmfdiboekoioaaGreat
open Go.RowKit
noncomputable def loop3 : Code := ((Tryz.f15.body.map loopsOf).getD []).getD 2 .skip

/-- A row of sets, none yet or made. -/
def SRows (w : World) (b : Nat) (I : Sets) (n : Nat) : Prop :=
 ∃ ms : List (Option Nat), ms.length = n ∧ Blk w b 95 ((ms.map Value.map).toArray) ∧ ∀ j m, ms[j]? = some m → (m = none ∧ I j = none) ∨ ∃ r p, m = some r ∧ I j = some p ∧ SetM w r p
theorem SRows.start {w : World} {b n : Nat} (h : Blk w b 95 (madeCells #[.map none] n)) : SRows w b (fun _ => none) n := by
 refine ⟨List.replicate n none, by simp, ?_, fun j m h => ?_⟩
 ·have e : madeCells #[Value.map none] n = ((List.replicate n none).map Value.map).toArray := by
   apply Array.ext
   ·simp [madeCells]
   ·intro i h1 h2
    simp [madeCells, Nat.mod_one]
  rw [← e]; exact h
 ·have := List.mem_of_getElem? h
  exact .inl ⟨List.eq_of_mem_replicate this, rfl⟩
theorem SRows.below {w w' : World} {b n : Nat} {I : Sets} (h : SRows w b I n) (hb : Below w.heap.size w w') : SRows w' b I n := by
 obtain ⟨ms, hl, hk, hm⟩ := h
 refine ⟨ms, hl, hk.below hb hk.lt, fun j m hj => ?_⟩
 rcases hm j m hj with h | ⟨r, p, h1, h2, h3⟩
 ·exact .inl h
 ·exact .inr ⟨r, p, h1, h2, h3.below hb⟩
theorem SRows.far {w : World} {b n : Nat} {I : Sets} (h : SRows w b I n) {a : Addr} (ha : b ≠ a.block) (u : Value) : SRows (w.setCell a u) b I n := by
 obtain ⟨ms, hl, hk, hm⟩ := h
 refine ⟨ms, hl, hk.far ha u, fun j m hj => ?_⟩
 rcases hm j m hj with h | ⟨r, p, h1, h2, h3⟩
 ·exact .inl h
 ·exact .inr ⟨r, p, h1, h2, h3.setCell _ _⟩
theorem SRows.put {w : World} {b n k r : Nat} {I : Sets} {p : ISet} (h : SRows w b I n) (hk : k < n) (hr : SetM w r p) : SRows (w.setCell ⟨b, k, none⟩ (.map (some r))) b (I.put k p) n := by
 obtain ⟨ms, hl, hb, hm⟩ := h
 refine ⟨ms.set k (some r), by simpa using hl, ?_, fun j m hj => ?_⟩
 ·have := hb.set_ k (.map (some r))
  simpa [List.map_set] using this
 ·rw [List.getElem?_set] at hj
  by_cases e : k = j
  ·subst e
   simp only [if_true] at hj
   rw [if_pos (by omega)] at hj
   injection hj with hj
   exact .inr ⟨r, p, hj.symm, by simp [Sets.put], hr.setCell _ _⟩
  ·simp only [e, if_false] at hj
   rw [Sets.put_other I p (Ne.symm e)]
   rcases hm j m hj with h | ⟨r', p', h1, h2, h3⟩
   ·exact .inl h
   ·exact .inr ⟨r', p', h1, h2, h3.setCell _ _⟩
theorem SRows.get {w : World} {b n k : Nat} {I : Sets} (h : SRows w b I n) (hk : k < n) : ∃ m, w.cell? ⟨b, k, none⟩ = some (.map m) ∧ ((m = none ∧ I k = none) ∨ ∃ r p, m = some r ∧ I k = some p ∧ SetM w r p) := by
 obtain ⟨ms, hl, hb, hm⟩ := h
 obtain ⟨m, hmk⟩ := getE (l := ms) (k := k) (by omega)
 refine ⟨m, ?_, hm k m hmk⟩
 rw [hb.cell k]
 simp [List.getElem?_map, hmk]
theorem SRows.frozen {w : World} {b n : Nat} {I : Sets} (h : SRows w b I n) (k : Nat) : w.frozen? ⟨b, k, none⟩ = false := by
 obtain ⟨ms, _, hb, _⟩ := h
 exact hb.frozen k


theorem phisOf_lim {g : GraphP} (hs : Small g) (x : BlockP) (b : Int) (hx : x.nodes.length ≤ 5000) : (phisOf g x b).length ≤ lim := by
 rw [← phisTo_all]
 have := phisTo_len hs x b x.nodes.length
 unfold lim; omega
theorem pairB {w w' : World} (a0 a1 : Addr) {v0 v1 : Value} (h : w.cell? a0 = some v0 ∧ w.cell? a1 = some v1) (hb : Below w.heap.size w w') : w'.cell? a0 = some v0 ∧ w'.cell? a1 = some v1 := by
 have k : ∀ {a : Addr} {v : Value}, w.cell? a = some v → w'.cell? a = some v := fun h => (hb.cell (World.block_lt_of_cell? w _ h)).trans h
 exact ⟨k h.1, k h.2⟩
/-- The list of a set that may be none yet. -/
theorem list_opt (w : World) (N k : Nat) (I : Sets) (m : Option Nat) (hm : (m = none ∧ I k = none) ∨ ∃ r p, m = some r ∧ I k = some p ∧ SetM w r p) (hb : Bounded N (I.at_ k)) (hN : N ≤ lim) :
  Calls Tryz.prog 52 #[.map m] w (ListIs N (I.at_ k) w) := by
 rcases hm with ⟨rfl, hI⟩ | ⟨r, p, rfl, hI, hset⟩
 ·refine (list_nil w).mono ?_
  rintro e w' ⟨v, he, ho, hb'⟩
  refine ⟨v, he, ?_, hb'⟩
  have e1 : I.at_ k = ISet.empty := by unfold Sets.at_; rw [hI]; rfl
  rw [e1, listOf_empty]
  exact ho
 ·rw [Sets.at_some hI] at hb ⊢
  exact list_any r N p w hset hb hN

set_option maxRecDepth 100000 in
set_option maxHeartbeats 4000000 in
theorem loop3_any (wp w : World) (B r bx bi : Nat) (I : Sets) (b : Int) (xv : GVals) (g : GraphP) (x : BlockP) (A : Option Addr) (c : Nat) (hs : Small g) (hrows : SRows wp bi I g.blocks.length) (hlow : Below wp.heap.size wp w) (hr : wp.heap.size ≤ r) (hset : SetM w r ISet.empty) (hl : IntsV w w.heap.size (.slice A x.next.length c) x.next) (hctx : GCtx w B bx xv g) (hbd : ∀ j, Bounded g.nodes.length (I.at_ j))
  (u0 u2 u4 u7 u8 u10 u12 u13 u14 u15 u16 u17 u18 u19 u20 u21 u22 u23 u24 u25 u26 u27 u28 u29 u30 u31 u32 u33 u34 u35 u36 u37 u38 u39 u40 u41 u42 u43 u44 u45 u46 u47 u48 u49 u50 u54 u55 u56 u57 u58 u59 u60 u61 u62 u63 u64 u65 u66 u67 u68 u69 u70 u71 u72 u73 u74 u75 u76 u77 u78 u79 u80 u81 u82 u83 u84 u85 u86 u87 u88 u89 u90 u91 u92 u93 u94 u95 u96 u97 u98 u99 u100 u101 u102 u103 u104 u105 u106 u107 u108 u109 u110 u111 u112 u113 u114 u115 u116 u117 u118 u119 u120 u121 u122 u123 u124 u125 u126 u127 u128 u129 u130 u131 u132 u133 u134 u135 u136 u137 u138 u139 u140 u141 u142 u143 u144 u145 u146 u147 u148 u149 u150 u151 u152 u153 u154 u155 u156 u157 u158 u159 u160 u161 u162 u163 u164 u165 u166 u167 u168 u169 u170 u171 u172 u173 u174 u175 u176 u177 u178 u179 u180 u181 u182 u183 u184 u185 u186 u187 u188 u189 u190 u191 u192 u193 u194 u195 u196 u197 u198 u199 u200 u201 u202 u203 u204 u205 u206 u207 u208 u209 u210 u211 u212 : Value) (Q : Exit → Act → World → Prop)
  (hexit : ∀ (x13 x53 x54 x55 x56 x57 x58 x59 x60 x61 x62 x63 x64 x65 x66 x67 x68 x69 x70 x71 x72 x73 x74 x75 x76 x77 x78 x79 x80 x81 : Value) (w' : World), (SetM w' r (outF g I b x) ∧ w.grownBy w' (some r)) → Q (.exit 4) ⟨#[u0, .pointer (some ⟨bx, 0, none⟩), u2, .slice (some ⟨bi, 0, none⟩) g.blocks.length g.blocks.length, u4, .func (.func 50) #[] #[.pointer (some ⟨bx, 0, none⟩)], .func (.func 51) #[] #[.pointer (some ⟨bx, 0, none⟩)], u7, u8, .int .i64 b, u10, .map (some r), u12, x13, u14, u15, u16, u17, u18, u19, u20, u21, u22, u23, u24, u25, u26, u27, u28, u29, u30, u31, u32, u33, u34, u35, u36, u37, u38, u39, u40, u41, u42, u43, u44, u45, u46, u47, u48, u49, u50, .slice A x.next.length c, .int .i64 x.next.length, x53, x54, x55, x56, x57, x58, x59, x60, x61, x62, x63, x64, x65, x66, x67, x68, x69, x70, x71, x72, x73, x74, x75, x76, x77, x78, x79, x80, x81, u82, u83, u84, u85, u86, u87, u88, u89, u90, u91, u92, u93, u94, u95, u96, u97, u98, u99, u100, u101, u102, u103, u104, u105, u106, u107, u108, u109, u110, u111, u112, u113, u114, u115, u116, u117, u118, u119, u120, u121, u122, u123, u124, u125, u126, u127, u128, u129, u130, u131, u132, u133, u134, u135, u136, u137, u138, u139, u140, u141, u142, u143, u144, u145, u146, u147, u148, u149, u150, u151, u152, u153, u154, u155, u156, u157, u158, u159, u160, u161, u162, u163, u164, u165, u166, u167, u168, u169, u170, u171, u172, u173, u174, u175, u176, u177, u178, u179, u180, u181, u182, u183, u184, u185, u186, u187, u188, u189, u190, u191, u192, u193, u194, u195, u196, u197, u198, u199, u200, u201, u202, u203, u204, u205, u206, u207, u208, u209, u210, u211, u212], []⟩ w') :
  Code.wp Tryz.prog (Code.loop loop3) Q ⟨#[u0, .pointer (some ⟨bx, 0, none⟩), u2, .slice (some ⟨bi, 0, none⟩) g.blocks.length g.blocks.length, u4, .func (.func 50) #[] #[.pointer (some ⟨bx, 0, none⟩)], .func (.func 51) #[] #[.pointer (some ⟨bx, 0, none⟩)], u7, u8, .int .i64 b, u10, .map (some r), u12, u13, u14, u15, u16, u17, u18, u19, u20, u21, u22, u23, u24, u25, u26, u27, u28, u29, u30, u31, u32, u33, u34, u35, u36, u37, u38, u39, u40, u41, u42, u43, u44, u45, u46, u47, u48, u49, u50, .slice A x.next.length c, .int .i64 x.next.length, .int .i64 0, u54, u55, u56, u57, u58, u59, u60, u61, u62, u63, u64, u65, u66, u67, u68, u69, u70, u71, u72, u73, u74, u75, u76, u77, u78, u79, u80, u81, u82, u83, u84, u85, u86, u87, u88, u89, u90, u91, u92, u93, u94, u95, u96, u97, u98, u99, u100, u101, u102, u103, u104, u105, u106, u107, u108, u109, u110, u111, u112, u113, u114, u115, u116, u117, u118, u119, u120, u121, u122, u123, u124, u125, u126, u127, u128, u129, u130, u131, u132, u133, u134, u135, u136, u137, u138, u139, u140, u141, u142, u143, u144, u145, u146, u147, u148, u149, u150, u151, u152, u153, u154, u155, u156, u157, u158, u159, u160, u161, u162, u163, u164, u165, u166, u167, u168, u169, u170, u171, u172, u173, u174, u175, u176, u177, u178, u179, u180, u181, u182, u183, u184, u185, u186, u187, u188, u189, u190, u191, u192, u193, u194, u195, u196, u197, u198, u199, u200, u201, u202, u203, u204, u205, u206, u207, u208, u209, u210, u211, u212], []⟩ w := by
 have HSet := Lib.hid hset; have HL := Lib.hid hl; have HC := Lib.hid hctx; have HR := Lib.hid hrows; have HLow := Lib.hid hlow; have HBd := Lib.hid hbd
 have hlim : x.next.length ≤ 17592186044416 := by obtain ⟨_, _, _, _, hlc, _⟩ := hl; unfold lim at hlc; omega
 obtain ⟨l1, l2, l3⟩ := hs.lens
 obtain ⟨vn, vb, vs⟩ := xv
 obtain ⟨An, cn, en, _, _, _⟩ := hctx.gr.1
 simp only at en
 subst en
 have hNl : g.nodes.length ≤ lim := by unfold lim; omega
 clear hset hl hctx hrows hlow hbd
 conv => arg 2; arg 1; whnf
 dsimp only
 go_loopw [53] (fun i wr => ∃ k : Nat, k ≤ x.next.length ∧ i = .int .i64 k ∧ SetM wr r (outTo g I b x k) ∧ w.grownBy wr (some r)) (fun i _ => x.next.length - (intOf i).toNat)
 case atStart => exact ⟨0, Nat.zero_le _, rfl, HSet.out, World.grownBy.refl _ _⟩
 case round =>
  obtain ⟨k, hk, rfl, hsr, hg⟩ := hrel
  have HS := Lib.hid hsr; have HG := Lib.hid hg
  have hcr := HC.out.turn HSet.out hsr hg
  have HCR := Lib.hid hcr
  have hlowr : Below wp.heap.size wp wr := HLow.out.grown hg HLow.out.size (fun q e => by injection e with e; omega)
  have HRR := Lib.hid (HR.out.below hlowr)
  clear hsr hg hlowr
  obtain ⟨q0, q1, q2, q3, q4, q5⟩ := hcr.cells
  simp only at q3 q4 q5
  clear hcr
  by_cases hlt : k < x.next.length
  ·obtain ⟨bn, offn, rfl, hbnB, hp⟩ := (grown_ints HSet.out HS.out HG.out (Nat.le_refl _) HL.out).cells hlt
   obtain ⟨z, hz⟩ := getE hlt
   have f0 := hp k z hz
   have HZ := Lib.hid hz
   clear hp hz
   obtain ⟨Ab, cb, eb, _, _, _⟩ := HCR.out.gr.2.1
   simp only at eb
   subst eb
   by_cases h0 : z < 0
   ·go_wp2_with fail
    go_roundw
    case rel => exact ⟨k + 1, by omega, by go_num, by rw [outTo_step g I b x k z HZ.out, outStep_none (blockAt_neg h0)]; exact HS.out, HG.out⟩
    case measure => simp [intOf]; omega
   ·obtain ⟨zk, rfl⟩ := Int.eq_ofNat_of_zero_le (Int.not_lt.1 h0)
    by_cases h1 : zk < g.blocks.length
    ·obtain ⟨m, hcell, hm⟩ := HRR.out.get h1
     obtain ⟨y, hy⟩ := getE h1
     have HY := Lib.hid hy; have HM := Lib.hid hm
     clear hy hm
     go_upto_region 18 with (first
      | (go_at_call 52; refine (list_opt wr g.nodes.length zk I m HM.out (HBd.out zk) hNl).mono ?_; rintro e w1 ⟨v1, rfl, ho1, hb1⟩; have HO1 := Lib.hid (ho1.ints (Nat.le_trans (listOf_len _ _) hNl)); have HB1 := Lib.hid hb1; have HS1 := Lib.hid (HS.out.below hb1); have q3' := (HCR.out.below hb1).cells.2.2.2.1; clear ho1 hb1)
      | (go_at_call 50; refine (put_any w1 r _ v1 (listOf g.nodes.length (I.at_ zk)) bx An g.nodes.length cn HS1.out HO1.out q3' hNl).mono ?_; rintro e w2 ⟨rfl, hm2, hg2⟩)
      | fail)
     have HM2 := Lib.hid hm2; have HG2 := Lib.hid hg2
     have hc2 := (HCR.out.below HB1.out).turn HS1.out hm2 hg2
     have HC2 := Lib.hid hc2
     clear q0 q1 q2 q3 q4 q5 q3' hm2 hg2
     obtain ⟨q0, q1, q2, q3, q4, q5⟩ := hc2.cells
     simp only at q3 q4 q5
     clear hc2
     have hS1 : w2.cell? ⟨bx, 3, none⟩ = some (.slice An g.nodes.length cn) ∧ w2.cell? ⟨bx, 4, none⟩ = some (.slice Ab g.blocks.length cb) := ⟨q3, q4⟩
     have HS1' := Lib.hid hS1
     clear q0 q1 q2 q3 q4 q5
     go_wp2_with (first | (go_at_call 51; refine (phis_any w2 ⟨.slice An g.nodes.length cn, .slice Ab g.blocks.length cb, vs⟩ g zk y b bx HC2.out.lt HC2.out.graph hs HY.out hS1.1 hS1.2).mono ?_; rintro e w3 ⟨v3, rfl, hv3, hb3⟩; have hS2 := pairB _ _ HS1'.out hb3; have HV3 := Lib.hid (hv3.ints (phisOf_lim hs y b (hs.block HY.out).1)); have HB3 := Lib.hid hb3; have HM3 := Lib.hid (SetM.below HM2.out hb3); clear hv3 hb3) | (go_at_call 50; refine (put_any w3 r _ v3 (phisOf g y b) bx An g.nodes.length cn HM3.out HV3.out hS2.1 hNl).mono ?_; rintro e w4 ⟨rfl, hm4, hg4⟩; have HM4 := Lib.hid hm4; have HG4 := Lib.hid hg4; clear hm4 hg4) | fail)
     go_roundw
     case rel =>
      refine ⟨k + 1, by omega, by go_num, ?_, (((HG.out.trans (grown_of_below HB1.out _)).trans HG2.out).trans (grown_of_below HB3.out _)).trans HG4.out⟩
      rw [outTo_step g I b x k _ HZ.out, outStep_some ((blockAt_nat g zk).trans HY.out), Int.toNat_natCast]; exact HM4.out
     case measure => simp [intOf]; omega
    ·go_wp2_with fail
     go_roundw
     case rel => exact ⟨k + 1, by omega, by go_num, by rw [outTo_step g I b x k _ HZ.out, outStep_none ((blockAt_nat g zk).trans (List.getElem?_eq_none (by omega)))]; exact HS.out, HG.out⟩
     case measure => simp [intOf]; omega
  ·go_wp2_with fail
   refine ⟨?_, HG.out⟩
   have := HS.out
   rwa [show k = x.next.length from by omega, outTo_all] at this

end Go.Proofs.YtkmfdiboekoioaaGreat

/- The walk of a pass of live.Of over the blocks. Conditions: a graph that is small. -/
namespace Go.Proofs.YtkmfdiboekoioaaGreat
open Go.RowKit
noncomputable def loop2 : Code := ((Tryz.f15.body.map loopsOf).getD []).getD 1 .skip

theorem nilEq (m : Option Nat) (W : World) : (binOp .eql 95 (.map m) (.map none)).run Tryz.prog W = .ok (.bool (m == none)) W := by
 cases m with
 | none => kernel_rfl
 | some r => kernel_rfl
theorem setF_empty : setF ISet.empty = FMap.none_ := rfl
structure LiveInv (w : World) (g : GraphP) (box : Array Value) (bi bo : Nat) (I O : Sets) (wr : World) : Prop where
 rI : SRows wr bi I g.blocks.length
 rO : SRows wr bo O g.blocks.length
 kG : Blk wr w.heap.size 28 box
 kL : Blk wr (w.heap.size + 1) 45 #[.slice none 0 0, .slice none 0 0]
 low : Below w.heap.size w wr
 grow : Grows g I O
theorem LiveInv.ctx {w wr : World} {g : GraphP} {xv : GVals} {bi bo : Nat} {I O : Sets} (h : LiveInv w g (gbox g xv) bi bo I O wr) (hg : GraphV w w.heap.size xv g) : GCtx wr w.heap.size w.heap.size xv g :=
 ⟨hg.keep (Same.of_below h.low), h.low.size, h.kG⟩
def Done (g : GraphP) (I O : Sets) (lo : Nat) : Prop := ∀ (b : Nat) x, lo ≤ b → g.blocks[b]? = some x → I b = some (inF g x (outF g I b x)) ∧ O b = some (outF g I b x)
def more (ch : Bool) : Nat := if ch then 1 else 0

theorem SRows.lt {w : World} {b n : Nat} {I : Sets} (h : SRows w b I n) : b < w.heap.size := by
 obtain ⟨ms, _, hb, _⟩ := h
 exact hb.lt
theorem LiveInv.later {w wr w' : World} {g : GraphP} {box : Array Value} {bi bo : Nat} {I O : Sets} (h : LiveInv w g box bi bo I O wr) (hb : Below wr.heap.size wr w') : LiveInv w g box bi bo I O w' :=
 ⟨h.rI.below hb, h.rO.below hb, h.kG.below hb h.kG.lt, h.kL.below hb h.kL.lt, h.low.trans (hb.mono h.low.size), h.grow⟩
theorem LiveInv.stored {w wr : World} {g : GraphP} {box : Array Value} {bi bo b rs ro : Nat} {I O : Sets} {x : BlockP} (h : LiveInv w g box bi bo I O wr) (hs : SetM wr rs (inF g x (outF g I (b : Int) x))) (ho : SetM wr ro (outF g I (b : Int) x))
  (hne : bi ≠ bo) (hbi : w.heap.size + 2 ≤ bi) (hbo : w.heap.size + 2 ≤ bo) (hx : g.blocks[b]? = some x) :
  LiveInv w g box bi bo (I.put b (inF g x (outF g I (b : Int) x))) (O.put b (outF g I (b : Int) x)) ((wr.setCell ⟨bi, b, none⟩ (.map (some rs))).setCell ⟨bo, b, none⟩ (.map (some ro))) := by
 have hlt : b < g.blocks.length := (List.getElem?_eq_some_iff.1 hx).1
 refine ⟨(h.rI.put hlt hs).far hne _, (h.rO.far (Ne.symm hne) _).put hlt (IMap.setCell ho _ _), ?_, ?_, ?_, h.grow.step hx⟩
 ·exact (h.kG.far (p := ⟨bi, b, none⟩) (show w.heap.size ≠ bi by omega) _).far (p := ⟨bo, b, none⟩) (show w.heap.size ≠ bo by omega) _
 ·exact (h.kL.far (p := ⟨bi, b, none⟩) (show w.heap.size + 1 ≠ bi by omega) _).far (p := ⟨bo, b, none⟩) (show w.heap.size + 1 ≠ bo by omega) _
 ·exact (h.low.setCell (p := ⟨bi, b, none⟩) (show w.heap.size ≤ bi by omega) _).setCell (p := ⟨bo, b, none⟩) (show w.heap.size ≤ bo by omega) _

set_option maxRecDepth 100000 in
set_option maxHeartbeats 20000000 in
theorem loop2_any (w wr : World) (bi bo : Nat) (xv : GVals) (g : GraphP) (I O : Sets) (hs : Small g) (hg : GraphV w w.heap.size xv g) (hne : bi ≠ bo) (hbi : w.heap.size + 2 ≤ bi) (hbo : w.heap.size + 2 ≤ bo) (hinv : LiveInv w g (gbox g xv) bi bo I O wr)
    (u0 u8 u9 u10 u11 u12 u13 u14 u15 u16 u17 u18 u19 u20 u21 u22 u23 u24 u25 u26 u27 u28 u29 u30 u31 u32 u33 u36 u37 u38 u39 u40 u41 u42 u43 u44 u45 u46 u47 u48 u49 u50 u51 u52 u53 u54 u55 u56 u57 u58 u59 u60 u61 u62 u63 u64 u65 u66 u67 u68 u69 u70 u71 u72 u73 u74 u75 u76 u77 u78 u79 u80 u81 u82 u83 u84 u85 u86 u87 u88 u89 u90 u91 u92 u93 u94 u95 u96 u97 u98 u99 u100 u101 u102 u103 u104 u105 u106 u107 u108 u109 u110 u111 u112 u113 u114 u115 u116 u117 u118 u119 u120 u121 u122 u123 u124 u125 u126 u127 u128 u129 u130 u131 u132 u133 u134 u135 u136 u137 u138 u139 u140 u141 u142 u143 u144 u145 u146 u147 u148 u149 u150 u151 u152 u153 u154 u155 u156 u157 u158 u159 u160 u161 u162 u163 u164 u165 u166 u167 u168 u169 u170 u171 u172 u173 u174 u175 u176 u177 u178 u179 u180 u181 u182 u183 u184 u185 u186 u187 u188 u189 u190 u191 u192 u193 u194 u195 u196 u197 u198 u199 u200 u201 u202 u203 u204 u205 u206 u207 u208 u209 u210 u211 u212 : Value) (Q : Exit → Act → World → Prop)
    (hexit : ∀ (x7 x8 x9 x10 x11 x13 x14 x16 x18 x35 x36 x37 x38 x39 x40 x41 x42 x43 x44 x45 x46 x47 x48 x49 x50 x51 x52 x53 x54 x55 x56 x57 x58 x59 x60 x61 x62 x63 x64 x65 x66 x67 x68 x69 x70 x71 x72 x73 x74 x75 x76 x77 x78 x79 x80 x81 x82 x83 x84 x85 x86 x87 x88 x89 x90 x91 x92 x93 x94 x95 x96 x97 x98 x99 x100 x101 x102 x103 x104 x105 x106 x107 x108 x109 x110 x111 x112 x113 x114 x115 x116 x117 x118 x119 x120 x121 x122 x123 x124 x125 x126 x127 x128 x129 x130 x131 x132 x133 x134 x135 x136 x137 x138 x139 x140 x141 x142 x143 x144 x145 x146 x147 x148 x149 x150 x151 x152 x153 x154 x155 x156 x157 x158 x159 x160 x161 x162 x163 x164 x165 x166 x167 x168 x169 x170 x171 x172 x173 x174 x175 x176 x177 x178 x179 x180 x181 x182 x183 : Value) (w' : World), (∃ (I2 O2 : Sets) (ch : Bool), x7 = .bool ch ∧ LiveInv w g (gbox g xv) bi bo I2 O2 w' ∧ total g.nodes.length g.blocks.length I2 O2 + more ch ≤ total g.nodes.length g.blocks.length I O ∧ (ch = false → Done g I2 O2 0)) → Q (.exit 2) ⟨#[u0, .pointer (some ⟨w.heap.size, 0, none⟩), .pointer (some ⟨w.heap.size + 1, 0, none⟩), .slice (some ⟨bi, 0, none⟩) g.blocks.length g.blocks.length, .slice (some ⟨bo, 0, none⟩) g.blocks.length g.blocks.length, .func (.func 50) #[] #[.pointer (some ⟨w.heap.size, 0, none⟩)], .func (.func 51) #[] #[.pointer (some ⟨w.heap.size, 0, none⟩)], x7, x8, x9, x10, x11, u12, x13, x14, u15, x16, u17, x18, u19, u20, u21, u22, u23, u24, u25, u26, u27, u28, u29, u30, u31, u32, u33, .int .i64 g.blocks.length, x35, x36, x37, x38, x39, x40, x41, x42, x43, x44, x45, x46, x47, x48, x49, x50, x51, x52, x53, x54, x55, x56, x57, x58, x59, x60, x61, x62, x63, x64, x65, x66, x67, x68, x69, x70, x71, x72, x73, x74, x75, x76, x77, x78, x79, x80, x81, x82, x83, x84, x85, x86, x87, x88, x89, x90, x91, x92, x93, x94, x95, x96, x97, x98, x99, x100, x101, x102, x103, x104, x105, x106, x107, x108, x109, x110, x111, x112, x113, x114, x115, x116, x117, x118, x119, x120, x121, x122, x123, x124, x125, x126, x127, x128, x129, x130, x131, x132, x133, x134, x135, x136, x137, x138, x139, x140, x141, x142, x143, x144, x145, x146, x147, x148, x149, x150, x151, x152, x153, x154, x155, x156, x157, x158, x159, x160, x161, x162, x163, x164, x165, x166, x167, x168, x169, x170, x171, x172, x173, x174, x175, x176, x177, x178, x179, x180, x181, x182, x183, u184, u185, u186, u187, u188, u189, u190, u191, u192, u193, u194, u195, u196, u197, u198, u199, u200, u201, u202, u203, u204, u205, u206, u207, u208, u209, u210, u211, u212], []⟩ w') :
    Code.wp Tryz.prog (Code.loop loop2) Q ⟨#[u0, .pointer (some ⟨w.heap.size, 0, none⟩), .pointer (some ⟨w.heap.size + 1, 0, none⟩), .slice (some ⟨bi, 0, none⟩) g.blocks.length g.blocks.length, .slice (some ⟨bo, 0, none⟩) g.blocks.length g.blocks.length, .func (.func 50) #[] #[.pointer (some ⟨w.heap.size, 0, none⟩)], .func (.func 51) #[] #[.pointer (some ⟨w.heap.size, 0, none⟩)], .bool false, u8, u9, u10, u11, u12, u13, u14, u15, u16, u17, u18, u19, u20, u21, u22, u23, u24, u25, u26, u27, u28, u29, u30, u31, u32, u33, .int .i64 g.blocks.length, .int .i64 0, u36, u37, u38, u39, u40, u41, u42, u43, u44, u45, u46, u47, u48, u49, u50, u51, u52, u53, u54, u55, u56, u57, u58, u59, u60, u61, u62, u63, u64, u65, u66, u67, u68, u69, u70, u71, u72, u73, u74, u75, u76, u77, u78, u79, u80, u81, u82, u83, u84, u85, u86, u87, u88, u89, u90, u91, u92, u93, u94, u95, u96, u97, u98, u99, u100, u101, u102, u103, u104, u105, u106, u107, u108, u109, u110, u111, u112, u113, u114, u115, u116, u117, u118, u119, u120, u121, u122, u123, u124, u125, u126, u127, u128, u129, u130, u131, u132, u133, u134, u135, u136, u137, u138, u139, u140, u141, u142, u143, u144, u145, u146, u147, u148, u149, u150, u151, u152, u153, u154, u155, u156, u157, u158, u159, u160, u161, u162, u163, u164, u165, u166, u167, u168, u169, u170, u171, u172, u173, u174, u175, u176, u177, u178, u179, u180, u181, u182, u183, u184, u185, u186, u187, u188, u189, u190, u191, u192, u193, u194, u195, u196, u197, u198, u199, u200, u201, u202, u203, u204, u205, u206, u207, u208, u209, u210, u211, u212], []⟩ wr := by
  have hmm := @run_makeMap Tryz.prog
  have he0 := fun W : World => nilEq none W
  have HGr := Lib.hid hg; have HInv := Lib.hid hinv
  obtain ⟨l1, l2, l3⟩ := hs.lens
  obtain ⟨vn, vb, vs⟩ := xv
  obtain ⟨hn, hb, _⟩ := hg
  simp only at hn hb
  obtain ⟨Ab, cb, rfl, _, _, _⟩ := hb
  obtain ⟨An, cn, rfl, _, _, _⟩ := hn
  have hNl : g.nodes.length ≤ lim := by unfold lim; omega
  clear hinv
  conv => arg 2; arg 1; whnf
  dsimp only
  go_loopw [7, 35] (fun v7 v35 wr => ∃ (I2 O2 : Sets) (ch : Bool) (k : Nat), v7 = .bool ch ∧ v35 = .int .i64 k ∧ k ≤ g.blocks.length ∧ Hid (LiveInv w g (gbox g ⟨.slice An g.nodes.length cn, .slice Ab g.blocks.length cb, vs⟩) bi bo I2 O2 wr) ∧
          Hid (total g.nodes.length g.blocks.length I2 O2 + more ch ≤ total g.nodes.length g.blocks.length I O) ∧ Hid (ch = false → Done g I2 O2 (g.blocks.length - k))) (fun _ i _ => g.blocks.length - (intOf i).toNat)
  case atStart => exact ⟨I, O, false, 0, rfl, rfl, Nat.zero_le _, HInv, Lib.hid (Nat.le_refl _), Lib.hid (fun _ b x hb hx => absurd (List.getElem?_eq_some_iff.1 hx).1 (by omega))⟩
  case round =>
    obtain ⟨I2, O2, ch, k, rfl, rfl, hk, hinv2, htot2, hdone2⟩ := hrel
    clear HInv
    obtain ⟨wp, rfl⟩ : ∃ wp : World, wp = wr := ⟨_, rfl⟩
    have HC := Lib.hid (hinv2.out.ctx HGr.out)
    obtain ⟨q0, q1, q2, q3, q4, q5⟩ := HC.out.cells
    simp only at q3 q4 q5
    by_cases hlt : k < g.blocks.length
    · obtain ⟨b, hbk⟩ : ∃ b : Nat, b + k + 1 = g.blocks.length := ⟨g.blocks.length - 1 - k, by omega⟩
      have hbe : (g.blocks.length : Int) - 1 - (k : Int) = (b : Int) := by omega
      have hbl : b < g.blocks.length := by omega
      obtain ⟨A', c', en, _, _, hpb⟩ := HC.out.gr.2.1
      simp only at en
      obtain ⟨bm, offm, rfl, hbmB, hpm⟩ := hpb (by omega)
      injection en with en1 en2 en3
      subst en1 en3
      obtain ⟨x, hx⟩ := getE hbl
      obtain ⟨y, hy, g0, g1, g2, g3, g4, g5⟩ := (hpm b x hx).parts
      obtain ⟨v0, v2, v3, v4⟩ := y
      obtain ⟨A0, c0, e0⟩ := hy.p0.shape
      obtain ⟨A2, c2, e2⟩ := hy.p2.shape
      obtain ⟨A3, c3, e3⟩ := hy.p3.shape
      obtain ⟨A4, c4, e4⟩ := hy.p4.shape
      simp only at e0 e2 e3 e4 g0 g2 g3 g4
      subst e0 e2 e3 e4
      have HX := Lib.hid hx; have HY := Lib.hid hy
      clear hpm hx hy hpb
      go_wp2_with fail
      obtain ⟨w1, hw1⟩ : ∃ w1 : World, w1 = (wp.alloc (Obj.cells (bbox x ⟨.slice A0 x.nodes.length c0, .slice A2 x.args.length c2, .slice A3 x.next.length c3, .slice A4 x.ahead.length c4⟩) 41)).alloc (.map #[] 0) := ⟨_, rfl⟩
      have HSo1 : Hid (SetM w1 (wp.heap.size + 1) ISet.empty) := Lib.hid (by
        subst hw1
        have := IMap.made (wp.alloc (Obj.cells (bbox x ⟨.slice A0 x.nodes.length c0, .slice A2 x.args.length c2, .slice A3 x.next.length c3, .slice A4 x.ahead.length c4⟩) 41)); unfold SetM; rw [setF_empty]; simpa using this)
      have HLow1 : Hid (Below wp.heap.size wp w1) := Lib.hid (by subst hw1; exact ((Below.refl _ _).alloc (Nat.le_refl _) _).alloc (by simp) _)
      have HCb1 : Hid (BCtx w1 w.heap.size wp.heap.size ⟨.slice A0 x.nodes.length c0, .slice A2 x.args.length c2, .slice A3 x.next.length c3, .slice A4 x.ahead.length c4⟩ x) := Lib.hid ⟨HY.out.keep (Same.of_below (HLow1.out.mono HC.out.hB)), Nat.le_trans HC.out.hB HLow1.out.size, by subst hw1; exact (Blk.new wp _ _).alloc _⟩
      have HC1 : Hid (GCtx w1 w.heap.size w.heap.size ⟨.slice An g.nodes.length cn, .slice (some ⟨bm, offm, none⟩) g.blocks.length cb, vs⟩ g) := Lib.hid (by subst hw1; exact (HC.out.alloc _).alloc _)
      unfold bbox at hw1
      simp only at hw1
      rw [← hw1]
      refine loop3_any wp w1 w.heap.size (wp.heap.size + 1) w.heap.size bi I2 (b : Int) ⟨.slice An g.nodes.length cn, .slice (some ⟨bm, offm, none⟩) g.blocks.length cb, vs⟩ g x A3 c3 hs hinv2.out.rI HLow1.out (by omega) HSo1.out (HCb1.out.parts.p3.mono HCb1.out.hB) HC1.out hinv2.out.grow.boundI _ _ _ _ _ _ _ _ _ _ _ _ _ _ _ _ _ _ _ _ _ _ _ _ _ _ _ _ _ _ _ _ _ _ _ _ _ _ _ _ _ _ _ _ _ _ _ _ _ _ _ _ _ _ _ _ _ _ _ _ _ _ _ _ _ _ _ _ _ _ _ _ _ _ _ _ _ _ _ _ _ _ _ _ _ _ _ _ _ _ _ _ _ _ _ _ _ _ _ _ _ _ _ _ _ _ _ _ _ _ _ _ _ _ _ _ _ _ _ _ _ _ _ _ _ _ _ _ _ _ _ _ _ _ _ _ _ _ _ _ _ _ _ _ _ _ _ _ _ _ _ _ _ _ _ _ _ _ _ _ _ _ _ _ _ _ _ _ _ _ _ _ _ _ _ _ _ _ _ _ _ _ _ _ _ _ _ _ _ _ _ _ _ _ _ _ _ _ _ _ _ _ _ _ _ ?_
      intro x13 x53 x54 x55 x56 x57 x58 x59 x60 x61 x62 x63 x64 x65 x66 x67 x68 x69 x70 x71 x72 x73 x74 x75 x76 x77 x78 x79 x80 x81 w2 ⟨hset2, hg2⟩
      have HSo2 := Lib.hid hset2
      have HLow2 : Hid (Below wp.heap.size wp w2) := Lib.hid (HLow1.out.grown hg2 HLow1.out.size (fun q e => by injection e with e; omega))
      have HCb2 := Lib.hid (HCb1.out.turn HSo1.out hset2 hg2)
      have HC2 := Lib.hid (HC1.out.turn HSo1.out hset2 hg2)
      clear q0 q1 q2 q3 q4 q5 g0 g1 g2 g3 g4 g5 hset2 hg2 hw1
      obtain ⟨y0, y2, y3, y4, y5⟩ := HCb2.out.cells
      simp only at y0 y2 y3 y4
      have hro : wp.heap.size + 1 ≠ w2.heap.size := by have := HSo2.out.lt; omega
      dsimp only [Exit.inBlock]
      go_wp2_with (first
        | (go_at_call 53; refine (clone_any (wp.heap.size + 1) _ w2 HSo2.out).mono ?_; rintro e w3 ⟨rfl, hs3, hb3, hz3⟩
           have HSs3 := Lib.hid hs3; have HSo3 := Lib.hid (HSo2.out.below hb3); have HCb3 := Lib.hid (HCb2.out.below hb3); have HC3 := Lib.hid (HC2.out.below hb3); have HLow3 := Lib.hid (HLow2.out.trans (hb3.mono HLow2.out.size)); have HZ3 := Lib.hid (show w2.heap.size < w3.heap.size by omega)
           clear hs3 hb3 hz3 y0 y2 y3 y4 y5
           obtain ⟨y0, y2, y3, y4, y5⟩ := HCb3.out.cells; obtain ⟨q0, q1, q2, q3, q4, q5⟩ := HC3.out.cells; simp only at y0 y2 y3 y4 q3 q4 q5)
        | (go_at_call 50; refine (put_any w3 w2.heap.size _ _ x.args w.heap.size An g.nodes.length cn HSs3.out (HCb3.out.parts.p2.mono HCb3.out.hB) q3 hNl).mono ?_; rintro e w4 ⟨rfl, hm4, hg4⟩
           have HSs4 := Lib.hid hm4; have HSo4 := Lib.hid (HSo3.out.other hg4 hro); have HCb4 := Lib.hid (HCb3.out.turn HSs3.out hm4 hg4); have HC4 := Lib.hid (HC3.out.turn HSs3.out hm4 hg4); have HLow4 := Lib.hid (HLow3.out.grown hg4 HLow3.out.size (fun q e => by injection e with e; have := HLow2.out.size; omega))
           clear hm4 hg4 y0 y2 y3 y4 y5 q0 q1 q2 q3 q4 q5
           obtain ⟨y0, y2, y3, y4, y5⟩ := HCb4.out.cells; obtain ⟨q0, q1, q2, q3, q4, q5⟩ := HC4.out.cells; simp only at y0 y2 y3 y4 q3 q4 q5)
        | (go_at_call 54; refine (slots_any ⟨.slice An g.nodes.length cn, .slice (some ⟨bm, offm, none⟩) g.blocks.length cb, vs⟩ g x.state w4 HC4.out.graph).mono ?_; rintro e w5 ⟨v5, rfl, hv5, hb5⟩
           have HV5 := Lib.hid (hv5.mono hb5.size); have HSs5 := Lib.hid (HSs4.out.below hb5); have HSo5 := Lib.hid (HSo4.out.below hb5); have HCb5 := Lib.hid (HCb4.out.below hb5); have HC5 := Lib.hid (HC4.out.below hb5); have HLow5 := Lib.hid (HLow4.out.trans (hb5.mono HLow4.out.size))
           clear hv5 hb5 y0 y2 y3 y4 y5 q0 q1 q2 q3 q4 q5
           obtain ⟨y0, y2, y3, y4, y5⟩ := HCb5.out.cells; obtain ⟨q0, q1, q2, q3, q4, q5⟩ := HC5.out.cells; simp only at y0 y2 y3 y4 q3 q4 q5)
        | (go_at_call 50; refine (put_any w5 w2.heap.size _ v5 (slotsOf g x.state) w.heap.size An g.nodes.length cn HSs5.out HV5.out q3 hNl).mono ?_; rintro e w6 ⟨rfl, hm6, hg6⟩
           have HSs6 := Lib.hid hm6; have HSo6 := Lib.hid (HSo5.out.other hg6 hro); have HCb6 := Lib.hid (HCb5.out.turn HSs5.out hm6 hg6); have HC6 := Lib.hid (HC5.out.turn HSs5.out hm6 hg6); have HLow6 := Lib.hid (HLow5.out.grown hg6 HLow5.out.size (fun q e => by injection e with e; have := HLow2.out.size; omega))
           clear hm6 hg6 y0 y2 y3 y4 y5 q0 q1 q2 q3 q4 q5
           obtain ⟨y0, y2, y3, y4, y5⟩ := HCb6.out.cells; obtain ⟨q0, q1, q2, q3, q4, q5⟩ := HC6.out.cells; simp only at y0 y2 y3 y4 q3 q4 q5)
        | fail)
      refine loop4_any w6 w.heap.size w2.heap.size w.heap.size ((ISet.add (outF g I2 (b : Int) x) g.nodes.length x.args).add g.nodes.length (slotsOf g x.state)) ⟨.slice An g.nodes.length cn, .slice (some ⟨bm, offm, none⟩) g.blocks.length cb, vs⟩ g x A0 c0 hs HSs6.out (HCb6.out.parts.p0.mono HCb6.out.hB) HC6.out _ _ _ _ _ _ _ _ _ _ _ _ _ _ _ _ _ _ _ _ _ _ _ _ _ _ _ _ _ _ _ _ _ _ _ _ _ _ _ _ _ _ _ _ _ _ _ _ _ _ _ _ _ _ _ _ _ _ _ _ _ _ _ _ _ _ _ _ _ _ _ _ _ _ _ _ _ _ _ _ _ _ _ _ _ _ _ _ _ _ _ _ _ _ _ _ _ _ _ _ _ _ _ _ _ _ _ _ _ _ _ _ _ _ _ _ _ _ _ _ _ _ _ _ _ _ _ _ _ _ _ _ _ _ _ _ _ _ _ _ _ _ _ _ _ _ _ _ _ _ _ _ _ _ _ _ _ _ _ _ _ _ _ _ _ _ _ _ _ _ _ _ _ _ _ _ _ _ _ _ _ _ _ _ _ _ _ _ _ _ _ _ _ _ _ _ _ _ _ _ _ _ _ _ _ _ _ _ ?_
      intro x16 x99 x100 x101 x102 x103 x104 x105 x106 x107 x108 x109 x110 x111 x112 x113 x114 x115 x116 x117 x118 x119 x120 x121 x122 x123 x124 x125 x126 x127 x128 x129 x130 x131 x132 x133 x134 x135 x136 x137 x138 x139 x140 x141 w7 ⟨hm7, hg7⟩
      have HSs7 := Lib.hid hm7; have HSo7 := Lib.hid (HSo6.out.other hg7 hro); have HCb7 := Lib.hid (HCb6.out.turn HSs6.out hm7 hg7); have HC7 := Lib.hid (HC6.out.turn HSs6.out hm7 hg7); have HLow7 := Lib.hid (HLow6.out.grown hg7 HLow6.out.size (fun q e => by injection e with e; have := HLow2.out.size; omega))
      clear hm7 hg7 y0 y2 y3 y4 y5 q0 q1 q2 q3 q4 q5
      obtain ⟨y0, y2, y3, y4, y5⟩ := HCb7.out.cells; obtain ⟨q0, q1, q2, q3, q4, q5⟩ := HC7.out.cells; simp only at y0 y2 y3 y4 q3 q4 q5
      dsimp only [Exit.inBlock]
      go_wp2_with fail
      refine loop5_any w7 w2.heap.size _ A0 c0 x.nodes HSs7.out (HCb7.out.parts.p0.mono HCb7.out.hB) _ _ _ _ _ _ _ _ _ _ _ _ _ _ _ _ _ _ _ _ _ _ _ _ _ _ _ _ _ _ _ _ _ _ _ _ _ _ _ _ _ _ _ _ _ _ _ _ _ _ _ _ _ _ _ _ _ _ _ _ _ _ _ _ _ _ _ _ _ _ _ _ _ _ _ _ _ _ _ _ _ _ _ _ _ _ _ _ _ _ _ _ _ _ _ _ _ _ _ _ _ _ _ _ _ _ _ _ _ _ _ _ _ _ _ _ _ _ _ _ _ _ _ _ _ _ _ _ _ _ _ _ _ _ _ _ _ _ _ _ _ _ _ _ _ _ _ _ _ _ _ _ _ _ _ _ _ _ _ _ _ _ _ _ _ _ _ _ _ _ _ _ _ _ _ _ _ _ _ _ _ _ _ _ _ _ _ _ _ _ _ _ _ _ _ _ _ _ _ _ _ _ _ _ _ _ _ _ _ _ ?_
      intro x18 x145 x146 x147 x148 x149 x150 x151 w8 ⟨hm8, hg8⟩
      have HSs8 : Hid (SetM w8 w2.heap.size (inF g x (outF g I2 (b : Int) x))) := Lib.hid (by rw [inF_eq]; unfold delTo; rw [List.take_length]; exact hm8)
      have HSo8 := Lib.hid (HSo7.out.other hg8 hro); have HCb8 := Lib.hid (HCb7.out.turn HSs7.out hm8 hg8); have HC8 := Lib.hid (HC7.out.turn HSs7.out hm8 hg8); have HLow8 := Lib.hid (HLow7.out.grown hg8 HLow7.out.size (fun q e => by injection e with e; have := HLow2.out.size; omega))
      clear hm8 hg8 y0 y2 y3 y4 y5 q0 q1 q2 q3 q4 q5 HSs7 HSo7 HSs6 HSo6 HSs5 HSo5 HSs4 HSo4 HSs3 HSo3 HCb3 HCb4 HCb5 HCb6 HCb7 HC3 HC4 HC5 HC6 HC7 HLow3 HLow4 HLow5 HLow6 HLow7
      obtain ⟨y0, y2, y3, y4, y5⟩ := HCb8.out.cells; obtain ⟨q0, q1, q2, q3, q4, q5⟩ := HC8.out.cells; simp only at y0 y2 y3 y4 q3 q4 q5
      have HRI := Lib.hid (hinv2.out.rI.below HLow8.out); have HRO := Lib.hid (hinv2.out.rO.below HLow8.out)
      obtain ⟨mi, hci, hmi⟩ := HRI.out.get hbl
      obtain ⟨mo, hco, hmo⟩ := HRO.out.get hbl
      dsimp only [Exit.inBlock]
      have HI8 := Lib.hid (hinv2.out.later HLow8.out)
      have z1 := HI8.out.rI.frozen b; have z2 := HI8.out.rO.frozen b
      clear HRO HRI
      rcases hmi with ⟨rfl, hI⟩ | ⟨r1, p1, rfl, hI, hs1⟩
      · go_wp2_with fail
        go_roundw
        case rel =>
          have hI' := HI8.out.stored (rs := w2.heap.size) (ro := wp.heap.size + 1) HSs8.out HSo8.out hne hbi hbo HX.out
          have hf := HI8.out.grow.falls (nb := g.blocks.length) HX.out hbl (by rw [hI]; exact fun h => nomatch h.1)
          exact ⟨_, _, true, k + 1, rfl, by go_num, by omega, Lib.hid hI', Lib.hid (by have := htot2.out; simp only [more, if_true]; omega), Lib.hid (fun h => Bool.noConfusion h)⟩
        case measure => simp [intOf]; omega

      · have hO : ∃ q1, O2 b = some q1 := by
          have := hinv2.out.grow.both b
          rw [hI] at this
          cases hq : O2 b with
          | none => rw [hq] at this; cases this
          | some q1 => exact ⟨q1, rfl⟩
        obtain ⟨q1, hO⟩ := hO
        rcases hmo with ⟨rfl, hO'⟩ | ⟨r2, q2, rfl, hO', hs2⟩
        · rw [hO] at hO'; cases hO'
        rw [hO] at hO'; injection hO' with hO'; subst hO'
        have he1 := fun W : World => nilEq (some r1) W
        have HE1 := Lib.hid hs1; have HE2 := Lib.hid hs2
        clear hs1 hs2
        by_cases e1 : inF g x (outF g I2 (b : Int) x) = p1
        · have E1 := Lib.hid e1; clear e1
          by_cases e2 : outF g I2 (b : Int) x = q1
          · have E2 := Lib.hid e2; clear e2
            go_wp2_with (first | (go_at_call 55; refine (equal_any (wp.heap.size + 1) r2 _ _ w9 HSo9.out HE29.out).mono ?_; rintro e w10 ⟨t10, rfl, ht10, hb10⟩; obtain rfl : t10 = true := ht10.2 E2.out; have HI10 := Lib.hid (HI9.out.later (hb10.mono (Nat.le_refl _))); clear ht10 hb10) | (go_at_call 55; refine (equal_any w2.heap.size r1 _ _ w8 HSs8.out HE1.out).mono ?_; rintro e w9 ⟨t9, rfl, ht9, hb9⟩; obtain rfl : t9 = true := ht9.2 E1.out; have HI9 := Lib.hid (HI8.out.later hb9); have HSs9 := Lib.hid (HSs8.out.below hb9); have HSo9 := Lib.hid (HSo8.out.below hb9); have HE29 := Lib.hid (HE2.out.below hb9); have hci9 := (hb9.cell (p := ⟨bi, b, none⟩) HI8.out.rI.lt).trans hci; have hco9 := (hb9.cell (p := ⟨bo, b, none⟩) HI8.out.rO.lt).trans hco; clear ht9 hb9 z1 z2 hci hco; have z1 := HI9.out.rI.frozen b; have z2 := HI9.out.rO.frozen b) | fail)
            go_roundw
            case rel => exact ⟨I2, O2, ch, k + 1, rfl, by go_num, by omega, HI10, htot2, Lib.hid (fun h b' x' hb' hx' => by
              by_cases e : b' = b
              · subst e
                rw [HX.out] at hx'; injection hx' with hx'; subst hx'
                rw [hI, hO, E1.out, E2.out]; exact ⟨rfl, rfl⟩
              · exact hdone2.out h b' x' (by omega) hx')⟩
            case measure => simp [intOf]; omega
          · have E2 := Lib.hid e2; clear e2
            go_wp2_with (first | (go_at_call 55; refine (equal_any (wp.heap.size + 1) r2 _ _ w9 HSo9.out HE29.out).mono ?_; rintro e w10 ⟨t10, rfl, ht10, hb10⟩; obtain rfl : t10 = false := Bool.eq_false_iff.2 fun h => E2.out (ht10.1 h); have HI10 := Lib.hid (HI9.out.later hb10); have HSs10 := Lib.hid (HSs9.out.below hb10); have HSo10 := Lib.hid (HSo9.out.below hb10); have hci10 := (hb10.cell (p := ⟨bi, b, none⟩) HI9.out.rI.lt).trans hci9; have hco10 := (hb10.cell (p := ⟨bo, b, none⟩) HI9.out.rO.lt).trans hco9; clear ht10 hb10 z1 z2 hci9 hco9; have z1 := HI10.out.rI.frozen b; have z2 := HI10.out.rO.frozen b) | (go_at_call 55; refine (equal_any w2.heap.size r1 _ _ w8 HSs8.out HE1.out).mono ?_; rintro e w9 ⟨t9, rfl, ht9, hb9⟩; obtain rfl : t9 = true := ht9.2 E1.out; have HI9 := Lib.hid (HI8.out.later hb9); have HSs9 := Lib.hid (HSs8.out.below hb9); have HSo9 := Lib.hid (HSo8.out.below hb9); have HE29 := Lib.hid (HE2.out.below hb9); have hci9 := (hb9.cell (p := ⟨bi, b, none⟩) HI8.out.rI.lt).trans hci; have hco9 := (hb9.cell (p := ⟨bo, b, none⟩) HI8.out.rO.lt).trans hco; clear ht9 hb9 z1 z2 hci hco; have z1 := HI9.out.rI.frozen b; have z2 := HI9.out.rO.frozen b) | fail)
            go_roundw
            case rel =>
              have hI' := HI10.out.stored (rs := w2.heap.size) (ro := wp.heap.size + 1) HSs10.out HSo10.out hne hbi hbo HX.out
              have hf := HI10.out.grow.falls (nb := g.blocks.length) HX.out hbl (by rw [hO]; exact fun h => E2.out (Option.some.inj h.2).symm)
              exact ⟨_, _, true, k + 1, rfl, by go_num, by omega, Lib.hid hI', Lib.hid (by have := htot2.out; simp only [more, if_true]; omega), Lib.hid (fun h => Bool.noConfusion h)⟩
            case measure => simp [intOf]; omega

        · have E1 := Lib.hid e1; clear e1
          go_wp2_with (first | (go_at_call 55; refine (equal_any w2.heap.size r1 _ _ w8 HSs8.out HE1.out).mono ?_; rintro e w9 ⟨t9, rfl, ht9, hb9⟩; obtain rfl : t9 = false := Bool.eq_false_iff.2 fun h => E1.out (ht9.1 h); have HI9 := Lib.hid (HI8.out.later hb9); have HSs9 := Lib.hid (HSs8.out.below hb9); have HSo9 := Lib.hid (HSo8.out.below hb9); have HE29 := Lib.hid (HE2.out.below hb9); have hci9 := (hb9.cell (p := ⟨bi, b, none⟩) HI8.out.rI.lt).trans hci; have hco9 := (hb9.cell (p := ⟨bo, b, none⟩) HI8.out.rO.lt).trans hco; clear ht9 hb9 z1 z2 hci hco; have z1 := HI9.out.rI.frozen b; have z2 := HI9.out.rO.frozen b) | fail)
          go_roundw
          case rel =>
            have hI' := HI9.out.stored (rs := w2.heap.size) (ro := wp.heap.size + 1) HSs9.out HSo9.out hne hbi hbo HX.out
            have hf := HI9.out.grow.falls (nb := g.blocks.length) HX.out hbl (by rw [hI]; exact fun h => E1.out (Option.some.inj h.1).symm)
            exact ⟨_, _, true, k + 1, rfl, by go_num, by omega, Lib.hid hI', Lib.hid (by have := htot2.out; simp only [more, if_true]; omega), Lib.hid (fun h => Bool.noConfusion h)⟩
          case measure => simp [intOf]; omega

    · go_wp2_with fail
      first
        | exact ⟨I2, O2, hinv2.out, htot2.out, fun h => by have := hdone2.out h; rwa [show g.blocks.length - k = 0 from by omega] at this⟩
        | exact ⟨I2, O2, ch, rfl, hinv2.out, htot2.out, fun h => by have := hdone2.out h; rwa [show g.blocks.length - k = 0 from by omega] at this⟩
        | exact ⟨hinv2.out, htot2.out, fun h => by have := hdone2.out h; rwa [show g.blocks.length - k = 0 from by omega] at this⟩
        | exact (fun h => by have := hdone2.out h; rwa [show g.blocks.length - k = 0 from by omega] at this)

end Go.Proofs.YtkmfdiboekoioaaGreat
