/- The walk of the loop of live.Of that puts what a block's nodes use into a set. Conditions: a graph that is small. -/
import Derived.Test.YtkmfdiboekoioaaLoop5
import Derived.Deep.RegionHeld3
namespace Go.Proofs.Ytkmfdiboekoioaa
open Go.RowKit
theorem sevenB {w w' : World} (a0 a1 a2 a3 a4 a5 a6 : Addr) {v0 v1 v2 v3 v4 v5 v6 : Value} (h : w.cell? a0 = some v0 ∧ w.cell? a1 = some v1 ∧ w.cell? a2 = some v2 ∧ w.cell? a3 = some v3 ∧ w.cell? a4 = some v4 ∧ w.cell? a5 = some v5 ∧ w.cell? a6 = some v6) (hb : Below w.heap.size w w') :
    w'.cell? a0 = some v0 ∧ w'.cell? a1 = some v1 ∧ w'.cell? a2 = some v2 ∧ w'.cell? a3 = some v3 ∧ w'.cell? a4 = some v4 ∧ w'.cell? a5 = some v5 ∧ w'.cell? a6 = some v6 := by
  have k : ∀ {a : Addr} {v : Value}, w.cell? a = some v → w'.cell? a = some v := fun h => (hb.cell (World.block_lt_of_cell? w _ h)).trans h
  exact ⟨k h.1, k h.2.1, k h.2.2.1, k h.2.2.2.1, k h.2.2.2.2.1, k h.2.2.2.2.2.1, k h.2.2.2.2.2.2⟩
theorem sevenG {w w' : World} {r : Nat} {p q : ISet} (a0 a1 a2 a3 a4 a5 a6 : Addr) {v0 v1 v2 v3 v4 v5 v6 : Value} (h : w.cell? a0 = some v0 ∧ w.cell? a1 = some v1 ∧ w.cell? a2 = some v2 ∧ w.cell? a3 = some v3 ∧ w.cell? a4 = some v4 ∧ w.cell? a5 = some v5 ∧ w.cell? a6 = some v6) (hp : SetM w r p) (hq : SetM w' r q) (hg : w.grownBy w' (some r)) :
    w'.cell? a0 = some v0 ∧ w'.cell? a1 = some v1 ∧ w'.cell? a2 = some v2 ∧ w'.cell? a3 = some v3 ∧ w'.cell? a4 = some v4 ∧ w'.cell? a5 = some v5 ∧ w'.cell? a6 = some v6 := by
  have k : ∀ {a : Addr} {v : Value}, w.cell? a = some v → w'.cell? a = some v := fun h => grown_cell hp hq hg h
  exact ⟨k h.1, k h.2.1, k h.2.2.1, k h.2.2.2.1, k h.2.2.2.2.1, k h.2.2.2.2.2.1, k h.2.2.2.2.2.2⟩
noncomputable def loop4 : Code := ((Try.f34.body.map loopsOf).getD []).getD 3 .skip

set_option maxRecDepth 100000 in
set_option maxHeartbeats 4000000 in
theorem loop4_any (w : World) (B r bx : Nat) (p : ISet) (xv : GVals) (g : GraphP) (x : BlockP) (A : Option Addr) (c : Nat) (hs : Small g) (hset : SetM w r p) (hl : IntsV w w.heap.size (.slice A x.nodes.length c) x.nodes) (hctx : GCtx w B bx xv g)
    (u0 u2 u3 u4 u6 u7 u8 u9 u10 u11 u12 u13 u15 u16 u17 u18 u19 u20 u21 u22 u23 u24 u25 u26 u27 u28 u29 u30 u31 u32 u33 u34 u35 u36 u37 u38 u39 u40 u41 u42 u43 u44 u45 u46 u47 u48 u49 u50 u51 u52 u53 u54 u55 u56 u57 u58 u59 u60 u61 u62 u63 u64 u65 u66 u67 u68 u69 u70 u71 u72 u73 u74 u75 u76 u77 u78 u79 u80 u81 u82 u83 u84 u85 u86 u87 u88 u89 u90 u91 u92 u93 u94 u95 u96 u100 u101 u102 u103 u104 u105 u106 u107 u108 u109 u110 u111 u112 u113 u114 u115 u116 u117 u118 u119 u120 u121 u122 u123 u124 u125 u126 u127 u128 u129 u130 u131 u132 u133 u134 u135 u136 u137 u138 u139 u140 u141 u142 u143 u144 u145 u146 u147 u148 u149 u150 u151 u152 u153 u154 u155 u156 u157 u158 u159 u160 u161 u162 u163 u164 u165 u166 u167 u168 u169 u170 u171 u172 u173 u174 u175 u176 u177 u178 u179 u180 u181 u182 u183 u184 u185 u186 u187 u188 u189 u190 u191 u192 u193 u194 u195 u196 u197 u198 u199 u200 u201 u202 u203 u204 u205 u206 u207 u208 u209 u210 u211 u212 : Value) (Q : Exit → Act → World → Prop)
    (hexit : ∀ (x16 x99 x100 x101 x102 x103 x104 x105 x106 x107 x108 x109 x110 x111 x112 x113 x114 x115 x116 x117 x118 x119 x120 x121 x122 x123 x124 x125 x126 x127 x128 x129 x130 x131 x132 x133 x134 x135 x136 x137 x138 x139 x140 x141 : Value) (w' : World), (SetM w' r (usesTo g x p x.nodes.length) ∧ w.grownBy w' (some r)) → Q (.exit 6) ⟨#[u0, .pointer (some ⟨bx, 0, none⟩), u2, u3, u4, .func (.func 44) #[] #[.pointer (some ⟨bx, 0, none⟩)], u6, u7, u8, u9, u10, u11, u12, u13, .map (some r), u15, x16, u17, u18, u19, u20, u21, u22, u23, u24, u25, u26, u27, u28, u29, u30, u31, u32, u33, u34, u35, u36, u37, u38, u39, u40, u41, u42, u43, u44, u45, u46, u47, u48, u49, u50, u51, u52, u53, u54, u55, u56, u57, u58, u59, u60, u61, u62, u63, u64, u65, u66, u67, u68, u69, u70, u71, u72, u73, u74, u75, u76, u77, u78, u79, u80, u81, u82, u83, u84, u85, u86, u87, u88, u89, u90, u91, u92, u93, u94, u95, u96, .slice A x.nodes.length c, .int .i64 x.nodes.length, x99, x100, x101, x102, x103, x104, x105, x106, x107, x108, x109, x110, x111, x112, x113, x114, x115, x116, x117, x118, x119, x120, x121, x122, x123, x124, x125, x126, x127, x128, x129, x130, x131, x132, x133, x134, x135, x136, x137, x138, x139, x140, x141, u142, u143, u144, u145, u146, u147, u148, u149, u150, u151, u152, u153, u154, u155, u156, u157, u158, u159, u160, u161, u162, u163, u164, u165, u166, u167, u168, u169, u170, u171, u172, u173, u174, u175, u176, u177, u178, u179, u180, u181, u182, u183, u184, u185, u186, u187, u188, u189, u190, u191, u192, u193, u194, u195, u196, u197, u198, u199, u200, u201, u202, u203, u204, u205, u206, u207, u208, u209, u210, u211, u212], []⟩ w') :
    Code.wp Try.prog (Code.loop loop4) Q ⟨#[u0, .pointer (some ⟨bx, 0, none⟩), u2, u3, u4, .func (.func 44) #[] #[.pointer (some ⟨bx, 0, none⟩)], u6, u7, u8, u9, u10, u11, u12, u13, .map (some r), u15, u16, u17, u18, u19, u20, u21, u22, u23, u24, u25, u26, u27, u28, u29, u30, u31, u32, u33, u34, u35, u36, u37, u38, u39, u40, u41, u42, u43, u44, u45, u46, u47, u48, u49, u50, u51, u52, u53, u54, u55, u56, u57, u58, u59, u60, u61, u62, u63, u64, u65, u66, u67, u68, u69, u70, u71, u72, u73, u74, u75, u76, u77, u78, u79, u80, u81, u82, u83, u84, u85, u86, u87, u88, u89, u90, u91, u92, u93, u94, u95, u96, .slice A x.nodes.length c, .int .i64 x.nodes.length, .int .i64 0, u100, u101, u102, u103, u104, u105, u106, u107, u108, u109, u110, u111, u112, u113, u114, u115, u116, u117, u118, u119, u120, u121, u122, u123, u124, u125, u126, u127, u128, u129, u130, u131, u132, u133, u134, u135, u136, u137, u138, u139, u140, u141, u142, u143, u144, u145, u146, u147, u148, u149, u150, u151, u152, u153, u154, u155, u156, u157, u158, u159, u160, u161, u162, u163, u164, u165, u166, u167, u168, u169, u170, u171, u172, u173, u174, u175, u176, u177, u178, u179, u180, u181, u182, u183, u184, u185, u186, u187, u188, u189, u190, u191, u192, u193, u194, u195, u196, u197, u198, u199, u200, u201, u202, u203, u204, u205, u206, u207, u208, u209, u210, u211, u212], []⟩ w := by
  have HSet := Lib.hid hset; have HL := Lib.hid hl; have HC := Lib.hid hctx
  have hlim : x.nodes.length ≤ 17592186044416 := by obtain ⟨_, _, _, _, hlc, _⟩ := hl; unfold lim at hlc; omega
  obtain ⟨l1, l2, l3⟩ := hs.lens
  obtain ⟨vn, vb, vs⟩ := xv
  obtain ⟨An, cn, en, _, _, _⟩ := hctx.gr.1
  simp only at en
  subst en
  have hNl : g.nodes.length ≤ lim := by unfold lim; omega
  clear hset hl hctx
  conv => arg 2; arg 1; whnf
  dsimp only
  go_loopw [99] (fun i wr => ∃ k : Nat, k ≤ x.nodes.length ∧ i = .int .i64 k ∧ SetM wr r (usesTo g x p k) ∧ w.grownBy wr (some r)) (fun i _ => x.nodes.length - (intOf i).toNat)
  case atStart => exact ⟨0, Nat.zero_le _, rfl, HSet.out, World.grownBy.refl _ _⟩
  case round =>
    obtain ⟨k, hk, rfl, hsr, hg⟩ := hrel
    have HS := Lib.hid hsr; have HG := Lib.hid hg
    have hcr := HC.out.turn HSet.out hsr hg
    have HCR := Lib.hid hcr
    clear hsr hg
    obtain ⟨q0, q1, q2, q3, q4, q5⟩ := hcr.cells
    simp only at q3 q4 q5
    by_cases hlt : k < x.nodes.length
    · obtain ⟨b, off, rfl, hbB, hp⟩ := (grown_ints HSet.out HS.out HG.out (Nat.le_refl _) HL.out).cells hlt
      obtain ⟨z, hz⟩ := getE hlt
      have f0 := hp k z hz
      have HZ := Lib.hid hz
      clear hp hz
      by_cases h0 : z < 0
      · clear hcr
        go_wp2_with fail
        go_roundw
        case rel => exact ⟨k + 1, by omega, by go_num, by rw [usesTo_step g x p k z HZ.out, nodeUse_none (nodeAt_neg h0)]; exact HS.out, HG.out⟩
        case measure => simp [intOf]; omega
      · obtain ⟨zk, rfl⟩ := Int.eq_ofNat_of_zero_le (Int.not_lt.1 h0)
        by_cases h1 : zk < g.nodes.length
        · obtain ⟨An', cn', en, _, _, hpn⟩ := hcr.gr.1
          simp only at en
          obtain ⟨bm, offm, hAm, hbmB, hpm⟩ := hpn (by omega)
          injection en with en1 en2 en3
          subst en1 hAm
          obtain ⟨y, hy⟩ := getE h1
          obtain ⟨g0, ⟨vg, g1, hvg⟩, g2, g3, g4⟩ := hpm zk y hy
          have HVG := Lib.hid (hvg.mono HCR.out.hB)
          obtain ⟨Ag, cg, rfl, _, _, _⟩ := hvg
          have HY := Lib.hid hy
          clear hy hpm hpn hcr en3
          by_cases hop : y.op = 2
          · rw [hop] at g0
            have HOP := Lib.hid hop; clear hop
            go_wp2_with fail
            go_roundw
            case rel => exact ⟨k + 1, by omega, by go_num, by rw [usesTo_step g x p k _ HZ.out, nodeUse_phi ((nodeAt_nat g zk).trans HY.out) HOP.out]; exact HS.out, HG.out⟩
            case measure => simp [intOf]; omega
          · have hopb : (y.op != 2) = true := by simp [hop]
            have HOP := Lib.hid hop; clear hop
            go_upto_region 28 with (go_at_call 44; refine (put_any _ r _ _ y.args bx _ g.nodes.length cn HS.out HVG.out q3 hNl).mono ?_; rintro e w1 ⟨rfl, hm1, hg1⟩)
            have hc1 := HCR.out.turn HS.out hm1 hg1
            have HM1 := Lib.hid hm1; have HG1 := Lib.hid hg1; have HC1 := Lib.hid hc1
            have g0' := grown_cell HS.out hm1 hg1 g0
            have g4' := grown_cell HS.out hm1 hg1 g4
            clear q0 q1 q2 q3 q4 q5 g0 g1 g2 g3 g4 hm1 hg1
            obtain ⟨q0, q1, q2, q3, q4, q5⟩ := hc1.cells
            simp only at q3 q4 q5
            clear hc1
            have hS1 : w1.drew.cell? ⟨bx, 0, none⟩ = some (.int .i64 g.fn) ∧ w1.drew.cell? ⟨bx, 1, none⟩ = some (.int .i64 g.pc) ∧ w1.drew.cell? ⟨bx, 2, none⟩ = some (.int .i64 g.slots) ∧ w1.drew.cell? ⟨bx, 3, none⟩ = some (.slice (some ⟨bm, offm, none⟩) g.nodes.length cn) ∧ w1.drew.cell? ⟨bx, 4, none⟩ = some vb ∧ w1.drew.cell? ⟨bx, 5, none⟩ = some vs ∧ w1.drew.cell? ⟨bm, offm + zk * 5 + 4, none⟩ = some (.int .i64 y.state) := ⟨q0, q1, q2, q3, q4, q5, g4'⟩
            have HS1 := Lib.hid hS1
            clear q0 q1 q2 q3 q4 q5 g4' g0'
            go_region_held3 (fun W => W.cell? ⟨bx, 0, none⟩ = some (.int .i64 g.fn) ∧ W.cell? ⟨bx, 1, none⟩ = some (.int .i64 g.pc) ∧ W.cell? ⟨bx, 2, none⟩ = some (.int .i64 g.slots) ∧ W.cell? ⟨bx, 3, none⟩ = some (.slice (some ⟨bm, offm, none⟩) g.nodes.length cn) ∧ W.cell? ⟨bx, 4, none⟩ = some vb ∧ W.cell? ⟨bx, 5, none⟩ = some vs ∧ W.cell? ⟨bm, offm + zk * 5 + 4, none⟩ = some (.int .i64 y.state)) (first | exact hS1 | exact hS2 | exact hS3) (first | (go_at_call 37; refine (slots_any ⟨.slice (some ⟨bm, offm, none⟩) g.nodes.length cn, vb, vs⟩ g y.state w1.drew HC1.out.graph).mono ?_; rintro e w2 ⟨v2, rfl, hv2, hb2⟩; have hS2 := sevenB _ _ _ _ _ _ _ HS1.out hb2; have HV2 := Lib.hid (hv2.mono hb2.size); have HB2 := Lib.hid hb2; have HM2 := Lib.hid (SetM.below (w := w1.drew) HM1.out hb2); clear hv2 hb2) | (go_at_call 44; refine (put_any w2 r _ v2 (slotsOf g y.state) bx (some ⟨bm, offm, none⟩) g.nodes.length cn HM2.out HV2.out hS2.2.2.2.1 hNl).mono ?_; rintro e w3 ⟨rfl, hm3, hg3⟩; have hS3 := sevenG _ _ _ _ _ _ _ hS2 HM2.out hm3 hg3))
            have HM3 := Lib.hid hm3; have HG3 := Lib.hid hg3
            clear hS1 hS2 hS3 hm3 hg3
            go_wp2_with fail
            go_roundw
            case rel =>
              refine ⟨k + 1, by omega, by go_num, ?_, ((HG.out.trans HG1.out).trans (grown_undrew (grown_of_below (w := w1.drew) HB2.out _))).trans HG3.out⟩
              rw [usesTo_step g x p k _ HZ.out, nodeUse_some ((nodeAt_nat g zk).trans HY.out) HOP.out]; exact HM3.out
            case measure => simp [intOf]; omega
        · clear hcr
          go_wp2_with fail
          go_roundw
          case rel => exact ⟨k + 1, by omega, by go_num, by rw [usesTo_step g x p k _ HZ.out, nodeUse_none ((nodeAt_nat g zk).trans (List.getElem?_eq_none (by omega)))]; exact HS.out, HG.out⟩
          case measure => simp [intOf]; omega
    · clear hcr
      go_wp2_with fail
      refine ⟨?_, HG.out⟩
      have := HS.out
      rwa [show k = x.nodes.length from by omega] at this

end Go.Proofs.Ytkmfdiboekoioaa
