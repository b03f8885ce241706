/- The walk of the loop of live.Of that puts what a block's nodes use into a set. Conditions: a graph that is small. -/
import Derived.Test.YtkmfdiboekoioaaGreatCLivePure
import Derived.Deep.RegionHeld3
set_option linter.unusedSimpArgs false
set_option linter.unusedVariables false
namespace Go.Proofs.YtkmfdiboekoioaaGreat
open Go.RowKit
theorem sevenB {w w' : World} (a0 a1 a2 a3 a4 a5 a6 : Addr) {v0 v1 v2 v3 v4 v5 v6 : Value} (h : w.cell? a0 = some v0 ∧ w.cell? a1 = some v1 ∧ w.cell? a2 = some v2 ∧ w.cell? a3 = some v3 ∧ w.cell? a4 = some v4 ∧ w.cell? a5 = some v5 ∧ w.cell? a6 = some v6) (hb : Below w.heap.size w w') :
    w'.cell? a0 = some v0 ∧ w'.cell? a1 = some v1 ∧ w'.cell? a2 = some v2 ∧ w'.cell? a3 = some v3 ∧ w'.cell? a4 = some v4 ∧ w'.cell? a5 = some v5 ∧ w'.cell? a6 = some v6 := by
  have k : ∀ {a : Addr} {v : Value}, w.cell? a = some v → w'.cell? a = some v := fun h => (hb.cell (World.block_lt_of_cell? w _ h)).trans h
  exact ⟨k h.1, k h.2.1, k h.2.2.1, k h.2.2.2.1, k h.2.2.2.2.1, k h.2.2.2.2.2.1, k h.2.2.2.2.2.2⟩
theorem sevenG {w w' : World} {r : Nat} {p q : ISet} (a0 a1 a2 a3 a4 a5 a6 : Addr) {v0 v1 v2 v3 v4 v5 v6 : Value} (h : w.cell? a0 = some v0 ∧ w.cell? a1 = some v1 ∧ w.cell? a2 = some v2 ∧ w.cell? a3 = some v3 ∧ w.cell? a4 = some v4 ∧ w.cell? a5 = some v5 ∧ w.cell? a6 = some v6) (hp : SetM w r p) (hq : SetM w' r q) (hg : w.grownBy w' (some r)) :
    w'.cell? a0 = some v0 ∧ w'.cell? a1 = some v1 ∧ w'.cell? a2 = some v2 ∧ w'.cell? a3 = some v3 ∧ w'.cell? a4 = some v4 ∧ w'.cell? a5 = some v5 ∧ w'.cell? a6 = some v6 := by
  have k : ∀ {a : Addr} {v : Value}, w.cell? a = some v → w'.cell? a = some v := fun h => grown_cell hp hq hg h
  exact ⟨k h.1, k h.2.1, k h.2.2.1, k h.2.2.2.1, k h.2.2.2.2.1, k h.2.2.2.2.2.1, k h.2.2.2.2.2.2⟩
noncomputable def loop4 : Code := ((Tryz.f15.body.map loopsOf).getD []).getD 3 .skip

set_option maxRecDepth 100000 in
set_option maxHeartbeats 4000000 in
theorem loop4_any (w : World) (B r bx : Nat) (p : ISet) (xv : GVals) (g : GraphP) (x : BlockP) (A : Option Addr) (c : Nat) (hs : Small g) (hset : SetM w r p) (hl : IntsV w w.heap.size (.slice A x.nodes.length c) x.nodes) (hctx : GCtx w B bx xv g)
    (u0 u2 u3 u4 u6 u7 u8 u9 u10 u11 u12 u13 u15 u16 u17 u18 u19 u20 u21 u22 u23 u24 u25 u26 u27 u28 u29 u30 u31 u32 u33 u34 u35 u36 u37 u38 u39 u40 u41 u42 u43 u44 u45 u46 u47 u48 u49 u50 u51 u52 u53 u54 u55 u56 u57 u58 u59 u60 u61 u62 u63 u64 u65 u66 u67 u68 u69 u70 u71 u72 u73 u74 u75 u76 u77 u78 u79 u80 u81 u82 u83 u84 u85 u86 u87 u88 u89 u90 u91 u92 u93 u94 u95 u96 u100 u101 u102 u103 u104 u105 u106 u107 u108 u109 u110 u111 u112 u113 u114 u115 u116 u117 u118 u119 u120 u121 u122 u123 u124 u125 u126 u127 u128 u129 u130 u131 u132 u133 u134 u135 u136 u137 u138 u139 u140 u141 u142 u143 u144 u145 u146 u147 u148 u149 u150 u151 u152 u153 u154 u155 u156 u157 u158 u159 u160 u161 u162 u163 u164 u165 u166 u167 u168 u169 u170 u171 u172 u173 u174 u175 u176 u177 u178 u179 u180 u181 u182 u183 u184 u185 u186 u187 u188 u189 u190 u191 u192 u193 u194 u195 u196 u197 u198 u199 u200 u201 u202 u203 u204 u205 u206 u207 u208 u209 u210 u211 u212 : Value) (Q : Exit → Act → World → Prop)
    (hexit : ∀ (x16 x99 x100 x101 x102 x103 x104 x105 x106 x107 x108 x109 x110 x111 x112 x113 x114 x115 x116 x117 x118 x119 x120 x121 x122 x123 x124 x125 x126 x127 x128 x129 x130 x131 x132 x133 x134 x135 x136 x137 x138 x139 x140 x141 : Value) (w' : World), (SetM w' r (usesTo g x p x.nodes.length) ∧ w.grownBy w' (some r)) → Q (.exit 6) ⟨#[u0, .pointer (some ⟨bx, 0, none⟩), u2, u3, u4, .func (.func 50) #[] #[.pointer (some ⟨bx, 0, none⟩)], u6, u7, u8, u9, u10, u11, u12, u13, .map (some r), u15, x16, u17, u18, u19, u20, u21, u22, u23, u24, u25, u26, u27, u28, u29, u30, u31, u32, u33, u34, u35, u36, u37, u38, u39, u40, u41, u42, u43, u44, u45, u46, u47, u48, u49, u50, u51, u52, u53, u54, u55, u56, u57, u58, u59, u60, u61, u62, u63, u64, u65, u66, u67, u68, u69, u70, u71, u72, u73, u74, u75, u76, u77, u78, u79, u80, u81, u82, u83, u84, u85, u86, u87, u88, u89, u90, u91, u92, u93, u94, u95, u96, .slice A x.nodes.length c, .int .i64 x.nodes.length, x99, x100, x101, x102, x103, x104, x105, x106, x107, x108, x109, x110, x111, x112, x113, x114, x115, x116, x117, x118, x119, x120, x121, x122, x123, x124, x125, x126, x127, x128, x129, x130, x131, x132, x133, x134, x135, x136, x137, x138, x139, x140, x141, u142, u143, u144, u145, u146, u147, u148, u149, u150, u151, u152, u153, u154, u155, u156, u157, u158, u159, u160, u161, u162, u163, u164, u165, u166, u167, u168, u169, u170, u171, u172, u173, u174, u175, u176, u177, u178, u179, u180, u181, u182, u183, u184, u185, u186, u187, u188, u189, u190, u191, u192, u193, u194, u195, u196, u197, u198, u199, u200, u201, u202, u203, u204, u205, u206, u207, u208, u209, u210, u211, u212], []⟩ w') :
    Code.wp Tryz.prog (Code.loop loop4) Q ⟨#[u0, .pointer (some ⟨bx, 0, none⟩), u2, u3, u4, .func (.func 50) #[] #[.pointer (some ⟨bx, 0, none⟩)], u6, u7, u8, u9, u10, u11, u12, u13, .map (some r), u15, u16, u17, u18, u19, u20, u21, u22, u23, u24, u25, u26, u27, u28, u29, u30, u31, u32, u33, u34, u35, u36, u37, u38, u39, u40, u41, u42, u43, u44, u45, u46, u47, u48, u49, u50, u51, u52, u53, u54, u55, u56, u57, u58, u59, u60, u61, u62, u63, u64, u65, u66, u67, u68, u69, u70, u71, u72, u73, u74, u75, u76, u77, u78, u79, u80, u81, u82, u83, u84, u85, u86, u87, u88, u89, u90, u91, u92, u93, u94, u95, u96, .slice A x.nodes.length c, .int .i64 x.nodes.length, .int .i64 0, u100, u101, u102, u103, u104, u105, u106, u107, u108, u109, u110, u111, u112, u113, u114, u115, u116, u117, u118, u119, u120, u121, u122, u123, u124, u125, u126, u127, u128, u129, u130, u131, u132, u133, u134, u135, u136, u137, u138, u139, u140, u141, u142, u143, u144, u145, u146, u147, u148, u149, u150, u151, u152, u153, u154, u155, u156, u157, u158, u159, u160, u161, u162, u163, u164, u165, u166, u167, u168, u169, u170, u171, u172, u173, u174, u175, u176, u177, u178, u179, u180, u181, u182, u183, u184, u185, u186, u187, u188, u189, u190, u191, u192, u193, u194, u195, u196, u197, u198, u199, u200, u201, u202, u203, u204, u205, u206, u207, u208, u209, u210, u211, u212], []⟩ w := by
  have HSet := Lib.hid hset; have HL := Lib.hid hl; have HC := Lib.hid hctx
  have hlim : x.nodes.length ≤ 17592186044416 := by obtain ⟨_, _, _, _, hlc, _⟩ := hl; unfold lim at hlc; omega
  obtain ⟨l1, l2, l3⟩ := hs.lens
  obtain ⟨vn, vb, vs⟩ := xv
  obtain ⟨An, cn, en, _, _, _⟩ := hctx.gr.1
  simp only at en
  subst en
  have hNl : g.nodes.length ≤ lim := by unfold lim; omega
  clear hset hl hctx
  conv => arg 2; arg 1; whnf
  dsimp only
  go_loopw [99] (fun i wr => ∃ k : Nat, k ≤ x.nodes.length ∧ i = .int .i64 k ∧ SetM wr r (usesTo g x p k) ∧ w.grownBy wr (some r)) (fun i _ => x.nodes.length - (intOf i).toNat)
  case atStart => exact ⟨0, Nat.zero_le _, rfl, HSet.out, World.grownBy.refl _ _⟩
  case round =>
    obtain ⟨k, hk, rfl, hsr, hg⟩ := hrel
    have HS := Lib.hid hsr; have HG := Lib.hid hg
    have hcr := HC.out.turn HSet.out hsr hg
    have HCR := Lib.hid hcr
    clear hsr hg
    obtain ⟨q0, q1, q2, q3, q4, q5⟩ := hcr.cells
    simp only at q3 q4 q5
    by_cases hlt : k < x.nodes.length
    · obtain ⟨b, off, rfl, hbB, hp⟩ := (grown_ints HSet.out HS.out HG.out (Nat.le_refl _) HL.out).cells hlt
      obtain ⟨z, hz⟩ := getE hlt
      have f0 := hp k z hz
      have HZ := Lib.hid hz
      clear hp hz
      by_cases h0 : z < 0
      · clear hcr
        go_wp2_with fail
        go_roundw
        case rel => exact ⟨k + 1, by omega, by go_num, by rw [usesTo_step g x p k z HZ.out, nodeUse_none (nodeAt_neg h0)]; exact HS.out, HG.out⟩
        case measure => simp [intOf]; omega
      · obtain ⟨zk, rfl⟩ := Int.eq_ofNat_of_zero_le (Int.not_lt.1 h0)
        by_cases h1 : zk < g.nodes.length
        · obtain ⟨An', cn', en, _, _, hpn⟩ := hcr.gr.1
          simp only at en
          obtain ⟨bm, offm, hAm, hbmB, hpm⟩ := hpn (by omega)
          injection en with en1 en2 en3
          subst en1 hAm
          obtain ⟨y, hy⟩ := getE h1
          obtain ⟨g0, ⟨vg, g1, hvg⟩, g2, g3, g4⟩ := hpm zk y hy
          have HVG := Lib.hid (hvg.mono HCR.out.hB)
          obtain ⟨Ag, cg, rfl, _, _, _⟩ := hvg
          have HY := Lib.hid hy
          clear hy hpm hpn hcr en3
          by_cases hop : y.op = 2
          · rw [hop] at g0
            have HOP := Lib.hid hop; clear hop
            go_wp2_with fail
            go_roundw
            case rel => exact ⟨k + 1, by omega, by go_num, by rw [usesTo_step g x p k _ HZ.out, nodeUse_phi ((nodeAt_nat g zk).trans HY.out) HOP.out]; exact HS.out, HG.out⟩
            case measure => simp [intOf]; omega
          · have hopb : (y.op != 2) = true := by simp [hop]
            have HOP := Lib.hid hop; clear hop
            go_upto_region 28 with (go_at_call 50; refine (put_any _ r _ _ y.args bx _ g.nodes.length cn HS.out HVG.out q3 hNl).mono ?_; rintro e w1 ⟨rfl, hm1, hg1⟩)
            have hc1 := HCR.out.turn HS.out hm1 hg1
            have HM1 := Lib.hid hm1; have HG1 := Lib.hid hg1; have HC1 := Lib.hid hc1
            have g0' := grown_cell HS.out hm1 hg1 g0
            have g4' := grown_cell HS.out hm1 hg1 g4
            clear q0 q1 q2 q3 q4 q5 g0 g1 g2 g3 g4 hm1 hg1
            obtain ⟨q0, q1, q2, q3, q4, q5⟩ := hc1.cells
            simp only at q3 q4 q5
            clear hc1
            have hS1 : w1.drew.cell? ⟨bx, 0, none⟩ = some (.int .i64 g.fn) ∧ w1.drew.cell? ⟨bx, 1, none⟩ = some (.int .i64 g.pc) ∧ w1.drew.cell? ⟨bx, 2, none⟩ = some (.int .i64 g.slots) ∧ w1.drew.cell? ⟨bx, 3, none⟩ = some (.slice (some ⟨bm, offm, none⟩) g.nodes.length cn) ∧ w1.drew.cell? ⟨bx, 4, none⟩ = some vb ∧ w1.drew.cell? ⟨bx, 5, none⟩ = some vs ∧ w1.drew.cell? ⟨bm, offm + zk * 5 + 4, none⟩ = some (.int .i64 y.state) := ⟨q0, q1, q2, q3, q4, q5, g4'⟩
            have HS1 := Lib.hid hS1
            clear q0 q1 q2 q3 q4 q5 g4' g0'
            go_region_held3 (fun W => W.cell? ⟨bx, 0, none⟩ = some (.int .i64 g.fn) ∧ W.cell? ⟨bx, 1, none⟩ = some (.int .i64 g.pc) ∧ W.cell? ⟨bx, 2, none⟩ = some (.int .i64 g.slots) ∧ W.cell? ⟨bx, 3, none⟩ = some (.slice (some ⟨bm, offm, none⟩) g.nodes.length cn) ∧ W.cell? ⟨bx, 4, none⟩ = some vb ∧ W.cell? ⟨bx, 5, none⟩ = some vs ∧ W.cell? ⟨bm, offm + zk * 5 + 4, none⟩ = some (.int .i64 y.state)) (first | exact hS1 | exact hS2 | exact hS3) (first | (go_at_call 54; refine (slots_any ⟨.slice (some ⟨bm, offm, none⟩) g.nodes.length cn, vb, vs⟩ g y.state w1.drew HC1.out.graph).mono ?_; rintro e w2 ⟨v2, rfl, hv2, hb2⟩; have hS2 := sevenB _ _ _ _ _ _ _ HS1.out hb2; have HV2 := Lib.hid (hv2.mono hb2.size); have HB2 := Lib.hid hb2; have HM2 := Lib.hid (SetM.below (w := w1.drew) HM1.out hb2); clear hv2 hb2) | (go_at_call 50; refine (put_any w2 r _ v2 (slotsOf g y.state) bx (some ⟨bm, offm, none⟩) g.nodes.length cn HM2.out HV2.out hS2.2.2.2.1 hNl).mono ?_; rintro e w3 ⟨rfl, hm3, hg3⟩; have hS3 := sevenG _ _ _ _ _ _ _ hS2 HM2.out hm3 hg3))
            have HM3 := Lib.hid hm3; have HG3 := Lib.hid hg3
            clear hS1 hS2 hS3 hm3 hg3
            go_wp2_with fail
            go_roundw
            case rel =>
              refine ⟨k + 1, by omega, by go_num, ?_, ((HG.out.trans HG1.out).trans (grown_undrew (grown_of_below (w := w1.drew) HB2.out _))).trans HG3.out⟩
              rw [usesTo_step g x p k _ HZ.out, nodeUse_some ((nodeAt_nat g zk).trans HY.out) HOP.out]; exact HM3.out
            case measure => simp [intOf]; omega
        · clear hcr
          go_wp2_with fail
          go_roundw
          case rel => exact ⟨k + 1, by omega, by go_num, by rw [usesTo_step g x p k _ HZ.out, nodeUse_none ((nodeAt_nat g zk).trans (List.getElem?_eq_none (by omega)))]; exact HS.out, HG.out⟩
          case measure => simp [intOf]; omega
    · clear hcr
      go_wp2_with fail
      refine ⟨?_, HG.out⟩
      have := HS.out
      rwa [show k = x.nodes.length from by omega] at this

end Go.Proofs.YtkmfdiboekoioaaGreat

/- The walk of the loop of live.Of that puts what is live at the beginnings of the blocks behind into a set. Conditions: a graph that is small. -/
namespace Go.Proofs.YtkmfdiboekoioaaGreat
open Go.RowKit
noncomputable def loop3 : Code := ((Tryz.f15.body.map loopsOf).getD []).getD 2 .skip

/-- A row of sets, none yet or made. -/
def SRows (w : World) (b : Nat) (I : Sets) (n : Nat) : Prop :=
  ∃ ms : List (Option Nat), ms.length = n ∧ Blk w b 95 ((ms.map Value.map).toArray) ∧ ∀ j m, ms[j]? = some m → (m = none ∧ I j = none) ∨ ∃ r p, m = some r ∧ I j = some p ∧ SetM w r p
theorem SRows.start {w : World} {b n : Nat} (h : Blk w b 95 (madeCells #[.map none] n)) : SRows w b (fun _ => none) n := by
  refine ⟨List.replicate n none, by simp, ?_, fun j m h => ?_⟩
  · have e : madeCells #[Value.map none] n = ((List.replicate n none).map Value.map).toArray := by
      apply Array.ext
      · simp [madeCells]
      · intro i h1 h2
        simp [madeCells, Nat.mod_one]
    rw [← e]; exact h
  · have := List.mem_of_getElem? h
    exact .inl ⟨List.eq_of_mem_replicate this, rfl⟩
theorem SRows.below {w w' : World} {b n : Nat} {I : Sets} (h : SRows w b I n) (hb : Below w.heap.size w w') : SRows w' b I n := by
  obtain ⟨ms, hl, hk, hm⟩ := h
  refine ⟨ms, hl, hk.below hb hk.lt, fun j m hj => ?_⟩
  rcases hm j m hj with h | ⟨r, p, h1, h2, h3⟩
  · exact .inl h
  · exact .inr ⟨r, p, h1, h2, h3.below hb⟩
theorem SRows.far {w : World} {b n : Nat} {I : Sets} (h : SRows w b I n) {a : Addr} (ha : b ≠ a.block) (u : Value) : SRows (w.setCell a u) b I n := by
  obtain ⟨ms, hl, hk, hm⟩ := h
  refine ⟨ms, hl, hk.far ha u, fun j m hj => ?_⟩
  rcases hm j m hj with h | ⟨r, p, h1, h2, h3⟩
  · exact .inl h
  · exact .inr ⟨r, p, h1, h2, h3.setCell _ _⟩
theorem SRows.put {w : World} {b n k r : Nat} {I : Sets} {p : ISet} (h : SRows w b I n) (hk : k < n) (hr : SetM w r p) : SRows (w.setCell ⟨b, k, none⟩ (.map (some r))) b (I.put k p) n := by
  obtain ⟨ms, hl, hb, hm⟩ := h
  refine ⟨ms.set k (some r), by simpa using hl, ?_, fun j m hj => ?_⟩
  · have := hb.set_ k (.map (some r))
    simpa [List.map_set] using this
  · rw [List.getElem?_set] at hj
    by_cases e : k = j
    · subst e
      simp only [if_true] at hj
      rw [if_pos (by omega)] at hj
      injection hj with hj
      exact .inr ⟨r, p, hj.symm, by simp [Sets.put], hr.setCell _ _⟩
    · simp only [e, if_false] at hj
      rw [Sets.put_other I p (Ne.symm e)]
      rcases hm j m hj with h | ⟨r', p', h1, h2, h3⟩
      · exact .inl h
      · exact .inr ⟨r', p', h1, h2, h3.setCell _ _⟩
theorem SRows.get {w : World} {b n k : Nat} {I : Sets} (h : SRows w b I n) (hk : k < n) : ∃ m, w.cell? ⟨b, k, none⟩ = some (.map m) ∧ ((m = none ∧ I k = none) ∨ ∃ r p, m = some r ∧ I k = some p ∧ SetM w r p) := by
  obtain ⟨ms, hl, hb, hm⟩ := h
  obtain ⟨m, hmk⟩ := getE (l := ms) (k := k) (by omega)
  refine ⟨m, ?_, hm k m hmk⟩
  rw [hb.cell k]
  simp [List.getElem?_map, hmk]
theorem SRows.frozen {w : World} {b n : Nat} {I : Sets} (h : SRows w b I n) (k : Nat) : w.frozen? ⟨b, k, none⟩ = false := by
  obtain ⟨ms, _, hb, _⟩ := h
  exact hb.frozen k


theorem phisOf_lim {g : GraphP} (hs : Small g) (x : BlockP) (b : Int) (hx : x.nodes.length ≤ 5000) : (phisOf g x b).length ≤ lim := by
  rw [← phisTo_all]
  have := phisTo_len hs x b x.nodes.length
  unfold lim; omega
theorem pairB {w w' : World} (a0 a1 : Addr) {v0 v1 : Value} (h : w.cell? a0 = some v0 ∧ w.cell? a1 = some v1) (hb : Below w.heap.size w w') : w'.cell? a0 = some v0 ∧ w'.cell? a1 = some v1 := by
  have k : ∀ {a : Addr} {v : Value}, w.cell? a = some v → w'.cell? a = some v := fun h => (hb.cell (World.block_lt_of_cell? w _ h)).trans h
  exact ⟨k h.1, k h.2⟩
/-- The list of a set that may be none yet. -/
theorem list_opt (w : World) (N k : Nat) (I : Sets) (m : Option Nat) (hm : (m = none ∧ I k = none) ∨ ∃ r p, m = some r ∧ I k = some p ∧ SetM w r p) (hb : Bounded N (I.at_ k)) (hN : N ≤ lim) :
    Calls Tryz.prog 52 #[.map m] w (ListIs N (I.at_ k) w) := by
  rcases hm with ⟨rfl, hI⟩ | ⟨r, p, rfl, hI, hset⟩
  · refine (list_nil w).mono ?_
    rintro e w' ⟨v, he, ho, hb'⟩
    refine ⟨v, he, ?_, hb'⟩
    have e1 : I.at_ k = ISet.empty := by unfold Sets.at_; rw [hI]; rfl
    rw [e1, listOf_empty]
    exact ho
  · rw [Sets.at_some hI] at hb ⊢
    exact list_any r N p w hset hb hN

set_option maxRecDepth 100000 in
set_option maxHeartbeats 4000000 in
theorem loop3_any (wp w : World) (B r bx bi : Nat) (I : Sets) (b : Int) (xv : GVals) (g : GraphP) (x : BlockP) (A : Option Addr) (c : Nat) (hs : Small g) (hrows : SRows wp bi I g.blocks.length) (hlow : Below wp.heap.size wp w) (hr : wp.heap.size ≤ r) (hset : SetM w r ISet.empty) (hl : IntsV w w.heap.size (.slice A x.next.length c) x.next) (hctx : GCtx w B bx xv g) (hbd : ∀ j, Bounded g.nodes.length (I.at_ j))
    (u0 u2 u4 u7 u8 u10 u12 u13 u14 u15 u16 u17 u18 u19 u20 u21 u22 u23 u24 u25 u26 u27 u28 u29 u30 u31 u32 u33 u34 u35 u36 u37 u38 u39 u40 u41 u42 u43 u44 u45 u46 u47 u48 u49 u50 u54 u55 u56 u57 u58 u59 u60 u61 u62 u63 u64 u65 u66 u67 u68 u69 u70 u71 u72 u73 u74 u75 u76 u77 u78 u79 u80 u81 u82 u83 u84 u85 u86 u87 u88 u89 u90 u91 u92 u93 u94 u95 u96 u97 u98 u99 u100 u101 u102 u103 u104 u105 u106 u107 u108 u109 u110 u111 u112 u113 u114 u115 u116 u117 u118 u119 u120 u121 u122 u123 u124 u125 u126 u127 u128 u129 u130 u131 u132 u133 u134 u135 u136 u137 u138 u139 u140 u141 u142 u143 u144 u145 u146 u147 u148 u149 u150 u151 u152 u153 u154 u155 u156 u157 u158 u159 u160 u161 u162 u163 u164 u165 u166 u167 u168 u169 u170 u171 u172 u173 u174 u175 u176 u177 u178 u179 u180 u181 u182 u183 u184 u185 u186 u187 u188 u189 u190 u191 u192 u193 u194 u195 u196 u197 u198 u199 u200 u201 u202 u203 u204 u205 u206 u207 u208 u209 u210 u211 u212 : Value) (Q : Exit → Act → World → Prop)
    (hexit : ∀ (x13 x53 x54 x55 x56 x57 x58 x59 x60 x61 x62 x63 x64 x65 x66 x67 x68 x69 x70 x71 x72 x73 x74 x75 x76 x77 x78 x79 x80 x81 : Value) (w' : World), (SetM w' r (outF g I b x) ∧ w.grownBy w' (some r)) → Q (.exit 4) ⟨#[u0, .pointer (some ⟨bx, 0, none⟩), u2, .slice (some ⟨bi, 0, none⟩) g.blocks.length g.blocks.length, u4, .func (.func 50) #[] #[.pointer (some ⟨bx, 0, none⟩)], .func (.func 51) #[] #[.pointer (some ⟨bx, 0, none⟩)], u7, u8, .int .i64 b, u10, .map (some r), u12, x13, u14, u15, u16, u17, u18, u19, u20, u21, u22, u23, u24, u25, u26, u27, u28, u29, u30, u31, u32, u33, u34, u35, u36, u37, u38, u39, u40, u41, u42, u43, u44, u45, u46, u47, u48, u49, u50, .slice A x.next.length c, .int .i64 x.next.length, x53, x54, x55, x56, x57, x58, x59, x60, x61, x62, x63, x64, x65, x66, x67, x68, x69, x70, x71, x72, x73, x74, x75, x76, x77, x78, x79, x80, x81, u82, u83, u84, u85, u86, u87, u88, u89, u90, u91, u92, u93, u94, u95, u96, u97, u98, u99, u100, u101, u102, u103, u104, u105, u106, u107, u108, u109, u110, u111, u112, u113, u114, u115, u116, u117, u118, u119, u120, u121, u122, u123, u124, u125, u126, u127, u128, u129, u130, u131, u132, u133, u134, u135, u136, u137, u138, u139, u140, u141, u142, u143, u144, u145, u146, u147, u148, u149, u150, u151, u152, u153, u154, u155, u156, u157, u158, u159, u160, u161, u162, u163, u164, u165, u166, u167, u168, u169, u170, u171, u172, u173, u174, u175, u176, u177, u178, u179, u180, u181, u182, u183, u184, u185, u186, u187, u188, u189, u190, u191, u192, u193, u194, u195, u196, u197, u198, u199, u200, u201, u202, u203, u204, u205, u206, u207, u208, u209, u210, u211, u212], []⟩ w') :
    Code.wp Tryz.prog (Code.loop loop3) Q ⟨#[u0, .pointer (some ⟨bx, 0, none⟩), u2, .slice (some ⟨bi, 0, none⟩) g.blocks.length g.blocks.length, u4, .func (.func 50) #[] #[.pointer (some ⟨bx, 0, none⟩)], .func (.func 51) #[] #[.pointer (some ⟨bx, 0, none⟩)], u7, u8, .int .i64 b, u10, .map (some r), u12, u13, u14, u15, u16, u17, u18, u19, u20, u21, u22, u23, u24, u25, u26, u27, u28, u29, u30, u31, u32, u33, u34, u35, u36, u37, u38, u39, u40, u41, u42, u43, u44, u45, u46, u47, u48, u49, u50, .slice A x.next.length c, .int .i64 x.next.length, .int .i64 0, u54, u55, u56, u57, u58, u59, u60, u61, u62, u63, u64, u65, u66, u67, u68, u69, u70, u71, u72, u73, u74, u75, u76, u77, u78, u79, u80, u81, u82, u83, u84, u85, u86, u87, u88, u89, u90, u91, u92, u93, u94, u95, u96, u97, u98, u99, u100, u101, u102, u103, u104, u105, u106, u107, u108, u109, u110, u111, u112, u113, u114, u115, u116, u117, u118, u119, u120, u121, u122, u123, u124, u125, u126, u127, u128, u129, u130, u131, u132, u133, u134, u135, u136, u137, u138, u139, u140, u141, u142, u143, u144, u145, u146, u147, u148, u149, u150, u151, u152, u153, u154, u155, u156, u157, u158, u159, u160, u161, u162, u163, u164, u165, u166, u167, u168, u169, u170, u171, u172, u173, u174, u175, u176, u177, u178, u179, u180, u181, u182, u183, u184, u185, u186, u187, u188, u189, u190, u191, u192, u193, u194, u195, u196, u197, u198, u199, u200, u201, u202, u203, u204, u205, u206, u207, u208, u209, u210, u211, u212], []⟩ w := by
  have HSet := Lib.hid hset; have HL := Lib.hid hl; have HC := Lib.hid hctx; have HR := Lib.hid hrows; have HLow := Lib.hid hlow; have HBd := Lib.hid hbd
  have hlim : x.next.length ≤ 17592186044416 := by obtain ⟨_, _, _, _, hlc, _⟩ := hl; unfold lim at hlc; omega
  obtain ⟨l1, l2, l3⟩ := hs.lens
  obtain ⟨vn, vb, vs⟩ := xv
  obtain ⟨An, cn, en, _, _, _⟩ := hctx.gr.1
  simp only at en
  subst en
  have hNl : g.nodes.length ≤ lim := by unfold lim; omega
  clear hset hl hctx hrows hlow hbd
  conv => arg 2; arg 1; whnf
  dsimp only
  go_loopw [53] (fun i wr => ∃ k : Nat, k ≤ x.next.length ∧ i = .int .i64 k ∧ SetM wr r (outTo g I b x k) ∧ w.grownBy wr (some r)) (fun i _ => x.next.length - (intOf i).toNat)
  case atStart => exact ⟨0, Nat.zero_le _, rfl, HSet.out, World.grownBy.refl _ _⟩
  case round =>
    obtain ⟨k, hk, rfl, hsr, hg⟩ := hrel
    have HS := Lib.hid hsr; have HG := Lib.hid hg
    have hcr := HC.out.turn HSet.out hsr hg
    have HCR := Lib.hid hcr
    have hlowr : Below wp.heap.size wp wr := HLow.out.grown hg HLow.out.size (fun q e => by injection e with e; omega)
    have HRR := Lib.hid (HR.out.below hlowr)
    clear hsr hg hlowr
    obtain ⟨q0, q1, q2, q3, q4, q5⟩ := hcr.cells
    simp only at q3 q4 q5
    clear hcr
    by_cases hlt : k < x.next.length
    · obtain ⟨bn, offn, rfl, hbnB, hp⟩ := (grown_ints HSet.out HS.out HG.out (Nat.le_refl _) HL.out).cells hlt
      obtain ⟨z, hz⟩ := getE hlt
      have f0 := hp k z hz
      have HZ := Lib.hid hz
      clear hp hz
      obtain ⟨Ab, cb, eb, _, _, _⟩ := HCR.out.gr.2.1
      simp only at eb
      subst eb
      by_cases h0 : z < 0
      · go_wp2_with fail
        go_roundw
        case rel => exact ⟨k + 1, by omega, by go_num, by rw [outTo_step g I b x k z HZ.out, outStep_none (blockAt_neg h0)]; exact HS.out, HG.out⟩
        case measure => simp [intOf]; omega
      · obtain ⟨zk, rfl⟩ := Int.eq_ofNat_of_zero_le (Int.not_lt.1 h0)
        by_cases h1 : zk < g.blocks.length
        · obtain ⟨m, hcell, hm⟩ := HRR.out.get h1
          obtain ⟨y, hy⟩ := getE h1
          have HY := Lib.hid hy; have HM := Lib.hid hm
          clear hy hm
          go_upto_region 18 with (first
            | (go_at_call 52; refine (list_opt wr g.nodes.length zk I m HM.out (HBd.out zk) hNl).mono ?_; rintro e w1 ⟨v1, rfl, ho1, hb1⟩; have HO1 := Lib.hid (ho1.ints (Nat.le_trans (listOf_len _ _) hNl)); have HB1 := Lib.hid hb1; have HS1 := Lib.hid (HS.out.below hb1); have q3' := (HCR.out.below hb1).cells.2.2.2.1; clear ho1 hb1)
            | (go_at_call 50; refine (put_any w1 r _ v1 (listOf g.nodes.length (I.at_ zk)) bx An g.nodes.length cn HS1.out HO1.out q3' hNl).mono ?_; rintro e w2 ⟨rfl, hm2, hg2⟩)
            | fail)
          have HM2 := Lib.hid hm2; have HG2 := Lib.hid hg2
          have hc2 := (HCR.out.below HB1.out).turn HS1.out hm2 hg2
          have HC2 := Lib.hid hc2
          clear q0 q1 q2 q3 q4 q5 q3' hm2 hg2
          obtain ⟨q0, q1, q2, q3, q4, q5⟩ := hc2.cells
          simp only at q3 q4 q5
          clear hc2
          have hS1 : w2.cell? ⟨bx, 3, none⟩ = some (.slice An g.nodes.length cn) ∧ w2.cell? ⟨bx, 4, none⟩ = some (.slice Ab g.blocks.length cb) := ⟨q3, q4⟩
          have HS1' := Lib.hid hS1
          clear q0 q1 q2 q3 q4 q5
          go_wp2_with (first | (go_at_call 51; refine (phis_any w2 ⟨.slice An g.nodes.length cn, .slice Ab g.blocks.length cb, vs⟩ g zk y b bx HC2.out.lt HC2.out.graph hs HY.out hS1.1 hS1.2).mono ?_; rintro e w3 ⟨v3, rfl, hv3, hb3⟩; have hS2 := pairB _ _ HS1'.out hb3; have HV3 := Lib.hid (hv3.ints (phisOf_lim hs y b (hs.block HY.out).1)); have HB3 := Lib.hid hb3; have HM3 := Lib.hid (SetM.below HM2.out hb3); clear hv3 hb3) | (go_at_call 50; refine (put_any w3 r _ v3 (phisOf g y b) bx An g.nodes.length cn HM3.out HV3.out hS2.1 hNl).mono ?_; rintro e w4 ⟨rfl, hm4, hg4⟩; have HM4 := Lib.hid hm4; have HG4 := Lib.hid hg4; clear hm4 hg4) | fail)
          go_roundw
          case rel =>
            refine ⟨k + 1, by omega, by go_num, ?_, (((HG.out.trans (grown_of_below HB1.out _)).trans HG2.out).trans (grown_of_below HB3.out _)).trans HG4.out⟩
            rw [outTo_step g I b x k _ HZ.out, outStep_some ((blockAt_nat g zk).trans HY.out), Int.toNat_natCast]; exact HM4.out
          case measure => simp [intOf]; omega
        · go_wp2_with fail
          go_roundw
          case rel => exact ⟨k + 1, by omega, by go_num, by rw [outTo_step g I b x k _ HZ.out, outStep_none ((blockAt_nat g zk).trans (List.getElem?_eq_none (by omega)))]; exact HS.out, HG.out⟩
          case measure => simp [intOf]; omega
    · go_wp2_with fail
      refine ⟨?_, HG.out⟩
      have := HS.out
      rwa [show k = x.next.length from by omega, outTo_all] at this

end Go.Proofs.YtkmfdiboekoioaaGreat
