/- graph.look.node at a phi. Conditions: a graph that is looked at. -/
import Derived.Test.YtkmfdiboekoioaaGreatCLk13
import Derived.BigQuiet
set_option linter.unusedSimpArgs false
set_option linter.unusedVariables false
namespace Go.Proofs.YtkmfdiboekoioaaGreat
open Go.RowKit
set_option maxRecDepth 100000 in
set_option maxHeartbeats 8000000 in
theorem node_phi (w W : World) (B bl : Nat) (pv : Value) (p : List FnP) (xv : GVals) (g : GraphP) (dv av bv : Value) (al : List (Int × Int)) (abs : List (List Int)) (n : Nat) (y : NodeP) (qb qi : Nat) (x : BlockP) (row : List Int) (fn : Nat) (f : FnP) (b5 b6 b7 : Nat) (A1 : Option Addr) (c1 : Nat) (A0 : Option Addr) (c0 : Nat) (v2 v3 : Value) (A4 : Option Addr) (c4 : Nat)
    (F : NodF B p g al abs n y qb qi x row fn f) (M : NodR w B bl pv p xv g dv av bv al abs y qb qi x b5 b6 b7 A1 c1 A0 c0 v2 v3 A4 c4 W) (ha : ∀ a ∈ y.args, 0 ≤ a ∧ a < (g.nodes.length : Int)) (hs : -1 ≤ y.state ∧ y.state < (g.states.length : Int)) (ho : y.op = 2)
    (u3 u8 u9 u10 u11 u12 u13 u14 u15 u16 u17 u18 u19 u20 u21 u22 u23 u24 u25 u26 u27 u28 u29 u30 u31 u32 u33 u34 u35 u36 u37 u38 u39 u40 u41 u42 u43 u44 u45 u46 u47 u48 u49 u50 u51 u52 u53 u54 u55 u56 u57 u58 u59 u60 u61 u62 u63 u64 u65 u66 u67 u68 u69 u70 u71 u72 u73 u74 u75 u76 u77 u78 u79 u80 u81 u82 u83 u84 u85 u86 u87 u88 u89 u90 u91 u92 u93 u94 u95 u96 u97 u98 u99 u100 u101 u102 u103 u104 u105 u106 u107 u108 u109 u110 u111 u112 u113 u114 u115 u116 u117 u118 u119 u120 u121 u122 u123 u124 u125 u126 u127 u128 u129 u130 u131 u132 u133 u134 u135 u136 u137 u138 u139 u140 u141 u142 u143 u144 u145 u146 u147 u148 u149 u150 u151 u152 u153 u154 u155 u156 u157 u158 u159 u160 u161 u162 u163 u164 u165 u166 u167 u168 u169 u170 u171 u172 u173 u174 u175 u176 u177 u178 u179 u180 u181 u182 u183 u184 u185 u186 u187 u188 u189 u190 u191 u192 u193 u194 u195 u196 u197 u198 u199 u200 u201 u202 u203 u204 u205 u206 u207 u208 u209 u210 u211 u212 u213 u214 u215 u216 u217 u218 u219 u220 u221 u222 u223 u224 u225 u226 u227 u228 u229 u230 u231 u232 u233 u234 u235 u236 u237 u238 u239 u240 u241 u242 u243 u244 u245 u246 u247 u248 u249 u250 u251 u252 u253 u254 u255 u256 u257 : Value) :
    Code.wp Tryz.prog nrest (bodyPost Tryz.prog Tryz.f48 (NodIs g al abs y qb qi x row w)) ⟨#[.pointer (some ⟨bl, 0, none⟩), .int .i64 n, .pointer (some ⟨w.heap.size, 0, none⟩), u3, .bool false, .pointer (some ⟨b5, 0, none⟩), .pointer (some ⟨b6, 0, none⟩), .pointer (some ⟨b7, 0, none⟩), u8, u9, u10, u11, u12, u13, u14, u15, u16, u17, u18, u19, u20, u21, u22, u23, u24, u25, u26, u27, u28, u29, u30, u31, u32, u33, u34, u35, u36, u37, u38, u39, u40, u41, u42, u43, u44, u45, u46, u47, u48, u49, u50, u51, u52, u53, u54, u55, u56, u57, u58, u59, u60, u61, u62, u63, u64, u65, u66, u67, u68, u69, u70, u71, u72, u73, u74, u75, u76, u77, u78, u79, u80, u81, u82, u83, u84, u85, u86, u87, u88, u89, u90, u91, u92, u93, u94, u95, u96, u97, u98, u99, u100, u101, u102, u103, u104, u105, u106, u107, u108, u109, u110, u111, u112, u113, u114, u115, u116, u117, u118, u119, u120, u121, u122, u123, u124, u125, u126, u127, u128, u129, u130, u131, u132, u133, u134, u135, u136, u137, u138, u139, u140, u141, u142, u143, u144, u145, u146, u147, u148, u149, u150, u151, u152, u153, u154, u155, u156, u157, u158, u159, u160, u161, u162, u163, u164, u165, u166, u167, u168, u169, u170, u171, u172, u173, u174, u175, u176, u177, u178, u179, u180, u181, u182, u183, u184, u185, u186, u187, u188, u189, u190, u191, u192, u193, u194, u195, u196, u197, u198, u199, u200, u201, u202, u203, u204, u205, u206, u207, u208, u209, u210, u211, u212, u213, u214, u215, u216, u217, u218, u219, u220, u221, u222, u223, u224, u225, u226, u227, u228, u229, u230, u231, u232, u233, u234, u235, u236, u237, u238, u239, u240, u241, u242, u243, u244, u245, u246, u247, u248, u249, u250, u251, u252, u253, u254, u255, u256, u257], []⟩ W := by
  obtain ⟨vn, vb, vs⟩ := xv
  have HF := Lib.hid F; have HM := Lib.hid M; have HA := Lib.hid ha; have HS := Lib.hid hs
  have n0 : W.cell? ⟨b5, 0, none⟩ = some (.int .u8 y.op) := M.nb.cell 0
  have n1 : W.cell? ⟨b5, 1, none⟩ = some (.slice A1 y.args.length c1) := M.nb.cell 1
  have n2 : W.cell? ⟨b5, 2, none⟩ = some (.int .i64 y.N) := M.nb.cell 2
  have n3 : W.cell? ⟨b5, 3, none⟩ = some (.int .u8 y.kind) := M.nb.cell 3
  have n4 : W.cell? ⟨b5, 4, none⟩ = some (.int .i64 y.state) := M.nb.cell 4
  have k0 : W.cell? ⟨b6, 0, none⟩ = some (.int .i64 (qb : Int)) := M.pb.cell 0
  have k1 : W.cell? ⟨b6, 1, none⟩ = some (.int .i64 (qi : Int)) := M.pb.cell 1
  have z0 : W.cell? ⟨w.heap.size, 0, none⟩ = some (.pointer (some ⟨bl, 0, none⟩)) := M.lb.cell 0
  have m0 : W.cell? ⟨b7, 0, none⟩ = some (.slice A0 x.nodes.length c0) := M.kb.cell 0
  have m4 : W.cell? ⟨b7, 4, none⟩ = some (.slice A4 x.ahead.length c4) := M.kb.cell 4
  have ln := M.nb.lt
  have lk := M.pb.lt
  have lz := M.lb.lt
  have lm := M.kb.lt
  have ll := M.st.lk.box.lt
  have hal : y.args.length ≤ 17592186044416 := by obtain ⟨_, _, _, _, q, _⟩ := M.ia; unfold lim at q; omega
  have hxl : x.nodes.length ≤ 17592186044416 := by obtain ⟨_, _, _, _, q, _⟩ := M.i0; unfold lim at q; omega
  have hxa : x.ahead.length ≤ 17592186044416 := by obtain ⟨_, _, _, _, q, _⟩ := M.i4; unfold lim at q; omega
  rw [ho] at n0
  have hqi : (qi : Int) ≤ x.nodes.length := by have := F.hi; omega
  have hqn := F.hi
  have hc0 : x.nodes.length ≤ c0 := by
    obtain ⟨_, _, e, q, _⟩ := M.i0
    injection e with e1 e2 e3
    omega
  clear F M ha hs
  conv => arg 2; whnf
  dsimp only
  go_upto_region 9 with fail
  rcases bool_or ((qb : Int) == 0) with b0 | b0
  rotate_left
  · go_wp2_with fail
    go_ret
    exact ⟨false, rfl, (fun h => by cases h), HM.out.low⟩
  rcases bool_or ((y.args.length : Int) != (x.ahead.length : Int)) with b1 | b1
  rotate_left
  · go_wp2_with fail
    go_ret
    exact ⟨false, rfl, (fun h => by cases h), HM.out.low⟩
  rcases bool_or (y.N != 0) with b2 | b2
  rotate_left
  · go_wp2_with fail
    go_ret
    exact ⟨false, rfl, (fun h => by cases h), HM.out.low⟩
  rcases bool_or (y.kind != 0) with b3 | b3
  rotate_left
  · go_wp2_with fail
    go_ret
    exact ⟨false, rfl, (fun h => by cases h), HM.out.low⟩
  rcases bool_or (y.state != -1) with b4 | b4
  rotate_left
  · go_wp2_with fail
    go_ret
    exact ⟨false, rfl, (fun h => by cases h), HM.out.low⟩
  have hlen : y.args.length = x.ahead.length := by
    have : (y.args.length : Int) = (x.ahead.length : Int) := by simpa [bne_eq_false_iff_eq] using b1
    omega
  have hrow := HF.out.hr
  go_upto_region 12 with fail
  go_outline
  go_loopw [132] (fun i wr => ∃ k : Nat, k ≤ qi ∧ i = .int .i64 k ∧ Hid (Below W.heap.size W wr)) (fun i _ => qi - (intOf i).toNat)
  case atStart => exact ⟨0, Nat.zero_le _, rfl, Lib.hid (Below.refl _ _)⟩
  case round =>
    obtain ⟨k, hk, rfl, HB⟩ := hrel
    have HMr := Lib.hid (HM.out.below HB.out)
    clear n0 n1 n2 n3 n4 k0 k1 z0 m0 m4 ln lk lz lm ll
    by_cases hlt : k < qi
    · have z0 : wr.cell? ⟨w.heap.size, 0, none⟩ = some (.pointer (some ⟨bl, 0, none⟩)) := HMr.out.lb.cell 0
      have lz := HMr.out.lb.lt
      have ll := HMr.out.st.lk.box.lt
      have c4 := HMr.out.st.lk.cells.2.2.2.2.1
      obtain ⟨b0', o0', rfl, hb0', hp0⟩ := HMr.out.i0.cells (k := k) (by omega)
      obtain ⟨zz, hzz⟩ := getL (l := x.nodes) (k := k) (by omega)
      have fz := hp0 k zz hzz
      have hzr := HF.out.hxn zz (List.mem_of_getElem? hzz)
      obtain ⟨zm, rfl⟩ : ∃ zm : Nat, zz = (zm : Int) := ⟨zz.toNat, by omega⟩
      obtain ⟨y2, hy2⟩ := getL (l := g.nodes) (k := zm) (by omega)
      obtain ⟨An, cn, en, _, hln, hpn⟩ := HMr.out.st.lk.gr.1
      obtain ⟨bn, on, rfl, hbn, hpn⟩ := hpn (by omega)
      simp only at en c4
      subst en
      obtain ⟨fy, _⟩ := hpn zm y2 hy2
      have hznl : zm < g.nodes.length := by omega
      have hnlim : g.nodes.length ≤ 17592186044416 := by unfold lim at hln; omega
      clear hp0 hpn hzz hy2 hzr
      rcases bool_or (y2.op != 2) with q | q
      · go_wp2_with fail
        go_roundw
        case rel => exact ⟨k + 1, by omega, by go_num, HB⟩
        case measure => simp [intOf]; omega
      · go_wp2_with fail
        go_ret
        exact ⟨false, rfl, (fun h => by cases h), HMr.out.low⟩
    · have n1 : wr.cell? ⟨b5, 1, none⟩ = some (.slice A1 y.args.length c1) := HMr.out.nb.cell 1
      have ln := HMr.out.nb.lt
      go_upto_region 18 with fail
      clear n1 ln
      obtain ⟨wq, hwq⟩ : ∃ wq, wq = wr := ⟨_, rfl⟩
      rw [← hwq] at HMr ⊢
      clear hwq HB hk hlt
      go_loopw [150] (fun i wr => ∃ k : Nat, k ≤ y.args.length ∧ i = .int .i64 k ∧ Hid (Below wq.heap.size wq wr) ∧ Hid (∀ (j : Nat), j < k → ∀ (a c : Int) z r, y.args[j]? = some a → x.ahead[j]? = some c → g.blocks[c.toNat]? = some z → abs[c.toNat]? = some r → standsB al r c.toNat z.nodes.length a = true)) (fun i _ => y.args.length - (intOf i).toNat)
      case atStart => exact ⟨0, Nat.zero_le _, rfl, Lib.hid (Below.refl _ _), Lib.hid (fun j h => by omega)⟩
      case round =>
        obtain ⟨k, hk, rfl, HB, HSt⟩ := hrel
        have HM1 := Lib.hid (HMr.out.below HB.out)
        obtain ⟨wo, rfl⟩ : ∃ wo : World, wo = wr := ⟨_, rfl⟩
        by_cases hlt : k < y.args.length
        · obtain ⟨ba1, oa1, rfl, hba1, hp1⟩ := HM1.out.ia.cells hlt
          obtain ⟨a, hya⟩ := getL hlt
          have fa := hp1 k a hya
          have hra := HA.out a (List.mem_of_getElem? hya)
          obtain ⟨am, rfl⟩ : ∃ am : Nat, a = (am : Int) := ⟨a.toNat, by omega⟩
          obtain ⟨ba4, oa4, rfl, hba4, hp4⟩ := HM1.out.i4.cells (k := k) (by omega)
          obtain ⟨c, hxc⟩ := getL (l := x.ahead) (k := k) (by omega)
          have fc := hp4 k c hxc
          have hrc := HF.out.hxa c (List.mem_of_getElem? hxc)
          obtain ⟨cm, rfl⟩ : ∃ cm : Nat, c = (cm : Int) := ⟨c.toNat, by omega⟩
          obtain ⟨z, hz⟩ := getL (l := g.blocks) (k := cm) (by omega)
          obtain ⟨r, hr⟩ := getL (l := abs) (k := cm) (by have := HF.out.habs; omega)
          obtain ⟨q, hq⟩ := getL (l := al) (k := am) (by have := HF.out.hal; omega)
          obtain ⟨Ab, cb, eb, _, hlb, hpb⟩ := HM1.out.st.lk.gr.2.1
          obtain ⟨bb, ob, rfl, hbb, hpb⟩ := hpb (by omega)
          simp only at eb
          subst eb
          obtain ⟨⟨u0, g0, i0'⟩, _⟩ := hpb cm z hz
          have hzl : z.nodes.length ≤ 17592186044416 := by obtain ⟨_, _, _, _, q, _⟩ := i0'; unfold lim at q; omega
          obtain ⟨Az, cz, rfl, _⟩ := i0'
          have hblim : g.blocks.length ≤ 17592186044416 := by unfold lim at hlb; omega
          have hcl : cm < g.blocks.length := by omega
          have hkx : k < x.ahead.length := by omega
          obtain ⟨t, ht⟩ : ∃ t, t = standsB al r cm z.nodes.length am := ⟨_, rfl⟩
          have HT : Hid (t = if q.1 = (cm : Int) then decide (q.2 < (z.nodes.length : Int)) else decide (q.1 ∈ r)) := Lib.hid (by
            rw [ht]; unfold standsB
            rw [Int.toNat_natCast, List.getD_eq_getElem?_getD, hq]; rfl)
          have HTs := Lib.hid ht
          clear ht
          have HZ := Lib.hid hz; have HR := Lib.hid hr; have HQ := Lib.hid hq; have HYa := Lib.hid hya; have HXc := Lib.hid hxc
          have z0 : wo.cell? ⟨w.heap.size, 0, none⟩ = some (.pointer (some ⟨bl, 0, none⟩)) := HM1.out.lb.cell 0
          have m4 : wo.cell? ⟨b7, 4, none⟩ = some (.slice (some ⟨ba4, oa4, none⟩) x.ahead.length c4) := HM1.out.kb.cell 4
          have c5 : wo.cell? ⟨bl, 5, none⟩ = some (.slice (some ⟨bb, ob, none⟩) g.blocks.length cb) := HM1.out.st.lk.cells.2.2.2.2.2.1
          clear hp1 hya hra hp4 hxc hrc hz hr hq hpb
          go_upto_region 20 with fail
          have HS5 : Hid ((fun W : World => W.cell? ⟨w.heap.size, 0, none⟩ = some (.pointer (some ⟨bl, 0, none⟩)) ∧ W.cell? ⟨b7, 4, none⟩ = some (.slice (some ⟨ba4, oa4, none⟩) x.ahead.length c4) ∧ W.cell? ⟨bl, 5, none⟩ = some (.slice (some ⟨bb, ob, none⟩) g.blocks.length cb) ∧ W.cell? ⟨ba4, oa4 + k, none⟩ = some (.int .i64 (cm : Int)) ∧ W.cell? ⟨bb, ob + cm * 6, none⟩ = some (.slice Az z.nodes.length cz)) wo.drew) := Lib.hid ⟨z0, m4, c5, fc, g0⟩
          refine wp_region_H (fun W => W.cell? ⟨w.heap.size, 0, none⟩ = some (.pointer (some ⟨bl, 0, none⟩)) ∧ W.cell? ⟨b7, 4, none⟩ = some (.slice (some ⟨ba4, oa4, none⟩) x.ahead.length c4) ∧ W.cell? ⟨bl, 5, none⟩ = some (.slice (some ⟨bb, ob, none⟩) g.blocks.length cb) ∧ W.cell? ⟨ba4, oa4 + k, none⟩ = some (.int .i64 (cm : Int)) ∧ W.cell? ⟨bb, ob + cm * 6, none⟩ = some (.slice Az z.nodes.length cz)) (by kernel_rfl) HS5.out (fun HSn => ?_)
          have HFc := Lib.hid fc; have HG0 := Lib.hid g0
          clear HSn z0 m4 c5 fc g0
          refine wpAnyH_take (i := 0) (oi := _) (v := ?_) rfl (by kernel_rfl) (by kernel_rfl) (by kernel_rfl) (fun _ _ _ h => h) (Or.inl ⟨by rfl, ?_⟩) HS5.out ?_
          rotate_left
          · intro w hSw; (try dsimp only at hSw); go_simp; (try with_reducible rfl)
          try simp only [Act.put, List.setIfInBounds_toArray, List.set_cons_zero, List.set_cons_succ]
          refine wpAnyH_take (i := 1) (oi := _) (v := ?_) rfl (by kernel_rfl) (by kernel_rfl) (by kernel_rfl) (fun _ _ _ h => h) (Or.inl ⟨by rfl, ?_⟩) HS5.out ?_
          rotate_left
          · intro w hSw; (try dsimp only at hSw); go_simp; (try with_reducible rfl)
          try simp only [Act.put, List.setIfInBounds_toArray, List.set_cons_zero, List.set_cons_succ]
          refine wpAnyH_take (i := 2) (oi := _) (v := ?_) rfl (by kernel_rfl) (by kernel_rfl) (by kernel_rfl) (fun _ _ _ h => h) (Or.inl ⟨by rfl, ?_⟩) HS5.out ?_
          rotate_left
          · intro w hSw; (try dsimp only at hSw); go_simp; (try with_reducible rfl)
          try simp only [Act.put, List.setIfInBounds_toArray, List.set_cons_zero, List.set_cons_succ]
          refine wpAnyH_take (i := 3) (oi := _) (v := ?_) rfl (by kernel_rfl) (by kernel_rfl) (by kernel_rfl) (fun _ _ _ h => h) (Or.inl ⟨by rfl, ?_⟩) HS5.out ?_
          rotate_left
          · intro w hSw; (try dsimp only at hSw); go_simp; (try with_reducible rfl)
          try simp only [Act.put, List.setIfInBounds_toArray, List.set_cons_zero, List.set_cons_succ]
          refine wpAnyH_take (i := 4) (oi := _) (v := ?_) rfl (by kernel_rfl) (by kernel_rfl) (by kernel_rfl) (fun _ _ _ h => h) (Or.inl ⟨by rfl, ?_⟩) HS5.out ?_
          rotate_left
          · intro w hSw; (try dsimp only at hSw); go_simp; (try with_reducible rfl)
          try simp only [Act.put, List.setIfInBounds_toArray, List.set_cons_zero, List.set_cons_succ]
          refine wpAnyH_take (i := 5) (oi := _) (v := ?_) rfl (by kernel_rfl) (by kernel_rfl) (by kernel_rfl) (fun _ _ _ h => h) (Or.inl ⟨by rfl, ?_⟩) HS5.out ?_
          rotate_left
          · intro w hSw; (try dsimp only at hSw); go_simp; (try with_reducible rfl)
          try simp only [Act.put, List.setIfInBounds_toArray, List.set_cons_zero, List.set_cons_succ]
          refine wpAnyH_take (i := 6) (oi := _) (v := ?_) rfl (by kernel_rfl) (by kernel_rfl) (by kernel_rfl) (fun _ _ _ h => h) (Or.inl ⟨by rfl, ?_⟩) HS5.out ?_
          rotate_left
          · intro w hSw; (try dsimp only at hSw); go_simp; (try with_reducible rfl)
          try simp only [Act.put, List.setIfInBounds_toArray, List.set_cons_zero, List.set_cons_succ]
          refine wpAnyH_take (i := 7) (oi := _) (v := ?_) rfl (by kernel_rfl) (by kernel_rfl) (by kernel_rfl) (fun _ _ _ h => h) (Or.inl ⟨by rfl, ?_⟩) HS5.out ?_
          rotate_left
          · intro w hSw; (try dsimp only at hSw); go_simp; (try with_reducible rfl)
          try simp only [Act.put, List.setIfInBounds_toArray, List.set_cons_zero, List.set_cons_succ]
          refine wpAnyH_take (i := 8) (oi := _) (v := ?_) rfl (by kernel_rfl) (by kernel_rfl) (by kernel_rfl) (fun _ _ _ h => h) (Or.inl ⟨by rfl, ?_⟩) HS5.out ?_
          rotate_left
          · intro w hSw; (try dsimp only at hSw); go_simp; (try with_reducible rfl)
          try simp only [Act.put, List.setIfInBounds_toArray, List.set_cons_zero, List.set_cons_succ]
          refine wpAnyH_take (i := 9) (oi := _) (v := ?_) rfl (by kernel_rfl) (by kernel_rfl) (by kernel_rfl) (fun _ _ _ h => h) (Or.inl ⟨by rfl, ?_⟩) HS5.out ?_
          rotate_left
          · intro w hSw; (try dsimp only at hSw); go_simp; (try with_reducible rfl)
          try simp only [Act.put, List.setIfInBounds_toArray, List.set_cons_zero, List.set_cons_succ]
          refine wpAnyH_take (i := 10) (oi := _) (v := ?_) rfl (by kernel_rfl) (by kernel_rfl) (by kernel_rfl) (fun _ _ _ h => h) (Or.inl ⟨by rfl, ?_⟩) HS5.out ?_
          rotate_left
          · intro w hSw; (try dsimp only at hSw); go_simp; (try with_reducible rfl)
          try simp only [Act.put, List.setIfInBounds_toArray, List.set_cons_zero, List.set_cons_succ]
          refine wpAnyH_take (i := 11) (oi := _) (v := ?_) rfl (by kernel_rfl) (by kernel_rfl) (by kernel_rfl) (fun _ _ _ h => h) (Or.inl ⟨by rfl, ?_⟩) HS5.out ?_
          rotate_left
          · intro w hSw; (try dsimp only at hSw); go_simp; (try with_reducible rfl)
          try simp only [Act.put, List.setIfInBounds_toArray, List.set_cons_zero, List.set_cons_succ]
          refine wpAnyH_take (i := 12) (oi := _) (v := ?_) rfl (by kernel_rfl) (by kernel_rfl) (by kernel_rfl) (fun _ _ _ h => h) (Or.inl ⟨by rfl, ?_⟩) HS5.out ?_
          rotate_left
          · intro w hSw; (try dsimp only at hSw); go_simp; (try with_reducible rfl)
          try simp only [Act.put, List.setIfInBounds_toArray, List.set_cons_zero, List.set_cons_succ]
          refine wpAnyH_take (i := 13) (oi := _) (v := ?_) rfl (by kernel_rfl) (by kernel_rfl) (by kernel_rfl) (fun _ _ _ h => h) (Or.inl ⟨by rfl, ?_⟩) HS5.out ?_
          rotate_left
          · intro w hSw; (try dsimp only at hSw); go_simp; (try with_reducible rfl)
          try simp only [Act.put, List.setIfInBounds_toArray, List.set_cons_zero, List.set_cons_succ]
          refine wpAnyH_take (i := 14) (oi := _) (v := ?_) rfl (by kernel_rfl) (by kernel_rfl) (by kernel_rfl) (fun _ _ _ h => h) (Or.inl ⟨by rfl, ?_⟩) HS5.out ?_
          rotate_left
          · intro w hSw; (try dsimp only at hSw); go_simp; (try with_reducible rfl)
          try simp only [Act.put, List.setIfInBounds_toArray, List.set_cons_zero, List.set_cons_succ]
          refine wpAnyH_take (i := 15) (oi := _) (v := ?_) rfl (by kernel_rfl) (by kernel_rfl) (by kernel_rfl) (fun _ _ _ h => h) (Or.inl ⟨by rfl, ?_⟩) HS5.out ?_
          rotate_left
          · intro w hSw; (try dsimp only at hSw); go_simp; (try with_reducible rfl)
          try simp only [Act.put, List.setIfInBounds_toArray, List.set_cons_zero, List.set_cons_succ]
          refine wpAnyH_take (i := 16) (oi := _) (v := ?_) rfl (by kernel_rfl) (by kernel_rfl) (by kernel_rfl) (fun _ _ _ h => h) (Or.inl ⟨by rfl, ?_⟩) HS5.out ?_
          rotate_left
          · intro w hSw; (try dsimp only at hSw); go_simp; (try with_reducible rfl)
          try simp only [Act.put, List.setIfInBounds_toArray, List.set_cons_zero, List.set_cons_succ]
          refine wpAnyH_take (i := 17) (oi := _) (v := ?_) rfl (by kernel_rfl) (by kernel_rfl) (by kernel_rfl) (fun _ _ _ h => h) (Or.inl ⟨by rfl, ?_⟩) HS5.out ?_
          rotate_left
          · intro w hSw; (try dsimp only at hSw); go_simp; (try with_reducible rfl)
          try simp only [Act.put, List.setIfInBounds_toArray, List.set_cons_zero, List.set_cons_succ]
          refine wpAnyH_take (i := 18) (oi := _) (v := ?_) rfl (by kernel_rfl) (by kernel_rfl) (by kernel_rfl) (fun _ _ _ h => h) (Or.inl ⟨by rfl, ?_⟩) HS5.out ?_
          rotate_left
          · intro w hSw; (try dsimp only at hSw); go_simp; (try with_reducible rfl)
          try simp only [Act.put, List.setIfInBounds_toArray, List.set_cons_zero, List.set_cons_succ]
          refine wpAnyH_take (i := 19) (oi := _) (v := ?_) rfl (by kernel_rfl) (by kernel_rfl) (by kernel_rfl) (fun _ _ _ h => h) (Or.inl ⟨by rfl, ?_⟩) HS5.out ?_
          rotate_left
          · intro w hSw; (try dsimp only at hSw); go_simp; (try with_reducible rfl)
          try simp only [Act.put, List.setIfInBounds_toArray, List.set_cons_zero, List.set_cons_succ]
          refine wpAnyH_take (i := 20) (oi := _) (v := ?_) rfl (by kernel_rfl) (by kernel_rfl) (by kernel_rfl) (fun _ _ _ h => h) (Or.inl ⟨by rfl, ?_⟩) HS5.out ?_
          rotate_left
          · intro w hSw; (try dsimp only at hSw); go_simp; (try with_reducible rfl)
          try simp only [Act.put, List.setIfInBounds_toArray, List.set_cons_zero, List.set_cons_succ]
          refine wpAnyH_take (i := 21) (oi := _) (v := ?_) rfl (by kernel_rfl) (by kernel_rfl) (by kernel_rfl) (fun _ _ _ h => h) (Or.inl ⟨by rfl, ?_⟩) HS5.out ?_
          rotate_left
          · intro w hSw; (try dsimp only at hSw); go_simp; (try with_reducible rfl)
          try simp only [Act.put, List.setIfInBounds_toArray, List.set_cons_zero, List.set_cons_succ]
          have HMd := Lib.hid (HM1.out.below (Below.refl _ wo).drew)
          refine wpAnyH_ready (rs := [22]) (by kernel_rfl) (by simp) (AllReadyH.cons (o := _) rfl (fun K hK => ?_) AllReadyH.nil)
          go_simp
          (go_at_call 93; refine (stands_any wo.drew B bl pv p _ g dv av bv al abs HMd.out.st.lk HMd.out.st.at_ HMd.out.st.ab am q HQ.out cm z.nodes.length r HR.out t HT.out).mono ?_; rintro e w9 ⟨rfl, hb9⟩; have HM9 := Lib.hid (HMd.out.below hb9); have HB9 : Hid (Below wo.heap.size wo w9) := Lib.hid ((Below.refl _ wo).drew.trans hb9); have fc9 := (HB9.out.cell (p := ⟨ba4, oa4 + k, none⟩) hba4).trans HFc.out; have g09 := (HB9.out.cell (p := ⟨bb, ob + cm * 6, none⟩) (by have := HM1.out.st.lk.hB; simp only; omega)).trans HG0.out; clear hb9)
          try go_wp2_with fail
          have HS9 : Hid ((fun W : World => W.cell? ⟨w.heap.size, 0, none⟩ = some (.pointer (some ⟨bl, 0, none⟩)) ∧ W.cell? ⟨b7, 4, none⟩ = some (.slice (some ⟨ba4, oa4, none⟩) x.ahead.length c4) ∧ W.cell? ⟨bl, 5, none⟩ = some (.slice (some ⟨bb, ob, none⟩) g.blocks.length cb) ∧ W.cell? ⟨ba4, oa4 + k, none⟩ = some (.int .i64 (cm : Int)) ∧ W.cell? ⟨bb, ob + cm * 6, none⟩ = some (.slice Az z.nodes.length cz)) w9) := Lib.hid ⟨HM9.out.lb.cell 0, HM9.out.kb.cell 4, HM9.out.st.lk.cells.2.2.2.2.2.1, fc9, g09⟩
          refine hK.out _ _ HS9.out (fun HSn => ?_)
          clear hK K HSn fc9 g09
          try simp only [Act.put, List.setIfInBounds_toArray, List.set_cons_zero, List.set_cons_succ]
          cases t
          · have _ := trivial
            refine wpAnyH_take (i := 23) (oi := _) (v := ?_) rfl (by kernel_rfl) (by kernel_rfl) (by kernel_rfl) (fun _ _ _ h => h) (Or.inl ⟨by rfl, ?_⟩) HS9.out ?_
            rotate_left
            · intro w hSw; (try dsimp only at hSw); go_simp; (try with_reducible rfl)
            try simp only [Act.put, List.setIfInBounds_toArray, List.set_cons_zero, List.set_cons_succ]
            refine wpAnyH_done (by kernel_rfl) ?_ _
            go_wp2_with fail
            go_ret
            exact ⟨false, rfl, (fun h => by cases h), HM9.out.low⟩
          · have _ := trivial
            refine wpAnyH_take (i := 23) (oi := _) (v := ?_) rfl (by kernel_rfl) (by kernel_rfl) (by kernel_rfl) (fun _ _ _ h => h) (Or.inl ⟨by rfl, ?_⟩) HS9.out ?_
            rotate_left
            · intro w hSw; (try dsimp only at hSw); go_simp; (try with_reducible rfl)
            try simp only [Act.put, List.setIfInBounds_toArray, List.set_cons_zero, List.set_cons_succ]
            refine wpAnyH_done (by kernel_rfl) ?_ _
            go_wp2_with fail
            go_roundw
            case rel =>
              refine ⟨k + 1, by omega, by go_num, Lib.hid (HB.out.trans (HB9.out.mono HB.out.size)), Lib.hid (fun j hj a' c' z' r' h1 h2 h3 h4 => ?_)⟩
              rcases Nat.lt_or_ge j k with h | h
              · exact HSt.out j h a' c' z' r' h1 h2 h3 h4
              · obtain rfl : j = k := by omega
                rw [HYa.out] at h1; injection h1 with h1; subst h1
                rw [HXc.out] at h2; injection h2 with h2; subst h2
                rw [Int.toNat_natCast, HZ.out] at h3; injection h3 with h3; subst h3
                rw [Int.toNat_natCast, HR.out] at h4; injection h4 with h4; subst h4
                exact HTs.out.symm
            case measure => simp [intOf]; omega
        · go_wp2_with fail
          go_ret
          refine ⟨true, rfl, fun _ => ⟨HA.out, HS.out, fun _ => fun i a c z r h1 h2 h3 h4 => HSt.out i (by have := (List.getElem?_eq_some_iff.1 h1).1; omega) a c z r h1 h2 h3 h4, fun h => absurd ho h⟩, HM1.out.low⟩
end Go.Proofs.YtkmfdiboekoioaaGreat
