/- The walk of the loop of live.Of that lists what is live. Conditions: a graph that is small. -/
import Derived.Test.YtkmfdiboekoioaaGreatCRowsOf
import Derived.Test.YtkmfdiboekoioaaGreatCRfGrow
import Derived.Deep.DrawnRows
set_option linter.unusedSimpArgs false
set_option linter.unusedVariables false
namespace Go.Proofs.YtkmfdiboekoioaaGreat
open Go.RowKit
attribute [local go_sem ↓] Go.wp_at_zero Go.wp_at_succ
noncomputable def loop6 : Code := ((Tryz.f15.body.map loopsOf).getD []).getD 5 .skip
theorem RegX.weakOf {a b c d e f : Prop} (h : a ∧ b ∧ c ∧ d ∧ e ∧ f) : c ∧ d ∧ e ∧ f := h.2.2
theorem RegX.strongOf {a b c d e f : Prop} (h : a ∧ b ∧ c ∧ d ∧ e ∧ f) : a ∧ b := ⟨h.1, h.2.1⟩
theorem frozen_set {w : World} {b o o' : Nat} {u : Value} (h : w.frozen? ⟨b, o, none⟩ = false) : (w.setCell ⟨b, o', none⟩ u).frozen? ⟨b, o, none⟩ = false := by simpa using h
theorem RegX.stored1 {W : World} {bx bi bo k o : Nat} {u mi mo : Value} (h : W.cell? ⟨bi, k, none⟩ = some mi ∧ W.cell? ⟨bo, k, none⟩ = some mo ∧ W.frozen? ⟨bx, 0, none⟩ = false ∧ W.frozen? ⟨bx, 1, none⟩ = false) (h1 : bx ≠ bi) (h2 : bx ≠ bo) :
  (W.setCell ⟨bx, o, none⟩ u).cell? ⟨bi, k, none⟩ = some mi ∧ (W.setCell ⟨bx, o, none⟩ u).cell? ⟨bo, k, none⟩ = some mo ∧ (W.setCell ⟨bx, o, none⟩ u).frozen? ⟨bx, 0, none⟩ = false ∧ (W.setCell ⟨bx, o, none⟩ u).frozen? ⟨bx, 1, none⟩ = false :=
 ⟨(World.cell?_setCell_far W _ _ u h1).trans h.1, (World.cell?_setCell_far W _ _ u h2).trans h.2.1, frozen_set h.2.2.1, frozen_set h.2.2.2⟩
def listsTo (N : Nat) (I : Sets) (k : Nat) : List (List Int) := (List.range k).map (fun j => listOf N (I.at_ j))
theorem listsTo_succ (N : Nat) (I : Sets) (k : Nat) : listsTo N I (k + 1) = listsTo N I k ++ [listOf N (I.at_ k)] := by unfold listsTo; rw [List.range_succ, List.map_append]; rfl
abbrev seconds (L : Tracked) : List (List Int) := L.map (fun p => p.2)
theorem seconds_snoc (L : Tracked) (u : Value) (l : List Int) : seconds (L ++ [(u, l)]) = seconds L ++ [l] := by simp [seconds]
theorem seconds_len {L : Tracked} {N k : Nat} {I : Sets} (h : seconds L = listsTo N I k) : L.length = k := by
 have := congrArg List.length h
 simpa [seconds, listsTo] using this
theorem seconds_lim {L : Tracked} {N k : Nat} {I : Sets} (h : seconds L = listsTo N I k) (hN : N ≤ lim) : ∀ p ∈ L, p.2.length ≤ lim := fun p hp => by
 have : p.2 ∈ seconds L := List.mem_map_of_mem hp
 rw [h] at this
 obtain ⟨j, _, e⟩ := List.mem_map.1 this
 rw [← e]
 exact Nat.le_trans (listOf_len _ _) hN

set_option maxRecDepth 100000 in
set_option maxHeartbeats 20000000 in
theorem loop6_any (w0 : World) (bi bo : Nat) (g : GraphP) (I O : Sets) (hs : Small g) (hrI : SRows w0 bi I g.blocks.length) (hrO : SRows w0 bo O g.blocks.length) (hbI : ∀ b, Bounded g.nodes.length (I.at_ b)) (hbO : ∀ b, Bounded g.nodes.length (O.at_ b))
  (u0 u1 u2 u5 u6 u7 u8 u9 u10 u11 u12 u13 u14 u15 u16 u17 u18 u20 u21 u22 u23 u24 u25 u26 u27 u28 u29 u30 u31 u32 u33 u34 u35 u36 u37 u38 u39 u40 u41 u42 u43 u44 u45 u46 u47 u48 u49 u50 u51 u52 u53 u54 u55 u56 u57 u58 u59 u60 u61 u62 u63 u64 u65 u66 u67 u68 u69 u70 u71 u72 u73 u74 u75 u76 u77 u78 u79 u80 u81 u82 u83 u84 u85 u86 u87 u88 u89 u90 u91 u92 u93 u94 u95 u96 u97 u98 u99 u100 u101 u102 u103 u104 u105 u106 u107 u108 u109 u110 u111 u112 u113 u114 u115 u116 u117 u118 u119 u120 u121 u122 u123 u124 u125 u126 u127 u128 u129 u130 u131 u132 u133 u134 u135 u136 u137 u138 u139 u140 u141 u142 u143 u144 u145 u146 u147 u148 u149 u150 u151 u152 u153 u154 u155 u156 u157 u158 u159 u160 u161 u162 u163 u164 u165 u166 u167 u168 u169 u170 u171 u172 u173 u174 u175 u176 u177 u178 u179 u180 u181 u182 u183 u184 u185 u186 u189 u190 u191 u192 u193 u194 u195 u196 u197 u198 u199 u200 u201 u202 u203 u204 u205 u206 u207 u208 u209 u210 u211 u212 : Value) (Q : Exit → Act → World → Prop)
  (hexit : ∀ (x20 x188 x189 x190 x191 x192 x193 x194 x195 x196 x197 x198 x199 x200 x201 x202 x203 x204 x205 x206 x207 x208 x209 x210 x211 : Value) (w' : World), (∃ vI vO : Value, Below w0.heap.size w0 w' ∧ Blk w' w0.heap.size 45 #[vI, vO] ∧ ∀ W : World, (∀ k, w0.heap.size < k → k < w'.heap.size → W.heap[k]? = w'.heap[k]?) → RowsV W W.heap.size vI (listsTo g.nodes.length I g.blocks.length) ∧ RowsV W W.heap.size vO (listsTo g.nodes.length O g.blocks.length)) → Q (.exit 10) ⟨#[u0, u1, u2, .slice (some ⟨bi, 0, none⟩) g.blocks.length g.blocks.length, .slice (some ⟨bo, 0, none⟩) g.blocks.length g.blocks.length, u5, u6, u7, u8, u9, u10, u11, u12, u13, u14, u15, u16, u17, u18, .pointer (some ⟨w0.heap.size, 0, none⟩), x20, u21, u22, u23, u24, u25, u26, u27, u28, u29, u30, u31, u32, u33, u34, u35, u36, u37, u38, u39, u40, u41, u42, u43, u44, u45, u46, u47, u48, u49, u50, u51, u52, u53, u54, u55, u56, u57, u58, u59, u60, u61, u62, u63, u64, u65, u66, u67, u68, u69, u70, u71, u72, u73, u74, u75, u76, u77, u78, u79, u80, u81, u82, u83, u84, u85, u86, u87, u88, u89, u90, u91, u92, u93, u94, u95, u96, u97, u98, u99, u100, u101, u102, u103, u104, u105, u106, u107, u108, u109, u110, u111, u112, u113, u114, u115, u116, u117, u118, u119, u120, u121, u122, u123, u124, u125, u126, u127, u128, u129, u130, u131, u132, u133, u134, u135, u136, u137, u138, u139, u140, u141, u142, u143, u144, u145, u146, u147, u148, u149, u150, u151, u152, u153, u154, u155, u156, u157, u158, u159, u160, u161, u162, u163, u164, u165, u166, u167, u168, u169, u170, u171, u172, u173, u174, u175, u176, u177, u178, u179, u180, u181, u182, u183, u184, u185, u186, .int .i64 g.blocks.length, x188, x189, x190, x191, x192, x193, x194, x195, x196, x197, x198, x199, x200, x201, x202, x203, x204, x205, x206, x207, x208, x209, x210, x211, u212], []⟩ w') :
  Code.wp Tryz.prog (Code.loop loop6) Q ⟨#[u0, u1, u2, .slice (some ⟨bi, 0, none⟩) g.blocks.length g.blocks.length, .slice (some ⟨bo, 0, none⟩) g.blocks.length g.blocks.length, u5, u6, u7, u8, u9, u10, u11, u12, u13, u14, u15, u16, u17, u18, .pointer (some ⟨w0.heap.size, 0, none⟩), u20, u21, u22, u23, u24, u25, u26, u27, u28, u29, u30, u31, u32, u33, u34, u35, u36, u37, u38, u39, u40, u41, u42, u43, u44, u45, u46, u47, u48, u49, u50, u51, u52, u53, u54, u55, u56, u57, u58, u59, u60, u61, u62, u63, u64, u65, u66, u67, u68, u69, u70, u71, u72, u73, u74, u75, u76, u77, u78, u79, u80, u81, u82, u83, u84, u85, u86, u87, u88, u89, u90, u91, u92, u93, u94, u95, u96, u97, u98, u99, u100, u101, u102, u103, u104, u105, u106, u107, u108, u109, u110, u111, u112, u113, u114, u115, u116, u117, u118, u119, u120, u121, u122, u123, u124, u125, u126, u127, u128, u129, u130, u131, u132, u133, u134, u135, u136, u137, u138, u139, u140, u141, u142, u143, u144, u145, u146, u147, u148, u149, u150, u151, u152, u153, u154, u155, u156, u157, u158, u159, u160, u161, u162, u163, u164, u165, u166, u167, u168, u169, u170, u171, u172, u173, u174, u175, u176, u177, u178, u179, u180, u181, u182, u183, u184, u185, u186, .int .i64 g.blocks.length, .int .i64 0, u189, u190, u191, u192, u193, u194, u195, u196, u197, u198, u199, u200, u201, u202, u203, u204, u205, u206, u207, u208, u209, u210, u211, u212], []⟩ (w0.alloc (.cells #[.slice none 0 0, .slice none 0 0] 45)) := by
 obtain ⟨l1, l2, l3⟩ := hs.lens
 have hNl : g.nodes.length ≤ lim := by unfold lim; omega
 have HRI := Lib.hid hrI; have HRO := Lib.hid hrO; have HBI := Lib.hid hbI; have HBO := Lib.hid hbO
 clear hrI hrO hbI hbO
 conv => arg 2; arg 1; whnf
 dsimp only
 go_loopw [188] (fun i W => ∃ (k : Nat) (vI vO : Value) (LI LO : Tracked), k ≤ g.blocks.length ∧ i = .int .i64 k ∧ RS w0 W vI vO vI vO LI LO [] [] ∧ seconds LI = listsTo g.nodes.length I k ∧ seconds LO = listsTo g.nodes.length O k) (fun i _ => g.blocks.length - (intOf i).toNat)
 case atStart => exact ⟨0, .slice none 0 0, .slice none 0 0, [], [], Nat.zero_le _, rfl, ⟨(Below.refl _ _).alloc (Nat.le_refl _) _, Blk.new _ _ _, World.ownsRow_nil _ _ _ _, World.ownsRow_nil _ _ _ _, (fun _ h => nomatch h), (fun _ h => nomatch h), (fun _ h => nomatch h)⟩, rfl, rfl⟩
 case round =>
  obtain ⟨k, vI, vO, LI, LO, hk, rfl, hst, hLI, hLO⟩ := hrel
  have HLI := Lib.hid hLI; have HLO := Lib.hid hLO
  have n1 : LI.length ≤ 1000000 := by have := seconds_len hLI; omega
  have n2 : LO.length ≤ 1000000 := by have := seconds_len hLO; omega
  clear hLI hLO
  by_cases hlt : k < g.blocks.length
  ·obtain ⟨mi, hci, hmi⟩ := HRI.out.get hlt
   obtain ⟨mo, hco, hmo⟩ := HRO.out.get hlt
   have HMI := Lib.hid hmi; have HMO := Lib.hid hmo; have HCI := Lib.hid hci; have HCO := Lib.hid hco
   clear hmi hmo hci hco
   have hS0 := hst.drew.cells HCI.out HCO.out
   go_upto_region 43 with fail
   replace hst := hst.drew
   refine wp_region_noPanic ?_
   refine RegX.wp_region_x (fun W => W.cell? ⟨bi, k, none⟩ = some (.map mi) ∧ W.cell? ⟨bo, k, none⟩ = some (.map mo) ∧ W.frozen? ⟨w0.heap.size, 0, none⟩ = false ∧ W.frozen? ⟨w0.heap.size, 1, none⟩ = false) (fun W => W.cell? ⟨w0.heap.size, 0, none⟩ = some vI ∧ W.cell? ⟨w0.heap.size, 1, none⟩ = some vO) (fun j => j == 19 || j == 21) (by kernel_rfl) ?_
   have HS := Lib.hid (show ((wr.drew.cell? ⟨bi, k, none⟩ = some (.map mi) ∧ wr.drew.cell? ⟨bo, k, none⟩ = some (.map mo) ∧ wr.drew.frozen? ⟨w0.heap.size, 0, none⟩ = false ∧ wr.drew.frozen? ⟨w0.heap.size, 1, none⟩ = false) ∧ wr.drew.cell? ⟨w0.heap.size, 0, none⟩ = some vI ∧ wr.drew.cell? ⟨w0.heap.size, 1, none⟩ = some vO) from ⟨RegX.weakOf hS0, RegX.strongOf hS0⟩)
   clear hS0
   refine RegX.wpAnyX_takeW (i := 0) (oi := _) (v := ?_) rfl (by kernel_rfl) (by kernel_rfl) (by kernel_rfl) (fun _ _ _ h => h) (Or.inl ⟨by rfl, ?_⟩) HS.out.1 ?_
   rotate_left
   ·intro w hSw; (try dsimp only at hSw); go_simp; (try with_reducible rfl)
   try simp only [Act.put, List.setIfInBounds_toArray, List.set_cons_zero, List.set_cons_succ]
   refine RegX.wpAnyX_take (i := 1) (oi := _) (v := ?_) rfl (by kernel_rfl) (by kernel_rfl) (by kernel_rfl) (by kernel_rfl) (by kernel_rfl) (fun _ _ _ h => h) (Or.inl ⟨by rfl, ?_⟩) HS.out ?_
   rotate_left
   ·intro w hSw; (try dsimp only at hSw); go_simp; (try with_reducible rfl)
   try simp only [Act.put, List.setIfInBounds_toArray, List.set_cons_zero, List.set_cons_succ]
   refine RegX.wpAnyX_takeW (i := 2) (oi := _) (v := ?_) rfl (by kernel_rfl) (by kernel_rfl) (by kernel_rfl) (fun _ _ _ h => h) (Or.inl ⟨by rfl, ?_⟩) HS.out.1 ?_
   rotate_left
   ·intro w hSw; (try dsimp only at hSw); go_simp; (try with_reducible rfl)
   try simp only [Act.put, List.setIfInBounds_toArray, List.set_cons_zero, List.set_cons_succ]
   refine RegX.wpAnyX_takeW (i := 3) (oi := _) (v := ?_) rfl (by kernel_rfl) (by kernel_rfl) (by kernel_rfl) (fun _ _ _ h => h) (Or.inl ⟨by rfl, ?_⟩) HS.out.1 ?_
   rotate_left
   ·intro w hSw; (try dsimp only at hSw); go_simp; (try with_reducible rfl)
   try simp only [Act.put, List.setIfInBounds_toArray, List.set_cons_zero, List.set_cons_succ]
   refine RegX.wpAnyX_takeW (i := 4) (oi := _) (v := ?_) rfl (by kernel_rfl) (by kernel_rfl) (by kernel_rfl) (fun _ _ _ h => h) (Or.inl ⟨by rfl, ?_⟩) HS.out.1 ?_
   rotate_left
   ·intro w hSw; (try dsimp only at hSw); go_simp; (try with_reducible rfl)
   try simp only [Act.put, List.setIfInBounds_toArray, List.set_cons_zero, List.set_cons_succ]
   refine RegX.wpAnyX_takeW (i := 5) (oi := _) (v := ?_) rfl (by kernel_rfl) (by kernel_rfl) (by kernel_rfl) (fun _ _ _ h => h) (Or.inl ⟨by rfl, ?_⟩) HS.out.1 ?_
   rotate_left
   ·intro w hSw; (try dsimp only at hSw); go_simp; (try with_reducible rfl)
   try simp only [Act.put, List.setIfInBounds_toArray, List.set_cons_zero, List.set_cons_succ]
   refine RegX.wpAnyX_takeW (i := 9) (oi := _) (v := ?_) rfl (by kernel_rfl) (by kernel_rfl) (by kernel_rfl) (fun _ _ _ h => h) (Or.inl ⟨by rfl, ?_⟩) HS.out.1 ?_
   rotate_left
   ·intro w hSw; (try dsimp only at hSw); go_simp; (try with_reducible rfl)
   try simp only [Act.put, List.setIfInBounds_toArray, List.set_cons_zero, List.set_cons_succ]
   refine RegX.wpAnyX_take (i := 10) (oi := _) (v := ?_) rfl (by kernel_rfl) (by kernel_rfl) (by kernel_rfl) (by kernel_rfl) (by kernel_rfl) (fun _ _ _ h => h) (Or.inl ⟨by rfl, ?_⟩) HS.out ?_
   rotate_left
   ·intro w hSw; (try dsimp only at hSw); go_simp; (try with_reducible rfl)
   try simp only [Act.put, List.setIfInBounds_toArray, List.set_cons_zero, List.set_cons_succ]
   refine RegX.wpAnyX_takeW (i := 11) (oi := _) (v := ?_) rfl (by kernel_rfl) (by kernel_rfl) (by kernel_rfl) (fun _ _ _ h => h) (Or.inl ⟨by rfl, ?_⟩) HS.out.1 ?_
   rotate_left
   ·intro w hSw; (try dsimp only at hSw); go_simp; (try with_reducible rfl)
   try simp only [Act.put, List.setIfInBounds_toArray, List.set_cons_zero, List.set_cons_succ]
   refine RegX.wpAnyX_takeW (i := 12) (oi := _) (v := ?_) rfl (by kernel_rfl) (by kernel_rfl) (by kernel_rfl) (fun _ _ _ h => h) (Or.inl ⟨by rfl, ?_⟩) HS.out.1 ?_
   rotate_left
   ·intro w hSw; (try dsimp only at hSw); go_simp; (try with_reducible rfl)
   try simp only [Act.put, List.setIfInBounds_toArray, List.set_cons_zero, List.set_cons_succ]
   refine RegX.wpAnyX_takeW (i := 13) (oi := _) (v := ?_) rfl (by kernel_rfl) (by kernel_rfl) (by kernel_rfl) (fun _ _ _ h => h) (Or.inl ⟨by rfl, ?_⟩) HS.out.1 ?_
   rotate_left
   ·intro w hSw; (try dsimp only at hSw); go_simp; (try with_reducible rfl)
   try simp only [Act.put, List.setIfInBounds_toArray, List.set_cons_zero, List.set_cons_succ]
   refine RegX.wpAnyX_takeW (i := 14) (oi := _) (v := ?_) rfl (by kernel_rfl) (by kernel_rfl) (by kernel_rfl) (fun _ _ _ h => h) (Or.inl ⟨by rfl, ?_⟩) HS.out.1 ?_
   rotate_left
   ·intro w hSw; (try dsimp only at hSw); go_simp; (try with_reducible rfl)
   try simp only [Act.put, List.setIfInBounds_toArray, List.set_cons_zero, List.set_cons_succ]
   refine RegX.wpAnyX_ready (rs := [6]) (by kernel_rfl) (by simp) (RegX.AllReadyX.cons (o := _) rfl (fun K hK => ?_) RegX.AllReadyX.nil)
   go_simp
   (go_at_call 52; refine (list_arm (wr := w0) g.nodes.length k I mi hst HMI.out (HBI.out k) hNl).mono ?_; rintro e w1 ⟨A1, m1, c1, rfl, hst⟩)
   (try go_wp2_with fail)
   refine hK.out _ _ ⟨RegX.weakOf (hst.cells HCI.out HCO.out), fun _ _ => RegX.strongOf (hst.cells HCI.out HCO.out)⟩ ?_
   clear hK K
   try simp only [Act.put, List.setIfInBounds_toArray, List.set_cons_zero, List.set_cons_succ]
   refine RegX.wpAnyX_ready (rs := [7]) (by kernel_rfl) (by simp) (RegX.AllReadyX.cons (o := _) rfl (fun K hK => ?_) RegX.AllReadyX.nil)
   go_simp
   replace hst := hst.build (.slice A1 m1 c1)
   refine hK.out _ _ ⟨RegX.weakOf (hst.cells HCI.out HCO.out), fun _ _ => RegX.strongOf (hst.cells HCI.out HCO.out)⟩ ?_
   clear hK K
   try simp only [Act.put, List.setIfInBounds_toArray, List.set_cons_zero, List.set_cons_succ]
   refine RegX.wpAnyX_ready (rs := [8]) (by kernel_rfl) (by simp) (RegX.AllReadyX.cons (o := _) rfl (fun K hK => ?_) RegX.AllReadyX.nil)
   refine stepI (wr := w0) (by rfl) _ _ (by rfl) _ (.slice A1 m1 c1) (listOf g.nodes.length (I.at_ k)) (by rfl) (by rfl) hst (by simp) (by simp) n1 ?_
   intro gI kI wI hst
   refine hK.out _ _ ⟨RegX.weakOf (hst.cells HCI.out HCO.out), fun _ _ => RegX.strongOf (hst.cells HCI.out HCO.out)⟩ ?_
   clear hK K
   try simp only [Act.put, List.setIfInBounds_toArray, List.set_cons_zero, List.set_cons_succ]
   refine RegX.wpAnyX_takeW (i := 18) (oi := _) (v := ?_) rfl (by kernel_rfl) (by kernel_rfl) (by kernel_rfl) (fun _ _ _ h => h) (Or.inl ⟨by rfl, ?_⟩) (RegX.weakOf (hst.cells HCI.out HCO.out)) ?_
   rotate_left
   ·intro w hSw; (try dsimp only at hSw); go_simp; (try with_reducible rfl)
   try simp only [Act.put, List.setIfInBounds_toArray, List.set_cons_zero, List.set_cons_succ]
   refine RegX.wpAnyX_ready (rs := [15]) (by kernel_rfl) (by simp) (RegX.AllReadyX.cons (o := _) rfl (fun K hK => ?_) RegX.AllReadyX.nil)
   go_simp
   (go_at_call 52; refine (list_arm (wr := w0) g.nodes.length k O mo hst HMO.out (HBO.out k) hNl).mono ?_; rintro e w2 ⟨A2, m2, c2, rfl, hst⟩)
   (try go_wp2_with fail)
   refine hK.out _ _ ⟨RegX.weakOf (hst.cells HCI.out HCO.out), fun _ _ => RegX.strongOf (hst.cells HCI.out HCO.out)⟩ ?_
   clear hK K
   try simp only [Act.put, List.setIfInBounds_toArray, List.set_cons_zero, List.set_cons_succ]
   refine RegX.wpAnyX_ready (rs := [16]) (by kernel_rfl) (by simp) (RegX.AllReadyX.cons (o := _) rfl (fun K hK => ?_) RegX.AllReadyX.nil)
   go_simp
   replace hst := hst.build (.slice A2 m2 c2)
   refine hK.out _ _ ⟨RegX.weakOf (hst.cells HCI.out HCO.out), fun _ _ => RegX.strongOf (hst.cells HCI.out HCO.out)⟩ ?_
   clear hK K
   try simp only [Act.put, List.setIfInBounds_toArray, List.set_cons_zero, List.set_cons_succ]
   refine RegX.wpAnyX_ready (rs := [17]) (by kernel_rfl) (by simp) (RegX.AllReadyX.cons (o := _) rfl (fun K hK => ?_) RegX.AllReadyX.nil)
   refine stepO (wr := w0) (by rfl) _ _ (by rfl) _ (.slice A2 m2 c2) (listOf g.nodes.length (O.at_ k)) (by rfl) (by rfl) hst (by simp) (by simp) n2 ?_
   intro gO kO wO hst
   refine hK.out _ _ ⟨RegX.weakOf (hst.cells HCI.out HCO.out), fun _ _ => RegX.strongOf (hst.cells HCI.out HCO.out)⟩ ?_
   clear hK K
   try simp only [Act.put, List.setIfInBounds_toArray, List.set_cons_zero, List.set_cons_succ]
   have hz1 := RegX.weakOf (hst.cells HCI.out HCO.out)
   obtain ⟨z1, z2, z3, z4⟩ := hz1
   obtain ⟨y1, y2⟩ := RegX.strongOf (hst.cells HCI.out HCO.out)
   refine RegX.wpAnyX_ready (rs := [19]) (by kernel_rfl) (by simp) (RegX.AllReadyX.cons (o := _) rfl (fun K hK => ?_) RegX.AllReadyX.nil)
   go_simp
   refine hK.out _ _ ⟨RegX.stored1 ⟨z1, z2, z3, z4⟩ (Nat.ne_of_gt HRI.out.lt) (Nat.ne_of_gt HRO.out.lt), fun h => by simp at h⟩ ?_
   clear hK K
   try simp only [Act.put, List.setIfInBounds_toArray, List.set_cons_zero, List.set_cons_succ]
   refine RegX.wpAnyX_takeW (i := 20) (oi := _) (v := ?_) rfl (by kernel_rfl) (by kernel_rfl) (by kernel_rfl) (fun _ _ _ h => h) (Or.inl ⟨by rfl, ?_⟩) (RegX.stored1 ⟨z1, z2, z3, z4⟩ (Nat.ne_of_gt HRI.out.lt) (Nat.ne_of_gt HRO.out.lt)) ?_
   rotate_left
   ·intro w hSw; (try dsimp only at hSw); go_simp; (try with_reducible rfl)
   try simp only [Act.put, List.setIfInBounds_toArray, List.set_cons_zero, List.set_cons_succ]
   refine RegX.wpAnyX_ready (rs := [21]) (by kernel_rfl) (by simp) (RegX.AllReadyX.cons (o := _) rfl (fun K hK => ?_) RegX.AllReadyX.nil)
   go_simp
   refine hK.out _ _ ⟨RegX.stored1 (RegX.stored1 ⟨z1, z2, z3, z4⟩ (Nat.ne_of_gt HRI.out.lt) (Nat.ne_of_gt HRO.out.lt)) (Nat.ne_of_gt HRI.out.lt) (Nat.ne_of_gt HRO.out.lt), fun h => by simp at h⟩ ?_
   clear hK K
   try simp only [Act.put, List.setIfInBounds_toArray, List.set_cons_zero, List.set_cons_succ]
   refine RegX.wpAnyX_done (by kernel_rfl) ?_ _
   refine NoPanic.normal ?_
   clear y1 y2 z1 z2 z3 z4
   go_wp2_with fail
   go_roundw
   case rel => exact ⟨k + 1, _, _, _, _, by omega, by go_num, hst.stored, by rw [seconds_snoc, HLI.out, listsTo_succ], by rw [seconds_snoc, HLO.out, listsTo_succ]⟩
   case measure => simp [intOf]; omega
  ·go_wp2_with fail
   obtain rfl : k = g.blocks.length := by omega
   have m := fun (W : World) ha => hst.agree (W' := W) ha (seconds_lim HLI.out hNl) (seconds_lim HLO.out hNl) (by unfold lim; omega) (by unfold lim; omega)
   rw [show LI.map (fun p => p.2) = listsTo g.nodes.length I g.blocks.length from HLI.out, show LO.map (fun p => p.2) = listsTo g.nodes.length O g.blocks.length from HLO.out] at m
   exact ⟨vI, vO, hst.low, hst.box, m⟩

end Go.Proofs.YtkmfdiboekoioaaGreat
