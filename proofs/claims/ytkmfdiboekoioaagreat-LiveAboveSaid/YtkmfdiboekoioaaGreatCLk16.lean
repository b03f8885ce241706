/- graph.look.node at a node that is neither a slot nor a phi. Conditions: a graph that is looked at. -/
import Derived.Test.YtkmfdiboekoioaaGreatCLk13
import Derived.BigQuiet
set_option linter.unusedSimpArgs false
set_option linter.unusedVariables false
namespace Go.Proofs.YtkmfdiboekoioaaGreat
open Go.RowKit
theorem eqIns (a b c : Int) (W : World) : (binOp .eql 117 (.agg #[.int .u8 a, .int .i64 b]) (.agg #[.int .u8 27, .int .i64 c])).run Tryz.prog W = .ok (.bool ((a == 27) && (b == c))) W := by
  rcases bool_or (a == 27) with h | h <;> rcases bool_or (b == c) with h2 | h2 <;> simp [go_sem, h, h2]
theorem slots_lt {g : GraphP} {N : Nat} (h : ∀ s ∈ g.states, ∀ z ∈ s.slots, z < (N : Int)) (k : Int) : ∀ z ∈ slotsOf g k, z < (N : Int) := by
  intro z hz
  unfold slotsOf at hz
  split at hz
  · cases hz
  · split at hz
    · rename_i s hs
      exact h s (List.mem_of_getElem? hs) z hz
    · cases hz
set_option maxRecDepth 100000 in
set_option maxHeartbeats 8000000 in
theorem node_rest (w W : World) (B bl : Nat) (pv : Value) (p : List FnP) (xv : GVals) (g : GraphP) (dv av bv : Value) (al : List (Int × Int)) (abs : List (List Int)) (n : Nat) (y : NodeP) (qb qi : Nat) (x : BlockP) (row : List Int) (fn : Nat) (f : FnP) (b5 b6 b7 : Nat) (A1 : Option Addr) (c1 : Nat) (A0 : Option Addr) (c0 : Nat) (v2 v3 : Value) (A4 : Option Addr) (c4 : Nat)
    (F : NodF B p g al abs n y qb qi x row fn f) (M : NodR w B bl pv p xv g dv av bv al abs y qb qi x b5 b6 b7 A1 c1 A0 c0 v2 v3 A4 c4 W) (ha : ∀ a ∈ y.args, 0 ≤ a ∧ a < (g.nodes.length : Int)) (hs : -1 ≤ y.state ∧ y.state < (g.states.length : Int)) (ho1 : y.op ≠ 1) (ho2 : y.op ≠ 2)
    (u3 u8 u9 u10 u11 u12 u13 u14 u15 u16 u17 u18 u19 u20 u21 u22 u23 u24 u25 u26 u27 u28 u29 u30 u31 u32 u33 u34 u35 u36 u37 u38 u39 u40 u41 u42 u43 u44 u45 u46 u47 u48 u49 u50 u51 u52 u53 u54 u55 u56 u57 u58 u59 u60 u61 u62 u63 u64 u65 u66 u67 u68 u69 u70 u71 u72 u73 u74 u75 u76 u77 u78 u79 u80 u81 u82 u83 u84 u85 u86 u87 u88 u89 u90 u91 u92 u93 u94 u95 u96 u97 u98 u99 u100 u101 u102 u103 u104 u105 u106 u107 u108 u109 u110 u111 u112 u113 u114 u115 u116 u117 u118 u119 u120 u121 u122 u123 u124 u125 u126 u127 u128 u129 u130 u131 u132 u133 u134 u135 u136 u137 u138 u139 u140 u141 u142 u143 u144 u145 u146 u147 u148 u149 u150 u151 u152 u153 u154 u155 u156 u157 u158 u159 u160 u161 u162 u163 u164 u165 u166 u167 u168 u169 u170 u171 u172 u173 u174 u175 u176 u177 u178 u179 u180 u181 u182 u183 u184 u185 u186 u187 u188 u189 u190 u191 u192 u193 u194 u195 u196 u197 u198 u199 u200 u201 u202 u203 u204 u205 u206 u207 u208 u209 u210 u211 u212 u213 u214 u215 u216 u217 u218 u219 u220 u221 u222 u223 u224 u225 u226 u227 u228 u229 u230 u231 u232 u233 u234 u235 u236 u237 u238 u239 u240 u241 u242 u243 u244 u245 u246 u247 u248 u249 u250 u251 u252 u253 u254 u255 u256 u257 : Value) :
    Code.wp Tryz.prog nrest (bodyPost Tryz.prog Tryz.f48 (NodIs g al abs y qb qi x row w)) ⟨#[.pointer (some ⟨bl, 0, none⟩), .int .i64 n, .pointer (some ⟨w.heap.size, 0, none⟩), u3, .bool false, .pointer (some ⟨b5, 0, none⟩), .pointer (some ⟨b6, 0, none⟩), .pointer (some ⟨b7, 0, none⟩), u8, u9, u10, u11, u12, u13, u14, u15, u16, u17, u18, u19, u20, u21, u22, u23, u24, u25, u26, u27, u28, u29, u30, u31, u32, u33, u34, u35, u36, u37, u38, u39, u40, u41, u42, u43, u44, u45, u46, u47, u48, u49, u50, u51, u52, u53, u54, u55, u56, u57, u58, u59, u60, u61, u62, u63, u64, u65, u66, u67, u68, u69, u70, u71, u72, u73, u74, u75, u76, u77, u78, u79, u80, u81, u82, u83, u84, u85, u86, u87, u88, u89, u90, u91, u92, u93, u94, u95, u96, u97, u98, u99, u100, u101, u102, u103, u104, u105, u106, u107, u108, u109, u110, u111, u112, u113, u114, u115, u116, u117, u118, u119, u120, u121, u122, u123, u124, u125, u126, u127, u128, u129, u130, u131, u132, u133, u134, u135, u136, u137, u138, u139, u140, u141, u142, u143, u144, u145, u146, u147, u148, u149, u150, u151, u152, u153, u154, u155, u156, u157, u158, u159, u160, u161, u162, u163, u164, u165, u166, u167, u168, u169, u170, u171, u172, u173, u174, u175, u176, u177, u178, u179, u180, u181, u182, u183, u184, u185, u186, u187, u188, u189, u190, u191, u192, u193, u194, u195, u196, u197, u198, u199, u200, u201, u202, u203, u204, u205, u206, u207, u208, u209, u210, u211, u212, u213, u214, u215, u216, u217, u218, u219, u220, u221, u222, u223, u224, u225, u226, u227, u228, u229, u230, u231, u232, u233, u234, u235, u236, u237, u238, u239, u240, u241, u242, u243, u244, u245, u246, u247, u248, u249, u250, u251, u252, u253, u254, u255, u256, u257], []⟩ W := by
  obtain ⟨vn, vb, vs⟩ := xv
  have HF := Lib.hid F; have HM := Lib.hid M; have HA := Lib.hid ha; have HS := Lib.hid hs
  have n0 : W.cell? ⟨b5, 0, none⟩ = some (.int .u8 y.op) := M.nb.cell 0
  have n1 : W.cell? ⟨b5, 1, none⟩ = some (.slice A1 y.args.length c1) := M.nb.cell 1
  have n2 : W.cell? ⟨b5, 2, none⟩ = some (.int .i64 y.N) := M.nb.cell 2
  have n3 : W.cell? ⟨b5, 3, none⟩ = some (.int .u8 y.kind) := M.nb.cell 3
  have n4 : W.cell? ⟨b5, 4, none⟩ = some (.int .i64 y.state) := M.nb.cell 4
  have k0 : W.cell? ⟨b6, 0, none⟩ = some (.int .i64 (qb : Int)) := M.pb.cell 0
  have k1 : W.cell? ⟨b6, 1, none⟩ = some (.int .i64 (qi : Int)) := M.pb.cell 1
  have z0 : W.cell? ⟨w.heap.size, 0, none⟩ = some (.pointer (some ⟨bl, 0, none⟩)) := M.lb.cell 0
  have m0 : W.cell? ⟨b7, 0, none⟩ = some (.slice A0 x.nodes.length c0) := M.kb.cell 0
  have m4 : W.cell? ⟨b7, 4, none⟩ = some (.slice A4 x.ahead.length c4) := M.kb.cell 4
  have ln := M.nb.lt
  have lk := M.pb.lt
  have lz := M.lb.lt
  have lm := M.kb.lt
  have ll := M.st.lk.box.lt
  have hal : y.args.length ≤ 17592186044416 := by obtain ⟨_, _, _, _, q, _⟩ := M.ia; unfold lim at q; omega
  have hxl : x.nodes.length ≤ 17592186044416 := by obtain ⟨_, _, _, _, q, _⟩ := M.i0; unfold lim at q; omega
  have hxa : x.ahead.length ≤ 17592186044416 := by obtain ⟨_, _, _, _, q, _⟩ := M.i4; unfold lim at q; omega
  obtain ⟨bp, op, cp, rfl, hbp, hpl⟩ := M.st.lk.pr.shape (by have := (List.getElem?_eq_some_iff.1 F.hf).1; omega)
  obtain ⟨o, ho⟩ : ∃ o : Nat, y.op = (o : Int) := ⟨y.op.toNat, by have := F.hop; omega⟩
  have HO : Hid ((o : Int) = y.op) := Lib.hid ho.symm
  have ho255 : o ≤ 255 := by have := F.hop; omega
  have hq1 : ((o : Int) == 1) = false := by rw [← ho]; simp [ho1]
  have hq2 : ((o : Int) == 2) = false := by rw [← ho]; simp [ho2]
  have HO1 := Lib.hid ho1; have HO2 := Lib.hid ho2
  rw [ho] at n0
  clear F M ha hs ho1 ho2 ho
  conv => arg 2; whnf
  dsimp only
  go_upto_region 24 with fail
  clear n0 n1 n2 n3 n4 k0 k1 z0 m0 m4 ln lk lz lm ll
  have HMd := Lib.hid (HM.out.below (Below.refl _ W).drew)
  have HS5 : Hid ((fun W : World => W.cell? ⟨w.heap.size, 0, none⟩ = some (.pointer (some ⟨bl, 0, none⟩)) ∧ W.cell? ⟨bl, 0, none⟩ = some (.slice (some ⟨bp, op, none⟩) p.length cp) ∧ W.cell? ⟨bl, 1, none⟩ = some (.int .i64 (fn : Int)) ∧ W.cell? ⟨b5, 0, none⟩ = some (.int .u8 (o : Int)) ∧ W.cell? ⟨b5, 1, none⟩ = some (.slice A1 y.args.length c1) ∧ W.cell? ⟨b5, 2, none⟩ = some (.int .i64 y.N) ∧ W.cell? ⟨b5, 3, none⟩ = some (.int .u8 y.kind)) W.drew) := Lib.hid ⟨HMd.out.lb.cell 0, HMd.out.st.lk.cells.1, (HMd.out.st.lk.cells.2.1).trans (by rw [HF.out.hgf]), (HMd.out.nb.cell 0).trans (by rw [HO.out]; rfl), HMd.out.nb.cell 1, HMd.out.nb.cell 2, HMd.out.nb.cell 3⟩
  refine wp_region_H (fun W => W.cell? ⟨w.heap.size, 0, none⟩ = some (.pointer (some ⟨bl, 0, none⟩)) ∧ W.cell? ⟨bl, 0, none⟩ = some (.slice (some ⟨bp, op, none⟩) p.length cp) ∧ W.cell? ⟨bl, 1, none⟩ = some (.int .i64 (fn : Int)) ∧ W.cell? ⟨b5, 0, none⟩ = some (.int .u8 (o : Int)) ∧ W.cell? ⟨b5, 1, none⟩ = some (.slice A1 y.args.length c1) ∧ W.cell? ⟨b5, 2, none⟩ = some (.int .i64 y.N) ∧ W.cell? ⟨b5, 3, none⟩ = some (.int .u8 y.kind)) (by kernel_rfl) HS5.out (fun HSn => ?_)
  clear HSn
  refine wpAnyH_take (i := 0) (oi := _) (v := ?_) rfl (by kernel_rfl) (by kernel_rfl) (by kernel_rfl) (fun _ _ _ h => h) (Or.inl ⟨by rfl, ?_⟩) HS5.out ?_
  rotate_left
  · intro w hSw; (try dsimp only at hSw); go_simp; (try with_reducible rfl)
  try simp only [Act.put, List.setIfInBounds_toArray, List.set_cons_zero, List.set_cons_succ]
  refine wpAnyH_take (i := 1) (oi := _) (v := ?_) rfl (by kernel_rfl) (by kernel_rfl) (by kernel_rfl) (fun _ _ _ h => h) (Or.inl ⟨by rfl, ?_⟩) HS5.out ?_
  rotate_left
  · intro w hSw; (try dsimp only at hSw); go_simp; (try with_reducible rfl)
  try simp only [Act.put, List.setIfInBounds_toArray, List.set_cons_zero, List.set_cons_succ]
  refine wpAnyH_take (i := 2) (oi := _) (v := ?_) rfl (by kernel_rfl) (by kernel_rfl) (by kernel_rfl) (fun _ _ _ h => h) (Or.inl ⟨by rfl, ?_⟩) HS5.out ?_
  rotate_left
  · intro w hSw; (try dsimp only at hSw); go_simp; (try with_reducible rfl)
  try simp only [Act.put, List.setIfInBounds_toArray, List.set_cons_zero, List.set_cons_succ]
  refine wpAnyH_take (i := 3) (oi := _) (v := ?_) rfl (by kernel_rfl) (by kernel_rfl) (by kernel_rfl) (fun _ _ _ h => h) (Or.inl ⟨by rfl, ?_⟩) HS5.out ?_
  rotate_left
  · intro w hSw; (try dsimp only at hSw); go_simp; (try with_reducible rfl)
  try simp only [Act.put, List.setIfInBounds_toArray, List.set_cons_zero, List.set_cons_succ]
  refine wpAnyH_take (i := 4) (oi := _) (v := ?_) rfl (by kernel_rfl) (by kernel_rfl) (by kernel_rfl) (fun _ _ _ h => h) (Or.inl ⟨by rfl, ?_⟩) HS5.out ?_
  rotate_left
  · intro w hSw; (try dsimp only at hSw); go_simp; (try with_reducible rfl)
  try simp only [Act.put, List.setIfInBounds_toArray, List.set_cons_zero, List.set_cons_succ]
  refine wpAnyH_take (i := 5) (oi := _) (v := ?_) rfl (by kernel_rfl) (by kernel_rfl) (by kernel_rfl) (fun _ _ _ h => h) (Or.inl ⟨by rfl, ?_⟩) HS5.out ?_
  rotate_left
  · intro w hSw; (try dsimp only at hSw); go_simp; (try with_reducible rfl)
  try simp only [Act.put, List.setIfInBounds_toArray, List.set_cons_zero, List.set_cons_succ]
  refine wpAnyH_take (i := 6) (oi := _) (v := ?_) rfl (by kernel_rfl) (by kernel_rfl) (by kernel_rfl) (fun _ _ _ h => h) (Or.inl ⟨by rfl, ?_⟩) HS5.out ?_
  rotate_left
  · intro w hSw; (try dsimp only at hSw); go_simp; (try with_reducible rfl)
  try simp only [Act.put, List.setIfInBounds_toArray, List.set_cons_zero, List.set_cons_succ]
  refine wpAnyH_take (i := 7) (oi := _) (v := ?_) rfl (by kernel_rfl) (by kernel_rfl) (by kernel_rfl) (fun _ _ _ h => h) (Or.inl ⟨by rfl, ?_⟩) HS5.out ?_
  rotate_left
  · intro w hSw; (try dsimp only at hSw); go_simp; (try with_reducible rfl)
  try simp only [Act.put, List.setIfInBounds_toArray, List.set_cons_zero, List.set_cons_succ]
  refine wpAnyH_take (i := 8) (oi := _) (v := ?_) rfl (by kernel_rfl) (by kernel_rfl) (by kernel_rfl) (fun _ _ _ h => h) (Or.inl ⟨by rfl, ?_⟩) HS5.out ?_
  rotate_left
  · intro w hSw; (try dsimp only at hSw); go_simp; (try with_reducible rfl)
  try simp only [Act.put, List.setIfInBounds_toArray, List.set_cons_zero, List.set_cons_succ]
  refine wpAnyH_take (i := 9) (oi := _) (v := ?_) rfl (by kernel_rfl) (by kernel_rfl) (by kernel_rfl) (fun _ _ _ h => h) (Or.inl ⟨by rfl, ?_⟩) HS5.out ?_
  rotate_left
  · intro w hSw; (try dsimp only at hSw); go_simp; (try with_reducible rfl)
  try simp only [Act.put, List.setIfInBounds_toArray, List.set_cons_zero, List.set_cons_succ]
  refine wpAnyH_take (i := 10) (oi := _) (v := ?_) rfl (by kernel_rfl) (by kernel_rfl) (by kernel_rfl) (fun _ _ _ h => h) (Or.inl ⟨by rfl, ?_⟩) HS5.out ?_
  rotate_left
  · intro w hSw; (try dsimp only at hSw); go_simp; (try with_reducible rfl)
  try simp only [Act.put, List.setIfInBounds_toArray, List.set_cons_zero, List.set_cons_succ]
  refine wpAnyH_take (i := 12) (oi := _) (v := ?_) rfl (by kernel_rfl) (by kernel_rfl) (by kernel_rfl) (fun _ _ _ h => h) (Or.inl ⟨by rfl, ?_⟩) HS5.out ?_
  rotate_left
  · intro w hSw; (try dsimp only at hSw); go_simp; (try with_reducible rfl)
  try simp only [Act.put, List.setIfInBounds_toArray, List.set_cons_zero, List.set_cons_succ]
  refine wpAnyH_take (i := 13) (oi := _) (v := ?_) rfl (by kernel_rfl) (by kernel_rfl) (by kernel_rfl) (fun _ _ _ h => h) (Or.inl ⟨by rfl, ?_⟩) HS5.out ?_
  rotate_left
  · intro w hSw; (try dsimp only at hSw); go_simp; (try with_reducible rfl)
  try simp only [Act.put, List.setIfInBounds_toArray, List.set_cons_zero, List.set_cons_succ]
  refine wpAnyH_take (i := 14) (oi := _) (v := ?_) rfl (by kernel_rfl) (by kernel_rfl) (by kernel_rfl) (fun _ _ _ h => h) (Or.inl ⟨by rfl, ?_⟩) HS5.out ?_
  rotate_left
  · intro w hSw; (try dsimp only at hSw); go_simp; (try with_reducible rfl)
  try simp only [Act.put, List.setIfInBounds_toArray, List.set_cons_zero, List.set_cons_succ]
  refine wpAnyH_take (i := 15) (oi := _) (v := ?_) rfl (by kernel_rfl) (by kernel_rfl) (by kernel_rfl) (fun _ _ _ h => h) (Or.inl ⟨by rfl, ?_⟩) HS5.out ?_
  rotate_left
  · intro w hSw; (try dsimp only at hSw); go_simp; (try with_reducible rfl)
  try simp only [Act.put, List.setIfInBounds_toArray, List.set_cons_zero, List.set_cons_succ]
  refine wpAnyH_take (i := 16) (oi := _) (v := ?_) rfl (by kernel_rfl) (by kernel_rfl) (by kernel_rfl) (fun _ _ _ h => h) (Or.inl ⟨by rfl, ?_⟩) HS5.out ?_
  rotate_left
  · intro w hSw; (try dsimp only at hSw); go_simp; (try with_reducible rfl)
  try simp only [Act.put, List.setIfInBounds_toArray, List.set_cons_zero, List.set_cons_succ]
  refine wpAnyH_take (i := 17) (oi := _) (v := ?_) rfl (by kernel_rfl) (by kernel_rfl) (by kernel_rfl) (fun _ _ _ h => h) (Or.inl ⟨by rfl, ?_⟩) HS5.out ?_
  rotate_left
  · intro w hSw; (try dsimp only at hSw); go_simp; (try with_reducible rfl)
  try simp only [Act.put, List.setIfInBounds_toArray, List.set_cons_zero, List.set_cons_succ]
  refine wpAnyH_take (i := 18) (oi := _) (v := ?_) rfl (by kernel_rfl) (by kernel_rfl) (by kernel_rfl) (fun _ _ _ h => h) (Or.inl ⟨by rfl, ?_⟩) HS5.out ?_
  rotate_left
  · intro w hSw; (try dsimp only at hSw); go_simp; (try with_reducible rfl)
  try simp only [Act.put, List.setIfInBounds_toArray, List.set_cons_zero, List.set_cons_succ]
  refine wpAnyH_ready (rs := [11]) (by kernel_rfl) (by simp) (AllReadyH.cons (o := _) rfl (fun K hK => ?_) AllReadyH.nil)
  go_simp
  (go_at_call 96; refine (reg_any W.drew o ho255).mono ?_; rintro e w9 ⟨rfl, hb9⟩; have HM9 := Lib.hid (HMd.out.below hb9); clear hb9)
  try go_wp2_with fail
  have HS9 : Hid ((fun W : World => W.cell? ⟨w.heap.size, 0, none⟩ = some (.pointer (some ⟨bl, 0, none⟩)) ∧ W.cell? ⟨bl, 0, none⟩ = some (.slice (some ⟨bp, op, none⟩) p.length cp) ∧ W.cell? ⟨bl, 1, none⟩ = some (.int .i64 (fn : Int)) ∧ W.cell? ⟨b5, 0, none⟩ = some (.int .u8 (o : Int)) ∧ W.cell? ⟨b5, 1, none⟩ = some (.slice A1 y.args.length c1) ∧ W.cell? ⟨b5, 2, none⟩ = some (.int .i64 y.N) ∧ W.cell? ⟨b5, 3, none⟩ = some (.int .u8 y.kind)) w9) := Lib.hid ⟨HM9.out.lb.cell 0, HM9.out.st.lk.cells.1, (HM9.out.st.lk.cells.2.1).trans (by rw [HF.out.hgf]), (HM9.out.nb.cell 0).trans (by rw [HO.out]; rfl), HM9.out.nb.cell 1, HM9.out.nb.cell 2, HM9.out.nb.cell 3⟩
  refine hK.out _ _ HS9.out (fun HSn => ?_)
  clear hK K HSn
  try simp only [Act.put, List.setIfInBounds_toArray, List.set_cons_zero, List.set_cons_succ]
  refine wpAnyH_ready (rs := [19]) (by kernel_rfl) (by simp) (AllReadyH.cons (o := _) rfl (fun K hK => ?_) AllReadyH.nil)
  go_simp
  (go_at_call 95; refine (may_any w9 _ p fn f (HM9.out.st.lk.pr.later (Below.refl _ _) HM9.out.st.lk.hB) HF.out.hf HF.out.hcode (regP o) y.N y.kind y.args.length (by omega)).mono ?_; rintro e w11 ⟨ok, tos, ex, rfl, hex, hb11⟩; have HM11 := Lib.hid (HM9.out.below hb11); have HEx := Lib.hid hex; clear hb11 hex)
  try go_wp2_with fail
  have HS11 : Hid ((fun W : World => W.cell? ⟨w.heap.size, 0, none⟩ = some (.pointer (some ⟨bl, 0, none⟩)) ∧ W.cell? ⟨bl, 0, none⟩ = some (.slice (some ⟨bp, op, none⟩) p.length cp) ∧ W.cell? ⟨bl, 1, none⟩ = some (.int .i64 (fn : Int)) ∧ W.cell? ⟨b5, 0, none⟩ = some (.int .u8 (o : Int)) ∧ W.cell? ⟨b5, 1, none⟩ = some (.slice A1 y.args.length c1) ∧ W.cell? ⟨b5, 2, none⟩ = some (.int .i64 y.N) ∧ W.cell? ⟨b5, 3, none⟩ = some (.int .u8 y.kind)) w11) := Lib.hid ⟨HM11.out.lb.cell 0, HM11.out.st.lk.cells.1, (HM11.out.st.lk.cells.2.1).trans (by rw [HF.out.hgf]), (HM11.out.nb.cell 0).trans (by rw [HO.out]; rfl), HM11.out.nb.cell 1, HM11.out.nb.cell 2, HM11.out.nb.cell 3⟩
  refine hK.out _ _ HS11.out (fun HSn => ?_)
  clear hK K HSn
  try simp only [Act.put, List.setIfInBounds_toArray, List.set_cons_zero, List.set_cons_succ]
  refine wpAnyH_take (i := 20) (oi := _) (v := ?_) rfl (by kernel_rfl) (by kernel_rfl) (by kernel_rfl) (fun _ _ _ h => h) (Or.inl ⟨by rfl, ?_⟩) HS11.out ?_
  rotate_left
  · intro w hSw; (try dsimp only at hSw); go_simp; (try with_reducible rfl)
  try simp only [Act.put, List.setIfInBounds_toArray, List.set_cons_zero, List.set_cons_succ]
  refine wpAnyH_take (i := 21) (oi := _) (v := ?_) rfl (by kernel_rfl) (by kernel_rfl) (by kernel_rfl) (fun _ _ _ h => h) (Or.inl ⟨by rfl, ?_⟩) HS11.out ?_
  rotate_left
  · intro w hSw; (try dsimp only at hSw); go_simp; (try with_reducible rfl)
  try simp only [Act.put, List.setIfInBounds_toArray, List.set_cons_zero, List.set_cons_succ]
  refine wpAnyH_take (i := 22) (oi := _) (v := ?_) rfl (by kernel_rfl) (by kernel_rfl) (by kernel_rfl) (fun _ _ _ h => h) (Or.inl ⟨by rfl, ?_⟩) HS11.out ?_
  rotate_left
  · intro w hSw; (try dsimp only at hSw); go_simp; (try with_reducible rfl)
  try simp only [Act.put, List.setIfInBounds_toArray, List.set_cons_zero, List.set_cons_succ]
  refine wpAnyH_take (i := 23) (oi := _) (v := ?_) rfl (by kernel_rfl) (by kernel_rfl) (by kernel_rfl) (fun _ _ _ h => h) (Or.inl ⟨by rfl, ?_⟩) HS11.out ?_
  rotate_left
  · intro w hSw; (try dsimp only at hSw); go_simp; (try with_reducible rfl)
  try simp only [Act.put, List.setIfInBounds_toArray, List.set_cons_zero, List.set_cons_succ]
  refine wpAnyH_take (i := 24) (oi := _) (v := ?_) rfl (by kernel_rfl) (by kernel_rfl) (by kernel_rfl) (fun _ _ _ h => h) (Or.inl ⟨by rfl, ?_⟩) HS11.out ?_
  rotate_left
  · intro w hSw; (try dsimp only at hSw); go_simp; (try with_reducible rfl)
  try simp only [Act.put, List.setIfInBounds_toArray, List.set_cons_zero, List.set_cons_succ]
  refine wpAnyH_take (i := 25) (oi := _) (v := ?_) rfl (by kernel_rfl) (by kernel_rfl) (by kernel_rfl) (fun _ _ _ h => h) (Or.inl ⟨by rfl, ?_⟩) HS11.out ?_
  rotate_left
  · intro w hSw; (try dsimp only at hSw); go_simp; (try with_reducible rfl)
  try simp only [Act.put, List.setIfInBounds_toArray, List.set_cons_zero, List.set_cons_succ]
  refine wpAnyH_take (i := 26) (oi := _) (v := ?_) rfl (by kernel_rfl) (by kernel_rfl) (by kernel_rfl) (fun _ _ _ h => h) (Or.inl ⟨by rfl, ?_⟩) HS11.out ?_
  rotate_left
  · intro w hSw; (try dsimp only at hSw); go_simp; (try with_reducible rfl)
  try simp only [Act.put, List.setIfInBounds_toArray, List.set_cons_zero, List.set_cons_succ]
  refine wpAnyH_done (by kernel_rfl) ?_ _
  have HSl : Hid (∀ z ∈ slotsOf g y.state, z < (al.length : Int)) := Lib.hid (fun z hz => by rw [HF.out.hal]; exact slots_lt (fun s hs => (HF.out.hst s hs).1) _ z hz)
  have z0 : w11.cell? ⟨w.heap.size, 0, none⟩ = some (.pointer (some ⟨bl, 0, none⟩)) := HM11.out.lb.cell 0
  have n1 : w11.cell? ⟨b5, 1, none⟩ = some (.slice A1 y.args.length c1) := HM11.out.nb.cell 1
  have n4 : w11.cell? ⟨b5, 4, none⟩ = some (.int .i64 y.state) := HM11.out.nb.cell 4
  have k0 : w11.cell? ⟨b6, 0, none⟩ = some (.int .i64 (qb : Int)) := HM11.out.pb.cell 0
  have k1 : w11.cell? ⟨b6, 1, none⟩ = some (.int .i64 (qi : Int)) := HM11.out.pb.cell 1
  have ln := HM11.out.nb.lt
  have lk := HM11.out.pb.lt
  have lz := HM11.out.lb.lt
  have ll := HM11.out.st.lk.box.lt
  obtain ⟨u, hu⟩ : ∃ u, u = usesB g al row qb qi y.args y.state := ⟨_, rfl⟩
  have HUs := Lib.hid hu
  clear hu
  cases ok
  · go_wp2_with fail
    go_ret
    exact ⟨false, rfl, (fun h => by cases h), HM11.out.low⟩
  cases ex
  · by_cases h0 : 0 ≤ y.state
    · go_wp2_with fail
      go_ret
      exact ⟨false, rfl, (fun h => by cases h), HM11.out.low⟩
    have hne : decide (0 ≤ y.state) = false := decide_eq_false h0
    cases u
    · go_wp2_with (go_at_call 47; refine (uses_any w11 B bl _ p _ g dv av bv al abs HM11.out.st qb qi row HF.out.hr _ y.args HM11.out.ia (fun z hz => by have := HA.out z hz; have := HF.out.hal; omega) y.state HS.out.2 HSl.out).mono ?_; rintro e w12 ⟨he, hb12⟩; rw [← HUs.out] at he; subst he; have HM12 := Lib.hid (HM11.out.below hb12); clear hb12)
      go_ret
      exact ⟨false, rfl, (fun h => by cases h), HM12.out.low⟩
    have H0 := Lib.hid h0
    clear h0
    go_upto_region 27 with (go_at_call 47; refine (uses_any w11 B bl _ p _ g dv av bv al abs HM11.out.st qb qi row HF.out.hr _ y.args HM11.out.ia (fun z hz => by have := HA.out z hz; have := HF.out.hal; omega) y.state HS.out.2 HSl.out).mono ?_; rintro e w12 ⟨he, hb12⟩; rw [← HUs.out] at he; subst he; have HM12 := Lib.hid (HM11.out.below hb12); clear hb12)
    have h22 : ((o : Int) != 22) = true := by
      rw [bne_iff_ne]
      intro e
      have e2 : o = 22 := by omega
      have q := HEx.out
      rw [e2] at q
      simp [regP, regL] at q
    clear z0 n1 n4 k0 k1 ln lk lz ll
    have HOk : Hid (NodOk g al abs y qb qi x row) := Lib.hid ⟨HA.out, HS.out, fun h => absurd h HO2.out, fun _ => HUs.out.symm⟩
    have n0 : w12.cell? ⟨b5, 0, none⟩ = some (.int .u8 (o : Int)) := (HM12.out.nb.cell 0).trans (by rw [HO.out]; rfl)
    have n1 : w12.cell? ⟨b5, 1, none⟩ = some (.slice A1 y.args.length c1) := HM12.out.nb.cell 1
    have n4 : w12.cell? ⟨b5, 4, none⟩ = some (.int .i64 y.state) := HM12.out.nb.cell 4
    have ln := HM12.out.nb.lt
    go_quiet (fail)
    go_wp2_with fail
    go_ret
    exact ⟨_, rfl, (fun _ => HOk.out), HM12.out.low.trans ((below_drewN (Below.refl _ _) _).mono HM12.out.low.size)⟩
  · by_cases h0 : 0 ≤ y.state
    rotate_left
    · have hne : decide (0 ≤ y.state) = false := decide_eq_false h0
      go_wp2_with fail
      go_ret
      exact ⟨false, rfl, (fun h => by cases h), HM11.out.low⟩
    cases u
    · go_wp2_with (go_at_call 47; refine (uses_any w11 B bl _ p _ g dv av bv al abs HM11.out.st qb qi row HF.out.hr _ y.args HM11.out.ia (fun z hz => by have := HA.out z hz; have := HF.out.hal; omega) y.state HS.out.2 HSl.out).mono ?_; rintro e w12 ⟨he, hb12⟩; rw [← HUs.out] at he; subst he; have HM12 := Lib.hid (HM11.out.below hb12); clear hb12)
      go_ret
      exact ⟨false, rfl, (fun h => by cases h), HM12.out.low⟩
    have H0 := Lib.hid h0
    go_upto_region 27 with (go_at_call 47; refine (uses_any w11 B bl _ p _ g dv av bv al abs HM11.out.st qb qi row HF.out.hr _ y.args HM11.out.ia (fun z hz => by have := HA.out z hz; have := HF.out.hal; omega) y.state HS.out.2 HSl.out).mono ?_; rintro e w12 ⟨he, hb12⟩; rw [← HUs.out] at he; subst he; have HM12 := Lib.hid (HM11.out.below hb12); clear hb12)
    clear z0 n1 n4 k0 k1 ln lk lz ll
    have HOk : Hid (NodOk g al abs y qb qi x row) := Lib.hid ⟨HA.out, HS.out, fun h => absurd h HO2.out, fun _ => HUs.out.symm⟩
    have n0 : w12.cell? ⟨b5, 0, none⟩ = some (.int .u8 (o : Int)) := (HM12.out.nb.cell 0).trans (by rw [HO.out]; rfl)
    have n1 : w12.cell? ⟨b5, 1, none⟩ = some (.slice A1 y.args.length c1) := HM12.out.nb.cell 1
    have n4 : w12.cell? ⟨b5, 4, none⟩ = some (.int .i64 y.state) := HM12.out.nb.cell 4
    have ln := HM12.out.nb.lt
    by_cases h22 : ((o : Int) != 22) = true
    · go_quiet (fail)
      go_wp2_with fail
      go_ret
      exact ⟨_, rfl, (fun _ => HOk.out), HM12.out.low.trans ((below_drewN (Below.refl _ _) _).mono HM12.out.low.size)⟩
    have h22' : ((o : Int) != 22) = false := by simpa using h22
    obtain ⟨st, hst⟩ : ∃ st : Nat, y.state = (st : Int) := ⟨y.state.toNat, by have := H0.out; omega⟩
    have hsl : st < g.states.length := by have := HS.out.2; omega
    obtain ⟨sp, hsp⟩ := getL hsl
    obtain ⟨_, hp0, hp1⟩ := HF.out.hst sp (List.mem_of_getElem? hsp)
    obtain ⟨pc, hpc⟩ : ∃ pc : Nat, sp.pc = (pc : Int) := ⟨sp.pc.toNat, by omega⟩
    obtain ⟨ins, hins⟩ := getL (l := f.code) (k := pc) (by omega)
    have hpcl : pc < f.code.length := by omega
    have hfl := (List.getElem?_eq_some_iff.1 HF.out.hf).1
    obtain ⟨A3, d3, A4', d4, A5, d5, A6, d6, A7, d7, hv, _, _, _, _, _, f5, _⟩ := (HM12.out.st.lk.pr.fnAt HF.out.hf).parts
    obtain ⟨bc, oc, eA, hbc, hi0, hi1, _⟩ := InsesV.at_ hv.code hins
    subst eA
    obtain ⟨As, cs, es, _, hls, hps⟩ := HM12.out.st.lk.gr.2.2
    obtain ⟨bs, os, rfl, hbs, hps⟩ := hps (by omega)
    simp only at es
    subst es
    obtain ⟨s0, _⟩ := hps st sp hsp
    rw [hpc] at s0
    rw [hst] at n4
    have z0 : w12.cell? ⟨w.heap.size, 0, none⟩ = some (.pointer (some ⟨bl, 0, none⟩)) := HM12.out.lb.cell 0
    have lz := HM12.out.lb.lt
    have ll := HM12.out.st.lk.box.lt
    have c0' : w12.cell? ⟨bl, 0, none⟩ = some (.slice (some ⟨bp, op, none⟩) p.length cp) := HM12.out.st.lk.cells.1
    have c1' : w12.cell? ⟨bl, 1, none⟩ = some (.int .i64 (fn : Int)) := (HM12.out.st.lk.cells.2.1).trans (by rw [HF.out.hgf])
    have c6 : w12.cell? ⟨bl, 6, none⟩ = some (.slice (some ⟨bs, os, none⟩) g.states.length cs) := HM12.out.st.lk.cells.2.2.2.2.2.2.1
    have hcl := hv.ints
    have hslim : g.states.length ≤ 17592186044416 := by unfold lim at hls; omega
    have heq := fun W : World => eqIns ins.op ins.a ((y.args.length : Int) - 1) W
    clear hps hsp hp0 hp1 hins h22 hv hls
    go_quiet (fail)
    go_wp2_with fail
    go_ret
    exact ⟨_, rfl, (fun _ => HOk.out), HM12.out.low.trans ((below_drewN (Below.refl _ _) _).mono HM12.out.low.size)⟩
end Go.Proofs.YtkmfdiboekoioaaGreat
