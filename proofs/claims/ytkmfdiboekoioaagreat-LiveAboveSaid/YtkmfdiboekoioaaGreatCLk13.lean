/- slices.ContainsFunc where the function only reads; graph.look.node's memory. Conditions: a graph that is looked at. -/
import Derived.Test.YtkmfdiboekoioaaGreatCLk12
import Derived.Test.YtkmfdiboekoioaaGreatCMay
import Derived.BigQuiet
set_option linter.unusedSimpArgs false
set_option linter.unusedVariables false
namespace Go.Proofs.YtkmfdiboekoioaaGreat
open Go.RowKit
set_option maxRecDepth 100000 in
set_option maxHeartbeats 4000000 in
theorem ixInt_same (w : World) (B : Nat) (v : Value) (l : List Int) (pf : Nat) (fs cs : Array Value) (q : Int → Bool) (hl : IntsV w B v l) (hf : Enters pf)
    (hp : ∀ (x : Int), x ∈ l → Calls Tryz.prog pf (fs.push (.int .i64 x) ++ cs) w (fun e w' => e = .returned (.bool (q x)) ∧ w' = w)) :
    Calls Tryz.prog 115 #[v, .func (.func pf) fs cs] w (fun e w' => e = .returned (.int .i64 (ixOf q l)) ∧ w' = w) := by
  have HP := Lib.hid hp
  have hfr := hf
  unfold Enters at hfr
  obtain ⟨A, c, rfl, _hc, hlc, hpp⟩ := hl
  have HPP := Lib.hid hpp
  have hlim : l.length ≤ 17592186044416 := by unfold lim at hlc; omega
  clear hlc hp hpp
  go_enter Tryz.func115, Tryz.ntmps115
  go_wp2_with fail
  go_loopw [8] (fun i wr => ∃ k : Nat, k ≤ l.length ∧ i = .int .i64 k ∧ Hid (wr = w) ∧ Hid (∀ x ∈ l.take k, q x = false)) (fun i _ => l.length - (intOf i).toNat)
  case atStart => exact ⟨0, Nat.zero_le _, rfl, Lib.hid rfl, Lib.hid (by simp)⟩
  case round =>
    obtain ⟨k, hk, rfl, HB, HNo⟩ := hrel
    have hb := HB.out
    subst hb
    by_cases hlt : k < l.length
    · obtain ⟨b, off, rfl, hbB, hp⟩ := HPP.out (by omega)
      obtain ⟨y, hy⟩ := getL hlt
      have f0 := hp k y hy
      have HY := Lib.hid hy
      have HC := Lib.hid (HP.out y (List.mem_of_getElem? hy))
      clear hp hy
      obtain ⟨t, ht⟩ : ∃ t : Bool, t = q y := ⟨_, rfl⟩
      rw [← ht] at HC
      have HT := Lib.hid ht
      clear ht
      cases t with
      | true =>
        go_wp2_with (with_reducible refine HC.out.mono ?_; rintro e w2 ⟨rfl, hw2⟩; have hw3 := hw2.symm; subst hw3)
        go_ret
        exact ⟨by rw [ixOf_found HNo.out HY.out HT.out.symm]; rfl, rfl⟩
      | false =>
        go_wp2_with (with_reducible refine HC.out.mono ?_; rintro e w2 ⟨rfl, hw2⟩; have hw3 := hw2.symm; subst hw3)
        go_roundw
        case rel => exact ⟨k + 1, by omega, by go_num, (by first | exact Lib.hid rfl | exact Lib.hid trivial), Lib.hid (take_no HNo.out HY.out HT.out.symm)⟩
        case measure => simp [intOf]; omega
    · go_wp2_with fail
      go_ret
      exact ⟨by rw [ixOf_none fun x hx => HNo.out x (by rw [List.take_of_length_le (by omega)]; exact hx)]; rfl, rfl⟩
set_option maxRecDepth 100000 in
set_option maxHeartbeats 4000000 in
theorem ctInt_same (w : World) (B : Nat) (v : Value) (l : List Int) (pf : Nat) (fs cs : Array Value) (q : Int → Bool) (hl : IntsV w B v l) (hf : Enters pf)
    (hp : ∀ (x : Int), x ∈ l → Calls Tryz.prog pf (fs.push (.int .i64 x) ++ cs) w (fun e w' => e = .returned (.bool (q x)) ∧ w' = w)) (t : Bool) (ht : t = l.any q) :
    Calls Tryz.prog 65 #[v, .func (.func pf) fs cs] w (fun e w' => e = .returned (.bool t) ∧ w' = w) := by
  have HL := Lib.hid hl; have HP := Lib.hid hp; have HT := Lib.hid ht
  obtain ⟨A, c, rfl, _⟩ := hl
  clear hp ht
  go_enter Tryz.func65, Tryz.ntmps65
  go_wp2_with (go_at_call 115; refine (ixInt_same w B _ l pf fs cs q HL.out hf HP.out).mono ?_; rintro e w2 ⟨rfl, hw2⟩; have hw3 := hw2.symm; subst hw3)
  go_ret
  exact ⟨by rw [HT.out, ← ixOf_any]; rfl, rfl⟩
/-- A number that is none of the nodes. -/
def outB (N : Nat) (n : Int) : Bool := !(decide (0 ≤ n) && decide (n < (N : Int)))
theorem nodeArg_same (w : World) (B bl b1 : Nat) (pv : Value) (p : List FnP) (xv : GVals) (g : GraphP) (dv av bv : Value) (h : LkBox w B bl pv p xv g dv av bv) (h1 : w.cell? ⟨b1, 0, none⟩ = some (.pointer (some ⟨bl, 0, none⟩)))
    (n : Int) : Calls Tryz.prog 94 #[.int .i64 n, .pointer (some ⟨b1, 0, none⟩)] w (fun e w' => e = .returned (.bool (outB g.nodes.length n)) ∧ w' = w) := by
  obtain ⟨vn, vb, vs⟩ := xv
  obtain ⟨An, cn, rfl, _, hln, _⟩ := h.gr.1
  have hlim : g.nodes.length ≤ 17592186044416 := by unfold lim at hln; omega
  have c4 : w.cell? ⟨bl, 4, none⟩ = some (.slice An g.nodes.length cn) := h.cells.2.2.2.2.1
  have hll := h.box.lt
  unfold outB
  clear h
  obtain ⟨u, hu⟩ : ∃ u, u = (decide (0 ≤ n) && decide (n < (g.nodes.length : Int))) := ⟨_, rfl⟩
  have HU := Lib.hid hu
  rw [← hu]
  clear hu
  cases u
  · go_enter Tryz.func94, Tryz.ntmps94
    go_wp2_with (go_at_call 38; refine (within_any n g.nodes.length false HU.out w).mono ?_; rintro e w' ⟨rfl, hw'⟩; have hw2 := hw'.symm; subst hw2)
    go_ret
    exact ⟨rfl, rfl⟩
  · go_enter Tryz.func94, Tryz.ntmps94
    go_wp2_with (go_at_call 38; refine (within_any n g.nodes.length true HU.out w).mono ?_; rintro e w' ⟨rfl, hw'⟩; have hw2 := hw'.symm; subst hw2)
    go_ret
    exact ⟨rfl, rfl⟩
/-- A region that draws its order, S kept throughout. -/
theorem wp_region_H {P : Program} {ops : Array Oper} {Q : Exit → Act → World → Prop} {id : Nat} {a : Act} {w : World} (S : World → Prop) (hm : P.follows .mixedOrders = true) (hS : S w.drew)
    (h : S w.drew → wpAnyH P .any ops Q S ops.size (Array.replicate ops.size false) a w.drew) : (Code.region id ops true).wp P Q a w := wp_region_any hm (wpAny_of_held _ _ _ _ (h hS))
/-- What is so of a node that is looked at, its block and its place. -/
structure NodF (B : Nat) (p : List FnP) (g : GraphP) (al : List (Int × Int)) (abs : List (List Int)) (n : Nat) (y : NodeP) (qb qi : Nat) (x : BlockP) (row : List Int) (fn : Nat) (f : FnP) : Prop where
  hy : g.nodes[n]? = some y
  hq : al[n]? = some ((qb : Int), (qi : Int))
  hx : g.blocks[qb]? = some x
  hr : abs[qb]? = some row
  hi : qi < x.nodes.length
  hop : 0 ≤ y.op ∧ y.op ≤ 255
  hxn : ∀ z ∈ x.nodes, 0 ≤ z ∧ z < (g.nodes.length : Int)
  hxa : ∀ c ∈ x.ahead, 0 ≤ c ∧ c < (g.blocks.length : Int)
  habs : abs.length = g.blocks.length
  hal : al.length = g.nodes.length
  hst : ∀ s ∈ g.states, (∀ z ∈ s.slots, z < (g.nodes.length : Int)) ∧ 0 ≤ s.pc ∧ s.pc < (f.code.length : Int)
  hgf : g.fn = (fn : Int)
  hf : p[fn]? = some f
  hcode : ∀ i ∈ f.code, i.op = 26 → 1 ≤ i.a ∧ i.a < (p.length : Int)
  small : g.nodes.length ≤ 5000 ∧ g.blocks.length ≤ 5000
def nodCells (y : NodeP) (A : Option Addr) (c : Nat) : Array Value := #[.int .u8 y.op, .slice A y.args.length c, .int .i64 y.N, .int .u8 y.kind, .int .i64 y.state]
def blkCells (x : BlockP) (A0 : Option Addr) (c0 : Nat) (v2 v3 : Value) (A4 : Option Addr) (c4 : Nat) : Array Value := #[.slice A0 x.nodes.length c0, .int .u8 x.fin, v2, v3, .slice A4 x.ahead.length c4, .int .i64 x.state]
/-- The memory of node behind its first operations. -/
structure NodR (w : World) (B bl : Nat) (pv : Value) (p : List FnP) (xv : GVals) (g : GraphP) (dv av bv : Value) (al : List (Int × Int)) (abs : List (List Int)) (y : NodeP) (qb qi : Nat) (x : BlockP) (b5 b6 b7 : Nat) (A1 : Option Addr) (c1 : Nat) (A0 : Option Addr) (c0 : Nat) (v2 v3 : Value) (A4 : Option Addr) (c4 : Nat) (W : World) : Prop where
  st : StM W B bl pv p xv g dv av bv al abs
  lb : Blk W w.heap.size 84 #[.pointer (some ⟨bl, 0, none⟩)]
  nb : Blk W b5 68 (nodCells y A1 c1)
  pb : Blk W b6 92 #[.int .i64 (qb : Int), .int .i64 (qi : Int)]
  kb : Blk W b7 41 (blkCells x A0 c0 v2 v3 A4 c4)
  ia : IntsV W W.heap.size (.slice A1 y.args.length c1) y.args
  i0 : IntsV W W.heap.size (.slice A0 x.nodes.length c0) x.nodes
  i4 : IntsV W W.heap.size (.slice A4 x.ahead.length c4) x.ahead
  low : Below w.heap.size w W
theorem NodR.below {w : World} {B bl : Nat} {pv : Value} {p : List FnP} {xv : GVals} {g : GraphP} {dv av bv : Value} {al : List (Int × Int)} {abs : List (List Int)} {y : NodeP} {qb qi : Nat} {x : BlockP} {b5 b6 b7 : Nat} {A1 : Option Addr} {c1 : Nat} {A0 : Option Addr} {c0 : Nat} {v2 v3 : Value} {A4 : Option Addr} {c4 : Nat} {W W' : World}
    (h : NodR w B bl pv p xv g dv av bv al abs y qb qi x b5 b6 b7 A1 c1 A0 c0 v2 v3 A4 c4 W) (hb : Below W.heap.size W W') : NodR w B bl pv p xv g dv av bv al abs y qb qi x b5 b6 b7 A1 c1 A0 c0 v2 v3 A4 c4 W' :=
  ⟨h.st.below hb, h.lb.below hb h.lb.lt, h.nb.below hb h.nb.lt, h.pb.below hb h.pb.lt, h.kb.below hb h.kb.lt, h.ia.later hb (Nat.le_refl _), h.i0.later hb (Nat.le_refl _), h.i4.later hb (Nat.le_refl _), h.low.trans (hb.mono h.low.size)⟩
/-- What node tells, if it says yes. -/
def NodOk (g : GraphP) (al : List (Int × Int)) (abs : List (List Int)) (y : NodeP) (qb qi : Nat) (x : BlockP) (row : List Int) : Prop :=
  (∀ a ∈ y.args, 0 ≤ a ∧ a < (g.nodes.length : Int)) ∧ (-1 ≤ y.state ∧ y.state < (g.states.length : Int)) ∧
  (y.op = 2 → ∀ (i : Nat) (a c : Int) z r, y.args[i]? = some a → x.ahead[i]? = some c → g.blocks[c.toNat]? = some z → abs[c.toNat]? = some r → standsB al r c.toNat z.nodes.length a = true) ∧
  (y.op ≠ 2 → usesB g al row qb qi y.args y.state = true)
def NodIs (g : GraphP) (al : List (Int × Int)) (abs : List (List Int)) (y : NodeP) (qb qi : Nat) (x : BlockP) (row : List Int) (w : World) (e : Ending) (w' : World) : Prop := ∃ t, e = .returned (.bool t) ∧ (t = true → NodOk g al abs y qb qi x row) ∧ Below w.heap.size w w'
def sndC : Nat → Code → Code
  | 0, c => c
  | n + 1, .seq _ b => sndC n b
  | _ + 1, c => c
/-- The code of node behind the question of its args. -/
noncomputable def nrest : Code := sndC 4 ((Tryz.f48.body).getD .skip)
end Go.Proofs.YtkmfdiboekoioaaGreat

/- graph.look.node at a node that is a slot. Conditions: a graph that is looked at. -/
namespace Go.Proofs.YtkmfdiboekoioaaGreat
open Go.RowKit
set_option maxRecDepth 100000 in
set_option maxHeartbeats 8000000 in
theorem node_slot (w W : World) (B bl : Nat) (pv : Value) (p : List FnP) (xv : GVals) (g : GraphP) (dv av bv : Value) (al : List (Int × Int)) (abs : List (List Int)) (n : Nat) (y : NodeP) (qb qi : Nat) (x : BlockP) (row : List Int) (fn : Nat) (f : FnP) (b5 b6 b7 : Nat) (A1 : Option Addr) (c1 : Nat) (A0 : Option Addr) (c0 : Nat) (v2 v3 : Value) (A4 : Option Addr) (c4 : Nat)
    (F : NodF B p g al abs n y qb qi x row fn f) (M : NodR w B bl pv p xv g dv av bv al abs y qb qi x b5 b6 b7 A1 c1 A0 c0 v2 v3 A4 c4 W) (ha : ∀ a ∈ y.args, 0 ≤ a ∧ a < (g.nodes.length : Int)) (hs : -1 ≤ y.state ∧ y.state < (g.states.length : Int)) (ho : y.op = 1)
    (u3 u8 u9 u10 u11 u12 u13 u14 u15 u16 u17 u18 u19 u20 u21 u22 u23 u24 u25 u26 u27 u28 u29 u30 u31 u32 u33 u34 u35 u36 u37 u38 u39 u40 u41 u42 u43 u44 u45 u46 u47 u48 u49 u50 u51 u52 u53 u54 u55 u56 u57 u58 u59 u60 u61 u62 u63 u64 u65 u66 u67 u68 u69 u70 u71 u72 u73 u74 u75 u76 u77 u78 u79 u80 u81 u82 u83 u84 u85 u86 u87 u88 u89 u90 u91 u92 u93 u94 u95 u96 u97 u98 u99 u100 u101 u102 u103 u104 u105 u106 u107 u108 u109 u110 u111 u112 u113 u114 u115 u116 u117 u118 u119 u120 u121 u122 u123 u124 u125 u126 u127 u128 u129 u130 u131 u132 u133 u134 u135 u136 u137 u138 u139 u140 u141 u142 u143 u144 u145 u146 u147 u148 u149 u150 u151 u152 u153 u154 u155 u156 u157 u158 u159 u160 u161 u162 u163 u164 u165 u166 u167 u168 u169 u170 u171 u172 u173 u174 u175 u176 u177 u178 u179 u180 u181 u182 u183 u184 u185 u186 u187 u188 u189 u190 u191 u192 u193 u194 u195 u196 u197 u198 u199 u200 u201 u202 u203 u204 u205 u206 u207 u208 u209 u210 u211 u212 u213 u214 u215 u216 u217 u218 u219 u220 u221 u222 u223 u224 u225 u226 u227 u228 u229 u230 u231 u232 u233 u234 u235 u236 u237 u238 u239 u240 u241 u242 u243 u244 u245 u246 u247 u248 u249 u250 u251 u252 u253 u254 u255 u256 u257 : Value) :
    Code.wp Tryz.prog nrest (bodyPost Tryz.prog Tryz.f48 (NodIs g al abs y qb qi x row w)) ⟨#[.pointer (some ⟨bl, 0, none⟩), .int .i64 n, .pointer (some ⟨w.heap.size, 0, none⟩), u3, .bool false, .pointer (some ⟨b5, 0, none⟩), .pointer (some ⟨b6, 0, none⟩), .pointer (some ⟨b7, 0, none⟩), u8, u9, u10, u11, u12, u13, u14, u15, u16, u17, u18, u19, u20, u21, u22, u23, u24, u25, u26, u27, u28, u29, u30, u31, u32, u33, u34, u35, u36, u37, u38, u39, u40, u41, u42, u43, u44, u45, u46, u47, u48, u49, u50, u51, u52, u53, u54, u55, u56, u57, u58, u59, u60, u61, u62, u63, u64, u65, u66, u67, u68, u69, u70, u71, u72, u73, u74, u75, u76, u77, u78, u79, u80, u81, u82, u83, u84, u85, u86, u87, u88, u89, u90, u91, u92, u93, u94, u95, u96, u97, u98, u99, u100, u101, u102, u103, u104, u105, u106, u107, u108, u109, u110, u111, u112, u113, u114, u115, u116, u117, u118, u119, u120, u121, u122, u123, u124, u125, u126, u127, u128, u129, u130, u131, u132, u133, u134, u135, u136, u137, u138, u139, u140, u141, u142, u143, u144, u145, u146, u147, u148, u149, u150, u151, u152, u153, u154, u155, u156, u157, u158, u159, u160, u161, u162, u163, u164, u165, u166, u167, u168, u169, u170, u171, u172, u173, u174, u175, u176, u177, u178, u179, u180, u181, u182, u183, u184, u185, u186, u187, u188, u189, u190, u191, u192, u193, u194, u195, u196, u197, u198, u199, u200, u201, u202, u203, u204, u205, u206, u207, u208, u209, u210, u211, u212, u213, u214, u215, u216, u217, u218, u219, u220, u221, u222, u223, u224, u225, u226, u227, u228, u229, u230, u231, u232, u233, u234, u235, u236, u237, u238, u239, u240, u241, u242, u243, u244, u245, u246, u247, u248, u249, u250, u251, u252, u253, u254, u255, u256, u257], []⟩ W := by
  have HF := Lib.hid F; have HM := Lib.hid M; have HA := Lib.hid ha; have HS := Lib.hid hs
  have n0 : W.cell? ⟨b5, 0, none⟩ = some (.int .u8 y.op) := M.nb.cell 0
  have n1 : W.cell? ⟨b5, 1, none⟩ = some (.slice A1 y.args.length c1) := M.nb.cell 1
  have n2 : W.cell? ⟨b5, 2, none⟩ = some (.int .i64 y.N) := M.nb.cell 2
  have n3 : W.cell? ⟨b5, 3, none⟩ = some (.int .u8 y.kind) := M.nb.cell 3
  have n4 : W.cell? ⟨b5, 4, none⟩ = some (.int .i64 y.state) := M.nb.cell 4
  have k0 : W.cell? ⟨b6, 0, none⟩ = some (.int .i64 (qb : Int)) := M.pb.cell 0
  have k1 : W.cell? ⟨b6, 1, none⟩ = some (.int .i64 (qi : Int)) := M.pb.cell 1
  have z0 : W.cell? ⟨w.heap.size, 0, none⟩ = some (.pointer (some ⟨bl, 0, none⟩)) := M.lb.cell 0
  have m0 : W.cell? ⟨b7, 0, none⟩ = some (.slice A0 x.nodes.length c0) := M.kb.cell 0
  have m4 : W.cell? ⟨b7, 4, none⟩ = some (.slice A4 x.ahead.length c4) := M.kb.cell 4
  have ln := M.nb.lt
  have lk := M.pb.lt
  have lz := M.lb.lt
  have lm := M.kb.lt
  have ll := M.st.lk.box.lt
  have hal : y.args.length ≤ 17592186044416 := by obtain ⟨_, _, _, _, q, _⟩ := M.ia; unfold lim at q; omega
  have hxl : x.nodes.length ≤ 17592186044416 := by obtain ⟨_, _, _, _, q, _⟩ := M.i0; unfold lim at q; omega
  have hxa : x.ahead.length ≤ 17592186044416 := by obtain ⟨_, _, _, _, q, _⟩ := M.i4; unfold lim at q; omega
  obtain ⟨e0, e1, e2, e3, e4, e5, e6, e7, e8, e9⟩ := M.st.lk.cells
  rw [ho] at n0
  clear F M ha hs e0 e1 e2 e4 e5 e6 e7 e8 e9
  conv => arg 2; whnf
  dsimp only
  go_upto_region 7 with fail
  rcases bool_or ((qb : Int) == 0) with b0 | b0
  · go_quiet (fail)
    go_wp2_with fail
    go_ret
    exact ⟨false, rfl, (fun h => by cases h), HM.out.low.trans ((below_drewN (Below.refl _ _) _).mono HM.out.low.size)⟩
  rcases bool_or ((y.args.length : Int) == 0) with b1 | b1
  · go_quiet (fail)
    go_wp2_with fail
    go_ret
    exact ⟨false, rfl, (fun h => by cases h), HM.out.low.trans ((below_drewN (Below.refl _ _) _).mono HM.out.low.size)⟩
  rcases bool_or (decide (0 ≤ y.N)) with b2 | b2
  · go_quiet (fail)
    go_wp2_with fail
    go_ret
    exact ⟨false, rfl, (fun h => by cases h), HM.out.low.trans ((below_drewN (Below.refl _ _) _).mono HM.out.low.size)⟩
  rcases bool_or (decide (y.N < g.slots)) with b3 | b3
  · go_quiet (fail)
    go_wp2_with fail
    go_ret
    exact ⟨false, rfl, (fun h => by cases h), HM.out.low.trans ((below_drewN (Below.refl _ _) _).mono HM.out.low.size)⟩
  rcases bool_or (y.kind == 0) with b4 | b4
  · go_quiet (fail)
    go_wp2_with fail
    go_ret
    exact ⟨false, rfl, (fun h => by cases h), HM.out.low.trans ((below_drewN (Below.refl _ _) _).mono HM.out.low.size)⟩
  have hargs : y.args = [] := by
    have : y.args.length = 0 := by have := eq_of_beq b1; omega
    exact List.eq_nil_of_length_eq_zero this
  have HArgs := Lib.hid hargs
  clear hargs
  go_quiet (fail)
  go_wp2_with fail
  go_ret
  refine ⟨_, rfl, fun h => ?_, HM.out.low.trans ((below_drewN (Below.refl _ _) _).mono HM.out.low.size)⟩
  have hst : y.state = -1 := eq_of_beq h
  refine ⟨HA.out, HS.out, fun h => by omega, fun _ => ?_⟩
  unfold usesB
  rw [HArgs.out, hst]
  rfl
end Go.Proofs.YtkmfdiboekoioaaGreat
