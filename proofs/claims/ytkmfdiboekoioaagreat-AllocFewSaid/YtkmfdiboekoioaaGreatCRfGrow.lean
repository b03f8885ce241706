/- What is kept of a world in which only one block is written. No condition. -/
import Derived.Test.YtkmfdiboekoioaaGreatCRfHas
import Derived.Deep.RegionHeld
import Derived.Deep.RegionHeld3
import Derived.Test.YtkmfdiboekoioaaGreatCRfVer1
set_option linter.unusedSimpArgs false
set_option linter.unusedVariables false
namespace Go.Proofs.YtkmfdiboekoioaaGreat
open Go.RowKit
theorem grown_set2 (w : World) (p : Addr) (u : Value) : w.grownBy (w.setCell p u) (some p.block) :=
 ⟨rfl, rfl, rfl, by simp [World.setCell], fun k _ hk => Below.heap_setCell _ _ _ k (fun e => hk (by rw [e]))⟩
theorem grown_below {w w1 w2 : World} {r : Nat} (h : w.grownBy w1 (some r)) (hb : Below w1.heap.size w1 w2) : w.grownBy w2 (some r) :=
 ⟨hb.os.trans h.os, hb.tape.trans h.tape, hb.output.trans h.output, Nat.le_trans h.size hb.size, fun k hk hn => (hb.block k (Nat.lt_of_lt_of_le hk h.size)).trans (h.block k hk hn)⟩
theorem grown_set {w w1 : World} {r j : Nat} (h : w.grownBy w1 (some r)) (u : Value) : w.grownBy (w1.setCell ⟨r, j, none⟩ u) (some r) :=
 have k := grown_set2 w1 ⟨r, j, none⟩ u
 ⟨k.os.trans h.os, k.tape.trans h.tape, k.output.trans h.output, Nat.le_trans h.size k.size, fun i hi hn => (k.block i (Nat.lt_of_lt_of_le hi h.size) hn).trans (h.block i hi hn)⟩
theorem grown_drew {w w1 : World} {r : Option Nat} (h : w.grownBy w1 r) {n : Nat} : w.grownBy (w1.drewN n) r := ⟨h.os, h.tape, h.output, h.size, h.block⟩
end Go.Proofs.YtkmfdiboekoioaaGreat

/- A region that draws its order, a fact of the world kept throughout. No condition. -/
namespace Go.Proofs.YtkmfdiboekoioaaGreat
open Go.RowKit
/-- A region that draws its order, S kept throughout. -/
theorem wp_region_H2 {P : Program} {ops : Array Oper} {Q : Exit → Act → World → Prop} {id : Nat} {a : Act} {w : World} (S : World → Prop) (hm : P.follows .mixedOrders = true) (hS : S w.drew)
  (h : S w.drew → wpAnyH P .any ops Q S ops.size (Array.replicate ops.size false) a w.drew) : (Code.region id ops true).wp P Q a w := wp_region_any hm (wpAny_of_held _ _ _ _ (h hS))
section
variable {P : Program} {L : List Oper} {Q : Exit → Act → World → Prop} {md : Region.Mode} {S : World → Prop}
/-- An operation that is ready, with all that is looked up. -/
theorem tkL {oi : Oper} {v : Value} {fuel : Nat} {listed : Array Bool} {a : Act} {w : World} (i : Nat) (hi : L[i]? = some oi) (hQ : ∀ c a w, Q (.panic c) (a.put oi.dst v) w → Q (.panic c) a w) (hS : S w)
  (h : wpAnyH P md L.toArray Q S fuel (listed.setIfInBounds i true) (a.put oi.dst v) w)
  (hs : Region.noSelect L.toArray = true := by kernel_rfl) (hf : Region.free md L.toArray listed i = true := by kernel_rfl) (hr : (Region.ready md L.toArray listed).contains i = true := by kernel_rfl)
  (hw : Region.wanted oi (yielded L.toArray a.tmps) = true := by rfl) (hv : ∀ w, S w → (execOp a.eval oi).run P w = .ok (.value v) w := by intro w hSw; (try dsimp only at hSw); go_simp; (try with_reducible rfl)) :
  wpAnyH P md L.toArray Q S (fuel + 1) listed a w :=
 wpAnyH_take (by simpa using hi) hs hf hr hQ (.inl ⟨hw, hv⟩) hS h
end
end Go.Proofs.YtkmfdiboekoioaaGreat

/- A region that draws its order, its operations as a list: for regions of many operations. No condition. -/
namespace Go.Proofs.YtkmfdiboekoioaaGreat
open Go.RowKit
section
variable {P : Program} {L : List Oper} {Q : Exit → Act → World → Prop} {md : Region.Mode} {S : World → Prop}
theorem wpAnyH_takeL {i : Nat} {oi : Oper} {v : Value} {fuel : Nat} {listed : Array Bool} {a : Act} {w : World} (hi : L[i]? = some oi)
  (hs : Region.noSelect L.toArray = true) (hf : Region.free md L.toArray listed i = true) (hr : (Region.ready md L.toArray listed).contains i = true)
  (hQ : ∀ c a w, Q (.panic c) (a.put oi.dst v) w → Q (.panic c) a w) (hy : YieldsIf P L.toArray S oi v a) (hS : S w)
  (h : wpAnyH P md L.toArray Q S fuel (listed.setIfInBounds i true) (a.put oi.dst v) w) : wpAnyH P md L.toArray Q S (fuel + 1) listed a w :=
 wpAnyH_take (by simpa using hi) hs hf hr hQ hy hS h
theorem AllReadyH_consL {fuel : Nat} {listed : Array Bool} {a : Act} {w : World} {i : Nat} {o : Oper} {rs : List Nat} (ho : L[i]? = some o)
  (h : ∀ K' : Act → World → Prop, Shut (∀ a w, S w → (S w → wpAnyH P md L.toArray Q S fuel (listed.setIfInBounds i true) a w) → K' a w) → if Region.wanted o (yielded L.toArray a.tmps) = true then Oper.wp P o a w K' Q else K' (a.put o.dst undef) w)
  (hs : AllReadyH P md L.toArray Q S fuel listed a w rs) : AllReadyH P md L.toArray Q S fuel listed a w (i :: rs) := AllReadyH.cons (by simpa using ho) h hs
end
end Go.Proofs.YtkmfdiboekoioaaGreat

/- The reference 9's question whether a function may be made, apart. Conditions: the cells that it reads. -/
namespace Go.Proofs.YtkmfdiboekoioaaGreat
open Go.RowKit
def regOf (k : Nat) : Code → Option Code
 | .region id ops d => if id = k then some (.region id ops d) else none
 | .loop c => regOf k c
 | .seq a b => (regOf k a).or (regOf k b)
 | .block _ c => regOf k c
 | .scope c => regOf k c
 | .cond _ a b => (regOf k a).or (regOf k b)
 | _ => none
noncomputable def mkRegion : Code := ((Tryz.f58.body.bind (regOf 9))).getD .skip
set_option maxRecDepth 100000 in
set_option maxHeartbeats 8000000 in
theorem mkRegion_any (w3 : World) (b off np cp fn mb cap bf bi m : Nat) (z : Int) (f0 f1 f2 f3 f4 f5 f6 f7 g0 g1 g2 g3 g4 g5 g6 g7 : Value) (hm : m < np)
  (hk : ∀ W, Below w3.heap.size w3 W → W.cell? ⟨mb, m, none⟩ = some (.int .i64 z) ∧ W.cell? ⟨bi, 1, none⟩ = some (.int .i64 (m : Int)) ∧ W.cell? ⟨bf, 0, none⟩ = some f0 ∧ W.cell? ⟨bf, 1, none⟩ = some f1 ∧ W.cell? ⟨bf, 2, none⟩ = some f2 ∧ W.cell? ⟨bf, 3, none⟩ = some f3 ∧ W.cell? ⟨bf, 4, none⟩ = some f4 ∧ W.cell? ⟨bf, 5, none⟩ = some f5 ∧ W.cell? ⟨bf, 6, none⟩ = some f6 ∧ W.cell? ⟨bf, 7, none⟩ = some f7 ∧ W.cell? ⟨b, off + m * 8, none⟩ = some g0 ∧ W.cell? ⟨b, off + m * 8 + 1, none⟩ = some g1 ∧ W.cell? ⟨b, off + m * 8 + 2, none⟩ = some g2 ∧ W.cell? ⟨b, off + m * 8 + 3, none⟩ = some g3 ∧ W.cell? ⟨b, off + m * 8 + 4, none⟩ = some g4 ∧ W.cell? ⟨b, off + m * 8 + 5, none⟩ = some g5 ∧ W.cell? ⟨b, off + m * 8 + 6, none⟩ = some g6 ∧ W.cell? ⟨b, off + m * 8 + 7, none⟩ = some g7)
  (hz : decide (0 ≤ z) = false ∨ (decide (0 ≤ z) = true ∧ (z != (fn : Int)) = false))
  (hcap : Calls Tryz.prog 109 #[.agg #[f0, f1, f2, f3, f4, f5, f6, f7], .agg #[g0, g1, g2, g3, g4, g5, g6, g7]] w3.drew (SomeBool w3.drew))
  (u3 u4 u5 u6 u8 u10 u11 u12 u13 u14 u15 u16 u17 u18 u19 u20 u21 u22 u23 u24 u25 u26 u27 u28 u29 u30 u31 u32 u33 u34 u35 u36 u37 u38 u39 u40 u41 u42 u43 u44 u45 u46 u47 u48 u49 u50 u51 u52 u53 u54 u55 u56 u57 u58 u59 u60 u61 u62 u63 u64 u65 u66 u67 u68 u69 u70 u71 u72 u73 u74 u75 u76 u77 u78 u79 : Value) (Q : Exit → Act → World → Prop)
  (hpan : ∀ c d v a w, Q (.panic c) (Act.put a d v) w → Q (.panic c) a w)
  (hexit : ∀ (x49 x50 x51 x52 x53 x54 x55 x56 x57 x58 x59 x60 x61 x62 x63 x64 x65 x66 x67 x68 x69 x70 x71 x72 : Value) (t : Bool) (W' : World), Below w3.heap.size w3 W' → Q .normal ⟨#[.slice (some ⟨b, off, none⟩) np cp, .int .i64 (fn : Int), .slice (some ⟨mb, 0, none⟩) np cap, u3, u4, u5, u6, .pointer (some ⟨bf, 0, none⟩), u8, .pointer (some ⟨bi, 0, none⟩), u10, u11, u12, u13, u14, u15, u16, u17, u18, u19, u20, u21, u22, u23, u24, u25, u26, u27, u28, u29, u30, u31, u32, u33, u34, u35, u36, u37, u38, u39, u40, u41, u42, u43, u44, u45, u46, u47, u48, x49, x50, x51, x52, x53, x54, x55, x56, x57, x58, x59, x60, x61, x62, x63, x64, x65, x66, x67, x68, x69, x70, x71, x72, .bool (!t), u74, u75, u76, u77, u78, u79], []⟩ W') :
  Code.wp Tryz.prog mkRegion Q ⟨#[.slice (some ⟨b, off, none⟩) np cp, .int .i64 (fn : Int), .slice (some ⟨mb, 0, none⟩) np cap, u3, u4, u5, u6, .pointer (some ⟨bf, 0, none⟩), u8, .pointer (some ⟨bi, 0, none⟩), u10, u11, u12, u13, u14, u15, u16, u17, u18, u19, u20, u21, u22, u23, u24, u25, u26, u27, u28, u29, u30, u31, u32, u33, u34, u35, u36, u37, u38, u39, u40, u41, u42, u43, u44, u45, u46, u47, u48, u49, u50, u51, u52, u53, u54, u55, u56, u57, u58, u59, u60, u61, u62, u63, u64, u65, u66, u67, u68, u69, u70, u71, u72, u73, u74, u75, u76, u77, u78, u79], []⟩ w3 := by
 have HK := Lib.hid hk; have HCap := Lib.hid hcap; have HPan := Lib.hid hpan; have HEx := Lib.hid hexit
 clear hk hcap hpan hexit
 conv => arg 2; whnf
 dsimp only

 rcases hz with dz | ⟨dz, dn⟩
 ·skip
  have HSa : Hid ((fun W : World => W.cell? ⟨mb, m, none⟩ = some (.int .i64 z) ∧ W.cell? ⟨bi, 1, none⟩ = some (.int .i64 (m : Int)) ∧ W.cell? ⟨bf, 0, none⟩ = some f0 ∧ W.cell? ⟨bf, 1, none⟩ = some f1 ∧ W.cell? ⟨bf, 2, none⟩ = some f2 ∧ W.cell? ⟨bf, 3, none⟩ = some f3 ∧ W.cell? ⟨bf, 4, none⟩ = some f4 ∧ W.cell? ⟨bf, 5, none⟩ = some f5 ∧ W.cell? ⟨bf, 6, none⟩ = some f6 ∧ W.cell? ⟨bf, 7, none⟩ = some f7 ∧ W.cell? ⟨b, off + m * 8, none⟩ = some g0 ∧ W.cell? ⟨b, off + m * 8 + 1, none⟩ = some g1 ∧ W.cell? ⟨b, off + m * 8 + 2, none⟩ = some g2 ∧ W.cell? ⟨b, off + m * 8 + 3, none⟩ = some g3 ∧ W.cell? ⟨b, off + m * 8 + 4, none⟩ = some g4 ∧ W.cell? ⟨b, off + m * 8 + 5, none⟩ = some g5 ∧ W.cell? ⟨b, off + m * 8 + 6, none⟩ = some g6 ∧ W.cell? ⟨b, off + m * 8 + 7, none⟩ = some g7) w3.drew) := Lib.hid (HK.out _ (Below.refl _ _).drew)
  refine wp_region_H2 (fun W : World => W.cell? ⟨mb, m, none⟩ = some (.int .i64 z) ∧ W.cell? ⟨bi, 1, none⟩ = some (.int .i64 (m : Int)) ∧ W.cell? ⟨bf, 0, none⟩ = some f0 ∧ W.cell? ⟨bf, 1, none⟩ = some f1 ∧ W.cell? ⟨bf, 2, none⟩ = some f2 ∧ W.cell? ⟨bf, 3, none⟩ = some f3 ∧ W.cell? ⟨bf, 4, none⟩ = some f4 ∧ W.cell? ⟨bf, 5, none⟩ = some f5 ∧ W.cell? ⟨bf, 6, none⟩ = some f6 ∧ W.cell? ⟨bf, 7, none⟩ = some f7 ∧ W.cell? ⟨b, off + m * 8, none⟩ = some g0 ∧ W.cell? ⟨b, off + m * 8 + 1, none⟩ = some g1 ∧ W.cell? ⟨b, off + m * 8 + 2, none⟩ = some g2 ∧ W.cell? ⟨b, off + m * 8 + 3, none⟩ = some g3 ∧ W.cell? ⟨b, off + m * 8 + 4, none⟩ = some g4 ∧ W.cell? ⟨b, off + m * 8 + 5, none⟩ = some g5 ∧ W.cell? ⟨b, off + m * 8 + 6, none⟩ = some g6 ∧ W.cell? ⟨b, off + m * 8 + 7, none⟩ = some g7) (by kernel_rfl) HSa.out (fun HSn => ?_)
  clear HSn
  refine tkL 0 rfl (fun c a w h => HPan.out c _ _ a w h) HSa.out ?_
  try simp only [Act.put, List.setIfInBounds_toArray, List.set_cons_zero, List.set_cons_succ]
  refine tkL 1 rfl (fun c a w h => HPan.out c _ _ a w h) HSa.out ?_
  try simp only [Act.put, List.setIfInBounds_toArray, List.set_cons_zero, List.set_cons_succ]
  refine tkL 2 rfl (fun c a w h => HPan.out c _ _ a w h) HSa.out ?_
  try simp only [Act.put, List.setIfInBounds_toArray, List.set_cons_zero, List.set_cons_succ]
  refine tkL 3 rfl (fun c a w h => HPan.out c _ _ a w h) HSa.out ?_
  try simp only [Act.put, List.setIfInBounds_toArray, List.set_cons_zero, List.set_cons_succ]
  refine tkL 4 rfl (fun c a w h => HPan.out c _ _ a w h) HSa.out ?_
  try simp only [Act.put, List.setIfInBounds_toArray, List.set_cons_zero, List.set_cons_succ]
  refine tkL 5 rfl (fun c a w h => HPan.out c _ _ a w h) HSa.out ?_
  try simp only [Act.put, List.setIfInBounds_toArray, List.set_cons_zero, List.set_cons_succ]
  refine tkL 6 rfl (fun c a w h => HPan.out c _ _ a w h) HSa.out ?_
  try simp only [Act.put, List.setIfInBounds_toArray, List.set_cons_zero, List.set_cons_succ]
  refine wpAnyH_takeL (i := 7) (oi := _) (v := undef) rfl (by kernel_rfl) (by kernel_rfl) (by kernel_rfl) (fun c a w h => HPan.out c _ _ a w h) (Or.inr ⟨by rfl, rfl⟩) HSa.out ?_
  try simp only [Act.put, List.setIfInBounds_toArray, List.set_cons_zero, List.set_cons_succ]
  refine wpAnyH_takeL (i := 8) (oi := _) (v := undef) rfl (by kernel_rfl) (by kernel_rfl) (by kernel_rfl) (fun c a w h => HPan.out c _ _ a w h) (Or.inr ⟨by rfl, rfl⟩) HSa.out ?_
  try simp only [Act.put, List.setIfInBounds_toArray, List.set_cons_zero, List.set_cons_succ]
  refine wpAnyH_takeL (i := 9) (oi := _) (v := undef) rfl (by kernel_rfl) (by kernel_rfl) (by kernel_rfl) (fun c a w h => HPan.out c _ _ a w h) (Or.inr ⟨by rfl, rfl⟩) HSa.out ?_
  try simp only [Act.put, List.setIfInBounds_toArray, List.set_cons_zero, List.set_cons_succ]
  refine wpAnyH_takeL (i := 10) (oi := _) (v := undef) rfl (by kernel_rfl) (by kernel_rfl) (by kernel_rfl) (fun c a w h => HPan.out c _ _ a w h) (Or.inr ⟨by rfl, rfl⟩) HSa.out ?_
  try simp only [Act.put, List.setIfInBounds_toArray, List.set_cons_zero, List.set_cons_succ]
  refine wpAnyH_takeL (i := 11) (oi := _) (v := undef) rfl (by kernel_rfl) (by kernel_rfl) (by kernel_rfl) (fun c a w h => HPan.out c _ _ a w h) (Or.inr ⟨by rfl, rfl⟩) HSa.out ?_
  try simp only [Act.put, List.setIfInBounds_toArray, List.set_cons_zero, List.set_cons_succ]
  refine wpAnyH_takeL (i := 12) (oi := _) (v := undef) rfl (by kernel_rfl) (by kernel_rfl) (by kernel_rfl) (fun c a w h => HPan.out c _ _ a w h) (Or.inr ⟨by rfl, rfl⟩) HSa.out ?_
  try simp only [Act.put, List.setIfInBounds_toArray, List.set_cons_zero, List.set_cons_succ]
  refine wpAnyH_takeL (i := 13) (oi := _) (v := undef) rfl (by kernel_rfl) (by kernel_rfl) (by kernel_rfl) (fun c a w h => HPan.out c _ _ a w h) (Or.inr ⟨by rfl, rfl⟩) HSa.out ?_
  try simp only [Act.put, List.setIfInBounds_toArray, List.set_cons_zero, List.set_cons_succ]
  refine tkL 14 rfl (fun c a w h => HPan.out c _ _ a w h) HSa.out ?_
  try simp only [Act.put, List.setIfInBounds_toArray, List.set_cons_zero, List.set_cons_succ]
  refine tkL 15 rfl (fun c a w h => HPan.out c _ _ a w h) HSa.out ?_
  try simp only [Act.put, List.setIfInBounds_toArray, List.set_cons_zero, List.set_cons_succ]
  refine tkL 16 rfl (fun c a w h => HPan.out c _ _ a w h) HSa.out ?_
  try simp only [Act.put, List.setIfInBounds_toArray, List.set_cons_zero, List.set_cons_succ]
  refine tkL 17 rfl (fun c a w h => HPan.out c _ _ a w h) HSa.out ?_
  try simp only [Act.put, List.setIfInBounds_toArray, List.set_cons_zero, List.set_cons_succ]
  refine tkL 18 rfl (fun c a w h => HPan.out c _ _ a w h) HSa.out ?_
  try simp only [Act.put, List.setIfInBounds_toArray, List.set_cons_zero, List.set_cons_succ]
  refine tkL 19 rfl (fun c a w h => HPan.out c _ _ a w h) HSa.out ?_
  try simp only [Act.put, List.setIfInBounds_toArray, List.set_cons_zero, List.set_cons_succ]
  refine tkL 20 rfl (fun c a w h => HPan.out c _ _ a w h) HSa.out ?_
  try simp only [Act.put, List.setIfInBounds_toArray, List.set_cons_zero, List.set_cons_succ]
  refine tkL 21 rfl (fun c a w h => HPan.out c _ _ a w h) HSa.out ?_
  try simp only [Act.put, List.setIfInBounds_toArray, List.set_cons_zero, List.set_cons_succ]
  refine wpAnyH_ready (rs := [22]) (by kernel_rfl) (by simp) (AllReadyH_consL (o := _) rfl (fun K hK => ?_) AllReadyH.nil)
  go_simp
  (go_at_call 109; refine HCap.out.mono ?_; rintro e w5 ⟨t5, rfl, hb5⟩; have HB5 : Hid (Below w3.heap.size w3 w5) := Lib.hid ((Below.refl _ w3).drew.trans hb5); clear hb5)
  try go_wp2_with fail
  have HSb : Hid ((fun W : World => W.cell? ⟨mb, m, none⟩ = some (.int .i64 z) ∧ W.cell? ⟨bi, 1, none⟩ = some (.int .i64 (m : Int)) ∧ W.cell? ⟨bf, 0, none⟩ = some f0 ∧ W.cell? ⟨bf, 1, none⟩ = some f1 ∧ W.cell? ⟨bf, 2, none⟩ = some f2 ∧ W.cell? ⟨bf, 3, none⟩ = some f3 ∧ W.cell? ⟨bf, 4, none⟩ = some f4 ∧ W.cell? ⟨bf, 5, none⟩ = some f5 ∧ W.cell? ⟨bf, 6, none⟩ = some f6 ∧ W.cell? ⟨bf, 7, none⟩ = some f7 ∧ W.cell? ⟨b, off + m * 8, none⟩ = some g0 ∧ W.cell? ⟨b, off + m * 8 + 1, none⟩ = some g1 ∧ W.cell? ⟨b, off + m * 8 + 2, none⟩ = some g2 ∧ W.cell? ⟨b, off + m * 8 + 3, none⟩ = some g3 ∧ W.cell? ⟨b, off + m * 8 + 4, none⟩ = some g4 ∧ W.cell? ⟨b, off + m * 8 + 5, none⟩ = some g5 ∧ W.cell? ⟨b, off + m * 8 + 6, none⟩ = some g6 ∧ W.cell? ⟨b, off + m * 8 + 7, none⟩ = some g7) w5) := Lib.hid (HK.out _ HB5.out)
  refine hK.out _ _ HSb.out (fun HSn => ?_)
  clear hK K HSn
  try simp only [Act.put, List.setIfInBounds_toArray, List.set_cons_zero, List.set_cons_succ]
  refine tkL 23 rfl (fun c a w h => HPan.out c _ _ a w h) HSb.out ?_
  try simp only [Act.put, List.setIfInBounds_toArray, List.set_cons_zero, List.set_cons_succ]
  refine tkL 24 rfl (fun c a w h => HPan.out c _ _ a w h) HSb.out ?_
  try simp only [Act.put, List.setIfInBounds_toArray, List.set_cons_zero, List.set_cons_succ]
  refine wpAnyH_done (by kernel_rfl) ?_ _
  exact HEx.out _ _ _ _ _ _ _ _ _ _ _ _ _ _ _ _ _ _ _ _ _ _ _ _ t5 w5 HB5.out
 ·skip
  have HSa : Hid ((fun W : World => W.cell? ⟨mb, m, none⟩ = some (.int .i64 z) ∧ W.cell? ⟨bi, 1, none⟩ = some (.int .i64 (m : Int)) ∧ W.cell? ⟨bf, 0, none⟩ = some f0 ∧ W.cell? ⟨bf, 1, none⟩ = some f1 ∧ W.cell? ⟨bf, 2, none⟩ = some f2 ∧ W.cell? ⟨bf, 3, none⟩ = some f3 ∧ W.cell? ⟨bf, 4, none⟩ = some f4 ∧ W.cell? ⟨bf, 5, none⟩ = some f5 ∧ W.cell? ⟨bf, 6, none⟩ = some f6 ∧ W.cell? ⟨bf, 7, none⟩ = some f7 ∧ W.cell? ⟨b, off + m * 8, none⟩ = some g0 ∧ W.cell? ⟨b, off + m * 8 + 1, none⟩ = some g1 ∧ W.cell? ⟨b, off + m * 8 + 2, none⟩ = some g2 ∧ W.cell? ⟨b, off + m * 8 + 3, none⟩ = some g3 ∧ W.cell? ⟨b, off + m * 8 + 4, none⟩ = some g4 ∧ W.cell? ⟨b, off + m * 8 + 5, none⟩ = some g5 ∧ W.cell? ⟨b, off + m * 8 + 6, none⟩ = some g6 ∧ W.cell? ⟨b, off + m * 8 + 7, none⟩ = some g7) w3.drew) := Lib.hid (HK.out _ (Below.refl _ _).drew)
  refine wp_region_H2 (fun W : World => W.cell? ⟨mb, m, none⟩ = some (.int .i64 z) ∧ W.cell? ⟨bi, 1, none⟩ = some (.int .i64 (m : Int)) ∧ W.cell? ⟨bf, 0, none⟩ = some f0 ∧ W.cell? ⟨bf, 1, none⟩ = some f1 ∧ W.cell? ⟨bf, 2, none⟩ = some f2 ∧ W.cell? ⟨bf, 3, none⟩ = some f3 ∧ W.cell? ⟨bf, 4, none⟩ = some f4 ∧ W.cell? ⟨bf, 5, none⟩ = some f5 ∧ W.cell? ⟨bf, 6, none⟩ = some f6 ∧ W.cell? ⟨bf, 7, none⟩ = some f7 ∧ W.cell? ⟨b, off + m * 8, none⟩ = some g0 ∧ W.cell? ⟨b, off + m * 8 + 1, none⟩ = some g1 ∧ W.cell? ⟨b, off + m * 8 + 2, none⟩ = some g2 ∧ W.cell? ⟨b, off + m * 8 + 3, none⟩ = some g3 ∧ W.cell? ⟨b, off + m * 8 + 4, none⟩ = some g4 ∧ W.cell? ⟨b, off + m * 8 + 5, none⟩ = some g5 ∧ W.cell? ⟨b, off + m * 8 + 6, none⟩ = some g6 ∧ W.cell? ⟨b, off + m * 8 + 7, none⟩ = some g7) (by kernel_rfl) HSa.out (fun HSn => ?_)
  clear HSn
  refine tkL 0 rfl (fun c a w h => HPan.out c _ _ a w h) HSa.out ?_
  try simp only [Act.put, List.setIfInBounds_toArray, List.set_cons_zero, List.set_cons_succ]
  refine tkL 1 rfl (fun c a w h => HPan.out c _ _ a w h) HSa.out ?_
  try simp only [Act.put, List.setIfInBounds_toArray, List.set_cons_zero, List.set_cons_succ]
  refine tkL 2 rfl (fun c a w h => HPan.out c _ _ a w h) HSa.out ?_
  try simp only [Act.put, List.setIfInBounds_toArray, List.set_cons_zero, List.set_cons_succ]
  refine tkL 3 rfl (fun c a w h => HPan.out c _ _ a w h) HSa.out ?_
  try simp only [Act.put, List.setIfInBounds_toArray, List.set_cons_zero, List.set_cons_succ]
  refine tkL 4 rfl (fun c a w h => HPan.out c _ _ a w h) HSa.out ?_
  try simp only [Act.put, List.setIfInBounds_toArray, List.set_cons_zero, List.set_cons_succ]
  refine tkL 5 rfl (fun c a w h => HPan.out c _ _ a w h) HSa.out ?_
  try simp only [Act.put, List.setIfInBounds_toArray, List.set_cons_zero, List.set_cons_succ]
  refine tkL 6 rfl (fun c a w h => HPan.out c _ _ a w h) HSa.out ?_
  try simp only [Act.put, List.setIfInBounds_toArray, List.set_cons_zero, List.set_cons_succ]
  refine tkL 7 rfl (fun c a w h => HPan.out c _ _ a w h) HSa.out ?_
  try simp only [Act.put, List.setIfInBounds_toArray, List.set_cons_zero, List.set_cons_succ]
  refine tkL 8 rfl (fun c a w h => HPan.out c _ _ a w h) HSa.out ?_
  try simp only [Act.put, List.setIfInBounds_toArray, List.set_cons_zero, List.set_cons_succ]
  refine tkL 9 rfl (fun c a w h => HPan.out c _ _ a w h) HSa.out ?_
  try simp only [Act.put, List.setIfInBounds_toArray, List.set_cons_zero, List.set_cons_succ]
  refine tkL 10 rfl (fun c a w h => HPan.out c _ _ a w h) HSa.out ?_
  try simp only [Act.put, List.setIfInBounds_toArray, List.set_cons_zero, List.set_cons_succ]
  refine tkL 11 rfl (fun c a w h => HPan.out c _ _ a w h) HSa.out ?_
  try simp only [Act.put, List.setIfInBounds_toArray, List.set_cons_zero, List.set_cons_succ]
  refine tkL 12 rfl (fun c a w h => HPan.out c _ _ a w h) HSa.out ?_
  try simp only [Act.put, List.setIfInBounds_toArray, List.set_cons_zero, List.set_cons_succ]
  refine tkL 13 rfl (fun c a w h => HPan.out c _ _ a w h) HSa.out ?_
  try simp only [Act.put, List.setIfInBounds_toArray, List.set_cons_zero, List.set_cons_succ]
  refine tkL 14 rfl (fun c a w h => HPan.out c _ _ a w h) HSa.out ?_
  try simp only [Act.put, List.setIfInBounds_toArray, List.set_cons_zero, List.set_cons_succ]
  refine tkL 15 rfl (fun c a w h => HPan.out c _ _ a w h) HSa.out ?_
  try simp only [Act.put, List.setIfInBounds_toArray, List.set_cons_zero, List.set_cons_succ]
  refine tkL 16 rfl (fun c a w h => HPan.out c _ _ a w h) HSa.out ?_
  try simp only [Act.put, List.setIfInBounds_toArray, List.set_cons_zero, List.set_cons_succ]
  refine tkL 17 rfl (fun c a w h => HPan.out c _ _ a w h) HSa.out ?_
  try simp only [Act.put, List.setIfInBounds_toArray, List.set_cons_zero, List.set_cons_succ]
  refine tkL 18 rfl (fun c a w h => HPan.out c _ _ a w h) HSa.out ?_
  try simp only [Act.put, List.setIfInBounds_toArray, List.set_cons_zero, List.set_cons_succ]
  refine tkL 19 rfl (fun c a w h => HPan.out c _ _ a w h) HSa.out ?_
  try simp only [Act.put, List.setIfInBounds_toArray, List.set_cons_zero, List.set_cons_succ]
  refine tkL 20 rfl (fun c a w h => HPan.out c _ _ a w h) HSa.out ?_
  try simp only [Act.put, List.setIfInBounds_toArray, List.set_cons_zero, List.set_cons_succ]
  refine tkL 21 rfl (fun c a w h => HPan.out c _ _ a w h) HSa.out ?_
  try simp only [Act.put, List.setIfInBounds_toArray, List.set_cons_zero, List.set_cons_succ]
  refine wpAnyH_ready (rs := [22]) (by kernel_rfl) (by simp) (AllReadyH_consL (o := _) rfl (fun K hK => ?_) AllReadyH.nil)
  go_simp
  (go_at_call 109; refine HCap.out.mono ?_; rintro e w5 ⟨t5, rfl, hb5⟩; have HB5 : Hid (Below w3.heap.size w3 w5) := Lib.hid ((Below.refl _ w3).drew.trans hb5); clear hb5)
  try go_wp2_with fail
  have HSb : Hid ((fun W : World => W.cell? ⟨mb, m, none⟩ = some (.int .i64 z) ∧ W.cell? ⟨bi, 1, none⟩ = some (.int .i64 (m : Int)) ∧ W.cell? ⟨bf, 0, none⟩ = some f0 ∧ W.cell? ⟨bf, 1, none⟩ = some f1 ∧ W.cell? ⟨bf, 2, none⟩ = some f2 ∧ W.cell? ⟨bf, 3, none⟩ = some f3 ∧ W.cell? ⟨bf, 4, none⟩ = some f4 ∧ W.cell? ⟨bf, 5, none⟩ = some f5 ∧ W.cell? ⟨bf, 6, none⟩ = some f6 ∧ W.cell? ⟨bf, 7, none⟩ = some f7 ∧ W.cell? ⟨b, off + m * 8, none⟩ = some g0 ∧ W.cell? ⟨b, off + m * 8 + 1, none⟩ = some g1 ∧ W.cell? ⟨b, off + m * 8 + 2, none⟩ = some g2 ∧ W.cell? ⟨b, off + m * 8 + 3, none⟩ = some g3 ∧ W.cell? ⟨b, off + m * 8 + 4, none⟩ = some g4 ∧ W.cell? ⟨b, off + m * 8 + 5, none⟩ = some g5 ∧ W.cell? ⟨b, off + m * 8 + 6, none⟩ = some g6 ∧ W.cell? ⟨b, off + m * 8 + 7, none⟩ = some g7) w5) := Lib.hid (HK.out _ HB5.out)
  refine hK.out _ _ HSb.out (fun HSn => ?_)
  clear hK K HSn
  try simp only [Act.put, List.setIfInBounds_toArray, List.set_cons_zero, List.set_cons_succ]
  refine tkL 23 rfl (fun c a w h => HPan.out c _ _ a w h) HSb.out ?_
  try simp only [Act.put, List.setIfInBounds_toArray, List.set_cons_zero, List.set_cons_succ]
  refine tkL 24 rfl (fun c a w h => HPan.out c _ _ a w h) HSb.out ?_
  try simp only [Act.put, List.setIfInBounds_toArray, List.set_cons_zero, List.set_cons_succ]
  refine wpAnyH_done (by kernel_rfl) ?_ _
  exact HEx.out _ _ _ _ _ _ _ _ _ _ _ _ _ _ _ _ _ _ _ _ _ _ _ _ t5 w5 HB5.out
end Go.Proofs.YtkmfdiboekoioaaGreat

/- The code of a function, as the reference 9 looks at it: below 0 if each instruction may be. Conditions: a program and makers that lie in memory, a function of it. -/
namespace Go.Proofs.YtkmfdiboekoioaaGreat
open Go.RowKit
/-- What is known of code that may be. -/
structure CodeF (np : Nat) (x : FnP) : Prop where
 num : ∀ (pc : Nat) i, x.code[pc]? = some i → NumF np x pc i
 last : ∀ (pc : Nat) i, x.code[pc]? = some i → pc + 1 = x.code.length → i.op = 28 ∨ i.op = 29 ∨ i.op = 21
/-- The memory of a look at code. -/
structure CdM (w : World) (B base : Nat) (x : FnP) (y : FVals) (mb np cap : Nat) (wr : World) : Prop where
 fb : Blk wr w.heap.size 56 (fnCells x y)
 mks : ∃ m : List Int, m.length = np ∧ OwnInts wr base (.slice (some ⟨mb, 0, none⟩) np cap) m
 low : w.grownBy wr (some mb)
 mb_ : mb < w.heap.size
 bb : B ≤ mb
section
variable {w wr w2 : World} {B base : Nat} {x : FnP} {y : FVals} {mb np cap : Nat}
theorem CdM.below (h : CdM w B base x y mb np cap wr) (hb : Below wr.heap.size wr w2) : CdM w B base x y mb np cap w2 := by
 obtain ⟨m, h1, h2⟩ := h.mks
 exact ⟨h.fb.below hb h.fb.lt, ⟨m, h1, World.ownsRow.kept (row := none) h2 ⟨hb.os, hb.tape, hb.output, hb.size, fun k hk _ => hb.block k hk⟩ (.inr (by simp [Value.ownBlock]))⟩, grown_below h.low hb, h.mb_, h.bb⟩
theorem CdM.drew (h : CdM w B base x y mb np cap wr) {n : Nat} : CdM w B base x y mb np cap (wr.drewN n) := h.below (bdrew (Below.refl _ _))
theorem CdM.same (h : CdM w B base x y mb np cap wr) (hB : B ≤ w.heap.size) : Same B w wr := Same.of_grown h.low hB h.bb
theorem CdM.at_ (h : CdM w B base x y mb np cap wr) {j : Nat} (hj : j < np) : ∃ z, wr.cell? ⟨mb, j, none⟩ = some (.int .i64 z) ∧ wr.frozen? ⟨mb, j, none⟩ = false ∧ mb < wr.heap.size := by
 obtain ⟨m, h1, h2⟩ := h.mks
 obtain ⟨z, hz⟩ := rget (l := m) (k := j) (by omega)
 refine ⟨z, ?_, World.ownsRow.frozenAt (n := np) (cap := cap) (by unfold OwnInts at h2; rw [h1] at h2; exact h2) j, Nat.lt_of_lt_of_le h.mb_ h.low.size⟩
 have h3 := World.ownsRow.cellAt (n := np) (cap := cap) (by unfold OwnInts at h2; rw [h1] at h2; exact h2) j (by omega)
 rw [h3, List.getElem?_map, hz]; rfl
theorem CdM.put (h : CdM w B base x y mb np cap wr) {j : Nat} (hj : j < np) (z : Int) : CdM w B base x y mb np cap (wr.setCell ⟨mb, j, none⟩ (.int .i64 z)) := by
 obtain ⟨m, h1, h2⟩ := h.mks
 refine ⟨h.fb.far (Nat.ne_of_gt h.mb_) _, ⟨m.set j z, by rw [List.length_set]; exact h1, ?_⟩, grown_set h.low _, h.mb_, h.bb⟩
 unfold OwnInts at h2 ⊢
 rw [h1] at h2
 rw [List.length_set, h1, List.map_set]
 exact (World.ownsRow.stored h2 j (.int .i64 z)).1
end
/-- What the reference's look at code answers. -/
def Code09 (np : Nat) (x : FnP) (base mb cap : Nat) (w : World) (e : Ending) (w' : World) : Prop :=
 ∃ z : Int, e = .returned (.int .i64 z) ∧ (z < 0 → CodeF np x) ∧ (∃ m : List Int, m.length = np ∧ OwnInts w' base (.slice (some ⟨mb, 0, none⟩) np cap) m) ∧ w.grownBy w' (some mb)
set_option maxRecDepth 100000 in
set_option maxHeartbeats 8000000 in
theorem ref09code_any (w : World) (B base : Nat) (v : Value) (p : List FnP) (fn : Nat) (x : FnP) (mb cap : Nat) (ml : List Int) (hp : ProgV w B v p) (hx : p[fn]? = some x) (hB : B ≤ w.heap.size) (hbm : B ≤ mb) (hm : OwnInts w base (.slice (some ⟨mb, 0, none⟩) p.length cap) ml) (hml : ml.length = p.length) :
    Calls Tryz.prog 58 #[v, .int .i64 fn, .slice (some ⟨mb, 0, none⟩) p.length cap] w (Code09 p.length x base mb cap w) := by
  have HP := Lib.hid hp; have HX := Lib.hid hx
  obtain ⟨A, c, rfl, _, hl, hq⟩ := hp
  have hfl : fn < p.length := (List.getElem?_eq_some_iff.1 hx).1
  obtain ⟨b, off, rfl, hbB, hq⟩ := hq (by omega)
  have hpl : p.length ≤ 17592186044416 := by unfold lim at hl; omega
  obtain ⟨y, hf, hc⟩ := hq fn x hx
  have HF := Lib.hid hf
  obtain ⟨A3, c3, A4, c4, A5, c5, A6, c6, A7, c7, ey, hk3, hk4, hk5, hk6, hk7⟩ := fn_shape hf
  subst ey
  obtain ⟨g0, g1, g2, g3, g4, g5, g6, g7⟩ := fn_cells hc
  simp only at g3 g4 g5 g6 g7
  have hmlt : mb < w.heap.size := (World.ownsRow.lt hm mb rfl).2
  have HQC : Hid (0 < x.code.length → ∃ b off, A5 = some ⟨b, off, none⟩ ∧ b < B ∧ ∀ j z, x.code[j]? = some z → InsAt w b (off + j * 2) z) := Lib.hid (fun h0 => by
    obtain ⟨A, c, e, _, _, h⟩ := hf.code
    injection e with e _ _
    obtain ⟨b, off, e2, h1, h2⟩ := h h0
    exact ⟨b, off, e.trans e2, h1, h2⟩)
  clear hl hq hc hx hf
  obtain ⟨w1, hw1⟩ : ∃ w1, w1 = w.alloc (.cells #[.string x.name, .int .i64 x.params, .int .i64 x.locals, .slice A3 x.caps.length c3, .slice A4 x.consts.length c4, .slice A5 x.code.length c5, .slice A6 x.lines.length c6, .slice A7 x.handlers.length c7] 56) := ⟨_, rfl⟩
  have HM1 : Hid (CdM w B base x ⟨.slice A3 x.caps.length c3, .slice A4 x.consts.length c4, .slice A5 x.code.length c5, .slice A6 x.lines.length c6, .slice A7 x.handlers.length c7⟩ mb p.length cap w1) := Lib.hid (by
    rw [hw1]
    exact ⟨Blk.new _ _ _, ⟨ml, hml, World.ownsRow.alloc hm _⟩, World.grownBy_alloc _ _ _, hmlt, hbm⟩)
  clear hm hml
  go_enter Tryz.func58, Tryz.ntmps58
  go_upto_region 2 with fail
  rw [← hw1]
  clear hw1 g0 g1 g2 g3 g4 g5 g6 g7
  go_wp2_with fail
  go_loopw [8] (fun t wr => ∃ k : Nat, k ≤ x.code.length ∧ t = .int .i64 k ∧ Hid (CdM w B base x ⟨.slice A3 x.caps.length c3, .slice A4 x.consts.length c4, .slice A5 x.code.length c5, .slice A6 x.lines.length c6, .slice A7 x.handlers.length c7⟩ mb p.length cap wr) ∧ Hid (∀ (pc : Nat) i, pc < k → x.code[pc]? = some i → NumF p.length x pc i ∧ (pc + 1 = x.code.length → i.op = 28 ∨ i.op = 29 ∨ i.op = 21))) (fun t _ => x.code.length - (intOf t).toNat)
  case atStart => exact ⟨0, Nat.zero_le _, rfl, HM1, Lib.hid (fun pc i h => by omega)⟩
  case round =>
    obtain ⟨k, hk, rfl, HM, HR⟩ := hrel
    obtain ⟨wq, rfl⟩ : ∃ wq : World, wq = wr := ⟨_, rfl⟩
    have c5' : wq.cell? ⟨w.heap.size, 5, none⟩ = some (.slice A5 x.code.length c5) := HM.out.fb.cell 5
    have cl := HM.out.fb.lt
    by_cases hlt : k < x.code.length
    · obtain ⟨B5, o5, rfl, hb5, hq5⟩ := HQC.out (by omega)
      obtain ⟨i, hi⟩ := rget hlt
      obtain ⟨f0, f1, hio⟩ := (hq5 k i hi).keep (HM.out.same hB) hb5
      have HI := Lib.hid hi
      clear hq5 hi
      obtain ⟨w2, hw2⟩ : ∃ w2, w2 = wq.alloc (.cells #[.int .u8 i.op, .int .i64 i.a] 117) := ⟨_, rfl⟩
      have hb2 : Below wq.heap.size wq w2 := by rw [hw2]; exact (Below.refl _ _).alloc (Nat.le_refl _) _
      have HK2 : Hid (Blk w2 wq.heap.size 117 #[.int .u8 i.op, .int .i64 i.a]) := Lib.hid (by rw [hw2]; exact Blk.new _ _ _)
      have HM2 := Lib.hid (HM.out.below hb2)
      have HLq : Hid (wq.heap.size < w2.heap.size) := Lib.hid HK2.out.lt
      go_upto_region 6 with fail
      rw [← hw2]
      clear hw2 hb2 f0 f1 c5' cl
      have r0 : w2.cell? ⟨wq.heap.size, 0, none⟩ = some (.int .u8 i.op) := HK2.out.cell 0
      have r1 : w2.cell? ⟨wq.heap.size, 1, none⟩ = some (.int .i64 i.a) := HK2.out.cell 1
      have rl := HK2.out.lt
      have e0 : w2.cell? ⟨w.heap.size, 0, none⟩ = some (.string x.name) := HM2.out.fb.cell 0
      have e1 : w2.cell? ⟨w.heap.size, 1, none⟩ = some (.int .i64 x.params) := HM2.out.fb.cell 1
      have e2 : w2.cell? ⟨w.heap.size, 2, none⟩ = some (.int .i64 x.locals) := HM2.out.fb.cell 2
      have e3 : w2.cell? ⟨w.heap.size, 3, none⟩ = some (.slice A3 x.caps.length c3) := HM2.out.fb.cell 3
      have e4 : w2.cell? ⟨w.heap.size, 4, none⟩ = some (.slice A4 x.consts.length c4) := HM2.out.fb.cell 4
      have e5 : w2.cell? ⟨w.heap.size, 5, none⟩ = some (.slice (some ⟨B5, o5, none⟩) x.code.length c5) := HM2.out.fb.cell 5
      have e6 : w2.cell? ⟨w.heap.size, 6, none⟩ = some (.slice A6 x.lines.length c6) := HM2.out.fb.cell 6
      have e7 : w2.cell? ⟨w.heap.size, 7, none⟩ = some (.slice A7 x.handlers.length c7) := HM2.out.fb.cell 7
      have el := HM2.out.fb.lt
      have HF2 := Lib.hid ((HF.out.keep (HM2.out.same hB)).mono (show B ≤ w2.heap.size by omega))
      have HNx : Hid (∀ wz, Hid (CdM w B base x ⟨.slice A3 x.caps.length c3, .slice A4 x.consts.length c4, .slice (some ⟨B5, o5, none⟩) x.code.length c5, .slice A6 x.lines.length c6, .slice A7 x.handlers.length c7⟩ mb p.length cap wz) → (k : Int) < 0 → False) := Lib.hid (fun _ _ h => by omega)
      clear HNx
      rcases hl1 : ((k : Int) == (x.code.length : Int) - 1) with _ | _
      all_goals rcases he : ((i.op == 28) || ((i.op == 29) || (i.op == 21))) with _ | _
      all_goals have HLs : Hid ((k : Int) = (x.code.length : Int) - 1 → ((i.op == 28) || ((i.op == 29) || (i.op == 21))) = true ∨ (((k : Int) == (x.code.length : Int) - 1) = true ∧ ((i.op == 28) || ((i.op == 29) || (i.op == 21))) = false)) := Lib.hid (fun h => by cases hq : ((i.op == 28) || ((i.op == 29) || (i.op == 21))) <;> simp_all)
      all_goals have HL1 := Lib.hid hl1
      all_goals have HE1 := Lib.hid he
      all_goals obtain ⟨en, hen⟩ : ∃ en, en = ((i.op == 28) || ((i.op == 29) || (i.op == 21))) := ⟨_, rfl⟩
      all_goals rw [← hen] at he
      all_goals have HEN := Lib.hid hen
      all_goals clear hen
      all_goals subst he
      all_goals go_upto_region 8 with first
        | (go_at_call 107; refine (ref09number_any w2 _ _ _ x _ k i hpl HF2.out HI.out).mono ?_; rintro e w3 ⟨⟨t, rfl, ht⟩, hb3⟩; have HT := Lib.hid ht; have HM3 := Lib.hid (HM2.out.below hb3); have HL3' : Hid (wq.heap.size < w3.heap.size) := Lib.hid (Nat.lt_of_lt_of_le HLq.out hb3.size); have s0 : w3.cell? ⟨wq.heap.size, 0, none⟩ = some (.int .u8 i.op) := (hb3.cell (p := ⟨wq.heap.size, 0, none⟩) rl).trans r0; have s1 : w3.cell? ⟨wq.heap.size, 1, none⟩ = some (.int .i64 i.a) := (hb3.cell (p := ⟨wq.heap.size, 1, none⟩) rl).trans r1; have s5 : w3.cell? ⟨w.heap.size, 5, none⟩ = some (.slice (some ⟨B5, o5, none⟩) x.code.length c5) := HM3.out.fb.cell 5; clear ht hb3; cases t)
        | (go_at_call 108; refine (ref09ends_any _ _).mono ?_; rintro e w4 ⟨rfl, hw4⟩; rw [← HEN.out]; have hw42 := hw4.symm; subst hw42)
        | fail
      all_goals first
        | (go_ret; exact ⟨_, rfl, fun h => absurd h (by omega), HM3.out.mks, HM3.out.low⟩)
        | skip
      all_goals have HNew : Hid (NumF p.length x k i ∧ (k + 1 = x.code.length → i.op = 28 ∨ i.op = 29 ∨ i.op = 21)) := Lib.hid ⟨HT.out (by first | trivial | rfl), fun h => by
        have h1 := HL1.out
        have h2 := HE1.out
        simp only [beq_eq_false_iff_ne, ne_eq, beq_iff_eq, Bool.or_eq_true] at h1 h2
        omega⟩
      all_goals clear r0 r1 rl e0 e1 e2 e3 e4 e5 e6 e7 el hl1
      all_goals have HRn : Hid (∀ (pc : Nat) i', pc < k + 1 → x.code[pc]? = some i' → NumF p.length x pc i' ∧ (pc + 1 = x.code.length → i'.op = 28 ∨ i'.op = 29 ∨ i'.op = 21)) := Lib.hid (fun pc i' hpc hi' => by
        rcases Nat.lt_or_ge pc k with h | h
        · exact HR.out pc i' h hi'
        · obtain rfl : pc = k := by omega
          rw [HI.out] at hi'; injection hi' with hi'; subst hi'
          exact HNew.out)
      all_goals rcases ho : (i.op == 26) with _ | _
      all_goals first
        | (go_wp2_with fail
           go_roundw
           case rel => exact ⟨k + 1, by omega, by go_num, HM3, HRn⟩
           case measure => simp [intOf]; omega)
        | skip
      all_goals obtain ⟨m, hm⟩ : ∃ m : Nat, i.a = (m : Int) := ⟨i.a.toNat, by have := HNew.out.1.fn (by simpa using ho); omega⟩
      all_goals have hml : m < p.length := by have := HNew.out.1.fn (by simpa using ho); omega
      all_goals
        obtain ⟨z, z0, zf, zl⟩ := HM3.out.at_ hml
        rw [hm] at s1
        have E0 : w3.cell? ⟨w.heap.size, 0, none⟩ = some (.string x.name) := HM3.out.fb.cell 0
        have E1 : w3.cell? ⟨w.heap.size, 1, none⟩ = some (.int .i64 x.params) := HM3.out.fb.cell 1
        have E2 : w3.cell? ⟨w.heap.size, 2, none⟩ = some (.int .i64 x.locals) := HM3.out.fb.cell 2
        have E3 : w3.cell? ⟨w.heap.size, 3, none⟩ = some (.slice A3 x.caps.length c3) := HM3.out.fb.cell 3
        have E4 : w3.cell? ⟨w.heap.size, 4, none⟩ = some (.slice A4 x.consts.length c4) := HM3.out.fb.cell 4
        have E6 : w3.cell? ⟨w.heap.size, 6, none⟩ = some (.slice A6 x.lines.length c6) := HM3.out.fb.cell 6
        have E7 : w3.cell? ⟨w.heap.size, 7, none⟩ = some (.slice A7 x.handlers.length c7) := HM3.out.fb.cell 7
        have El := HM3.out.fb.lt
        have hsz3 : w.heap.size ≤ w3.heap.size := HM3.out.low.size
        obtain ⟨A8, c8, e8, _, _, hq8⟩ := HP.out.keep (HM3.out.same hB)
        injection e8 with e8 e8b e8c
        obtain ⟨b8, o8, e9, hb8, hq8⟩ := hq8 (by omega)
        rw [← e8] at e9
        injection e9 with e9
        injection e9 with e9 e10
        subst e9 e10
        obtain ⟨x', hx'⟩ := rget hml
        obtain ⟨y', hf', hc'⟩ := hq8 m x' hx'
        obtain ⟨D3, d3, D4, d4, D5, d5, D6, d6, D7, d7, ey', j3, j4, j5, j6, j7⟩ := fn_shape hf'
        subst ey'
        obtain ⟨u0, u1, u2, u3, u4, u5, u6, u7⟩ := fn_cells hc'
        simp only at u3 u4 u5 u6 u7
        have HF3 : Hid (FnV w3 w3.heap.size ⟨.slice A3 x.caps.length c3, .slice A4 x.consts.length c4, .slice (some ⟨B5, o5, none⟩) x.code.length c5, .slice A6 x.lines.length c6, .slice A7 x.handlers.length c7⟩ x) := Lib.hid ((HF.out.keep (HM3.out.same hB)).mono (by omega))
        have HF3' := Lib.hid (hf'.mono (show B ≤ w3.heap.size by omega))
        have HCap : Hid (∀ n, Calls Tryz.prog 109 #[fval x ⟨.slice A3 x.caps.length c3, .slice A4 x.consts.length c4, .slice (some ⟨B5, o5, none⟩) x.code.length c5, .slice A6 x.lines.length c6, .slice A7 x.handlers.length c7⟩, fval x' ⟨.slice D3 x'.caps.length d3, .slice D4 x'.consts.length d4, .slice D5 x'.code.length d5, .slice D6 x'.lines.length d6, .slice D7 x'.handlers.length d7⟩] (w3.drewN n) (SomeBool (w3.drewN n))) := Lib.hid (fun n => ref09caps_any (w3.drewN n) x x' _ _ (HF3.out.later (bdrew (Below.refl _ _)) (Nat.le_refl _)) (HF3'.out.later (bdrew (Below.refl _ _)) (Nat.le_refl _)))
        unfold fval fnCells at HCap
        clear hq8 hx' hf' hc' e8 e8b e8c hm
        have HL3 : Hid (wq.heap.size < w3.heap.size) := Lib.hid HL3'.out
        have HK : Hid (∀ W, Below w3.heap.size w3 W → W.cell? ⟨mb, m, none⟩ = some (.int .i64 z) ∧ W.cell? ⟨wq.heap.size, 1, none⟩ = some (.int .i64 (m : Int)) ∧ W.cell? ⟨w.heap.size, 0, none⟩ = some (.string x.name) ∧ W.cell? ⟨w.heap.size, 1, none⟩ = some (.int .i64 x.params) ∧ W.cell? ⟨w.heap.size, 2, none⟩ = some (.int .i64 x.locals) ∧ W.cell? ⟨w.heap.size, 3, none⟩ = some (.slice A3 x.caps.length c3) ∧ W.cell? ⟨w.heap.size, 4, none⟩ = some (.slice A4 x.consts.length c4) ∧ W.cell? ⟨w.heap.size, 5, none⟩ = some (.slice (some ⟨B5, o5, none⟩) x.code.length c5) ∧ W.cell? ⟨w.heap.size, 6, none⟩ = some (.slice A6 x.lines.length c6) ∧ W.cell? ⟨w.heap.size, 7, none⟩ = some (.slice A7 x.handlers.length c7) ∧ W.cell? ⟨b, off + m * 8, none⟩ = some (.string x'.name) ∧ W.cell? ⟨b, off + m * 8 + 1, none⟩ = some (.int .i64 x'.params) ∧ W.cell? ⟨b, off + m * 8 + 2, none⟩ = some (.int .i64 x'.locals) ∧ W.cell? ⟨b, off + m * 8 + 3, none⟩ = some (.slice D3 x'.caps.length d3) ∧ W.cell? ⟨b, off + m * 8 + 4, none⟩ = some (.slice D4 x'.consts.length d4) ∧ W.cell? ⟨b, off + m * 8 + 5, none⟩ = some (.slice D5 x'.code.length d5) ∧ W.cell? ⟨b, off + m * 8 + 6, none⟩ = some (.slice D6 x'.lines.length d6) ∧ W.cell? ⟨b, off + m * 8 + 7, none⟩ = some (.slice D7 x'.handlers.length d7)) := Lib.hid (fun W hW => by
          have c := fun (a : Addr) (v : Value) (h : w3.cell? a = some v) => (hW.cell (World.block_lt_of_cell? w3 a h)).trans h
          exact ⟨c _ _ z0, c _ _ s1, c _ _ E0, c _ _ E1, c _ _ E2, c _ _ E3, c _ _ E4, c _ _ s5, c _ _ E6, c _ _ E7, c _ _ u0, c _ _ u1, c _ _ u2, c _ _ u3, c _ _ u4, c _ _ u5, c _ _ u6, c _ _ u7⟩)
        rcases Classical.em (decide (0 ≤ z) = true ∧ (z != (fn : Int)) = true) with hz | hz
        · obtain ⟨dz, dn⟩ := hz
          go_wp2_with go_quiet (fail)
          go_ret
          exact ⟨_, rfl, fun h => absurd h (by omega), HM3.out.drew.mks, HM3.out.drew.low⟩
        · have HZz : Hid (decide (0 ≤ z) = false ∨ (decide (0 ≤ z) = true ∧ (z != (fn : Int)) = false)) := Lib.hid (by
            cases h1 : decide (0 ≤ z) with
            | false => exact .inl rfl
            | true =>
              cases h2 : (z != (fn : Int)) with
              | false => exact .inr ⟨rfl, rfl⟩
              | true => exact absurd ⟨h1, h2⟩ hz)
          clear hz
          clear z0 E0 E1 E2 E3 E4 s5 E6 E7 u0 u1 u2 u3 u4 u5 u6 u7
          go_upto_region 9 with fail
          refine mkRegion_any w3 b off p.length c fn mb cap w.heap.size wq.heap.size m z (.string x.name) (.int .i64 x.params) (.int .i64 x.locals) (.slice A3 x.caps.length c3) (.slice A4 x.consts.length c4) (.slice (some ⟨B5, o5, none⟩) x.code.length c5) (.slice A6 x.lines.length c6) (.slice A7 x.handlers.length c7) (.string x'.name) (.int .i64 x'.params) (.int .i64 x'.locals) (.slice D3 x'.caps.length d3) (.slice D4 x'.consts.length d4) (.slice D5 x'.code.length d5) (.slice D6 x'.lines.length d6) (.slice D7 x'.handlers.length d7) hml HK.out HZz.out (HCap.out 1) _ _ _ _ _ _ _ _ _ _ _ _ _ _ _ _ _ _ _ _ _ _ _ _ _ _ _ _ _ _ _ _ _ _ _ _ _ _ _ _ _ _ _ _ _ _ _ _ _ _ _ _ _ _ _ _ _ _ _ _ _ _ _ _ _ _ _ _ _ _ _ _ _ _ _ _ (fun c d v a w h => by cases d <;> exact h) ?_
          intro x49 x50 x51 x52 x53 x54 x55 x56 x57 x58 x59 x60 x61 x62 x63 x64 x65 x66 x67 x68 x69 x70 x71 x72 t5 w5 hb5
          have HB5 := Lib.hid hb5
          clear hb5 s0 s1
          have HM5 := Lib.hid (HM3.out.below HB5.out)
          have s5' : w5.cell? ⟨wq.heap.size, 1, none⟩ = some (.int .i64 (m : Int)) := (HK.out _ HB5.out).2.1
          have s6' := (HK.out _ HB5.out).1
          have f6' : w5.frozen? ⟨mb, m, none⟩ = false := (HM5.out.at_ hml).choose_spec.2.1
          have l6' := (HM5.out.at_ hml).choose_spec.2.2
          have l5' : wq.heap.size < w5.heap.size := Nat.lt_of_lt_of_le HL3.out HB5.out.size
          cases t5
          · go_wp2_with fail
            go_ret
            exact ⟨_, rfl, fun h => absurd h (by omega), HM5.out.mks, HM5.out.low⟩
          · go_wp2_with fail
            go_roundw
            case rel => exact ⟨k + 1, by omega, by go_num, Lib.hid (HM5.out.put hml _), HRn⟩
            case measure => simp [intOf]; omega
    · go_wp2_with fail
      go_ret
      exact ⟨_, rfl, fun _ => ⟨fun pc i hi => (HR.out pc i (by have := (List.getElem?_eq_some_iff.1 hi).1; omega) hi).1, fun pc i hi hl => (HR.out pc i (by omega) hi).2 hl⟩, HM.out.mks, HM.out.low⟩
end Go.Proofs.YtkmfdiboekoioaaGreat

/- A region that draws its order, whose last operations write what its first ones read: a load may be taken first although an operation that waits for it writes its cell. No condition. -/
namespace Go.Proofs.YtkmfdiboekoioaaGreat.RegX
open Go
section
variable {P : Program} {ops : Array Oper} {Q : Exit → Act → World → Prop} {md : Region.Mode} {S S1 : World → Prop} {X : Nat → Bool}

/-- Whatever order is picked from here on, and S holds behind every operation that is carried out, but for those of X. -/
def wpAnyX (P : Program) (md : Region.Mode) (ops : Array Oper) (Q : Exit → Act → World → Prop) (S S1 : World → Prop) (X : Nat → Bool) : Nat → Array Bool → Act → World → Prop
 | 0, listed, a, w => Region.ready md ops listed = [] ∧ Q .normal a w
 | fuel + 1, listed, a, w =>
  (Region.ready md ops listed = [] → Q .normal a w) ∧
  ∀ i ∈ Region.ready md ops listed, wpOp P ops Q i (fun a' w' => (S w' ∧ (X i = false → S1 w → S1 w')) ∧ wpAnyX P md ops Q S S1 X fuel (listed.setIfInBounds i true) a' w') a w

theorem wpAny_of_x : ∀ (fuel : Nat) (listed : Array Bool) (a : Act) (w : World), wpAnyX P md ops Q S S1 X fuel listed a w → wpAny P md ops Q fuel listed a w
 | 0, _, _, _, h => h
 | fuel + 1, _, _, _, h => ⟨h.1, fun i hi => wpOp_mono (fun a' w' h' => wpAny_of_x fuel _ a' w' h'.2) (h.2 i hi)⟩

/-- Does each operation of X wait for number i? -/
def waits (md : Region.Mode) (ops : Array Oper) (X : Nat → Bool) (i : Nat) : Bool :=
 (List.range ops.size).all fun j => !X j || ((ops[j]?).map (·.after.any fun e => Region.binds md e && e.on == i)).getD true

theorem wpAnyX_first {i : Nat} {oi : Oper} {v : Value} (hi : ops[i]? = some oi) (hsel : ∀ (j : Nat) (o : Oper) cs b, ops[j]? = some o → o.op ≠ .select cs b)
  (hX : ∀ j oj, ops[j]? = some oj → X j = true → ∃ e ∈ oj.after, Region.binds md e = true ∧ e.on = i) (hXi : X i = false)
  (hQ : ∀ c a w, Q (.panic c) (a.put oi.dst v) w → Q (.panic c) a w) :
  ∀ (fuel : Nat) (listed : Array Bool) (a : Act) (w : World),
   (∀ j oj, ops[j]? = some oj → j ≠ i → listed.getD j true = false → (∀ e ∈ oj.after, Region.binds md e = true → e.on ≠ i) → oi.apart ops oj = true) →
   i ∈ Region.ready md ops listed → YieldsIf P ops (fun w => S w ∧ S1 w) oi v a → S w ∧ S1 w →
   wpAnyX P md ops Q S S1 X fuel (listed.setIfInBounds i true) (a.put oi.dst v) w → wpAnyX P md ops Q S S1 X (fuel + 1) listed a w := by
 intro fuel
 induction fuel with
 | zero =>
  intro listed a w _ hr hy hS H
  refine ⟨fun h => (by rw [h] at hr; cases hr), fun j hj => ?_⟩
  by_cases hji : j = i
  ·subst hji; exact hy.wpOp hi hS ⟨⟨hS.1, fun _ h => h⟩, H⟩
  ·have := ready_mono hj hji
   rw [H.1] at this
   cases this
 | succ fuel ih =>
  intro listed a w hfree hr hy hS H
  refine ⟨fun h => (by rw [h] at hr; cases hr), fun j hj => ?_⟩
  by_cases hji : j = i
  ·subst hji; exact hy.wpOp hi hS ⟨⟨hS.1, fun _ h => h⟩, H⟩
  ·have h1 := H.2 j (ready_mono hj hji)
   obtain ⟨hjun, oj, hoj, hall⟩ := mem_ready.1 hj
   have hnot : ∀ e ∈ oj.after, Region.binds md e = true → e.on ≠ i := fun e he hb heq => by
    have h1 := hall e he hb
    have h0 := (mem_ready.1 hr).1
    rw [heq] at h1
    rcases Nat.lt_or_ge i listed.size with h' | h'
    ·simp [h'] at h0 h1; rw [h0] at h1; cases h1
    ·simp [Array.getElem?_eq_none h'] at h1
   have hXj : X j = false := by
    cases hx : X j with
    | false => rfl
    | true =>
     obtain ⟨e, he, hb, heq⟩ := hX j oj hoj hx
     exact absurd heq (hnot e he hb)
   have h2 := wpOp_putIf hoj (hfree j oj hoj hji hjun hnot) (fun cs b => hsel i oi cs b hi) (fun cs b => hsel j oj cs b hoj) hQ hy h1
   have hfree' : ∀ k ok, ops[k]? = some ok → k ≠ i → (listed.setIfInBounds j true).getD k true = false →
     (∀ e ∈ ok.after, Region.binds md e = true → e.on ≠ i) → oi.apart ops ok = true := fun k ok hk hki hun hno => by
    refine hfree k ok hk hki ?_ hno
    by_cases hjk : j = k
    ·subst hjk; exact hjun
    ·rw [getD_set_ne true hjk] at hun; exact hun
   refine wpOp_mono (fun a' w' h3 => ⟨h3.2.1, ih (listed.setIfInBounds j true) a' w' hfree' (ready_mono hr (Ne.symm hji)) h3.1 ⟨h3.2.1.1, h3.2.1.2 hXj hS.2⟩ ?_⟩) h2
   rw [Array.setIfInBounds_comm _ _ hji]
   exact h3.2.2

theorem wpAnyX_firstW {i : Nat} {oi : Oper} {v : Value} (hi : ops[i]? = some oi) (hsel : ∀ (j : Nat) (o : Oper) cs b, ops[j]? = some o → o.op ≠ .select cs b)
  (hQ : ∀ c a w, Q (.panic c) (a.put oi.dst v) w → Q (.panic c) a w) :
  ∀ (fuel : Nat) (listed : Array Bool) (a : Act) (w : World),
   (∀ j oj, ops[j]? = some oj → j ≠ i → listed.getD j true = false → (∀ e ∈ oj.after, Region.binds md e = true → e.on ≠ i) → oi.apart ops oj = true) →
   i ∈ Region.ready md ops listed → YieldsIf P ops S oi v a → S w →
   wpAnyX P md ops Q S S1 X fuel (listed.setIfInBounds i true) (a.put oi.dst v) w → wpAnyX P md ops Q S S1 X (fuel + 1) listed a w := by
 intro fuel
 induction fuel with
 | zero =>
  intro listed a w _ hr hy hS H
  refine ⟨fun h => (by rw [h] at hr; cases hr), fun j hj => ?_⟩
  by_cases hji : j = i
  ·subst hji; exact hy.wpOp hi hS ⟨⟨hS, fun _ h => h⟩, H⟩
  ·have := ready_mono hj hji
   rw [H.1] at this
   cases this
 | succ fuel ih =>
  intro listed a w hfree hr hy hS H
  refine ⟨fun h => (by rw [h] at hr; cases hr), fun j hj => ?_⟩
  by_cases hji : j = i
  ·subst hji; exact hy.wpOp hi hS ⟨⟨hS, fun _ h => h⟩, H⟩
  ·have h1 := H.2 j (ready_mono hj hji)
   obtain ⟨hjun, oj, hoj, hall⟩ := mem_ready.1 hj
   have hnot : ∀ e ∈ oj.after, Region.binds md e = true → e.on ≠ i := fun e he hb heq => by
    have h1 := hall e he hb
    have h0 := (mem_ready.1 hr).1
    rw [heq] at h1
    rcases Nat.lt_or_ge i listed.size with h' | h'
    ·simp [h'] at h0 h1; rw [h0] at h1; cases h1
    ·simp [Array.getElem?_eq_none h'] at h1
   have h2 := wpOp_putIf hoj (hfree j oj hoj hji hjun hnot) (fun cs b => hsel i oi cs b hi) (fun cs b => hsel j oj cs b hoj) hQ hy h1
   have hfree' : ∀ k ok, ops[k]? = some ok → k ≠ i → (listed.setIfInBounds j true).getD k true = false →
     (∀ e ∈ ok.after, Region.binds md e = true → e.on ≠ i) → oi.apart ops ok = true := fun k ok hk hki hun hno => by
    refine hfree k ok hk hki ?_ hno
    by_cases hjk : j = k
    ·subst hjk; exact hjun
    ·rw [getD_set_ne true hjk] at hun; exact hun
   refine wpOp_mono (fun a' w' h3 => ⟨h3.2.1, ih (listed.setIfInBounds j true) a' w' hfree' (ready_mono hr (Ne.symm hji)) h3.1 h3.2.1.1 ?_⟩) h2
   rw [Array.setIfInBounds_comm _ _ hji]
   exact h3.2.2

theorem wpAnyX_takeW {i : Nat} {oi : Oper} {v : Value} {fuel : Nat} {listed : Array Bool} {a : Act} {w : World} (hi : ops[i]? = some oi)
  (hs : Region.noSelect ops = true) (hf : Region.free md ops listed i = true) (hr : (Region.ready md ops listed).contains i = true)
  (hQ : ∀ c a w, Q (.panic c) (a.put oi.dst v) w → Q (.panic c) a w) (hy : YieldsIf P ops S oi v a) (hS : S w)
  (h : wpAnyX P md ops Q S S1 X fuel (listed.setIfInBounds i true) (a.put oi.dst v) w) : wpAnyX P md ops Q S S1 X (fuel + 1) listed a w :=
 wpAnyX_firstW hi (Region.noSelect_spec hs) hQ fuel listed a w (Region.free_spec hi hf) (by simpa using hr) hy hS h

theorem wpAnyX_take {i : Nat} {oi : Oper} {v : Value} {fuel : Nat} {listed : Array Bool} {a : Act} {w : World} (hi : ops[i]? = some oi)
  (hs : Region.noSelect ops = true) (hf : Region.free md ops listed i = true) (hr : (Region.ready md ops listed).contains i = true) (hX : waits md ops X i = true) (hXi : X i = false)
  (hQ : ∀ c a w, Q (.panic c) (a.put oi.dst v) w → Q (.panic c) a w) (hy : YieldsIf P ops (fun w => S w ∧ S1 w) oi v a) (hS : S w ∧ S1 w)
  (h : wpAnyX P md ops Q S S1 X fuel (listed.setIfInBounds i true) (a.put oi.dst v) w) : wpAnyX P md ops Q S S1 X (fuel + 1) listed a w := by
 refine wpAnyX_first hi (Region.noSelect_spec hs) (fun j oj hj hx => ?_) hXi hQ fuel listed a w (Region.free_spec hi hf) (by simpa using hr) hy hS h
 unfold waits at hX
 have hjl : j < ops.size := by
  rcases Nat.lt_or_ge j ops.size with h | h
  ·exact h
  ·rw [Array.getElem?_eq_none h] at hj; cases hj
 have := (List.all_eq_true.1 hX) j (List.mem_range.2 hjl)
 rw [hx, hj] at this
 simp only [Bool.not_true, Bool.false_or, Option.map_some, Option.getD_some] at this
 obtain ⟨e, he, hb⟩ := Array.any_eq_true'.1 this
 simp only [Bool.and_eq_true, beq_iff_eq] at hb
 exact ⟨e, he, hb⟩

def AllReadyX (P : Program) (md : Region.Mode) (ops : Array Oper) (Q : Exit → Act → World → Prop) (S S1 : World → Prop) (X : Nat → Bool) (fuel : Nat) (listed : Array Bool) (a : Act) (w : World) (rs : List Nat) : Prop :=
 ∀ i ∈ rs, wpOp P ops Q i (fun a' w' => (S w' ∧ (X i = false → S1 w → S1 w')) ∧ wpAnyX P md ops Q S S1 X fuel (listed.setIfInBounds i true) a' w') a w
theorem AllReadyX.nil {fuel : Nat} {listed : Array Bool} {a : Act} {w : World} : AllReadyX P md ops Q S S1 X fuel listed a w [] := fun _ h => by cases h
theorem AllReadyX.cons {fuel : Nat} {listed : Array Bool} {a : Act} {w : World} {i : Nat} {o : Oper} {rs : List Nat} (ho : ops[i]? = some o)
  (h : ∀ K' : Act → World → Prop, Shut (∀ a' w', S w' ∧ (X i = false → S1 w → S1 w') → wpAnyX P md ops Q S S1 X fuel (listed.setIfInBounds i true) a' w' → K' a' w') → if Region.wanted o (yielded ops a.tmps) = true then Oper.wp P o a w K' Q else K' (a.put o.dst undef) w)
  (hs : AllReadyX P md ops Q S S1 X fuel listed a w rs) : AllReadyX P md ops Q S S1 X fuel listed a w (i :: rs) := fun j hj => by
 rcases List.mem_cons.1 hj with rfl | hj
 ·exact wpOp_step ho (fun K' hK => h K' (fun a w hS hW => hK a w ⟨hS, hW⟩))
 ·exact hs j hj
theorem wpAnyX_ready {rs : List Nat} {fuel : Nat} {listed : Array Bool} {a : Act} {w : World} (hr : Region.ready md ops listed = rs) (hne : rs ≠ [])
  (h : AllReadyX P md ops Q S S1 X fuel listed a w rs) : wpAnyX P md ops Q S S1 X (fuel + 1) listed a w := ⟨fun h0 => absurd (hr ▸ h0) hne, hr ▸ h⟩
theorem wpAnyX_done {listed : Array Bool} {a : Act} {w : World} (hr : Region.ready md ops listed = []) (h : Q .normal a w) :
  ∀ fuel, wpAnyX P md ops Q S S1 X fuel listed a w
 | 0 => ⟨hr, h⟩
 | _ + 1 => ⟨fun _ => h, by rw [hr]; simp⟩
theorem wp_region_x (S S1 : World → Prop) (X : Nat → Bool) {id : Nat} {a : Act} {w : World} (hm : P.follows .mixedOrders = true)
  (h : wpAnyX P .any ops Q S S1 X ops.size (Array.replicate ops.size false) a w.drew) : (Code.region id ops true).wp P Q a w :=
 wp_region_any hm (wpAny_of_x _ _ _ _ h)
end
end Go.Proofs.YtkmfdiboekoioaaGreat.RegX
