/- A round of alloc.spots over the blocks. Conditions: the memory holds what OutMem says; what is live is told. -/
import Derived.Test.YtkmfdiboekoioaaGreatCSpotRound
import Derived.Laws.EntriesVeiled
import Derived.Laws.MakeOwn
set_option linter.unusedSimpArgs false
set_option linter.unusedVariables false
namespace Go.Proofs.YtkmfdiboekoioaaGreat
open Go.RowKit Go.Shelf
attribute [local go_sem] Oper.semAt_some
noncomputable def spotsLoop : Code := ((Tryz.f75.body.map loopsOf).getD []).getD 0 .skip
theorem BCtx.alloc {w : World} {B bx : Nat} {y : BVals} {x : BlockP} (h : BCtx w B bx y x) (o : Obj) : BCtx (w.alloc o) B bx y x := h.below ((Below.refl _ _).alloc (Nat.le_refl _) _)
structure OutLow (o : OutNums) (base0 : Nat) : Prop where
 B : o.B ≤ base0
 g2 : o.g2 < base0
 t3 : o.t3 < base0
 h5 : o.h5 < base0
 bo : o.bo < base0
 bm : o.bm < base0
 ro : ∀ r ∈ o.ro, r < base0
/-- What is made ahead of a block's nodes: the block's box, the set of what is live, its box. -/
theorem first_made {o : OutNums} {xv : GVals} {g : GraphP} {LI LO : List (List Int)} {W : World} {R : Meets} (h : OutMem o xv g LI LO W R) {y : BVals} {x : BlockP} (hy : BParts W o.B y x) :
  ∃ W1, W1 = (((W.alloc (.cells (bbox x y) 41)).alloc (.map #[] 0)).alloc (.cells #[.map (some (W.heap.size + 1))] 76)) ∧ W1.heap.size = W.heap.size + 3 ∧ Below W.heap.size W W1 ∧
   OutMem o xv g LI LO W1 R ∧ BCtx W1 o.B W.heap.size y x ∧ SetM W1 (W.heap.size + 1) ISet.empty ∧ Blk W1 (W.heap.size + 2) 76 #[.map (some (W.heap.size + 1))] := by
 have hb : Below W.heap.size W (((W.alloc (.cells (bbox x y) 41)).alloc (.map #[] 0)).alloc (.cells #[.map (some (W.heap.size + 1))] 76)) := (((Below.refl _ _).alloc (Nat.le_refl _) _).alloc (by simp) _).alloc (by simp; omega) _
 refine ⟨_, rfl, by simp, hb, ((h.alloc _).alloc _).alloc _, ⟨hy.keep (Same.of_below (hb.mono h.gr.hB)), Nat.le_trans h.gr.hB hb.size, ((Blk.new W _ _).alloc _).alloc _⟩, ?_, ?_⟩
 ·have := (IMap.made (W.alloc (.cells (bbox x y) 41))).alloc (.cells #[.map (some (W.heap.size + 1))] 76)
  rw [World.size_alloc] at this
  exact this
 ·have := Blk.new ((W.alloc (.cells (bbox x y) 41)).alloc (.map #[] 0)) 76 #[.map (some (W.heap.size + 1))]
  simpa using this
/-- The memory while what is live at a block's end is gathered. -/
structure PreMem (o : OutNums) (xv : GVals) (g : GraphP) (LI LO : List (List Int)) (S0 : Nat) (y : BVals) (x : BlockP) (R : Meets) (W : World) (p : ISet) : Prop where
 om : OutMem o xv g LI LO W R
 bl : BCtx W o.B S0 y x
 set : SetM W (S0 + 1) p
 now : Blk W (S0 + 2) 76 #[.map (some (S0 + 1))]
 put : Blk W (S0 + 3) 178 #[.func (.func 118) #[] #[.pointer (some ⟨o.h5, 0, none⟩), .pointer (some ⟨S0 + 2, 0, none⟩)]]
 far : S0 + 1 ∉ o.ro
section
variable {o : OutNums} {xv : GVals} {g : GraphP} {LI LO : List (List Int)} {S0 : Nat} {y : BVals} {x : BlockP} {R : Meets} {W W' : World} {p : ISet}
theorem PreMem.below (h : PreMem o xv g LI LO S0 y x R W p) (hb : Below W.heap.size W W') : PreMem o xv g LI LO S0 y x R W' p :=
 ⟨h.om.below hb, h.bl.below hb, h.set.below hb, h.now.below hb h.now.lt, h.put.below hb h.put.lt, h.far⟩
theorem PreMem.drew (h : PreMem o xv g LI LO S0 y x R W p) : PreMem o xv g LI LO S0 y x R W.drew p := h.below ((Below.refl _ _).drew)
theorem PreMem.set_ (h : PreMem o xv g LI LO S0 y x R W p) {p' : ISet} (hq : SetM W' (S0 + 1) p') (hg : W.grownBy W' (some (S0 + 1))) : PreMem o xv g LI LO S0 y x R W' p' :=
 ⟨h.om.set_ h.set hq hg h.far, h.bl.turn h.set hq hg, hq, h.now.grown hg (blk_ne_map h.now h.set), h.put.grown hg (blk_ne_map h.put h.set), h.far⟩
theorem PreMem.cells (h : PreMem o xv g LI LO S0 y x R W p) :
  W.cell? ⟨S0 + 2, 0, none⟩ = some (.map (some (S0 + 1))) ∧ W.cell? ⟨S0 + 3, 0, none⟩ = some (.func (.func 118) #[] #[.pointer (some ⟨o.h5, 0, none⟩), .pointer (some ⟨S0 + 2, 0, none⟩)]) ∧
  W.cell? ⟨o.h5, 0, none⟩ = some (.func (.func 117) #[] #[.pointer (some ⟨o.g2, 0, none⟩)]) ∧
  W.cell? ⟨o.t3, 0, none⟩ = some (.func (.func 76) #[] #[.pointer (some ⟨o.bm, 0, none⟩)]) ∧
  W.cell? ⟨o.l4, 0, none⟩ = some o.vI ∧ W.cell? ⟨o.l4, 1, none⟩ = some o.vO ∧ W.cell? ⟨o.bm, 0, none⟩ = some (.slice (some ⟨o.bo, 0, none⟩) o.ro.length o.ro.length) :=
 ⟨h.now.cell 0, h.put.cell 0, h.om.there.cell 0, h.om.told.cell 0, h.om.live.cell 0, h.om.live.cell 1, h.om.out.cell 0⟩
theorem OutMem.pre {W1 : World} (hm : OutMem o xv g LI LO W1 R) (hz : W1.heap.size = S0 + 3) (hb : BCtx W1 o.B S0 y x) (hs : SetM W1 (S0 + 1) p) (hn : Blk W1 (S0 + 2) 76 #[.map (some (S0 + 1))]) (hf : ∀ r ∈ o.ro, r < S0) :
  PreMem o xv g LI LO S0 y x R (W1.alloc (.cells #[.func (.func 118) #[] #[.pointer (some ⟨o.h5, 0, none⟩), .pointer (some ⟨S0 + 2, 0, none⟩)]] 178)) p := by
 have hbl : Below W1.heap.size W1 (W1.alloc (.cells #[.func (.func 118) #[] #[.pointer (some ⟨o.h5, 0, none⟩), .pointer (some ⟨S0 + 2, 0, none⟩)]] 178)) := (Below.refl _ _).alloc (Nat.le_refl _) _
 refine ⟨hm.below hbl, hb.below hbl, hs.below hbl, hn.below hbl hn.lt, ?_, fun h => by have := hf _ h; omega⟩
 have := Blk.new W1 178 #[.func (.func 118) #[] #[.pointer (some ⟨o.h5, 0, none⟩), .pointer (some ⟨S0 + 2, 0, none⟩)]]
 rw [hz] at this
 exact this
/-- A row of what is live. -/
theorem RowsV.get {B : Nat} {v : Value} {ls : List (List Int)} (h : RowsV W B v ls) {k : Nat} {l : List Int} (hk : ls[k]? = some l) : ∃ b off c A n, v = .slice (some ⟨b, off, none⟩) ls.length c ∧ b < B ∧ W.cell? ⟨b, off + k, none⟩ = some (.slice A l.length n) ∧ IntsV W B (.slice A l.length n) l := by
 obtain ⟨A, c, hv, _, _, hp⟩ := h
 obtain ⟨b, off, rfl, hb, hp⟩ := hp (by have := (List.getElem?_eq_some_iff.1 hk).1; omega)
 obtain ⟨u, hu, hi⟩ := hp k l hk
 obtain ⟨A', n, rfl⟩ := hi.shape
 exact ⟨b, off, c, A', n, hv, hb, hu, hi⟩
end
/-- The memory where a block's nodes begin to be gone through. -/
theorem PreMem.spot {o : OutNums} {xv : GVals} {g : GraphP} {LI LO : List (List Int)} {S0 base0 : Nat} {y : BVals} {x : BlockP} {R : Meets} {w6 w7 w9 : World} {p : ISet} {v7 sv : Value} {l : List Int}
  (h : PreMem o xv g LI LO S0 y x R w6 p) (hlow : OutLow o base0) (hS : base0 ≤ S0) (h7 : Below w6.heap.size w6 w7) (ho : OwnInts w7 w6.heap.size v7 l)
  (e9 : w9 = (w7.alloc (.cells #[v7] 34)).alloc (.cells #[sv] 34)) :
  SpotMem ⟨o.B, o.g2, o.t3, o.h5, S0, S0 + 2, S0 + 3, w7.heap.size, S0 + 1, o.bo, o.bm, w6.heap.size, o.ro, w7.heap.size + 1, sv⟩ xv g y x w9 ⟨p, l, R⟩ ∧ Below w6.heap.size w6 w9 ∧ w9.heap.size = w7.heap.size + 2 := by
 have hb9 : Below w6.heap.size w6 w9 := by subst e9; exact (h7.alloc h7.size _).alloc (by have := h7.size; simp; omega) _
 have h9 := h.below hb9
 have hlt := h.put.lt
 have hz := h7.size
 refine ⟨⟨h9.om.gr, h9.bl, h9.om.told, h9.om.there, h9.now, h9.put, h9.set, ⟨v7, ?_, ?_⟩, h9.om.out, h9.om.rows, ?_, hb9.size, h.far, ?_⟩, hb9, by subst e9; simp⟩
 ·subst e9; exact (Boxed.new w7 _ v7).alloc _
 ·subst e9; exact World.ownsRow.alloc (World.ownsRow.alloc ho _) _
 ·exact ⟨by have := hlow.B; simp only; omega, by have := hlow.g2; simp only; omega, by have := hlow.t3; simp only; omega, by have := hlow.h5; simp only; omega, by simp only; omega, by simp only; omega, by simp only; omega, by simp only; omega, by simp only; omega, by have := hlow.bo; simp only; omega, by have := hlow.bm; simp only; omega, fun r hr => by have := hlow.ro r hr; simp only; omega, by simp only; omega, by simp only; omega⟩
 ·subst e9
  have := Boxed.new (w7.alloc (.cells #[v7] 34)) 34 sv
  rw [World.size_alloc] at this
  exact this
/-- What is so behind a block's nodes. -/
theorem iter_end {o : OutNums} {xv : GVals} {g : GraphP} {LI LO : List (List Int)} {base0 D : Nat} {y : BVals} {x : BlockP} {R R' : Meets} {W0 W w6 W' w2 : World} {p : ISet} {s : Spot} {q : SpotNums} {ds : List Deferred}
  (h : PreMem o xv g LI LO W.heap.size y x R w6 p) (hB6 : Below W.heap.size W w6) (hlow : OutLow o base0) (hb0 : base0 ≤ W.heap.size) (ht : TurnB base0 W0 W o.ro) (hds : MarksOk base0 W ds)
  (e0 : q.base = w6.heap.size) (e1 : q.B = o.B) (e2 : q.g2 = o.g2) (e3 : q.bo = o.bo) (e4 : q.ro = o.ro) (e5 : q.rn = W.heap.size + 1)
  (hs : SpotMem q xv g y x W' s) (hw : TurnB q.base w6 W' (q.rn :: q.ro)) (hD : w6.heap.size ≤ D) (hK : W'.heap[D]? = some (.deferred (some []))) (hr : MRow w2 o.bo o.ro R') (hT : Turned W' w2 o.ro) :
  OutMem o xv g LI LO w2 R' ∧ MarksOk base0 w2 ({ target := .collected D, args := #[] } :: ds) ∧ base0 ≤ w2.heap.size ∧ TurnB base0 W0 w2 o.ro := by
 have hsz := hB6.size
 have hput := h.put.lt
 have hro : ∀ r ∈ q.rn :: q.ro, r ∈ o.ro ∨ base0 ≤ r := fun r hr => by
  rcases List.mem_cons.1 hr with e | hr
  ·exact .inr (by omega)
  ·exact .inl (e4 ▸ hr)
 have hw2 := hw.size
 have hT2 := hT.size
 refine ⟨(OutMem.behind h.om hs hw e0 e1 e2 e3 e4 (p := p) (by rw [e5]; exact h.set)).told_ hr hT, MarksOk.cons (hds.keep fun E hE hk => ?_) (by omega) ?_ (hds.fresh (by omega)), by omega, ?_⟩
 ·have hlt := (Array.getElem?_eq_some_iff.1 hk).1
  have n1 : E ∉ q.rn :: q.ro := fun hm => by
   rcases List.mem_cons.1 hm with e | hm
   ·omega
   ·have := hlow.ro E (e4 ▸ hm); omega
  rw [hT.block E (by omega) (fun hm => by have := hlow.ro E hm; omega), hw.block E (by omega) n1, hB6.block E hlt]
  exact hk
 ·rw [hT.block D (Array.getElem?_eq_some_iff.1 hK).1 (fun hm => by have := hlow.ro D hm; omega)]
  exact hK
 ·exact ((ht.trans (TurnB.of_below (hB6.mono hb0))).trans (hw.mono (by omega) hro)).trans (TurnB.of_turned hT (by omega) (fun r hr => hr))

set_option maxRecDepth 100000 in
set_option maxHeartbeats 16000000 in
theorem iter_any (W0 W : World) (o : OutNums) (vn vs : Value) (Ab : Option Addr) (cb : Nat) (g : GraphP) (I O : Sets) (base0 k : Nat) (ds : List Deferred) (hs : Small g) (hI : ∀ b, Bounded g.nodes.length (I.at_ b))
  (hm : OutMem o ⟨vn, .slice Ab g.blocks.length cb, vs⟩ g (listsTo g.nodes.length I g.blocks.length) (listsTo g.nodes.length O g.blocks.length) W (meetTo g I O k)) (hds : MarksOk base0 W ds) (hb0 : base0 ≤ W.heap.size) (hlow : OutLow o base0) (ht : TurnB base0 W0 W o.ro) (hro : g.nodes.length = o.ro.length)
  (u0 u1 u6 u7 u8 u9 u10 u11 u12 u13 u14 u15 u16 u17 u18 u22 u23 u24 u25 u26 u27 u28 u29 u30 u31 u32 u33 u34 u35 u36 u37 u38 u39 u40 u41 u42 u43 u44 u45 u46 u47 u48 u49 u50 u51 u52 u53 u54 u55 u56 u57 u58 u59 u60 u61 u62 u63 u64 u65 u66 u67 u68 u69 u70 u71 u72 u73 u74 u75 u76 u77 u78 u79 u80 u81 u82 u83 u84 u85 u86 u87 u88 u89 u90 u91 u92 u93 u94 u95 u96 u97 u98 u99 u100 u101 u102 u103 u104 u105 u106 u107 u108 u109 u110 u111 u112 u113 : Value) (Q : Exit → Act → World → Prop)
  (hexit : g.blocks.length ≤ k → Q (.exit 0) ⟨#[u0, u1, .pointer (some ⟨o.g2, 0, none⟩), .pointer (some ⟨o.t3, 0, none⟩), .pointer (some ⟨o.l4, 0, none⟩), .pointer (some ⟨o.h5, 0, none⟩), u6, u7, u8, u9, u10, u11, u12, u13, u14, u15, u16, u17, u18, .slice Ab g.blocks.length cb, .int .i64 g.blocks.length, .int .i64 k, .bool false, u23, u24, u25, u26, u27, u28, u29, u30, u31, u32, u33, u34, u35, u36, u37, u38, u39, u40, u41, u42, u43, u44, u45, u46, u47, u48, u49, u50, u51, u52, u53, u54, u55, u56, u57, u58, u59, u60, u61, u62, u63, u64, u65, u66, u67, u68, u69, u70, u71, u72, u73, u74, u75, u76, u77, u78, u79, u80, u81, u82, u83, u84, u85, u86, u87, u88, u89, u90, u91, u92, u93, u94, u95, u96, u97, u98, u99, u100, u101, u102, u103, u104, u105, u106, u107, u108, u109, u110, u111, u112, u113], ds⟩ W)
  (hnext : k < g.blocks.length → ∀ (x6 x7 x8 x9 x10 x22 x23 x24 x25 x26 x27 x28 x29 x30 x31 x32 x33 x34 x35 x36 x37 x38 x39 x40 x41 x42 x43 x44 x45 x46 x47 x48 x49 x50 x51 x52 x53 x110 x111 x112 x113 : Value) (ds' : List Deferred) (W' : World), OutMem o ⟨vn, .slice Ab g.blocks.length cb, vs⟩ g (listsTo g.nodes.length I g.blocks.length) (listsTo g.nodes.length O g.blocks.length) W' (meetTo g I O (k + 1)) → MarksOk base0 W' ds' → base0 ≤ W'.heap.size → TurnB base0 W0 W' o.ro → Q .normal ⟨#[u0, u1, .pointer (some ⟨o.g2, 0, none⟩), .pointer (some ⟨o.t3, 0, none⟩), .pointer (some ⟨o.l4, 0, none⟩), .pointer (some ⟨o.h5, 0, none⟩), x6, x7, x8, x9, x10, u11, u12, u13, u14, u15, u16, u17, u18, .slice Ab g.blocks.length cb, .int .i64 g.blocks.length, .int .i64 ((k : Int) + 1), x22, x23, x24, x25, x26, x27, x28, x29, x30, x31, x32, x33, x34, x35, x36, x37, x38, x39, x40, x41, x42, x43, x44, x45, x46, x47, x48, x49, x50, x51, x52, x53, u54, u55, u56, u57, u58, u59, u60, u61, u62, u63, u64, u65, u66, u67, u68, u69, u70, u71, u72, u73, u74, u75, u76, u77, u78, u79, u80, u81, u82, u83, u84, u85, u86, u87, u88, u89, u90, u91, u92, u93, u94, u95, u96, u97, u98, u99, u100, u101, u102, u103, u104, u105, u106, u107, u108, u109, x110, x111, x112, x113], ds'⟩ W') :
  Code.wp Tryz.prog spotsLoop Q ⟨#[u0, u1, .pointer (some ⟨o.g2, 0, none⟩), .pointer (some ⟨o.t3, 0, none⟩), .pointer (some ⟨o.l4, 0, none⟩), .pointer (some ⟨o.h5, 0, none⟩), u6, u7, u8, u9, u10, u11, u12, u13, u14, u15, u16, u17, u18, .slice Ab g.blocks.length cb, .int .i64 g.blocks.length, .int .i64 k, u22, u23, u24, u25, u26, u27, u28, u29, u30, u31, u32, u33, u34, u35, u36, u37, u38, u39, u40, u41, u42, u43, u44, u45, u46, u47, u48, u49, u50, u51, u52, u53, u54, u55, u56, u57, u58, u59, u60, u61, u62, u63, u64, u65, u66, u67, u68, u69, u70, u71, u72, u73, u74, u75, u76, u77, u78, u79, u80, u81, u82, u83, u84, u85, u86, u87, u88, u89, u90, u91, u92, u93, u94, u95, u96, u97, u98, u99, u100, u101, u102, u103, u104, u105, u106, u107, u108, u109, u110, u111, u112, u113], ds⟩ W := by
 have HM := Lib.hid hm; have HRo := Lib.hid hro
 have hgv := hm.gr.gr.1
 obtain ⟨An, cn, en0, hcn, hln, _⟩ := hgv
 simp only at en0
 subst en0
 have hNl : g.nodes.length ≤ lim := hln
 obtain ⟨l1, l2, l3⟩ := hs.lens
 have hmm := @run_makeMap Tryz.prog
 obtain ⟨q0, q1, q2, q3, q4, q5⟩ := hm.gr.cells
 have f3 : W.cell? ⟨o.t3, 0, none⟩ = some _ := hm.told.cell 0
 simp only at q3 q4 q5
 clear hro hm
 conv => arg 2; whnf
 dsimp only
 by_cases hlt : k < g.blocks.length
 ·obtain ⟨A', c', en, _, _, hpb⟩ := HM.out.gr.gr.2.1
  simp only at en
  obtain ⟨bm, offm, rfl, hbmB, hpm⟩ := hpb (by omega)
  injection en with en1 en2 en3
  subst en1 en3
  obtain ⟨x, hx⟩ := getE hlt
  obtain ⟨y, hy, g0, g1, g2, g3, g4, g5⟩ := (hpm k x hx).parts
  obtain ⟨v0, v2, v3, v4⟩ := y
  obtain ⟨A0, c0, e0⟩ := hy.p0.shape
  obtain ⟨A2, c2, e2⟩ := hy.p2.shape
  obtain ⟨A3, c3, e3⟩ := hy.p3.shape
  obtain ⟨A4, c4, e4⟩ := hy.p4.shape
  simp only at e0 e2 e3 e4 g0 g2 g3 g4
  subst e0 e2 e3 e4
  have HX := Lib.hid hx; have HY := Lib.hid hy
  clear hpm hx hy hpb
  go_upto_region 7 with fail
  obtain ⟨w1, hw1, hz1, hb1, hm1, hbl1, hset1, hnow1⟩ := first_made HM.out (y := ⟨.slice A0 x.nodes.length c0, .slice A2 x.args.length c2, .slice A3 x.next.length c3, .slice A4 x.ahead.length c4⟩) HY.out
  unfold bbox at hw1
  simp only at hw1
  rw [← hw1]
  have HM1 := Lib.hid hm1; have HBl1 := Lib.hid hbl1; have HSet1 := Lib.hid hset1; have HNow1 := Lib.hid hnow1; have HB1 := Lib.hid hb1
  clear hw1 hm1 hbl1 hset1 hnow1 hb1 q0 q1 q2 q3 q4 q5 f3 g0 g1 g2 g3 g4 g5 hmm
  go_upto_region 8 with fail
  obtain ⟨w2, hw2⟩ : ∃ w2 : World, w2 = w1.alloc (.cells #[.func (.func 118) #[] #[.pointer (some ⟨o.h5, 0, none⟩), .pointer (some ⟨W.heap.size + 1 + 1, 0, none⟩)]] 178) := ⟨_, rfl⟩
  rw [← hw2]
  have HP2 : Hid (PreMem o ⟨.slice An g.nodes.length cn, .slice (some ⟨bm, offm, none⟩) g.blocks.length cb, vs⟩ g (listsTo g.nodes.length I g.blocks.length) (listsTo g.nodes.length O g.blocks.length) W.heap.size ⟨.slice A0 x.nodes.length c0, .slice A2 x.args.length c2, .slice A3 x.next.length c3, .slice A4 x.ahead.length c4⟩ x (meetTo g I O k) w2 ISet.empty) := Lib.hid (by
   subst hw2
   exact OutMem.pre HM1.out hz1 HBl1.out HSet1.out HNow1.out (fun r hr => by have := hlow.ro r hr; omega))
  have HB2 : Hid (Below W.heap.size W w2) := Lib.hid (by subst hw2; exact HB1.out.alloc (by omega) _)
  clear hw2 HM1 HBl1 HSet1 HNow1 HB1 hz1 w1
  have hkO : (listsTo g.nodes.length O g.blocks.length)[k]? = some (listOf g.nodes.length (O.at_ k)) := by simp [listsTo, hlt]
  have hkI : (listsTo g.nodes.length I g.blocks.length)[k]? = some (listOf g.nodes.length (I.at_ k)) := by simp [listsTo, hlt]
  have hlL : (listsTo g.nodes.length O g.blocks.length).length = g.blocks.length := by simp [listsTo]
  have hlI : (listsTo g.nodes.length I g.blocks.length).length = g.blocks.length := by simp [listsTo]
  obtain ⟨bO, offO, cO, AO, nO, evO, hbO, hcO, hiO⟩ := HP2.out.drew.om.rO.get hkO
  have HIO := Lib.hid (hiO.mono HP2.out.drew.om.hB2)
  obtain ⟨p0, p1, p2, p3, p4, p5, p6⟩ := HP2.out.drew.cells
  rw [evO, hlL] at p5
  replace evO := Lib.hid evO; have HLL := Lib.hid hlL
  have HS2 := Lib.hid (And.intro p1 (And.intro p5 hcO))
  clear hkO hcO hiO p0 p1 p2 p3 p4 p5 p6 hlL
  have HEI := Lib.hid hlI; have HKI := Lib.hid hkI
  clear hlI hkI
  go_region_held3 (fun W' => W'.cell? ⟨W.heap.size + 3, 0, none⟩ = some (.func (.func 118) #[] #[.pointer (some ⟨o.h5, 0, none⟩), .pointer (some ⟨W.heap.size + 2, 0, none⟩)]) ∧ W'.cell? ⟨o.l4, 1, none⟩ = some (.slice (some ⟨bO, offO, none⟩) g.blocks.length cO) ∧ W'.cell? ⟨bO, offO + k, none⟩ = some (.slice AO (listOf g.nodes.length (O.at_ k)).length nO)) (first | exact HS2.out | exact HS3.out) ((go_at_call 118; refine (putn_any w2.drew (W.heap.size + 1) ISet.empty _ (listOf g.nodes.length (O.at_ k)) o.g2 o.h5 (W.heap.size + 2) An g.nodes.length cn HP2.out.drew.set HIO.out HP2.out.drew.om.gr.cells.2.2.2.1 hNl HP2.out.drew.cells.2.2.1 HP2.out.drew.cells.1).mono ?_; rintro e w3 ⟨rfl, hs3, hg3⟩; have HP3 := Lib.hid (HP2.out.drew.set_ hs3 hg3); have HB3 := Lib.hid ((HB2.out.drew).grown hg3 (by have := HB2.out.size; exact this) (fun j e => by injection e with e; omega)); have HS3 := Lib.hid (And.intro (HP3.out.cells.2.1) (And.intro (HP3.out.cells.2.2.2.2.2.1.trans (congrArg some (evO.out.trans (by rw [HLL.out])))) (grown_cell HP2.out.drew.set hs3 hg3 HS2.out.2.2))); clear hs3 hg3))
  clear HS2 HIO HP2 HB2
  obtain ⟨p0, p1, p2, p3, p4, p5, p6⟩ := HP3.out.cells
  obtain ⟨y0, y2, y3, y4, y5⟩ := HP3.out.bl.cells
  simp only at y0 y2
  clear p5 p4 p6 evO
  go_upto_region 10 with (go_at_call 118; refine (putn_any w3 (W.heap.size + 1) _ _ x.args o.g2 o.h5 (W.heap.size + 2) An g.nodes.length cn HP3.out.set (HP3.out.bl.parts.p2.mono HP3.out.bl.hB) HP3.out.om.gr.cells.2.2.2.1 hNl p2 p0).mono ?_; rintro e w4 ⟨rfl, hs4, hg4⟩; have HP4 := Lib.hid (HP3.out.set_ hs4 hg4); have HB4 := Lib.hid (HB3.out.grown hg4 HB3.out.size (fun j e => by injection e with e; omega)); clear hs4 hg4)
  clear p0 p1 p2 p3 y0 y2 y3 y4 y5 HP3 HB3
  obtain ⟨p0, p1, p2, p3, p4, p5, p6⟩ := HP4.out.drew.cells
  obtain ⟨q0, q1, q2, q3, q4, q5⟩ := HP4.out.drew.om.gr.cells
  obtain ⟨y0, y2, y3, y4, y5⟩ := HP4.out.drew.bl.cells
  simp only at q3 q4 q5
  have HS4 := Lib.hid (And.intro p1 (And.intro q0 (And.intro q1 (And.intro q2 (And.intro q3 (And.intro q4 (And.intro q5 y5)))))))
  clear p0 p1 p2 p3 p4 p5 p6 q0 q1 q2 q3 q4 q5 y0 y2 y3 y4 y5
  go_region_held3 (fun W' => W'.cell? ⟨W.heap.size + 3, 0, none⟩ = some (.func (.func 118) #[] #[.pointer (some ⟨o.h5, 0, none⟩), .pointer (some ⟨W.heap.size + 2, 0, none⟩)]) ∧ W'.cell? ⟨o.g2, 0, none⟩ = some (.int .i64 g.fn) ∧ W'.cell? ⟨o.g2, 1, none⟩ = some (.int .i64 g.pc) ∧ W'.cell? ⟨o.g2, 2, none⟩ = some (.int .i64 g.slots) ∧ W'.cell? ⟨o.g2, 3, none⟩ = some (.slice An g.nodes.length cn) ∧ W'.cell? ⟨o.g2, 4, none⟩ = some (.slice (some ⟨bm, offm, none⟩) g.blocks.length cb) ∧ W'.cell? ⟨o.g2, 5, none⟩ = some vs ∧ W'.cell? ⟨W.heap.size, 5, none⟩ = some (.int .i64 x.state)) (first | exact HS4.out | exact HS5.out | exact HS6.out) (first | ((go_at_call 54; refine (slots_any ⟨.slice An g.nodes.length cn, .slice (some ⟨bm, offm, none⟩) g.blocks.length cb, vs⟩ g x.state w4.drew HP4.out.drew.om.gr.graph).mono ?_; rintro e w5 ⟨v5, rfl, hv5, hb5⟩; have HV5 := Lib.hid (hv5.mono hb5.size); have HP5 := Lib.hid (HP4.out.drew.below hb5); have HB5 := Lib.hid (HB4.out.drew.trans (hb5.mono (show W.heap.size ≤ w4.drew.heap.size from HB4.out.size))); obtain ⟨A5, c5, rfl⟩ := hv5.shape; have HS5 := Lib.hid (And.intro HP5.out.cells.2.1 (And.intro HP5.out.om.gr.cells.1 (And.intro HP5.out.om.gr.cells.2.1 (And.intro HP5.out.om.gr.cells.2.2.1 (And.intro HP5.out.om.gr.cells.2.2.2.1 (And.intro HP5.out.om.gr.cells.2.2.2.2.1 (And.intro HP5.out.om.gr.cells.2.2.2.2.2 HP5.out.bl.cells.2.2.2.2))))))); clear hv5 hb5)) | ((go_at_call 118; refine (putn_any w5 (W.heap.size + 1) _ _ (slotsOf g x.state) o.g2 o.h5 (W.heap.size + 2) An g.nodes.length cn HP5.out.set HV5.out HP5.out.om.gr.cells.2.2.2.1 hNl HP5.out.cells.2.2.1 HP5.out.cells.1).mono ?_; rintro e w6 ⟨rfl, hs6, hg6⟩; have HP6 := Lib.hid (HP5.out.set_ hs6 hg6); have HB6 := Lib.hid (HB5.out.grown hg6 HB5.out.size (fun j e => by injection e with e; omega)); have HS6 := Lib.hid (And.intro HP6.out.cells.2.1 (And.intro HP6.out.om.gr.cells.1 (And.intro HP6.out.om.gr.cells.2.1 (And.intro HP6.out.om.gr.cells.2.2.1 (And.intro HP6.out.om.gr.cells.2.2.2.1 (And.intro HP6.out.om.gr.cells.2.2.2.2.1 (And.intro HP6.out.om.gr.cells.2.2.2.2.2 HP6.out.bl.cells.2.2.2.2))))))); clear hs6 hg6)))
  clear HS4 HS5 HS6 HV5 HP5 HB5 HP4 HB4
  obtain ⟨bI, offI, cI, AI, nI, evI, hbI, hcI, hiI⟩ := HP6.out.om.rI.get HKI.out
  have HII := Lib.hid (hiI.mono HP6.out.om.hB2)
  obtain ⟨p0, p1, p2, p3, p4, p5, p6⟩ := HP6.out.cells
  obtain ⟨y0, y2, y3, y4, y5⟩ := HP6.out.bl.cells
  rw [evI, HEI.out] at p4
  simp only at y0
  replace evI := Lib.hid evI
  clear hiI p0 p1 p2 p3 p5 p6 y2 y3 y4 y5
  go_upto_region 12 with (go_at_call 119; refine (clone_read w6 _ (listOf g.nodes.length (I.at_ k)) HII.out (by have := listOf_len g.nodes.length (I.at_ k); unfold lim; omega)).mono ?_; rintro e w7 ⟨v7, rfl, ho7, hb7⟩; have HO7 := Lib.hid ho7; have HP7 := Lib.hid (HP6.out.below hb7); have HB67 := Lib.hid hb7; have HB7 := Lib.hid (HB6.out.trans (hb7.mono HB6.out.size)); obtain ⟨A7, c7, rfl, _⟩ := OwnInts.ints ho7 (by have := listOf_len g.nodes.length (I.at_ k); unfold lim; omega); clear ho7 hb7)
  obtain ⟨w9, hw9⟩ : ∃ w9 : World, w9 = (w7.alloc (.cells #[.slice A7 (listOf g.nodes.length (I.at_ k)).length c7] 34)).alloc (.cells #[.slice A0 x.nodes.length c0] 34) := ⟨_, rfl⟩
  obtain ⟨hsp, hb69, hz9⟩ := HP6.out.spot hlow hb0 HB67.out HO7.out hw9
  have y0' : (w7.alloc (.cells #[.slice A7 (listOf g.nodes.length (I.at_ k)).length c7] 34)).cell? ⟨W.heap.size, 0, none⟩ = some (.slice A0 x.nodes.length c0) := (HP7.out.bl.alloc _).cells.1
  have HSp := Lib.hid hsp; have HB69 := Lib.hid hb69; have HZ9 := Lib.hid hz9; have HW9 := Lib.hid hw9
  clear hsp hb69 hz9 p4 hcI y0 HII
  go_wp2_with (go_at_call 120; refine (callsIn_wide.1 (backward_in Fence.wide 3 trivial rfl A0 x.nodes.length c0 _)).mono ?_; rintro e w' ⟨rfl, rfl⟩)
  rw [← HW9.out]
  have HQ : ∃ q : SpotNums, q = ⟨o.B, o.g2, o.t3, o.h5, W.heap.size, W.heap.size + 2, W.heap.size + 3, w7.heap.size, W.heap.size + 1, o.bo, o.bm, w6.heap.size, o.ro, w7.heap.size + 1, .slice A0 x.nodes.length c0⟩ := ⟨_, rfl⟩
  obtain ⟨q, hq⟩ := HQ
  have HqD := Lib.hid hq
  have HSp2 : Hid (SpotMem q ⟨.slice An g.nodes.length cn, .slice (some ⟨bm, offm, none⟩) g.blocks.length cb, vs⟩ g ⟨.slice A0 x.nodes.length c0, .slice A2 x.args.length c2, .slice A3 x.next.length c3, .slice A4 x.ahead.length c4⟩ x w9 (spotFirst g I O k x (meetTo g I O k))) := Lib.hid (by rw [hq]; exact HSp.out)
  have hqb : q.base = w6.heap.size := by rw [hq]
  have hqB : q.Bs = w7.heap.size + 1 := by rw [hq]
  have hqv : q.sv = .slice A0 x.nodes.length c0 := by rw [hq]
  have HE1 := Lib.hid hqb; have HE2 := Lib.hid hqB; have HE3 := Lib.hid hqv
  have h69 : q.base ≤ w9.heap.size := HSp2.out.base
  have hcB : w9.cell? ⟨w7.heap.size + 1, 0, none⟩ = some (.slice A0 x.nodes.length c0) := by have := HSp2.out.bs.cell; rwa [hqB, hqv] at this
  have hBl : w7.heap.size + 1 < w9.heap.size := by have := HZ9.out; omega
  clear hq hqb hqB hqv
  refine (wpIn_wide (n := 3)).1 ?_
  generalize hfr : Act.mk _ ds = fr
  refine wpIn_rangeFunc_ownG (F := Fence.wide) (n := 3) (w := w9) rfl (by omega) (gf := 145) (lb := #[.pointer (some ⟨w7.heap.size + 1, 0, none⟩)]) (by subst hfr; rfl) trivial (enters_of Tryz.func145 (by kernel_rfl) rfl)
   (backward_stops Fence.wide (3 - 1) trivial rfl (by omega) (w7.heap.size + 1) q.base (fun k => k < q.base ∨ k = q.Bs) (fun _ h => .inl h) (.inr HE2.out.symm) (.slice A0 x.nodes.length c0) x.nodes w9 hBl h69 hcB (HSp2.out.bl.parts.p0.mono HSp2.out.low.B))
   (fun h k => KeepS.trans h k) (fun W' l o' o'' _ hW hc _ => KeepS.putObj W' l o' o'' hW hc) (Below.refl _ _) (fun _ => rfl)
   (fun pre W' => SpotMem q ⟨.slice An g.nodes.length cn, .slice (some ⟨bm, offm, none⟩) g.blocks.length cb, vs⟩ g ⟨.slice A0 x.nodes.length c0, .slice A2 x.args.length c2, .slice A3 x.next.length c3, .slice A4 x.ahead.length c4⟩ x W' (spotTo g I O k x (meetTo g I O k) (pre.map (fun p => p.2))) ∧ TurnB q.base w9 W' (q.rn :: q.ro))
   (fun _ _ _ => False) (OwnFrom.and (SpotMem.ownFrom h69 _) (TurnB.ownFrom h69 h69)) (fun _ _ _ _ _ hs _ _ => hs) ⟨HSp2.out, TurnB.refl _ _ _⟩ (fun z => ⟨((fr.tmps.setIfInBounds 54 (.int .i64 (z.1 : Int))).setIfInBounds 55 (.int .i64 z.2)).setIfInBounds 12 (.int .i64 z.2), []⟩) ?assign ?body ?done ?stop
  case assign =>
   intro l z W' K hK
   subst hfr
   simp only [List.setIfInBounds_toArray, List.set_cons_zero, List.set_cons_succ] at hK
   gi_wp2
   exact hK
  case body =>
   intro l pre z W' hmt hlt'
   subst hfr
   simp only [List.setIfInBounds_toArray, List.set_cons_zero, List.set_cons_succ]
   have hq := HqD.out
   subst hq
   refine spotRound_any l _ _ ⟨.slice An g.nodes.length cn, .slice (some ⟨bm, offm, none⟩) g.blocks.length cb, vs⟩ g ⟨.slice A0 x.nodes.length c0, .slice A2 x.args.length c2, .slice A3 x.next.length c3, .slice A4 x.ahead.length c4⟩ x (spotTo g I O k x (meetTo g I O k) (pre.map (fun p => p.2))) z.2 W' w9.heap.size _ _ (pre ++ [z]) hmt.1 (SpotOk.to hI k x _ _) hs h69 HRo.out (fun W'' hv hm'' => ⟨?_, hmt.2.trans hv.turn⟩) _ _ _ _ _ _ _ _ _ _ _ _ _ _ _ _ _ _ _ _ _ _ _ _ _ _ _ _ _ _ _ _ _ _ _ _ _ _ _ _ _ _ _ _ _ _ _ _ _ _ _ _ _ _ _ _ _ _ _ _ _ _ _ _ _ _ _ _ _ _ _ _ _ _ _ _ _ _ _ _ _ _ _ _ _ _ _ _ _ _ _ _ _ _ _ _ _ _ _ _ _ _ _ _ _ _
   rw [List.map_append, List.map_cons, List.map_nil, spotTo_snoc]
   exact hm''
  case done =>
   rintro D ys W' hD rfl ⟨hs', ht'⟩ hK
   subst hfr
   dsimp only
   rw [backTo_snd] at hs'
   have ok := SpotOk.to (O := O) hI k x (meetTo g I O k) x.nodes.reverse
   have HOk := Lib.hid ok
   have HT' := Lib.hid ht'; have HK := Lib.hid hK; have HD := Lib.hid hD
   have HS' := Lib.hid hs'
   obtain ⟨vp, hp1, hp2⟩ := hs'.phis
   have HP1 := Lib.hid hp1; have HP2 := Lib.hid hp2
   have hq := HqD.out
   subst hq
   have f3 := HS'.out.cells.1
   have fm := HS'.out.cells.2.2.2.2
   have fp := HP1.out.cell
   simp only at f3 fm fp
   clear ok ht' hK hD hs' hp1 hp2
   have hpl : (spotTo g I O k x (meetTo g I O k) x.nodes.reverse).phis.length ≤ lim := by have := bounded_len HOk.out.one HOk.out.phis; unfold lim; omega
   go_wp2_with (go_at_call 76; refine (told_any W' o.bo o.bm o.ro _ _ _ true HS'.out.rows (OwnInts.ints HP2.out hpl) HOk.out.one (fun z hz => by have := HOk.out.phis z hz; rw [HRo.out] at this; exact this) (by have := HRo.out; omega) fm).mono ?_; rintro e w10 ⟨rfl, hr10, ht10⟩; rw [tell_clique _ _ HOk.out.one] at hr10; have HR10 := Lib.hid hr10; have HT10 := Lib.hid ht10; clear hr10 ht10)
   have hBt : TurnB w6.heap.size w6 W' ((W.heap.size + 1) :: o.ro) := (TurnB.of_below HB69.out).trans HT'.out
   obtain ⟨r1, r2, r3, r4⟩ := iter_end (D := D) HP6.out HB6.out hlow hb0 ht hds rfl rfl rfl rfl rfl rfl HS'.out hBt (by have := HD.out; have := HB69.out.size; omega) HK.out HR10.out HT10.out
   refine hnext hlt _ _ _ _ _ _ _ _ _ _ _ _ _ _ _ _ _ _ _ _ _ _ _ _ _ _ _ _ _ _ _ _ _ _ _ _ _ _ _ _ _ _ _ ?_ r2 r3 r4
   rw [meetTo_step g I O k x HX.out]
   exact r1
  case stop => rintro D c pre W' _ _ h _; exact h.elim
 ·go_wp2_with fail
  exact hexit (by omega)

end Go.Proofs.YtkmfdiboekoioaaGreat

/- The loop of alloc.spots over the blocks. Conditions: a graph that is small; a map for each node. -/
namespace Go.Proofs.YtkmfdiboekoioaaGreat
open Go.RowKit Go.Shelf
attribute [local go_sem] Oper.semAt_some

def SpotsIs (g : GraphP) (bo : Nat) (ro : List Nat) (w : World) (e : Ending) (w' : World) : Prop := e = .returned (.tuple #[]) ∧ ∃ I O, LiveIs g I O ∧ MRow w' bo ro (meetAll g I O) ∧ Turned w w' ro
/-- What holds at the head of the loop over the blocks. -/
def AtBlock (W0 : World) (o : OutNums) (vn vs : Value) (Ab : Option Addr) (cb : Nat) (g : GraphP) (I O : Sets) (base0 : Nat) (a : Act) (W : World) : Prop :=
 ∃ (k : Nat) (ds : List Deferred) (u0 u1 u6 u7 u8 u9 u10 u11 u12 u13 u14 u15 u16 u17 u18 u22 u23 u24 u25 u26 u27 u28 u29 u30 u31 u32 u33 u34 u35 u36 u37 u38 u39 u40 u41 u42 u43 u44 u45 u46 u47 u48 u49 u50 u51 u52 u53 u54 u55 u56 u57 u58 u59 u60 u61 u62 u63 u64 u65 u66 u67 u68 u69 u70 u71 u72 u73 u74 u75 u76 u77 u78 u79 u80 u81 u82 u83 u84 u85 u86 u87 u88 u89 u90 u91 u92 u93 u94 u95 u96 u97 u98 u99 u100 u101 u102 u103 u104 u105 u106 u107 u108 u109 u110 u111 u112 u113 : Value), k ≤ g.blocks.length ∧ OutMem o ⟨vn, .slice Ab g.blocks.length cb, vs⟩ g (listsTo g.nodes.length I g.blocks.length) (listsTo g.nodes.length O g.blocks.length) W (meetTo g I O k) ∧ MarksOk base0 W ds ∧ base0 ≤ W.heap.size ∧ TurnB base0 W0 W o.ro ∧ a = ⟨#[u0, u1, .pointer (some ⟨o.g2, 0, none⟩), .pointer (some ⟨o.t3, 0, none⟩), .pointer (some ⟨o.l4, 0, none⟩), .pointer (some ⟨o.h5, 0, none⟩), u6, u7, u8, u9, u10, u11, u12, u13, u14, u15, u16, u17, u18, .slice Ab g.blocks.length cb, .int .i64 g.blocks.length, .int .i64 k, u22, u23, u24, u25, u26, u27, u28, u29, u30, u31, u32, u33, u34, u35, u36, u37, u38, u39, u40, u41, u42, u43, u44, u45, u46, u47, u48, u49, u50, u51, u52, u53, u54, u55, u56, u57, u58, u59, u60, u61, u62, u63, u64, u65, u66, u67, u68, u69, u70, u71, u72, u73, u74, u75, u76, u77, u78, u79, u80, u81, u82, u83, u84, u85, u86, u87, u88, u89, u90, u91, u92, u93, u94, u95, u96, u97, u98, u99, u100, u101, u102, u103, u104, u105, u106, u107, u108, u109, u110, u111, u112, u113], ds⟩
set_option maxRecDepth 100000 in
set_option maxHeartbeats 16000000 in
theorem blocks_any (W0 W : World) (o : OutNums) (vn vs : Value) (Ab : Option Addr) (cb : Nat) (g : GraphP) (I O : Sets) (base0 : Nat) (hs : Small g) (hI : ∀ b, Bounded g.nodes.length (I.at_ b)) (hlow : OutLow o base0) (hro : g.nodes.length = o.ro.length) (a : Act) (Q : Exit → Act → World → Prop)
  (h0 : AtBlock W0 o vn vs Ab cb g I O base0 a W)
  (hQ : ∀ (a' : Act) (W' : World) (ds : List Deferred), a'.defers = ds → OutMem o ⟨vn, .slice Ab g.blocks.length cb, vs⟩ g (listsTo g.nodes.length I g.blocks.length) (listsTo g.nodes.length O g.blocks.length) W' (meetAll g I O) → MarksOk base0 W' ds → base0 ≤ W'.heap.size → TurnB base0 W0 W' o.ro → Q (.exit 0) a' W') :
  Code.wp Tryz.prog (Code.loop spotsLoop) Q a W := by
 refine wp_loop (AtBlock W0 o vn vs Ab cb g I O base0) (fun a _ => g.blocks.length - (intOf (a.tmps.getD 21 undef)).toNat) h0 ?_
 rintro a w ⟨k, ds, u0, u1, u6, u7, u8, u9, u10, u11, u12, u13, u14, u15, u16, u17, u18, u22, u23, u24, u25, u26, u27, u28, u29, u30, u31, u32, u33, u34, u35, u36, u37, u38, u39, u40, u41, u42, u43, u44, u45, u46, u47, u48, u49, u50, u51, u52, u53, u54, u55, u56, u57, u58, u59, u60, u61, u62, u63, u64, u65, u66, u67, u68, u69, u70, u71, u72, u73, u74, u75, u76, u77, u78, u79, u80, u81, u82, u83, u84, u85, u86, u87, u88, u89, u90, u91, u92, u93, u94, u95, u96, u97, u98, u99, u100, u101, u102, u103, u104, u105, u106, u107, u108, u109, u110, u111, u112, u113, hk, hm, hds, hb0, ht, rfl⟩
 refine iter_any W0 w o vn vs Ab cb g I O base0 k ds hs hI hm hds hb0 hlow ht hro _ _ _ _ _ _ _ _ _ _ _ _ _ _ _ _ _ _ _ _ _ _ _ _ _ _ _ _ _ _ _ _ _ _ _ _ _ _ _ _ _ _ _ _ _ _ _ _ _ _ _ _ _ _ _ _ _ _ _ _ _ _ _ _ _ _ _ _ _ _ _ _ _ _ _ _ _ _ _ _ _ _ _ _ _ _ _ _ _ _ _ _ _ _ _ _ _ _ _ _ _ _ _ _ _ _ _ _ ?_ ?_
 ·intro hge
  have e : k = g.blocks.length := by omega
  subst e
  exact hQ _ _ _ rfl hm hds hb0 ht
 ·intro hlt x6 x7 x8 x9 x10 x22 x23 x24 x25 x26 x27 x28 x29 x30 x31 x32 x33 x34 x35 x36 x37 x38 x39 x40 x41 x42 x43 x44 x45 x46 x47 x48 x49 x50 x51 x52 x53 x110 x111 x112 x113 ds' W' h1 h2 h3 h4
  refine ⟨⟨k + 1, ds', _, _, _, _, _, _, _, _, _, _, _, _, _, _, _, _, _, _, _, _, _, _, _, _, _, _, _, _, _, _, _, _, _, _, _, _, _, _, _, _, _, _, _, _, _, _, _, _, _, _, _, _, _, _, _, _, _, _, _, _, _, _, _, _, _, _, _, _, _, _, _, _, _, _, _, _, _, _, _, _, _, _, _, _, _, _, _, _, _, _, _, _, _, _, _, _, _, _, _, _, _, _, _, _, _, _, _, by omega, h1, h2, h3, h4, rfl⟩, ?_⟩
  show g.blocks.length - (intOf (.int .i64 ((k : Int) + 1))).toNat < g.blocks.length - (intOf (.int .i64 (k : Int))).toNat
  simp only [intOf]
  omega

end Go.Proofs.YtkmfdiboekoioaaGreat

/- The walk of alloc.spots, told of by alloc.meets's function. Conditions: a graph that is small; a map for each node. -/
namespace Go.Proofs.YtkmfdiboekoioaaGreat
open Go.RowKit Go.Shelf
attribute [local go_sem] Oper.semAt_some
/-- The memory of alloc.spots where its loop begins. -/
theorem spots_first {w w1 : World} {xv : GVals} {g : GraphP} {bo bm : Nat} {ro : List Nat} {LI LO : List (List Int)} {vI vO : Value} (hg : GraphV w w.heap.size xv g) (hM : MRow w bo ro (fun _ _ => false)) (hout : Blk w bm 73 #[.slice (some ⟨bo, 0, none⟩) ro.length ro.length])
  (hb : Below ((w.alloc (.cells (gbox g xv) 28)).alloc (.cells #[.func (.func 76) #[] #[.pointer (some ⟨bm, 0, none⟩)]] 122)).heap.size ((w.alloc (.cells (gbox g xv) 28)).alloc (.cells #[.func (.func 76) #[] #[.pointer (some ⟨bm, 0, none⟩)]] 122)) w1)
  (hI : RowsV w1 w1.heap.size vI LI) (hO : RowsV w1 w1.heap.size vO LO) :
  ∃ w3 : World, w3 = (w1.alloc (.cells #[vI, vO] 45)).alloc (.cells #[.func (.func 117) #[] #[.pointer (some ⟨w.heap.size, 0, none⟩)]] 90) ∧
   OutMem ⟨w.heap.size, w.heap.size, w.heap.size + 1, w1.heap.size, w1.heap.size + 1, bo, bm, w1.heap.size, ro, vI, vO⟩ xv g LI LO w3 (fun _ _ => false) ∧
   OutLow ⟨w.heap.size, w.heap.size, w.heap.size + 1, w1.heap.size, w1.heap.size + 1, bo, bm, w1.heap.size, ro, vI, vO⟩ w3.heap.size ∧ Below w.heap.size w w3 := by
 have hz := hb.size
 rw [World.size_alloc, World.size_alloc] at hz
 have h13 : Below w1.heap.size w1 ((w1.alloc (.cells #[vI, vO] 45)).alloc (.cells #[.func (.func 117) #[] #[.pointer (some ⟨w.heap.size, 0, none⟩)]] 90)) := ((Below.refl _ _).alloc (Nat.le_refl _) _).alloc (by simp) _
 have hA : Below w.heap.size w ((w.alloc (.cells (gbox g xv) 28)).alloc (.cells #[.func (.func 76) #[] #[.pointer (some ⟨bm, 0, none⟩)]] 122)) := ((Below.refl _ _).alloc (Nat.le_refl _) _).alloc (by simp) _
 have hw : Below w.heap.size w ((w1.alloc (.cells #[vI, vO] 45)).alloc (.cells #[.func (.func 117) #[] #[.pointer (some ⟨w.heap.size, 0, none⟩)]] 90)) := (hA.trans (hb.mono (by simp; omega))).trans (h13.mono (by omega))
 have hA3 := hb.trans (h13.mono (by simp; omega))
 refine ⟨_, rfl, ⟨⟨hg.keep (Same.of_below hw), hw.size, ?_⟩, ?_, ?_, ?_, hI.keep (Same.of_below h13), hO.keep (Same.of_below h13), h13.size, hout.below hw hout.lt, hM.later hw⟩, ?_, hw⟩
 ·exact ((Blk.new w 28 (gbox g xv)).alloc _).below hA3 (by simp; omega)
 ·have := Blk.new (w.alloc (.cells (gbox g xv) 28)) 122 #[.func (.func 76) #[] #[.pointer (some ⟨bm, 0, none⟩)]]
  rw [World.size_alloc] at this
  exact this.below hA3 (by simp)
 ·have := Blk.new (w1.alloc (.cells #[vI, vO] 45)) 90 #[.func (.func 117) #[] #[.pointer (some ⟨w.heap.size, 0, none⟩)]]
  rw [World.size_alloc] at this
  exact this
 ·exact (Blk.new w1 _ _).alloc _
 ·have l1 := hM.row.lt
  have l2 := hout.lt
  refine ⟨?_, ?_, ?_, ?_, ?_, ?_, fun r hr => ?_⟩
  all_goals simp only [World.size_alloc]
  ·omega
  ·omega
  ·omega
  ·omega
  ·omega
  ·omega
  ·obtain ⟨p, hp⟩ := hM.isMap hr
   have := hp.lt
   omega
set_option maxRecDepth 100000 in
set_option maxHeartbeats 16000000 in
theorem spots_any (w : World) (xv : GVals) (g : GraphP) (bo bm : Nat) (ro : List Nat) (hg : GraphV w w.heap.size xv g) (hs : Small g) (hM : MRow w bo ro (fun _ _ => false)) (hout : Blk w bm 73 #[.slice (some ⟨bo, 0, none⟩) ro.length ro.length]) (hro : g.nodes.length = ro.length) :
  Calls Tryz.prog 75 #[gval g xv, .func (.func 76) #[] #[.pointer (some ⟨bm, 0, none⟩)]] w (SpotsIs g bo ro w) := by
 obtain ⟨vn, vb, vs⟩ := xv
 have HG := Lib.hid hg
 obtain ⟨hn, hb, _⟩ := hg
 simp only at hn hb
 obtain ⟨Ab, cb, rfl, hcb, hlb, _⟩ := hb
 obtain ⟨An, cn, rfl, hcn, hln, _⟩ := hn
 obtain ⟨l1, l2, l3⟩ := hs.lens
 have HM := Lib.hid hM; have HOut := Lib.hid hout; have HRo := Lib.hid hro
 clear hM hout hro
 refine (callsIn_wide (n := 3)).1 ?_
 refine callsIn_of_wp_marks Tryz.func75 rfl trivial ?_ rfl
 refine wpIn_wide.2 ?_
 simp only [Tryz.ntmps75, List.size_toArray, List.length_cons, List.length_nil, Nat.reduceAdd, Nat.reduceSub, Array.replicate_succ, Array.replicate_zero, List.push_toArray, List.append_toArray, List.nil_append, List.cons_append]
 unfold gval
 go_upto_region 2 with (go_at_call 15; refine (live_any _ ⟨.slice An g.nodes.length cn, .slice Ab g.blocks.length cb, vs⟩ g ((HG.out.later (((Below.refl w.heap.size w).alloc (Nat.le_refl _) _).alloc (by simp) _) (Nat.le_refl _))) hs).mono ?_; rintro e w1 ⟨I, O, vI, vO, rfl, hL, hrI, hrO, hb1⟩; have HL := Lib.hid hL; have HrI := Lib.hid hrI; have HrO := Lib.hid hrO; have HB1 := Lib.hid hb1; obtain ⟨AI, cI, rfl, _⟩ := hrI; obtain ⟨AO, cO, rfl, _⟩ := hrO; clear hL hb1)
 obtain ⟨w3, hw3, hm3, hl3, hb3⟩ := spots_first HG.out HM.out HOut.out HB1.out HrI.out HrO.out
 have HM3 := Lib.hid hm3; have HL3 := Lib.hid hl3; have HB3 := Lib.hid hb3; have HW3 := Lib.hid hw3
 clear hw3 hm3 hl3 hb3
 go_upto_region 3 with fail
 rw [← HW3.out]
 obtain ⟨q0, q1, q2, q3, q4, q5⟩ := HM3.out.gr.cells
 simp only at q4
 clear q0 q1 q2 q3 q5
 go_wp2_with fail
 refine blocks_any w3 w3 ⟨w.heap.size, w.heap.size, w.heap.size + 1, w1.heap.size, w1.heap.size + 1, bo, bm, w1.heap.size, ro, .slice AI (listsTo g.nodes.length I g.blocks.length).length cI, .slice AO (listsTo g.nodes.length O g.blocks.length).length cO⟩ (.slice An g.nodes.length cn) vs Ab cb g I O w3.heap.size hs HL.out.boundI HL3.out HRo.out _ _ ?_ ?_
 ·exact ⟨0, [], _, _, _, _, _, _, _, _, _, _, _, _, _, _, _, _, _, _, _, _, _, _, _, _, _, _, _, _, _, _, _, _, _, _, _, _, _, _, _, _, _, _, _, _, _, _, _, _, _, _, _, _, _, _, _, _, _, _, _, _, _, _, _, _, _, _, _, _, _, _, _, _, _, _, _, _, _, _, _, _, _, _, _, _, _, _, _, _, _, _, _, _, _, _, _, _, _, _, _, _, _, _, _, _, _, _, _, Nat.zero_le _, HM3.out, MarksOk.nil _ _, Nat.le_refl _, TurnB.refl _ _ _, rfl⟩
 ·rintro a' W' ds rfl hm hds hb ht
  have HMw := Lib.hid hm; have HTw := Lib.hid ht
  simp only [Exit.inBlock, if_true]
  refine MarksOk.leaves _ W' hds (fun W2 hb2 _ => ?_)
  refine ⟨_, results_none rfl _ _ _, rfl, I, O, HL.out, ⟨HMw.out.rows.row.below hb2 HL3.out.bo, HMw.out.rows.one, fun j r hj => IMap.below (HMw.out.rows.maps j r hj) hb2 (HL3.out.ro r (List.mem_of_getElem? hj))⟩, ?_⟩
  have t := HTw.out
  have b := HB3.out
  exact ⟨hb2.os.trans (t.os.trans b.os), hb2.tape.trans (t.tape.trans b.tape), hb2.output.trans (t.output.trans b.output), Nat.le_trans b.size (Nat.le_trans t.size hb2.size),
   fun k hk hn => (hb2.block k (Nat.lt_of_lt_of_le hk b.size)).trans ((t.block k (Nat.lt_of_lt_of_le hk b.size) hn).trans (b.block k hk))⟩
end Go.Proofs.YtkmfdiboekoioaaGreat

/- The walk of alloc.meets. Conditions: a graph that is small. -/
namespace Go.Proofs.YtkmfdiboekoioaaGreat
open Go.RowKit

/-- What meets is among the nodes. -/
def MeetIn (N : Nat) (R : Meets) : Prop := ∀ x y, R x y = true → (0 ≤ x ∧ x < (N : Int)) ∧ (0 ≤ y ∧ y < (N : Int))
theorem MeetIn.star {N : Nat} {R : Meets} (h : MeetIn N R) {n : Int} {p : ISet} (hn : 0 ≤ n ∧ n < (N : Int)) (hp : Bounded N p) : MeetIn N (star R n p) := fun x y hxy => by
 simp only [Go.Proofs.YtkmfdiboekoioaaGreat.star, Bool.or_eq_true, Bool.and_eq_true, beq_iff_eq] at hxy
 rcases hxy with (hxy | ⟨rfl, hy⟩) | ⟨rfl, hx⟩
 ·exact h x y hxy
 ·exact ⟨hn, hp y hy⟩
 ·exact ⟨hp x hx, hn⟩
theorem MeetIn.clique {N : Nat} {R : Meets} (h : MeetIn N R) {l : List Int} (hl : ∀ x ∈ l, 0 ≤ x ∧ x < (N : Int)) : MeetIn N (clique R l) := fun x y hxy => by
 simp only [Go.Proofs.YtkmfdiboekoioaaGreat.clique, Bool.or_eq_true, Bool.and_eq_true, List.contains_iff_mem] at hxy
 rcases hxy with hxy | ⟨⟨hx, hy⟩, _⟩
 ·exact h x y hxy
 ·exact ⟨hl x hx, hl y hy⟩
theorem MeetIn.step {g : GraphP} {s : Spot} (h : MeetIn g.nodes.length s.meet) (ok : SpotOk g s) (n : Int) : MeetIn g.nodes.length (spotStep g s n).meet := by
 cases hn : nodeAt g n with
 | none => rw [spotStep_none hn]; exact h
 | some y =>
  have hr := nodeAt_range.1 (show (nodeAt g n).isSome = true by rw [hn]; rfl)
  by_cases ho : y.op = 2
  ·rw [spotStep_phi hn ho]; exact h
  ·rw [spotStep_other hn ho]; exact h.star hr (del_bounded n ok.now)
theorem meetIn_to {g : GraphP} {I O : Sets} (hI : ∀ b, Bounded g.nodes.length (I.at_ b)) (b : Nat) (x : BlockP) {R : Meets} (hR : MeetIn g.nodes.length R) (pre : List Int) : MeetIn g.nodes.length (spotTo g I O b x R pre).meet := by
 unfold spotTo
 have : ∀ (l : List Int) (s : Spot), SpotOk g s → MeetIn g.nodes.length s.meet → MeetIn g.nodes.length (l.foldl (spotStep g) s).meet := fun l => by
  induction l with
  | nil => exact fun s _ h => h
  | cons n l ih => exact fun s ok h => ih _ (ok.step n) (h.step ok n)
 exact this _ _ (SpotOk.first hI b x R) hR
theorem meetIn_all {g : GraphP} {I O : Sets} (hI : ∀ b, Bounded g.nodes.length (I.at_ b)) : ∀ k, MeetIn g.nodes.length (meetTo g I O k)
 | 0 => fun x y h => by cases h
 | k + 1 => by
  cases hx : g.blocks[k]? with
  | none =>
   have : meetTo g I O (k + 1) = meetTo g I O k := by
    unfold meetTo
    rw [List.range_succ, List.foldl_append]
    simp only [List.foldl_cons, List.foldl_nil, hx]
   rw [this]; exact meetIn_all hI k
  | some x =>
   rw [meetTo_step g I O k x hx]
   exact (meetIn_to hI k x (meetIn_all hI k) _).clique (SpotOk.to (O := O) hI k x _ _).phis

theorem map_info : (Tryz.prog.info? 76).map (fun i => (i.zero, i.size, i.bytes)) = some (some (.map none), 1, 8) := by kernel_rfl
/-- The first maps of a row are made. -/
structure MPart (w : World) (bo N : Nat) (ro : List Nat) : Prop where
 row : Blk w bo 76 ((ro.map (fun r => Value.map (some r)) ++ List.replicate (N - ro.length) (Value.map none)).toArray)
 one : ro.Nodup
 maps : ∀ r ∈ ro, SetM w r (fun _ => false)
theorem MPart.put {w : World} {bo N : Nat} {ro : List Nat} (h : MPart w bo N ro) (hlt : ro.length < N) (hw : bo < w.heap.size) :
  MPart ((w.alloc (.map #[] 0)).setCell ⟨bo, ro.length, none⟩ (.map (some w.heap.size))) bo N (ro ++ [w.heap.size]) := by
 have hn : w.heap.size ∉ ro := fun hm => Nat.lt_irrefl _ (h.maps _ hm).lt
 refine ⟨?_, ?_, fun r hr => ?_⟩
 ·have := (h.row.alloc (.map #[] 0)).set_ ro.length (.map (some w.heap.size))
  have e : N - ro.length = (N - (ro.length + 1)) + 1 := by omega
  rw [e, List.replicate_succ] at this
  have e2 : ((List.map (fun r => Value.map (some r)) ro ++ Value.map none :: List.replicate (N - (ro.length + 1)) (Value.map none)).toArray).setIfInBounds ro.length (.map (some w.heap.size)) =
    ((ro ++ [w.heap.size]).map (fun r => Value.map (some r)) ++ List.replicate (N - (ro ++ [w.heap.size]).length) (Value.map none)).toArray := by
   simp
  rw [e2] at this
  exact this
 ·rw [List.nodup_append]
  exact ⟨h.one, by simp, fun a ha b hb => by simp only [List.mem_singleton] at hb; subst hb; exact fun e => hn (e ▸ ha)⟩
 ·rcases List.mem_append.1 hr with hr | hr
  ·exact IMap.setCell ((h.maps r hr).alloc _) _ _
  ·simp only [List.mem_singleton] at hr
   subst hr
   exact IMap.setCell (IMap.made w) _ _
theorem MPart.all {w : World} {bo N : Nat} {ro : List Nat} (h : MPart w bo N ro) (hN : ro.length = N) : MRow w bo ro (fun _ _ => false) :=
 ⟨by have := h.row; rwa [hN, Nat.sub_self, List.replicate_zero, List.append_nil] at this, h.one, fun j r hj => h.maps r (List.mem_of_getElem? hj)⟩

def MeetsIs (g : GraphP) (w : World) (e : Ending) (w' : World) : Prop :=
 ∃ (bo : Nat) (ro : List Nat) (I O : Sets), e = .returned (.slice (some ⟨bo, 0, none⟩) g.nodes.length g.nodes.length) ∧ ro.length = g.nodes.length ∧ LiveIs g I O ∧ MRow w' bo ro (meetAll g I O) ∧ Below w.heap.size w w'
theorem MPart.cellK {w : World} {bo N : Nat} {ro : List Nat} (h : MPart w bo N ro) (hlt : ro.length < N) : w.cell? ⟨bo, ro.length, none⟩ = some (.map none) := by
 rw [h.row.cell]
 simp only [List.getElem?_toArray]
 rw [List.getElem?_append_right (by simp)]
 simp only [List.length_map, Nat.sub_self]
 rw [List.getElem?_replicate, if_pos (by omega)]
theorem MPart.first {w : World} {bo N : Nat} (hb : Blk w bo 76 (madeCells #[.map none] N)) : MPart w bo N [] := by
 refine ⟨?_, by simp, fun r hr => by cases hr⟩
 have e : madeCells #[Value.map none] N = (List.map (fun r => Value.map (some r)) [] ++ List.replicate (N - List.length ([] : List Nat)) (Value.map none)).toArray := by
  apply Array.ext_getElem?
  intro i
  by_cases hi : i < N
  ·simp [madeCells, hi, Nat.mod_one]
  ·simp [madeCells, hi]
 rw [e] at hb
 exact hb
/-- The memory of alloc.meets while the maps are made. -/
structure MMem (w : World) (g : GraphP) (xv : GVals) (wr : World) (ro : List Nat) : Prop where
 part : MPart wr (w.heap.size + 1) g.nodes.length ro
 box : Blk wr w.heap.size 28 (gbox g xv)
 out : Blk wr (w.heap.size + 2) 73 #[.slice (some ⟨w.heap.size + 1, 0, none⟩) g.nodes.length g.nodes.length]
 low : Below w.heap.size w wr
 new : ∀ r ∈ ro, w.heap.size ≤ r
theorem MMem.put {w : World} {g : GraphP} {xv : GVals} {wr : World} {ro : List Nat} (h : MMem w g xv wr ro) (hlt : ro.length < g.nodes.length) :
  MMem w g xv ((wr.alloc (.map #[] 0)).setCell ⟨w.heap.size + 1, ro.length, none⟩ (.map (some wr.heap.size))) (ro ++ [wr.heap.size]) :=
 ⟨h.part.put hlt h.part.row.lt, (h.box.alloc _).far (p := ⟨w.heap.size + 1, ro.length, none⟩) (show w.heap.size ≠ w.heap.size + 1 by omega) _, (h.out.alloc _).far (p := ⟨w.heap.size + 1, ro.length, none⟩) (show w.heap.size + 2 ≠ w.heap.size + 1 by omega) _,
  (h.low.alloc h.low.size _).setCell (p := ⟨w.heap.size + 1, ro.length, none⟩) (show w.heap.size ≤ w.heap.size + 1 by omega) _, fun r hr => by
   rcases List.mem_append.1 hr with hr | hr
   ·exact h.new r hr
   ·simp only [List.mem_singleton] at hr; subst hr; exact h.low.size⟩
set_option maxRecDepth 100000 in
set_option maxHeartbeats 4000000 in
theorem meets_any (w : World) (xv : GVals) (g : GraphP) (hg : GraphV w w.heap.size xv g) (hs : Small g) : Calls Tryz.prog 31 #[gval g xv] w (MeetsIs g w) := by
 obtain ⟨vn, vb, vs⟩ := xv
 have HG := Lib.hid hg
 obtain ⟨hn, _, _⟩ := hg
 simp only at hn
 obtain ⟨An, cn, rfl, hcn, hln, hn⟩ := hn
 clear hn
 obtain ⟨l1, l2, l3⟩ := hs.lens
 obtain ⟨i0, hi, hz0, hz1, hz2⟩ := info_parts map_info
 have hmk := fun W : World => run_make (P := Tryz.prog) W 73 76 i0 (.map none) Tryz.underlying73 hi hz0 .i64 .i64 (g.nodes.length : Int) (g.nodes.length : Int) (by omega) (Int.le_refl _) (by rw [hz2]; omega) (by omega)
 simp only [hz1, Int.toNat_natCast, Value.cells, Nat.mul_one] at hmk
 have hmm := @run_makeMap Tryz.prog
 unfold gval
 go_enter Tryz.func31, Tryz.ntmps31
 go_wp2_with fail
 go_loopw [11] (fun i wr => ∃ ro : List Nat, i = .int .i64 (ro.length : Int) ∧ ro.length ≤ g.nodes.length ∧ Hid (MMem w g ⟨.slice An g.nodes.length cn, vb, vs⟩ wr ro)) (fun i _ => g.nodes.length - (intOf i).toNat)
 case atStart =>
  refine ⟨[], rfl, Nat.zero_le _, Lib.hid ⟨?_, ((Blk.new w _ _).alloc _).alloc _, ?_, (((Below.refl _ _).alloc (Nat.le_refl _) _).alloc (by simp) _).alloc (by simp; omega) _, fun r hr => by cases hr⟩⟩
  ·refine MPart.first ?_
   have := (Blk.new (w.alloc (.cells (gbox g ⟨.slice An g.nodes.length cn, vb, vs⟩) 28)) 76 (madeCells #[.map none] g.nodes.length)).alloc (.cells #[.slice (some ⟨w.heap.size + 1, 0, none⟩) g.nodes.length g.nodes.length] 73)
   rw [World.size_alloc] at this
   exact this
  ·have := Blk.new ((w.alloc (.cells (gbox g ⟨.slice An g.nodes.length cn, vb, vs⟩) 28)).alloc (.cells (madeCells #[.map none] g.nodes.length) 76)) 73 #[.slice (some ⟨w.heap.size + 1, 0, none⟩) g.nodes.length g.nodes.length]
   rw [World.size_alloc, World.size_alloc] at this
   exact this
 case round =>
  obtain ⟨ro, rfl, hle, HM⟩ := hrel
  clear hmk
  have o0 : wr.cell? ⟨w.heap.size + 2, 0, none⟩ = some (.slice (some ⟨w.heap.size + 1, 0, none⟩) g.nodes.length g.nodes.length) := HM.out.out.cell 0
  by_cases hlt : ro.length < g.nodes.length
  ·have o1 := HM.out.part.cellK hlt
   have o2 := HM.out.part.row.frozen ro.length
   have o3 := HM.out.part.row.lt
   go_wp2_with fail
   go_roundw
   case rel => exact ⟨ro ++ [wr.heap.size], by simp, by simp; omega, Lib.hid (by rw [← World.setCell_alloc_past _ _ _ _ HM.out.part.row.lt]; exact HM.out.put hlt)⟩
   case measure => simp [intOf]; omega
  ·have HE := Lib.hid (show ro.length = g.nodes.length by omega)
   have q0 : wr.cell? ⟨w.heap.size, 0, none⟩ = some (.int .i64 g.fn) := HM.out.box.cell 0
   have q1 : wr.cell? ⟨w.heap.size, 1, none⟩ = some (.int .i64 g.pc) := HM.out.box.cell 1
   have q2 : wr.cell? ⟨w.heap.size, 2, none⟩ = some (.int .i64 g.slots) := HM.out.box.cell 2
   have q3 : wr.cell? ⟨w.heap.size, 3, none⟩ = some (.slice An g.nodes.length cn) := HM.out.box.cell 3
   have q4 : wr.cell? ⟨w.heap.size, 4, none⟩ = some vb := HM.out.box.cell 4
   have q5 : wr.cell? ⟨w.heap.size, 5, none⟩ = some vs := HM.out.box.cell 5
   go_wp2_with (go_at_call 75; refine (spots_any wr ⟨.slice An g.nodes.length cn, vb, vs⟩ g (w.heap.size + 1) (w.heap.size + 2) ro (HG.out.later HM.out.low (Nat.le_refl _)) hs (HM.out.part.all HE.out) (by have := HM.out.out; rwa [← HE.out] at this) HE.out.symm).mono ?_; rintro e w2 ⟨rfl, I, O, hL, hr2, ht2⟩; have HL := Lib.hid hL; have HR2 := Lib.hid hr2; have HT2 := Lib.hid ht2; have o4 := (HM.out.part.all HE.out).cell ht2 o0; clear hL hr2 ht2 o0 q0 q1 q2 q3 q4 q5)
   go_ret
   refine ⟨w.heap.size + 1, ro, I, O, rfl, HE.out, HL.out, HR2.out, HM.out.low.trans ?_⟩
   have t := HT2.out
   exact ⟨t.os, t.tape, t.output, t.size, fun k hk => t.block k (Nat.lt_of_lt_of_le hk HM.out.low.size) (fun hm => by
    have := HM.out.new k hm; omega)⟩
end Go.Proofs.YtkmfdiboekoioaaGreat
