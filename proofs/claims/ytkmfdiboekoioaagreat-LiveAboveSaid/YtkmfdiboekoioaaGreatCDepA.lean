/- verify.depths: how it ends; words for a round. No condition. -/
import Derived.Test.YtkmfdiboekoioaaGreatCDep1
import Derived.RangeFuncBox
import Derived.Deep.LoopGhost
import Derived.Laws.ResultCell
set_option linter.unusedSimpArgs false
set_option linter.unusedVariables false
namespace Go.Proofs.YtkmfdiboekoioaaGreat
open Go.RowKit
def DepIs (x : FnP) (w : World) (e : Ending) (w' : World) : Prop :=
  ∃ v, e = .returned (.tuple #[v, .int .i64 (depthsP x).2]) ∧ (∀ l, (depthsP x).1 = some l → OwnInts w' w.heap.size v l ∧ DInv x.code.length ⟨l, [], true⟩) ∧ ((depthsP x).1 = none → v = .slice none 0 0) ∧ Below w.heap.size w w'
structure D0 (w : World) (B c rm : Nat) (pv : Value) (p : List FnP) (mk : FMap) (y : FVals) (x : FnP) (bf bt : Nat) (v : Value) (told : List Int) (W : World) : Prop where
  kc : KCtx W B c rm pv p mk
  fb : FBox W B bf y x
  tb : Blk W bt 34 #[v]
  tr : OwnInts W w.heap.size v told
  low : Below w.heap.size w W
  hB : B ≤ w.heap.size
  hbt : w.heap.size ≤ bt
section
variable {w : World} {B c rm bf bt gt ct : Nat} {pv : Value} {p : List FnP} {mk : FMap} {y : FVals} {x : FnP} {v : Value} {told : List Int} {W W' w4 : World}
theorem D0.put {tmp : Obj} {v' : Value} {told' : List Int} (h : D0 w B c rm pv p mk y x bf bt v told W) (ho : OwnInts w4 w.heap.size v' told') (hg : (W.alloc tmp).grownBy w4 v.ownBlock) :
    D0 w B c rm pv p mk y x bf bt v' told' (w4.setCell ⟨bt, 0, none⟩ v') ∧ Blk w4 bt 34 #[v] := by
  have ha : Below W.heap.size W (W.alloc tmp) := (Below.refl _ _).alloc (Nat.le_refl _) _
  have hr : OwnInts (W.alloc tmp) w.heap.size v told := ow_below h.tr ha
  have hka := h.kc.below ha
  have hfa := h.fb.below ha
  have ht4 : Blk w4 bt 34 #[v] := (h.tb.alloc tmp).grown hg (fun e => ow_ne_blk hr (h.tb.alloc tmp) (by decide) e.symm)
  have hc4 := hka.ck.grown hg (fun e => ow_ne_blk hr hka.ck (by decide) e.symm)
  have hf4 := hfa.box.grown hg (fun e => ow_ne_blk hr hfa.box (by decide) e.symm)
  have hm4 := IMap.grown hka.mp hg (fun e => ow_ne_map hr hka.mp e.symm)
  have hs := grown_set w4 bt 0 v'
  have hlow : Below w.heap.size W (w4.setCell ⟨bt, 0, none⟩ v') := (((Below.refl w.heap.size W).alloc h.low.size tmp).grown hg (by have := h.low.size; simp; omega) (fun k e => (World.ownsRow.lt hr k e).1)).setCell (p := ⟨bt, 0, none⟩) h.hbt _
  refine ⟨⟨⟨h.kc.pr.keep (Same.of_below (hlow.mono h.hB)), Nat.le_trans h.kc.hB hlow.size, hc4.far (p := ⟨bt, 0, none⟩) (Blk.ne hc4 ht4 (by decide)) _, IMap.grown hm4 hs (fun e => ?_), h.kc.hc, h.kc.hr⟩,
    ⟨h.fb.fn.keep (Same.of_below (hlow.mono h.hB)), Nat.le_trans h.fb.hB hlow.size, hf4.far (p := ⟨bt, 0, none⟩) (Blk.ne hf4 ht4 (by decide)) _⟩, ht4.set_ 0 v', ow_kept ho hs (.inr (ow_ne_blk ho ht4 (by decide))), h.low.trans hlow, h.hB, h.hbt⟩, ht4⟩
  injection e with e
  obtain ⟨es, cl, hh, _⟩ := hm4
  unfold Blk at ht4
  rw [e, ht4] at hh; cases hh
theorem QMem.setTold {base bq : Nat} {qv : Value} {todo : List Int} {k : Nat} (h : QMem base bt bq gt ct qv told todo W) (d : Int) (hk : k < told.length) : QMem base bt bq gt ct qv (told.set k d) todo (W.setCell ⟨gt, k, none⟩ (.int .i64 d)) := by
  have hg := grown_set W gt k (.int .i64 d)
  obtain ⟨cur, hb, hbg, hc, hm, hs, ht⟩ := h.ok.tell
  have hgl : gt < W.heap.size := (World.ownsRow.lt h.tr gt rfl).2
  have hb : W.heap[gt]? = some (.cells cur 3 (0, 0)) := (Below.heap_alloc W _ gt hgl).symm.trans hb
  have n1 : gt ≠ bt := fun e => ow_ne_blk h.tr h.tb (by decide) (congrArg some e)
  have n3 : gt ≠ bq := fun e => ow_ne_blk h.tr h.qb (by decide) (congrArg some e)
  refine ⟨?_, ?_, h.qb.far (p := ⟨gt, k, none⟩) (Ne.symm n3) _, ow_kept h.qr hg (.inr h.ne), h.ne, h.n2, h.hbt, h.hbq, Nat.le_trans h.hbW hg.size⟩
  · simp only [List.length_set]
    exact h.tb.far (p := ⟨gt, k, none⟩) (Ne.symm n1) _
  · simp only [List.length_set]
    refine own_set (cur := cur.setIfInBounds k (.int .i64 d)) (by simp) (by simp [World.setCell, Array.getElem?_modify, hb]) hbg hc hm (by simpa using hs) ?_
    rw [Array.toList_setIfInBounds, List.take_set, ht, List.map_set]
theorem D0.done {n : Nat} (h : D0 w B c rm pv p mk y x bf bt (.slice (some ⟨gt, 0, none⟩) n ct) (List.replicate n (-1)) W) (h0 : 0 < n) (hn : n = x.code.length) :
    LMem w B c rm pv p mk y x bf bt (W.heap.size + 1) gt ct (.slice (some ⟨W.heap.size, 0, none⟩) 1 1) (toldD x) [0] (((W.alloc (.cells #[.int .i64 0] 3)).alloc (.cells #[.slice (some ⟨W.heap.size, 0, none⟩) 1 1] 34)).setCell ⟨gt, 0, none⟩ (.int .i64 0)) := by
  subst hn
  obtain ⟨W2, hW2⟩ : ∃ W2, W2 = (W.alloc (.cells #[.int .i64 0] 3)).alloc (.cells #[.slice (some ⟨W.heap.size, 0, none⟩) 1 1] 34) := ⟨_, rfl⟩
  rw [← hW2]
  have h2 : Below W.heap.size W W2 := by rw [hW2]; exact ((Below.refl _ _).alloc (Nat.le_refl _) _).alloc (by simp) _
  have hlow := h.low.size
  have hgl := World.ownsRow.lt h.tr gt rfl
  have hq : QMem w.heap.size bt (W.heap.size + 1) gt ct (.slice (some ⟨W.heap.size, 0, none⟩) 1 1) (List.replicate x.code.length (-1)) [0] W2 := by
    refine ⟨?_, ?_, ?_, ?_, ?_, ?_, h.hbt, by omega, Nat.le_trans hlow h2.size⟩
    · rw [List.length_replicate]; exact h.tb.below h2 h.tb.lt
    · rw [List.length_replicate]; exact ow_below h.tr h2
    · have := Blk.new (W.alloc (.cells #[.int .i64 0] 3)) 34 #[.slice (some ⟨W.heap.size, 0, none⟩) 1 1]
      rw [World.size_alloc, ← hW2] at this
      exact this
    · have := (Blk.new W 3 #[.int .i64 0]).alloc (.cells #[.slice (some ⟨W.heap.size, 0, none⟩) 1 1] 34)
      rw [← hW2] at this
      exact own_set (l := [0]) rfl this hlow (Nat.le_refl _) (by decide) rfl rfl
    · intro e; injection e with e; have e : W.heap.size = gt := e; omega
    · have := h.tb.lt; omega
  have hg := grown_set W2 gt 0 (.int .i64 0)
  have hb : Below w.heap.size W2 (W2.setCell ⟨gt, 0, none⟩ (.int .i64 0)) := (Below.refl _ _).setCell (p := ⟨gt, 0, none⟩) hgl.1 _
  have hk2 := h.kc.below h2
  have hf2 := h.fb.below h2
  refine ⟨⟨hk2.pr.keep (Same.of_below (hb.mono h.hB)), Nat.le_trans hk2.hB hg.size, hk2.ck.far (p := ⟨gt, 0, none⟩) (fun e => ow_ne_blk hq.tr hk2.ck (by decide) (congrArg some e.symm)) _, IMap.grown hk2.mp hg (fun e => ow_ne_map hq.tr hk2.mp e.symm), hk2.hc, hk2.hr⟩,
    ⟨hf2.fn.keep (Same.of_below (hb.mono h.hB)), Nat.le_trans hf2.hB hg.size, hf2.box.far (p := ⟨gt, 0, none⟩) (fun e => ow_ne_blk hq.tr hf2.box (by decide) (congrArg some e.symm)) _⟩, hq.setTold 0 (by simpa using h0), (h.low.trans (h2.mono hlow)).trans hb, h.hB⟩
theorem D0.first {n : Nat} (h : D0 w B c rm pv p mk y x bf bt (.slice (some ⟨gt, 0, none⟩) n ct) (List.replicate n (-1)) W) (h0 : 0 < n) : W.cell? ⟨gt, 0, none⟩ = some (.int .i64 (-1)) ∧ W.frozen? ⟨gt, 0, none⟩ = false := by
  obtain ⟨m, rfl⟩ : ∃ m, n = m + 1 := ⟨n - 1, by omega⟩
  rcases h.tr.2 with ⟨e, _⟩ | ⟨g, cap, cur, e, hbg, hb, hc, hm, hs, ht⟩
  · cases e
  · injection e with e1 e2 e3
    injection e1 with e1
    injection e1 with e1
    subst e1 e3
    constructor
    · rw [cell_of_row W gt 0 cur _ (0, 0) hb]
      rw [List.length_replicate, Nat.mul_one] at ht
      have h2 := congrArg (fun l => l[0]?) ht
      simp only [List.getElem?_take] at h2
      rw [if_pos (by omega), Array.getElem?_toList] at h2
      rw [h2]
      simp [List.replicate_succ]
    · simp [World.frozen?, hb]
end

/-- The end: the told ones lie in a box. -/
theorem dep_ret {R : Ending → World → Prop} {a : Act} {W : World} {bt n c : Nat} {A : Option Addr} {z : Int} (hb : Blk W bt 34 #[.slice A n c]) (h4 : a.tmps.getD 4 undef = .pointer (some ⟨bt, 0, none⟩)) (h5 : a.tmps.getD 5 undef = .int .i64 z) (hd : a.defers = [])
    (hR : R (.returned (.tuple #[.slice A n c, .int .i64 z])) W) : bodyPost Tryz.prog Tryz.f85 R .ret a W := by
  refine bodyPost_ret (v := .tuple #[.slice A n c, .int .i64 z]) ?_ hd hR
  have hc : W.cell? ⟨bt, 0, none⟩ = some (.slice A n c) := hb.cell 0
  have hl := hb.lt
  rw [results_cell_tmp rfl, h4, h5]
  go_simp
theorem dep_bad {x : FnP} {w w1 W : World} {k gk : Nat} {told r : List Int} {i : InsP} {bt : Nat} {v : Value} {a : Act} (hi : x.code[k]? = some i) (he : depthsP x = runD x (gk + 2) told (r ++ [(k : Int)])) (hs : stepD x k i told r = none) (hbt : w.heap.size ≤ bt) (hb : Blk W bt 34 #[v]) (hlow : Below w.heap.size w W)
    (h4 : a.tmps.getD 4 undef = .pointer (some ⟨bt, 0, none⟩)) (h5 : a.tmps.getD 5 undef = .int .i64 k) (hd : a.defers = []) : bodyPost Tryz.prog Tryz.f85 (DepIs x w) .ret a (W.setCell ⟨bt, 0, none⟩ (.slice none 0 0)) := by
  refine dep_ret (hb.set_ 0 (.slice none 0 0)) h4 h5 hd ?_
  have he2 : depthsP x = (none, (k : Int)) := by rw [he, runD_step hi, hs]
  rw [DepIs, he2]
  exact ⟨_, rfl, (fun l hl => by cases hl), fun _ => rfl, hlow.setCell (p := ⟨bt, 0, none⟩) hbt _⟩
theorem dep_bad2 {x : FnP} {w W : World} {k gk : Nat} {told r : List Int} {i : InsP} {s : DSt} {bt : Nat} {v : Value} {a : Act} (hi : x.code[k]? = some i) (he : depthsP x = runD x (gk + 2) told (r ++ [(k : Int)])) (hs : stepD x k i told r = some s) (hok : s.ok = false) (hbt : w.heap.size ≤ bt) (hb : Blk W bt 34 #[v]) (hlow : Below w.heap.size w W)
    (h4 : a.tmps.getD 4 undef = .pointer (some ⟨bt, 0, none⟩)) (h5 : a.tmps.getD 5 undef = .int .i64 k) (hd : a.defers = []) : bodyPost Tryz.prog Tryz.f85 (DepIs x w) .ret a (W.setCell ⟨bt, 0, none⟩ (.slice none 0 0)) := by
  refine dep_ret (hb.set_ 0 (.slice none 0 0)) h4 h5 hd ?_
  have he2 : depthsP x = (none, (k : Int)) := by rw [he, runD_step hi, hs]; simp [hok]
  rw [DepIs, he2]
  exact ⟨_, rfl, (fun l hl => by cases hl), fun _ => rfl, hlow.setCell (p := ⟨bt, 0, none⟩) hbt _⟩

theorem _root_.Go.Proofs.YtkmfdiboekoioaaGreat.DInv.pop {n : Nat} {told r : List Int} {a : Int} (h : DInv n ⟨told, r ++ [a], true⟩) : DInv n ⟨told, r, true⟩ :=
  ⟨h.len, h.fall.sublist (List.sublist_append_left _ _), (fun x hx => h.rng x (List.mem_append_left _ hx)), h.deep⟩
theorem tell_n {n : Nat} (base bt bq bo gt ct : Nat) (qv : Value) (s : DSt) (w : World) (a deep : Int) (h : TMem base bt bq bo gt ct qv s w) (hi : DInv n s) (ha : 0 ≤ a ∧ a < (n : Int)) (hl : n ≤ 16384) (hd : 0 ≤ deep ∧ deep ≤ 257) :
    Calls Tryz.prog 129 #[.int .i64 a, .int .i64 deep, .pointer (some ⟨bt, 0, none⟩), .pointer (some ⟨bq, 0, none⟩), .pointer (some ⟨bo, 0, none⟩)] w (fun e w' => e = .returned (.tuple #[]) ∧ ∃ qv', TMem base bt bq bo gt ct qv' (tellD a deep s) w' ∧ Turn4 (tS gt bq bo qv) w w') := by
  have e := hi.len
  subst e
  refine (tell_any base bt bq bo gt ct qv s w a deep h hi ha (by omega) hd).mono ?_
  rintro e w' ⟨h1, qv', h2, h3, _⟩
  exact ⟨h1, qv', h2, h3⟩
theorem handD_no {pc d : Int} {h : HandlerP} {r : List HandlerP} {s : DSt} (hb : isB pc h.from_ h.to_ = false) : handD pc d (h :: r) s = handD pc d r s := by
  simp only [handD, hb]; rfl
theorem handD_yes {pc d : Int} {h : HandlerP} {r : List HandlerP} {s : DSt} (hb : isB pc h.from_ h.to_ = true) (hd : ¬ d < h.deep) : handD pc d (h :: r) s = handD pc d r (tellD h.at_ (h.deep + 1) s) := by
  simp only [handD, hb, if_true, if_neg hd]
theorem handD_bad {pc d : Int} {h : HandlerP} {r : List HandlerP} {s : DSt} (hb : isB pc h.from_ h.to_ = true) (hd : d < h.deep) : handD pc d (h :: r) s = none := by
  simp only [handD, hb, if_true, if_pos hd]
theorem tell_keep {n : Nat} {s : DSt} {a d : Int} (hi : DInv n s) (ha : 0 ≤ a ∧ a < (n : Int)) (hd : 0 ≤ d ∧ d ≤ 257) {m : Nat} (hm : negs s.told + s.todo.length = m) : DInv n (tellD a d s) ∧ negs (tellD a d s).told + (tellD a d s).todo.length = m := by
  obtain ⟨h1, h2⟩ := tellD_inv hi ha hd
  exact ⟨h1, h2.trans hm⟩
theorem dep_next {x : FnP} {gk k : Nat} {told r : List Int} {i : InsP} {s : DSt} (hi : x.code[k]? = some i) (he : depthsP x = runD x (gk + 2) told (r ++ [(k : Int)])) (hs : stepD x k i told r = some s) (hok : s.ok = true) (hg : gk = negs told + (r ++ [(k : Int)]).length) (hm : negs s.told + s.todo.length = negs told + r.length) :
    negs s.told + s.todo.length < gk ∧ depthsP x = runD x (negs s.told + s.todo.length + 2) s.told s.todo := by
  rw [List.length_append, List.length_singleton] at hg
  refine ⟨by omega, ?_⟩
  rw [he, runD_step hi, hs, hm, show gk + 1 = negs told + r.length + 2 by omega]
  simp [hok]

/-- What is known in a round. -/
structure Rnd (np : Nat) (x : FnP) (k gk : Nat) (told r : List Int) (i : InsP) (o : Nat) (d L : Int) : Prop where
  hi : x.code[k]? = some i
  he : depthsP x = runD x (gk + 2) told (r ++ [(k : Int)])
  hg : gk = negs told + (r ++ [(k : Int)]).length
  ho : i.op = (o : Int)
  hs : stepD x k i told r = (handD k d x.handlers ⟨told, r, true⟩).map (endD i.op i.a k (d + L))
  d0 : 0 ≤ d
  dL : d + L ≤ 256
  L0 : 0 ≤ L
  hl : x.code.length ≤ 16384
  hk : k < x.code.length
  num : numB np x k i = true
  last : lastB x k i = false
  hh : ∀ h ∈ x.handlers, handlerB x.code.length h = true
end Go.Proofs.YtkmfdiboekoioaaGreat

/- verify.depths: the loop over handlers. Conditions: a round. -/
namespace Go.Proofs.YtkmfdiboekoioaaGreat
open Go.RowKit
def loopsD : Code → List Code
  | .loop c => c :: loopsD c
  | .seq a b => loopsD a ++ loopsD b
  | .block _ c => loopsD c
  | .scope c => loopsD c
  | .cond _ a b => loopsD a ++ loopsD b
  | _ => []
noncomputable def dloop : Code := ((Tryz.f85.body.map loopsD).getD []).getD 2 .skip

set_option maxRecDepth 100000 in
set_option maxHeartbeats 8000000 in
theorem dloop_any (w : World) (B c rm : Nat) (pv : Value) (p : List FnP) (mk : FMap) (y : FVals) (x : FnP) (bf bq bo gt ct bi br : Nat) (k gk : Nat) (told r : List Int) (i : InsP) (o : Nat) (d A T L M : Int)
    (qv5 : Value) (w5 : World) (A7 : Option Addr) (c7 : Nat) (HR : Rnd p.length x k gk told r i o d L) (hM : RMem w B c rm pv p mk y x bf w.heap.size bq bo gt ct bi br #[.int .u8 (o : Int), .int .i64 i.a] #[.int .u8 A, .int .i64 T, .int .i64 L, .int .i64 M] qv5 ⟨told, r, true⟩ w5) (hI : DInv x.code.length ⟨told, r, true⟩) (hy7 : y.c7 = .slice A7 x.handlers.length c7)
    (u0 u1 u2 u3 u5 u6 u7 u9 u10 u12 u14 u15 u16 u17 u18 u19 u20 u21 u22 u23 u24 u25 u26 u27 u28 u29 u30 u31 u32 u33 u34 u35 u36 u37 u38 u39 u40 u41 u42 u43 u44 u45 u46 u47 u48 u49 u50 u51 u52 u53 u54 u55 u56 u57 u58 u59 u60 u61 u62 u63 u64 u65 u66 u67 u68 u69 u70 u71 u72 u73 u74 u75 u76 u77 u78 u79 u80 u81 u82 u83 u84 u85 u86 u87 u88 u89 u90 u91 u92 u93 u94 u95 u96 u97 u101 u102 u103 u104 u105 u106 u107 u108 u109 u110 u111 u112 u113 u114 u115 u116 u117 u118 u119 u120 u121 u122 u123 u124 u125 u126 u127 u128 u129 u130 u131 u132 u133 u134 u135 u136 u137 u138 u139 u140 u141 u142 u143 u144 u145 u146 u147 u148 u149 u150 u151 u152 u153 u154 u155 u156 u157 u158 u159 u160 : Value) (Q : Exit → Act → World → Prop)
    (hexit : ∀ (x5 x15 x100 x101 x102 x103 x104 x105 x106 x107 x108 x109 x110 x111 x112 x113 x114 x115 x116 x117 x118 x119 x120 x121 x122 : Value) (w' : World) (s : DSt) (qv : Value), (RMem w B c rm pv p mk y x bf w.heap.size bq bo gt ct bi br #[.int .u8 (o : Int), .int .i64 i.a] #[.int .u8 A, .int .i64 T, .int .i64 L, .int .i64 M] qv s w' ∧ handD k d x.handlers ⟨told, r, true⟩ = some s ∧ DInv x.code.length s ∧ negs s.told + s.todo.length = negs told + r.length) → Q (.exit 4) ⟨#[u0, u1, u2, u3, .pointer (some ⟨w.heap.size, 0, none⟩), x5, u6, u7, .int .i64 k, u9, u10, .int .i64 d, u12, .func (.func 129) #[] #[.pointer (some ⟨w.heap.size, 0, none⟩), .pointer (some ⟨bq, 0, none⟩), .pointer (some ⟨bo, 0, none⟩)], u14, x15, u16, u17, u18, u19, u20, u21, u22, u23, u24, u25, u26, u27, u28, u29, u30, u31, u32, u33, u34, u35, u36, u37, u38, u39, u40, u41, u42, u43, u44, u45, u46, u47, u48, u49, u50, u51, u52, u53, u54, u55, u56, u57, u58, u59, u60, u61, u62, u63, u64, u65, u66, u67, u68, u69, u70, u71, u72, u73, u74, u75, u76, u77, u78, u79, u80, u81, u82, u83, u84, u85, u86, u87, u88, u89, u90, u91, u92, u93, u94, u95, u96, u97, .slice A7 x.handlers.length c7, .int .i64 x.handlers.length, x100, x101, x102, x103, x104, x105, x106, x107, x108, x109, x110, x111, x112, x113, x114, x115, x116, x117, x118, x119, x120, x121, x122, u123, u124, u125, u126, u127, u128, u129, u130, u131, u132, u133, u134, u135, u136, u137, u138, u139, u140, u141, u142, u143, u144, u145, u146, u147, u148, u149, u150, u151, u152, u153, u154, u155, u156, u157, u158, u159, u160], []⟩ w')
    (hret : ∀ (a : Act) (W : World), bodyPost Tryz.prog Tryz.f85 (DepIs x w) .ret a W → Q .ret a W) :
    Code.wp Tryz.prog (Code.loop dloop) Q ⟨#[u0, u1, u2, u3, .pointer (some ⟨w.heap.size, 0, none⟩), u5, u6, u7, .int .i64 k, u9, u10, .int .i64 d, u12, .func (.func 129) #[] #[.pointer (some ⟨w.heap.size, 0, none⟩), .pointer (some ⟨bq, 0, none⟩), .pointer (some ⟨bo, 0, none⟩)], u14, u15, u16, u17, u18, u19, u20, u21, u22, u23, u24, u25, u26, u27, u28, u29, u30, u31, u32, u33, u34, u35, u36, u37, u38, u39, u40, u41, u42, u43, u44, u45, u46, u47, u48, u49, u50, u51, u52, u53, u54, u55, u56, u57, u58, u59, u60, u61, u62, u63, u64, u65, u66, u67, u68, u69, u70, u71, u72, u73, u74, u75, u76, u77, u78, u79, u80, u81, u82, u83, u84, u85, u86, u87, u88, u89, u90, u91, u92, u93, u94, u95, u96, u97, .slice A7 x.handlers.length c7, .int .i64 x.handlers.length, .int .i64 (0 : Int), u101, u102, u103, u104, u105, u106, u107, u108, u109, u110, u111, u112, u113, u114, u115, u116, u117, u118, u119, u120, u121, u122, u123, u124, u125, u126, u127, u128, u129, u130, u131, u132, u133, u134, u135, u136, u137, u138, u139, u140, u141, u142, u143, u144, u145, u146, u147, u148, u149, u150, u151, u152, u153, u154, u155, u156, u157, u158, u159, u160], []⟩ w5 := by
  have HSg := Lib.hid HR.hs; have HI' := Lib.hid HR.hi; have HE := Lib.hid HR.he; have HHd := Lib.hid HR.hh
  have hl := HR.hl; have hd0 := HR.d0; have hdL := HR.dL; have hL0 := HR.L0
  have HI5 := Lib.hid hI; have HR5 := Lib.hid hM
  have hlen : x.handlers.length ≤ 17592186044416 := hM.fb.fn.ints.2.2.2.2
  have HY := Lib.hid hy7
  have HRet := Lib.hid hret; have HEx := Lib.hid hexit
  clear HR hI hM hy7 hret hexit
  conv => arg 2; arg 1; whnf
  dsimp only
  go_loopw [100] (fun iv wr => ∃ (m : Nat) (s : DSt) (qv : Value), m ≤ x.handlers.length ∧ iv = .int .i64 m ∧ Hid (RMem w B c rm pv p mk y x bf w.heap.size bq bo gt ct bi br #[.int .u8 (o : Int), .int .i64 i.a] #[.int .u8 A, .int .i64 T, .int .i64 L, .int .i64 M] qv s wr) ∧ Hid (handD k d x.handlers ⟨told, r, true⟩ = handD k d (x.handlers.drop m) s) ∧ Hid (DInv x.code.length s) ∧ Hid (negs s.told + s.todo.length = negs told + r.length)) (fun iv _ => x.handlers.length - (intOf iv).toNat)
  case atStart => exact ⟨0, _, _, Nat.zero_le _, rfl, HR5, Lib.hid (by simp), HI5, Lib.hid rfl⟩
  case round =>
    obtain ⟨m, s, qv2, hm, rfl, HR, HH, HI2, HNg⟩ := hrel
    obtain ⟨wq, rfl⟩ : ∃ wq : World, wq = wr := ⟨_, rfl⟩
    clear HR5
    by_cases hlt : m < x.handlers.length
    · obtain ⟨h, hh⟩ := getL hlt
      have hv7 := HR.out.fb.fn.handlers
      rw [HY.out] at hv7
      obtain ⟨b7, o7, e7, hb7, j0, j1, j2, j3⟩ := HandlersV.at_ hv7 hh
      have hhb := HHd.out h (List.mem_of_getElem? hh)
      unfold handlerB at hhb
      simp only [Bool.and_eq_true, decide_eq_true_eq] at hhb
      obtain ⟨⟨⟨⟨g1, g2⟩, g3⟩, g4⟩, g5⟩ := hhb
      have g6 := (isB_iff _ _ _).1 g5
      obtain ⟨w8, hw8⟩ : ∃ w8, w8 = wq.alloc (.cells #[.int .i64 h.from_, .int .i64 h.to_, .int .i64 h.at_, .int .i64 h.deep] 161) := ⟨_, rfl⟩
      have hb8 : Below wq.heap.size wq w8 := by rw [hw8]; exact (Below.refl _ _).alloc (Nat.le_refl _) _
      have HR8 := Lib.hid (HR.out.below hb8)
      have HHB : Hid (Blk w8 wq.heap.size 161 #[.int .i64 h.from_, .int .i64 h.to_, .int .i64 h.at_, .int .i64 h.deep]) := Lib.hid (by rw [hw8]; exact Blk.new _ _ _)
      have HHm := Lib.hid hh
      subst e7
      clear hh hb8 g5 hv7
      go_upto_region 22 with fail
      rw [← hw8]
      clear hw8 j0 j1 j2 j3
      have j0 := HHB.out.cell 0
      have j1 := HHB.out.cell 1
      have j2 := HHB.out.cell 2
      have j3 := HHB.out.cell 3
      have jl := HHB.out.lt
      rcases bool_or (isB k h.from_ h.to_) with hib | hib
      · have HIs : Hid (false = isB k h.from_ h.to_) := Lib.hid hib.symm
        clear hib
        go_wp2_with (go_at_call 84; refine (isb_any k h.from_ h.to_ false HIs.out w8).mono ?_; rintro e w' ⟨rfl, hw'⟩; have hw2 := hw'.symm; subst hw2)
        go_roundw
        case rel => exact ⟨m + 1, s, qv2, by omega, by go_num, HR8, Lib.hid (by rw [HH.out, drop_cons HHm.out, handD_no HIs.out.symm]), HI2, HNg⟩
        case measure => simp [intOf]; omega
      · have HIs : Hid (true = isB k h.from_ h.to_) := Lib.hid hib.symm
        clear hib
        by_cases hdp : d < h.deep
        · have HN : Hid (stepD x k i told r = none) := Lib.hid (by rw [HSg.out, HH.out, drop_cons HHm.out, handD_bad HIs.out.symm hdp]; rfl)
          have m9 := HR8.out.tm.tb.cell 0
          have z9 := HR8.out.tm.tb.frozen 0
          have l9 := HR8.out.tm.tb.lt
          go_wp2_with (go_at_call 84; refine (isb_any k h.from_ h.to_ true HIs.out w8).mono ?_; rintro e w' ⟨rfl, hw'⟩; have hw2 := hw'.symm; subst hw2)
          refine HRet.out _ _ ?_
          exact dep_bad (w1 := w) HI'.out HE.out HN.out (Nat.le_refl _) HR8.out.tm.tb HR8.out.low rfl rfl rfl
        · have hat : 0 ≤ h.at_ ∧ h.at_ < (x.code.length : Int) := ⟨by omega, g4⟩
          go_wp2_with (first
            | (go_at_call 129; refine (tell_n w.heap.size w.heap.size bq bo gt ct qv2 s w8 h.at_ (h.deep + 1) HR8.out.tm HI2.out hat hl (by omega)).mono ?_; rintro e x1 ⟨rfl, q1, t1, u1⟩; have h1 := Lib.hid (HR8.out.turn t1 u1); clear t1 u1)
            | (go_at_call 84; refine (isb_any k h.from_ h.to_ true HIs.out w8).mono ?_; rintro e w' ⟨rfl, hw'⟩; have hw2 := hw'.symm; subst hw2))
          obtain ⟨v1, v2⟩ := tell_keep HI2.out hat (d := h.deep + 1) (by omega) HNg.out
          go_roundw
          case rel => exact ⟨m + 1, tellD h.at_ (h.deep + 1) s, q1, by omega, by go_num, h1, Lib.hid (by rw [HH.out, drop_cons HHm.out, handD_yes HIs.out.symm (by omega)]), Lib.hid v1, Lib.hid v2⟩
          case measure => simp [intOf]; omega
    · go_wp2_with fail
      refine HEx.out _ _ _ _ _ _ _ _ _ _ _ _ _ _ _ _ _ _ _ _ _ _ _ _ _ _ s qv2 ⟨HR.out, ?_, HI2.out, HNg.out⟩
      rw [HH.out, List.drop_of_length_le (by omega)]; rfl
end Go.Proofs.YtkmfdiboekoioaaGreat
