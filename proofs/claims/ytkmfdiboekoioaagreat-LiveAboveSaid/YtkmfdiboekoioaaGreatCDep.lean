/- The walk of verify.depths. Conditions: a function whose numbers are right. -/
import Derived.Test.YtkmfdiboekoioaaGreatCDepR
set_option linter.unusedSimpArgs false
set_option linter.unusedVariables false
namespace Go.Proofs.YtkmfdiboekoioaaGreat
open Go.RowKit
set_option maxRecDepth 100000 in
set_option maxHeartbeats 40000000 in
theorem depths_any (w : World) (B c rm : Nat) (pv : Value) (p : List FnP) (mk : FMap) (fn : Nat) (x : FnP) (hk : KCtx w B c rm pv p mk) (hx : p[fn]? = some x) (h0 : 0 < x.code.length) (hl : x.code.length ≤ 16384)
    (hnum : ∀ (pc : Nat) i, x.code[pc]? = some i → numB p.length x pc i = true ∧ lastB x pc i = false) (hh : ∀ h ∈ x.handlers, handlerB x.code.length h = true) :
    Calls Tryz.prog 85 #[.pointer (some ⟨c, 0, none⟩), .int .i64 fn] w (DepIs x w) := by
  have hfn := (List.getElem?_eq_some_iff.1 hx).1
  obtain ⟨b, off, cp, rfl, hb⟩ := hk.shape (by omega)
  have hplim := hk.len
  have hb1 : Below w.heap.size w (w.alloc (.cells #[.slice none 0 0] 34)) := (Below.refl _ _).alloc (Nat.le_refl _) _
  have hk1 := hk.below hb1
  obtain ⟨A3, c3, A4, c4, A5, c5, A6, c6, A7, c7, hv, g0, g1, g2, g3, g4, g5, g6, g7⟩ := (hk1.fnAt hx).parts
  have hlen := hv.ints
  obtain ⟨b5, o5, rfl⟩ : ∃ b5 o5, A5 = some ⟨b5, o5, none⟩ := by
    obtain ⟨y, hy⟩ := getL h0
    obtain ⟨b5, o5, e, _⟩ := InsesV.at_ hv.code hy
    exact ⟨b5, o5, e⟩
  obtain ⟨k0, k125⟩ := hk1.cells
  have hc := hk.ck.lt
  obtain ⟨w2, hw2⟩ : ∃ w2, w2 = (w.alloc (.cells #[.slice none 0 0] 34)).alloc (.cells (fnCells x ⟨.slice A3 x.caps.length c3, .slice A4 x.consts.length c4, .slice (some ⟨b5, o5, none⟩) x.code.length c5, .slice A6 x.lines.length c6, .slice A7 x.handlers.length c7⟩) 56) := ⟨_, rfl⟩
  have H2 : Hid (D0 w B c rm (.slice (some ⟨b, off, none⟩) p.length cp) p mk ⟨.slice A3 x.caps.length c3, .slice A4 x.consts.length c4, .slice (some ⟨b5, o5, none⟩) x.code.length c5, .slice A6 x.lines.length c6, .slice A7 x.handlers.length c7⟩ x (w.heap.size + 1) w.heap.size (.slice none 0 0) [] w2) := Lib.hid (by
    have h1 : Below (w.alloc (.cells #[.slice none 0 0] 34)).heap.size (w.alloc (.cells #[.slice none 0 0] 34)) w2 := by rw [hw2]; exact (Below.refl _ _).alloc (Nat.le_refl _) _
    have hf := FBox.made hv hk1.hB
    rw [World.size_alloc, ← hw2] at hf
    exact ⟨hk1.below h1, hf, (Blk.new w _ _).below h1 (by simp), OwnInts.nil _ _, hb1.trans (h1.mono (by simp)), hk.hB, Nat.le_refl _⟩)
  obtain ⟨f0, f1, f2, f3, f4, f5, f6, f7⟩ := H2.out.fb.cells
  simp only at f3 f4 f5 f6 f7
  have HX := Lib.hid hx; have HNum := Lib.hid hnum; have HHd := Lib.hid hh
  unfold fnCells at hw2
  simp only at hw2
  clear hk hk1 hv hx hb1 hnum hh
  go_enter Tryz.func85, Tryz.ntmps85
  go_upto_region 2 with fail
  rw [← hw2]
  clear hw2 g0 g1 g2 g3 g4 g5 g6 g7
  go_wp2_with fail
  clear f0 f1 f2 f3 f4 f6 k0 k125
  obtain ⟨i0, hi, hz0, hz1, hz2⟩ := info_parts int_info
  go_loopw [26] (fun i wr => ∃ (k : Nat) (v : Value), k ≤ x.code.length ∧ i = .int .i64 k ∧ Hid (D0 w B c rm (.slice (some ⟨b, off, none⟩) p.length cp) p mk ⟨.slice A3 x.caps.length c3, .slice A4 x.consts.length c4, .slice (some ⟨b5, o5, none⟩) x.code.length c5, .slice A6 x.lines.length c6, .slice A7 x.handlers.length c7⟩ x (w.heap.size + 1) w.heap.size v (List.replicate k (-1)) wr)) (fun i _ => x.code.length - (intOf i).toNat)
  case atStart => exact ⟨0, _, Nat.zero_le _, rfl, H2⟩
  case round =>
    obtain ⟨k, v, hk, rfl, HD⟩ := hrel
    obtain ⟨wp, rfl⟩ : ∃ wp : World, wp = wr := ⟨_, rfl⟩
    by_cases hlt : k < x.code.length
    · obtain ⟨Av, cv, ev⟩ := ow_form HD.out.tr
      rw [List.length_replicate] at ev
      subst ev
      have c0 : wp.cell? ⟨w.heap.size, 0, none⟩ = some (.slice Av k cv) := HD.out.tb.cell 0
      have e3 := HD.out.tb.lt
      have HOwn : Hid (OwnInts wp w.heap.size (.slice Av k cv) (List.replicate k (-1))) := Lib.hid HD.out.tr
      go_wp2_with (at_builtin; refine wpList_append_own_at _ rfl _ _ 34 rfl w.heap.size 3 i0 (.int .i64 0) 1 8 Tryz.underlying34 hi hz0 hz1 hz2 rfl (by decide) _ _ _ rfl (World.ownsRow.alloc (HOwn.out) _) ⟨wp.heap.size, 0, none⟩ 1 1 [.int .i64 (-1)] rfl rfl (cell_one_new _ _ _) (by simp [Value.oneCell']) (by unfold maxLen; have := List.length_replicate (n := k) (a := (-1 : Int)); omega) (by have := List.length_replicate (n := k) (a := (-1 : Int)); omega) (by have := HD.out.low.size; rw [World.size_alloc]; omega) ?_; intro v' w4 hown' hgrow _ hblk; obtain ⟨g', cap', rfl⟩ := ownsRow_succ hown'; obtain ⟨hd4, hr4⟩ := HD.out.put (OwnInts.snoc hown') hgrow; have HD4 := Lib.hid hd4; have c4' : w4.cell? ⟨w.heap.size, 0, none⟩ = some (.slice Av k cv) := (hr4.cell 0); have z4' := hr4.frozen 0; have l4' := hr4.lt; clear hd4 hr4 hown' hgrow hblk c0)
      go_roundw
      case rel =>
        refine ⟨k + 1, .slice (some ⟨g', 0, none⟩) (k + 1) cap', by omega, by go_num, Lib.hid ?_⟩
        have h := HD4.out
        rw [List.length_replicate] at h
        rw [List.replicate_succ']
        exact h
      case measure => simp [intOf]; omega
    · have ek : k = x.code.length := by omega
      obtain ⟨gt, ct, ev⟩ : ∃ gt ct, v = .slice (some ⟨gt, 0, none⟩) k ct := by
        have h := HD.out.tr
        rcases h.2 with ⟨_, h0⟩ | ⟨g, cap, cur, rfl, _⟩
        · rw [List.length_replicate] at h0; omega
        · exact ⟨g, cap, by rw [List.length_replicate]⟩
      subst ev
      have HL0 := Lib.hid (HD.out.done (by omega) ek)
      have c0 : wp.cell? ⟨w.heap.size, 0, none⟩ = some (.slice (some ⟨gt, 0, none⟩) k ct) := HD.out.tb.cell 0
      have e3 := HD.out.tb.lt
      have hgl := (World.ownsRow.lt HD.out.tr gt rfl).2
      have hq0 := D0.first HD.out (by omega)
      obtain ⟨d0, d1⟩ := hq0
      clear hi hz0 hz1 hz2
      clear H2
      subst ek
      have e0 := HL0.out
      rw [World.setCell_alloc_past _ _ _ _ (by rw [World.size_alloc]; omega), World.setCell_alloc_past _ _ _ _ hgl] at e0
      obtain ⟨w6, hw6⟩ : ∃ w6, w6 = ((wp.setCell ⟨gt, 0, none⟩ (.int .i64 0)).alloc (.cells #[.int .i64 0] 3)).alloc (.cells #[.slice (some ⟨wp.heap.size, 0, none⟩) 1 1] 34) := ⟨_, rfl⟩
      rw [← hw6] at e0
      have HL6 := Lib.hid e0
      clear e0 HL0
      go_upto_region 8 with fail
      rw [← hw6]
      clear hw6 c0 d0 d1
      obtain ⟨bq, hbq⟩ : ∃ bq, bq = wp.heap.size + 1 := ⟨_, rfl⟩
      rw [← hbq] at HL6 ⊢
      clear hbq HD
      go_wp2_with fail
      refine dmain_any w B c rm b off cp p mk x A3 A4 A6 A7 c3 c4 b5 o5 c5 c6 c7 bq gt ct _ w6 h0 hl HNum.out HHd.out HL6.out _ _ _ _ _ _ _ _ _ _ _ _ _ _ _ _ _ _ _ _ _ _ _ _ _ _ _ _ _ _ _ _ _ _ _ _ _ _ _ _ _ _ _ _ _ _ _ _ _ _ _ _ _ _ _ _ _ _ _ _ _ _ _ _ _ _ _ _ _ _ _ _ _ _ _ _ _ _ _ _ _ _ _ _ _ _ _ _ _ _ _ _ _ _ _ _ _ _ _ _ _ _ _ _ _ _ _ _ _ _ _ _ _ _ _ _ _ _ _ _ _ _ _ _ _ _ _ _ _ _ _ _ _ _ _ _ _ _ _ _ _ _ _ _ _ _ _ _ _ _ _ _ _ _ _ _ _ _ ?_ (fun a W h => h)
      intro x5 x8 x9 x10 x11 x12 x13 x15 x35 x36 x37 x38 x39 x40 x41 x42 x43 x44 x45 x46 x47 x48 x49 x50 x51 x52 x53 x54 x55 x56 x57 x58 x59 x60 x61 x62 x63 x64 x65 x66 x67 x68 x69 x70 x71 x72 x73 x74 x75 x76 x77 x78 x79 x80 x81 x82 x83 x84 x85 x86 x87 x88 x89 x90 x91 x92 x93 x94 x95 x96 x97 x98 x99 x100 x101 x102 x103 x104 x105 x106 x107 x108 x109 x110 x111 x112 x113 x114 x115 x116 x117 x118 x119 x120 x121 x122 x123 x124 x125 x126 x127 x128 x129 x130 x131 x132 x133 x134 x135 x136 x137 x138 x139 x140 x141 x142 x143 x144 x145 x146 x147 x148 x149 x150 x151 x152 x153 x154 x155 x156 x157 x158 x159 w' told qv ⟨hm1, hm2, hm3⟩
      have HL := Lib.hid hm1; have HI := Lib.hid hm2; have HE := Lib.hid hm3
      have htl : told.length = x.code.length := hm2.len
      have m0 : w'.cell? ⟨w.heap.size, 0, none⟩ = some (.slice (some ⟨gt, 0, none⟩) x.code.length ct) := by rw [← htl]; exact HL.out.tm.tb.cell 0
      have l0 := HL.out.tm.tb.lt
      have z0 := HL.out.tm.tb.frozen 0
      clear hm1 hm2 hm3 HL6
      dsimp only [Exit.inBlock]
      go_wp2_with fail
      refine dep_ret (HL.out.tm.tb.set_ 0 (.slice (some ⟨gt, 0, none⟩) x.code.length ct)) rfl rfl rfl ?_
      have hg := grown_set w' w.heap.size 0 (.slice (some ⟨gt, 0, none⟩) x.code.length ct)
      rw [DepIs, HE.out]
      refine ⟨_, rfl, fun l hl => ?_, fun h => by (cases h), HL.out.low.setCell (p := ⟨w.heap.size, 0, none⟩) (Nat.le_refl _) _⟩
      injection hl with hl
      subst hl
      refine ⟨?_, HI.out⟩
      have hr := HL.out.tm.tr
      rw [htl] at hr
      exact ow_kept hr hg (.inr (ow_ne_blk hr HL.out.tm.tb (by decide)))
end Go.Proofs.YtkmfdiboekoioaaGreat

/- The walk of verify.look, Check and Depths. Conditions: a program that lies in memory. -/
namespace Go.Proofs.YtkmfdiboekoioaaGreat
open Go.RowKit
theorem codeGo_ok (p : List FnP) (fn : Nat) (f : FnP) : ∀ (l : List InsP) (pc : Nat) (mk : FMap), (codeGo p fn f l pc mk).1 < 0 → ∀ (j : Nat) i, l[j]? = some i → numB p.length f (pc + j) i = true ∧ lastB f (pc + j) i = false
  | [], _, _, _, j, i, hi => by simp at hi
  | i0 :: l, pc, mk, h, j, i, hi => by
    unfold codeGo at h
    split at h
    · rename_i hc
      have hr : ∃ mk', (codeGo p fn f l (pc + 1) mk').1 < 0 := by
        split at h
        · split at h
          · exact ⟨_, h⟩
          · simp only at h; omega
        · exact ⟨_, h⟩
      obtain ⟨mk', hr⟩ := hr
      cases j with
      | zero => simp only [List.getElem?_cons_zero, Option.some.injEq] at hi; subst hi; exact hc
      | succ j =>
        rw [List.getElem?_cons_succ] at hi
        have := codeGo_ok p fn f l (pc + 1) mk' hr j i hi
        rw [show pc + 1 + j = pc + (j + 1) by omega] at this
        exact this
    · simp only at h; omega
/-- What a program that may be is sure to be. -/
structure FnOk (p : List FnP) (fn : Nat) (f : FnP) : Prop where
  head : headB fn f = true
  num : ∀ (pc : Nat) i, f.code[pc]? = some i → numB p.length f pc i = true ∧ lastB f pc i = false
  dep : (depthsP f).2 < 0
theorem headB_code {fn : Nat} {f : FnP} (h : headB fn f = true) : 1 ≤ f.code.length ∧ f.code.length ≤ 16384 ∧ (∀ x ∈ f.handlers, handlerB f.code.length x = true) ∧ 0 ≤ f.params ∧ f.locals ≤ 64 := by
  unfold headB at h
  simp only [Bool.and_eq_true, decide_eq_true_eq, Bool.or_eq_true, List.all_eq_true] at h
  obtain ⟨h1, h2, h3, h4, h5, h6, h7, h8, h9, h10, h11, h12⟩ := h
  have := (isB_iff _ _ _).1 h8
  have h2' := (isB_iff _ _ _).1 h2
  exact ⟨by omega, by omega, h12, by omega, h3⟩
theorem lookGo_ok (p : List FnP) : ∀ (l : List FnP) (fn : Nat) (mk mk' : FMap), lookGo p l fn mk = .good mk' → ∀ (j : Nat) f, l[j]? = some f → FnOk p (fn + j) f
  | [], _, _, _, _, j, f, hf => by simp at hf
  | f0 :: l, fn, mk, mk', h, j, f, hf => by
    unfold lookGo at h
    split at h
    · rename_i hh
      split at h
      · cases h
      · rename_i hc
        split at h
        · cases h
        · rename_i hd
          cases j with
          | zero =>
            simp only [List.getElem?_cons_zero, Option.some.injEq] at hf
            subst hf
            refine ⟨hh, fun pc i hi => ?_, by omega⟩
            have := codeGo_ok p fn f0 f0.code 0 mk (by omega) pc i hi
            rwa [Nat.zero_add] at this
          | succ j =>
            rw [List.getElem?_cons_succ] at hf
            have := lookGo_ok p l (fn + 1) _ mk' h j f hf
            rw [show fn + 1 + j = fn + (j + 1) by omega] at this
            exact this
    · cases h
theorem lookP_ok {p : List FnP} {mk : FMap} (h : lookP p = .good mk) : 1 ≤ p.length ∧ p.length ≤ 256 ∧ ∀ (fn : Nat) f, p[fn]? = some f → FnOk p fn f := by
  unfold lookP at h
  split at h
  · rename_i hl
    have := (isB_iff _ _ _).1 hl
    refine ⟨by omega, by omega, fun fn f hf => ?_⟩
    split at h
    · cases h
    · rename_i mk2 h2
      have := lookGo_ok p p 0 _ mk2 h2 fn f hf
      rwa [Nat.zero_add] at this
  · cases h
theorem wpList_build2 {P : Program} {ops : Array Oper} {rest : List Oper} {o : Oper} {a : Act} {w : World} {Q : Exit → Act → World → Prop} (hg : o.guard = none) (t : TypeId) (parts : Array (Nat × Operand)) (ho : o.op = .build t parts) (cells : Array Value)
    (hf : P.built t (parts.map fun (i, x) => (i, a.eval x)).toList = some cells) (h : wpList P ops Q rest (a.put o.dst (.agg cells)) w) : wpList P ops Q (o :: rest) a w := by
  refine wpList_build hg t parts ho (by rw [hf]; rfl) ?_
  rw [hf]; exact h
theorem lookP_bad {p : List FnP} {fn pc : Int} (hl : true = isB p.length 1 257) (h : lookGo p p 0 FMap.none_ = .bad fn pc) : lookP p = .bad fn pc := by
  unfold lookP; rw [if_pos hl.symm, h]
theorem lookP_lone {p : List FnP} {mk : FMap} {fn : Nat} (hl : true = isB p.length 1 257) (h : lookGo p p 0 FMap.none_ = .good mk) (h2 : loneGo mk p 0 = some fn) : lookP p = .bad fn 0 := by
  unfold lookP; rw [if_pos hl.symm, h]; simp only [h2]
theorem lookP_good {p : List FnP} {mk : FMap} (hl : true = isB p.length 1 257) (h : lookGo p p 0 FMap.none_ = .good mk) (h2 : loneGo mk p 0 = none) : lookP p = .good mk := by
  unfold lookP; rw [if_pos hl.symm, h]; simp only [h2]
theorem lookP_none {p : List FnP} (hl : false = isB p.length 1 257) : lookP p = .bad 0 0 := by
  unfold lookP; rw [if_neg (by rw [← hl]; simp)]
theorem look_head {p : List FnP} {x : FnP} {r : List FnP} {k : Nat} {mk : FMap} (h : false = headB k x) : lookGo p (x :: r) k mk = .bad k 0 := by
  unfold lookGo; rw [if_neg (by rw [← h]; simp)]
theorem look_code {p : List FnP} {x : FnP} {r : List FnP} {k : Nat} {mk : FMap} (h : true = headB k x) (h2 : 0 ≤ (codeGo p k x x.code 0 mk).1) : lookGo p (x :: r) k mk = .bad k (codeGo p k x x.code 0 mk).1 := by
  unfold lookGo; rw [if_pos h.symm, if_pos h2]
theorem look_dep {p : List FnP} {x : FnP} {r : List FnP} {k : Nat} {mk : FMap} (h : true = headB k x) (h2 : ¬ 0 ≤ (codeGo p k x x.code 0 mk).1) (h3 : 0 ≤ (depthsP x).2) : lookGo p (x :: r) k mk = .bad k (depthsP x).2 := by
  unfold lookGo; rw [if_pos h.symm, if_neg h2, if_pos h3]
theorem look_next {p : List FnP} {x : FnP} {r : List FnP} {k : Nat} {mk : FMap} (h : true = headB k x) (h2 : ¬ 0 ≤ (codeGo p k x x.code 0 mk).1) (h3 : ¬ 0 ≤ (depthsP x).2) : lookGo p (x :: r) k mk = lookGo p r (k + 1) (codeGo p k x x.code 0 mk).2 := by
  conv => lhs; unfold lookGo
  rw [if_pos h.symm, if_neg h2, if_neg h3]
def LookIs (p : List FnP) (pv : Value) (w : World) (e : Ending) (w' : World) : Prop :=
  Below w.heap.size w w' ∧ match lookP p with
    | .bad fn pc => e = .returned (.tuple #[.pointer none, .int .i64 fn, .int .i64 pc, .int .i64 8])
    | .good mk => ∃ c rm, e = .returned (.tuple #[.pointer (some ⟨c, 0, none⟩), .int .i64 0, .int .i64 0, .int .i64 0]) ∧ KCtx w' w.heap.size c rm pv p mk

theorem results_tmp4 {fn : Func} {a b c d : Tmp} (h : fn.results = #[.tmp a, .tmp b, .tmp c, .tmp d]) (tmps : Array Value) (P : Program) (w : World) : (results fn tmps).run P w = .ok (.tuple #[tmps.getD a undef, tmps.getD b undef, tmps.getD c undef, tmps.getD d undef]) w := by
  simp [results, h]
theorem look_bad {p : List FnP} {pv : Value} {w W : World} {fn pc : Int} (h : lookP p = .bad fn pc) (hb : Below w.heap.size w W) : LookIs p pv w (.returned (.tuple #[.pointer none, .int .i64 fn, .int .i64 pc, .int .i64 8])) W := by
  refine ⟨hb, ?_⟩
  rw [h]
theorem look_fine {p : List FnP} {pv : Value} {w W : World} {c rm : Nat} {mk : FMap} (h : lookP p = .good mk) (hb : Below w.heap.size w W) (hk : KCtx W w.heap.size c rm pv p mk) : LookIs p pv w (.returned (.tuple #[.pointer (some ⟨c, 0, none⟩), .int .i64 0, .int .i64 0, .int .i64 0])) W := by
  refine ⟨hb, ?_⟩
  rw [h]
  exact ⟨c, rm, rfl, hk⟩
theorem look_mem {w w1 : World} {pv : Value} {p : List FnP} (hp : ProgV w w.heap.size pv p) (hb : Below w.heap.size w w1) : KCtx ((w1.alloc (.map #[] 0)).alloc (.cells (ccells pv w1.heap.size) 194)) w.heap.size (w1.heap.size + 1) w1.heap.size pv p FMap.none_ := by
  have hsz := hb.size
  have hlow : Below w.heap.size w ((w1.alloc (.map #[] 0)).alloc (.cells (ccells pv w1.heap.size) 194)) := (hb.alloc hsz _).alloc (by rw [World.size_alloc]; omega) _
  refine ⟨hp.keep (Same.of_below hlow), hlow.size, ?_, (IMap.made w1).alloc _, by omega, hsz⟩
  have := Blk.new (w1.alloc (.map #[] 0)) 194 (ccells pv w1.heap.size)
  rw [World.size_alloc] at this
  exact this

set_option maxRecDepth 100000 in
set_option maxHeartbeats 40000000 in
theorem look_any (w : World) (pv : Value) (p : List FnP) (hp : ProgV w w.heap.size pv p) : Calls Tryz.prog 83 #[pv] w (LookIs p pv w) := by
  have HP := Lib.hid hp
  obtain ⟨A, cp, rfl, _hc, hpl, hsh⟩ := hp
  have hlim : p.length ≤ 17592186044416 := by unfold lim at hpl; omega
  have hmm := @run_makeMap Tryz.prog
  rcases bool_or (isB p.length 1 257) with hlen | hlen
  · have HL : Hid (false = isB p.length 1 257) := Lib.hid hlen.symm
    clear hlen
    go_enter Tryz.func83, Tryz.ntmps83
    go_wp2_with fail
    go_step3
    go_wp2_with (go_at_call 84; refine (isb_any p.length 1 257 false HL.out w).mono ?_; rintro e w' ⟨rfl, hw'⟩; have hw2 := hw'.symm; subst hw2)
    rw [Exit.noGoto_ret]
    refine bodyPost_ret (results_tmp4 rfl _ _ _) rfl ?_
    exact look_bad (lookP_none HL.out) (Below.refl _ _)
  · have HL : Hid (true = isB p.length 1 257) := Lib.hid hlen.symm
    have hl2 := (isB_iff _ _ _).1 hlen
    clear hlen
    obtain ⟨b, off, rfl, hbB, _⟩ := hsh (by omega)
    go_enter Tryz.func83, Tryz.ntmps83
    go_wp2_with fail
    go_step3
    go_upto_region 3 with (go_at_call 84; refine (isb_any p.length 1 257 true HL.out w).mono ?_; rintro e w' ⟨rfl, hw'⟩; have hw2 := hw'.symm; subst hw2)
    go_upto_region 4 with (first
      | (with_reducible refine wpList_build2 rfl _ _ rfl (ccells (.slice (some ⟨b, off, none⟩) p.length cp) w1.heap.size) (by kernel_rfl) ?_)
      | (go_at_call 126; refine (rows_any w).mono ?_; rintro e w1 ⟨rfl, hb1⟩; have HB1 := Lib.hid hb1; clear hb1))
    obtain ⟨c, hc⟩ : ∃ c, c = w1.heap.size + 1 := ⟨_, rfl⟩
    obtain ⟨rm, hrm⟩ : ∃ rm, rm = w1.heap.size := ⟨_, rfl⟩
    obtain ⟨w3, hw3⟩ : ∃ w3, w3 = (w1.alloc (.map #[] 0)).alloc (.cells (ccells (.slice (some ⟨b, off, none⟩) p.length cp) w1.heap.size) 194) := ⟨_, rfl⟩
    have hlow : Below w.heap.size w w3 := by rw [hw3]; exact (HB1.out.alloc HB1.out.size _).alloc (by have := HB1.out.size; simp; omega) _
    have HK3 : Hid (KCtx w3 w.heap.size c rm (.slice (some ⟨b, off, none⟩) p.length cp) p FMap.none_) := Lib.hid (by rw [hw3, hc, hrm]; exact look_mem HP.out HB1.out)
    have HLow3 := Lib.hid hlow
    rw [← hw3]
    have hc' : c = rm + 1 := by rw [hc, hrm]
    rw [← hrm]
    rw [← hc']
    generalize Value.agg rowsCells = v15
    generalize Value.agg (ccells _ _) = v17
    clear hw3 hlow hmm hc hrm hc'
    go_step3
    go_wp2_with fail
    go_loopw [3, 4, 21] (fun fv qv i wr => ∃ (k : Nat) (mk : FMap) (fz z : Int), k ≤ p.length ∧ i = .int .i64 k ∧ fv = .int .i64 fz ∧ qv = .int .i64 z ∧ (0 < k → z < 0) ∧ Hid (KCtx wr w.heap.size c rm (.slice (some ⟨b, off, none⟩) p.length cp) p mk) ∧ Hid (Below w.heap.size w wr) ∧ Hid (lookGo p p 0 FMap.none_ = lookGo p (p.drop k) k mk)) (fun _ _ i _ => p.length - (intOf i).toNat)
    case atStart => exact ⟨0, FMap.none_, 0, 0, Nat.zero_le _, rfl, rfl, rfl, by omega, HK3, HLow3, Lib.hid (by simp)⟩
    case round =>
      obtain ⟨k, mk, fz, z, hk, rfl, rfl, rfl, hz, HK, HLow, HE⟩ := hrel
      obtain ⟨wq, rfl⟩ : ∃ wq : World, wq = wr := ⟨_, rfl⟩
      clear HK3 HLow3
      by_cases hlt : k < p.length
      · obtain ⟨x, hx⟩ := getL hlt
        have HX := Lib.hid hx
        have HD : Hid (lookGo p (p.drop k) k mk = lookGo p (x :: p.drop (k + 1)) k mk) := Lib.hid (by rw [drop_cons hx])
        clear hx
        rcases bool_or (headB k x) with hh | hh
        · have HH : Hid (false = headB k x) := Lib.hid hh.symm
          clear hh
          go_wp2_with (go_at_call 127; refine (head_any wq w.heap.size c rm _ p mk k x HK.out HX.out false HH.out).mono ?_; rintro e w4 ⟨rfl, hb4⟩; have HB4 := Lib.hid hb4; clear hb4)
          rw [Exit.noGoto_ret]
          refine bodyPost_ret (results_tmp4 rfl _ _ _) rfl ?_
          exact look_bad (lookP_bad HL.out (by rw [HE.out, HD.out]; exact look_head HH.out)) (HLow.out.trans (HB4.out.mono HLow.out.size))
        · have HH : Hid (true = headB k x) := Lib.hid hh.symm
          have hhc := headB_code hh
          have HHC := Lib.hid hhc.2.2.1
          have h0c := hhc.1
          have hlc := hhc.2.1
          clear hh hhc
          obtain ⟨z2, hz2⟩ : ∃ z2, z2 = (codeGo p k x x.code 0 mk).1 := ⟨_, rfl⟩
          have HZ2 := Lib.hid hz2
          by_cases hc0 : 0 ≤ z2
          · clear hz2
            go_wp2_with (first
              | (go_at_call 128; refine (code_any w4 w.heap.size c rm _ p mk k x HK4.out HX.out h0c).mono ?_; rintro e w5 ⟨rfl, hk5, hg5⟩; rw [← HZ2.out]; have HK5 := Lib.hid hk5; have HG5 := Lib.hid hg5; clear hk5 hg5)
              | (go_at_call 127; refine (head_any wq w.heap.size c rm _ p mk k x HK.out HX.out true HH.out).mono ?_; rintro e w4 ⟨rfl, hb4⟩; have HB4 := Lib.hid hb4; have HK4 := Lib.hid (HK.out.below hb4); clear hb4))
            rw [Exit.noGoto_ret]
            refine bodyPost_ret (results_tmp4 rfl _ _ _) rfl ?_
            exact look_bad (lookP_bad HL.out (by rw [HE.out, HD.out]; exact by rw [HZ2.out]; exact look_code HH.out (by rw [← HZ2.out]; exact hc0))) ((HLow.out.trans (HB4.out.mono HLow.out.size)).grown HG5.out (Nat.le_trans HLow.out.size HB4.out.size) (fun j hj => by injection hj with hj; rw [← hj]; exact HK.out.hr))
          · have hnum := codeGo_ok p k x x.code 0 mk (by rw [← hz2]; omega)
            simp only [Nat.zero_add] at hnum
            have HNum := Lib.hid hnum
            clear hnum hz2
            obtain ⟨z3, hz3⟩ : ∃ z3, z3 = (depthsP x).2 := ⟨_, rfl⟩
            have HZ3 := Lib.hid hz3
            clear hz3
            by_cases hd0 : 0 ≤ z3
            · go_wp2_with (first
                | (go_at_call 85; refine (depths_any w5 w.heap.size c rm _ p _ k x HK5.out HX.out h0c hlc HNum.out HHC.out).mono ?_; rintro e w6 ⟨vd, rfl, hd1, hd2, hb6⟩; rw [← HZ3.out]; have HB6 := Lib.hid hb6; clear hd1 hd2 hb6)
                | (go_at_call 128; refine (code_any w4 w.heap.size c rm _ p mk k x HK4.out HX.out h0c).mono ?_; rintro e w5 ⟨rfl, hk5, hg5⟩; rw [← HZ2.out]; have HK5 := Lib.hid hk5; have HG5 := Lib.hid hg5; clear hk5 hg5)
                | (go_at_call 127; refine (head_any wq w.heap.size c rm _ p mk k x HK.out HX.out true HH.out).mono ?_; rintro e w4 ⟨rfl, hb4⟩; have HB4 := Lib.hid hb4; have HK4 := Lib.hid (HK.out.below hb4); clear hb4))
              rw [Exit.noGoto_ret]
              refine bodyPost_ret (results_tmp4 rfl _ _ _) rfl ?_
              exact look_bad (lookP_bad HL.out (by rw [HE.out, HD.out]; exact by rw [HZ3.out]; exact look_dep HH.out (by rw [← HZ2.out]; omega) (by rw [← HZ3.out]; exact hd0))) (((HLow.out.trans (HB4.out.mono HLow.out.size)).grown HG5.out (Nat.le_trans HLow.out.size HB4.out.size) (fun j hj => by injection hj with hj; rw [← hj]; exact HK.out.hr)).trans (HB6.out.mono (Nat.le_trans (Nat.le_trans HLow.out.size HB4.out.size) HG5.out.size)))
            · go_wp2_with (first
                | (go_at_call 85; refine (depths_any w5 w.heap.size c rm _ p _ k x HK5.out HX.out h0c hlc HNum.out HHC.out).mono ?_; rintro e w6 ⟨vd, rfl, hd1, hd2, hb6⟩; rw [← HZ3.out]; have HB6 := Lib.hid hb6; clear hd1 hd2 hb6)
                | (go_at_call 128; refine (code_any w4 w.heap.size c rm _ p mk k x HK4.out HX.out h0c).mono ?_; rintro e w5 ⟨rfl, hk5, hg5⟩; rw [← HZ2.out]; have HK5 := Lib.hid hk5; have HG5 := Lib.hid hg5; clear hk5 hg5)
                | (go_at_call 127; refine (head_any wq w.heap.size c rm _ p mk k x HK.out HX.out true HH.out).mono ?_; rintro e w4 ⟨rfl, hb4⟩; have HB4 := Lib.hid hb4; have HK4 := Lib.hid (HK.out.below hb4); clear hb4))
              go_roundw
              case rel => exact ⟨k + 1, _, k, z3, by omega, by go_num, rfl, rfl, by omega, Lib.hid (HK5.out.below HB6.out), Lib.hid (((HLow.out.trans (HB4.out.mono HLow.out.size)).grown HG5.out (Nat.le_trans HLow.out.size HB4.out.size) (fun j hj => by injection hj with hj; rw [← hj]; exact HK.out.hr)).trans (HB6.out.mono (Nat.le_trans (Nat.le_trans HLow.out.size HB4.out.size) HG5.out.size))), Lib.hid (by rw [HE.out, HD.out, look_next HH.out (by rw [← HZ2.out]; omega) (by rw [← HZ3.out]; omega)])⟩
              case measure => simp [intOf]; omega
      · have ek : k = p.length := by omega
        subst ek
        go_wp2_with fail
        have HG : Hid (lookGo p p 0 FMap.none_ = .good mk) := Lib.hid (by rw [HE.out, List.drop_of_length_le (Nat.le_refl _)]; rfl)
        go_loopw [2, 48] (fun cv i wr => ∃ k : Nat, k ≤ p.length ∧ i = .int .i64 k ∧ cv = .pointer (some ⟨c, 0, none⟩) ∧ Hid (KCtx wr w.heap.size c rm (.slice (some ⟨b, off, none⟩) p.length cp) p mk) ∧ Hid (Below w.heap.size w wr) ∧ Hid (loneGo mk p 0 = loneGo mk (p.drop k) k)) (fun _ i _ => p.length - (intOf i).toNat)
        case atStart => exact ⟨0, Nat.zero_le _, rfl, rfl, HK, HLow, Lib.hid (by simp)⟩
        case round =>
          obtain ⟨k, hk2, rfl, rfl, HK2, HLow2, HE2⟩ := hrel
          obtain ⟨wt, rfl⟩ : ∃ wt : World, wt = wr := ⟨_, rfl⟩
          by_cases hlt2 : k < p.length
          · obtain ⟨x, hx⟩ := getL hlt2
            have HD2 : Hid (loneGo mk (p.drop k) k = loneGo mk (x :: p.drop (k + 1)) k) := Lib.hid (by rw [drop_cons hx])
            obtain ⟨A3, c3, A4, c4, A5, c5, A6, c6, A7, c7, hv, g0, g1, g2, g3, g4, g5, g6, g7⟩ := (HK2.out.fnAt hx).parts
            have hlens := hv.ints
            obtain ⟨w8, hw8⟩ : ∃ w8, w8 = wt.alloc (.cells (fnCells x ⟨.slice A3 x.caps.length c3, .slice A4 x.consts.length c4, .slice A5 x.code.length c5, .slice A6 x.lines.length c6, .slice A7 x.handlers.length c7⟩) 56) := ⟨_, rfl⟩
            have hb8 : Below wt.heap.size wt w8 := by rw [hw8]; exact (Below.refl _ _).alloc (Nat.le_refl _) _
            have HF8 : Hid (FBox w8 w.heap.size wt.heap.size ⟨.slice A3 x.caps.length c3, .slice A4 x.consts.length c4, .slice A5 x.code.length c5, .slice A6 x.lines.length c6, .slice A7 x.handlers.length c7⟩ x) := Lib.hid (by rw [hw8]; exact FBox.made hv HK2.out.hB)
            have HK8 := Lib.hid (HK2.out.below hb8)
            have HLow8 : Hid (Below w.heap.size w w8) := Lib.hid (HLow2.out.trans (hb8.mono HLow2.out.size))
            unfold fnCells at hw8
            simp only at hw8
            clear hv hx hb8
            go_upto_region 19 with fail
            rw [← hw8]
            clear hw8 g0 g1 g2 g3 g4 g5 g6 g7
            obtain ⟨n0, n125⟩ := HK8.out.cells
            have hcl := HK8.out.ck.lt
            have f3 : w8.cell? ⟨wt.heap.size, 3, none⟩ = some (.slice A3 x.caps.length c3) := HF8.out.cells.2.2.2.1
            have hfl := HF8.out.box.lt
            have hlook := (IMap.look (P := Tryz.prog) HK8.out.mp Tryz.underlying76 Tryz.underlying3 (by kernel_rfl) (k : Int)).2
            cases hmk : mk (k : Int) with
            | none =>
              rw [hmk] at hlook
              simp only [Option.getD_none, Option.isSome_none] at hlook
              have HMk := Lib.hid hmk
              clear hmk
              by_cases hcp : 0 < x.caps.length
              · go_wp2_with fail
                rw [Exit.noGoto_ret]
                refine bodyPost_ret (results_tmp4 rfl _ _ _) rfl ?_
                exact look_bad (lookP_lone HL.out HG.out (fn := k) (by rw [HE2.out, HD2.out, loneGo, if_pos ⟨HMk.out, hcp⟩])) HLow8.out
              · go_wp2_with fail
                go_roundw
                case rel => exact ⟨k + 1, by omega, by go_num, rfl, HK8, HLow8, Lib.hid (by rw [HE2.out, HD2.out, loneGo, if_neg (fun h => hcp h.2)])⟩
                case measure => simp [intOf]; omega
            | some v =>
              rw [hmk] at hlook
              simp only [Option.getD_some, Option.isSome_some] at hlook
              have HMk := Lib.hid hmk
              clear hmk
              go_wp2_with fail
              go_roundw
              case rel => exact ⟨k + 1, by omega, by go_num, rfl, HK8, HLow8, Lib.hid (by rw [HE2.out, HD2.out, loneGo, if_neg (fun h => by rw [HMk.out] at h; cases h.1)])⟩
              case measure => simp [intOf]; omega
          · have ek2 : k = p.length := by omega
            subst ek2
            go_wp2_with fail
            rw [Exit.noGoto_ret]
            refine bodyPost_ret (results_tmp4 rfl _ _ _) rfl ?_
            exact look_fine (lookP_good HL.out HG.out (by rw [HE2.out, List.drop_of_length_le (Nat.le_refl _)]; rfl)) HLow2.out HK2.out
end Go.Proofs.YtkmfdiboekoioaaGreat

/- verify.Check and verify.Depths. Conditions: a program that lies in memory. -/
namespace Go.Proofs.YtkmfdiboekoioaaGreat
open Go.RowKit
/-- What a program may be: no fault is found. -/
def FineP (p : List FnP) : Prop := ∃ mk, lookP p = .good mk
theorem FineP.ok {p : List FnP} (h : FineP p) : 1 ≤ p.length ∧ p.length ≤ 256 ∧ ∀ (fn : Nat) f, p[fn]? = some f → FnOk p fn f := by
  obtain ⟨mk, h⟩ := h
  exact lookP_ok h
def VerIs (p : List FnP) (w : World) (e : Ending) (w' : World) : Prop := ∃ (fn pc z : Int), e = .returned (.tuple #[.int .i64 fn, .int .i64 pc, .int .i64 z]) ∧ ((z = 0 ∧ FineP p) ∨ (z = 8 ∧ ¬ FineP p)) ∧ Below w.heap.size w w'
theorem verCheck_any (w : World) (pv : Value) (p : List FnP) (hp : ProgV w w.heap.size pv p) : Calls Tryz.prog 37 #[pv] w (VerIs p w) := by
  have HP := Lib.hid hp
  obtain ⟨A, cp, rfl, _, hpl, _⟩ := hp
  cases hl : lookP p with
  | bad fn pc =>
    have HN : Hid (¬ FineP p) := Lib.hid (fun h => by obtain ⟨mk, h⟩ := h; rw [hl] at h; cases h)
    have hc := look_any w (.slice A p.length cp) p HP.out
    unfold LookIs at hc
    rw [hl] at hc
    have HC := Lib.hid hc
    clear hl hc
    go_enter Tryz.func37, Tryz.ntmps37
    go_wp2_with (go_at_call 83; refine HC.out.mono ?_; rintro e w1 ⟨hb1, rfl⟩; have HB1 := Lib.hid hb1; clear hb1)
    go_ret3
    exact ⟨fn, pc, 8, rfl, .inr ⟨rfl, HN.out⟩, HB1.out⟩
  | good mk =>
    have HN : Hid (FineP p) := Lib.hid ⟨mk, hl⟩
    have hc := look_any w (.slice A p.length cp) p HP.out
    unfold LookIs at hc
    rw [hl] at hc
    have HC := Lib.hid hc
    clear hl hc
    go_enter Tryz.func37, Tryz.ntmps37
    go_wp2_with (go_at_call 83; refine HC.out.mono ?_; rintro e w1 ⟨hb1, c, rm, rfl, hk1⟩; have HB1 := Lib.hid hb1; clear hb1 hk1)
    go_ret3
    exact ⟨0, 0, 0, rfl, .inl ⟨rfl, HN.out⟩, HB1.out⟩
/-- How deep a function's stack is, if its program may be. -/
def depthsOf (x : FnP) : List Int := (depthsP x).1.getD []
def DepthsIs (x : FnP) (w : World) (e : Ending) (w' : World) : Prop := ∃ v, e = .returned (.tuple #[v, .int .i64 0]) ∧ OwnInts w' w.heap.size v (depthsOf x) ∧ (depthsOf x).length = x.code.length ∧ (∀ d ∈ depthsOf x, -1 ≤ d ∧ d ≤ 257) ∧ Below w.heap.size w w'
theorem runD_some {np : Nat} {f : FnP} (hnum : ∀ (pc : Nat) i, f.code[pc]? = some i → numB np f pc i = true ∧ lastB f pc i = false) (hh : ∀ h ∈ f.handlers, handlerB f.code.length h = true) :
    ∀ (n : Nat) (told todo : List Int), DInv f.code.length ⟨told, todo, true⟩ → (runD f n told todo).2 < 0 → ∃ l, (runD f n told todo).1 = some l
  | 0, told, todo, _, h => by simp [runD] at h
  | n + 1, told, todo, hi, h => by
    rcases List.eq_nil_or_concat todo with rfl | ⟨r, a, rfl⟩
    · exact ⟨told, rfl⟩
    · rw [List.concat_eq_append] at hi h ⊢
      obtain ⟨h1, h2, _⟩ := hi.rng a (by simp)
      obtain ⟨k, rfl⟩ : ∃ k : Nat, a = (k : Int) := ⟨a.toNat, by omega⟩
      obtain ⟨i, hk⟩ := getL (show k < f.code.length by omega)
      rw [runD_step hk] at h ⊢
      cases hs : stepD f k i told r with
      | none => rw [hs] at h; simp only at h; omega
      | some s =>
        rw [hs] at h
        simp only at h ⊢
        obtain ⟨q1, q2⟩ := hnum k i hk
        have hv := (stepD_inv hk q1 q2 hh hi.pop hs).1
        by_cases ho : s.ok = true
        · rw [if_pos ho] at h ⊢
          exact runD_some hnum hh n _ _ ⟨hv.len, hv.fall, hv.rng, hv.deep⟩ h
        · rw [if_neg ho] at h; simp only at h; omega
theorem FnOk.told {p : List FnP} {fn : Nat} {x : FnP} (h : FnOk p fn x) : ∃ l, (depthsP x).1 = some l := by
  obtain ⟨q1, q2, q3, _⟩ := headB_code h.head
  exact runD_some h.num q3 _ _ _ (toldD_inv (by omega)) h.dep
set_option maxHeartbeats 4000000 in
theorem verDepths_any (w : World) (pv : Value) (p : List FnP) (fn : Nat) (x : FnP) (hp : ProgV w w.heap.size pv p) (hf : FineP p) (hx : p[fn]? = some x) : Calls Tryz.prog 39 #[pv, .int .i64 fn] w (DepthsIs x w) := by
  have HP := Lib.hid hp
  have hfn := (List.getElem?_eq_some_iff.1 hx).1
  obtain ⟨A, cp, rfl, _, hpl, _⟩ := hp
  have hok := hf.ok.2.2 fn x hx
  have hd := hok.told
  obtain ⟨q1, q2, q3, q4, q5⟩ := headB_code hok.head
  have hlim : p.length ≤ 17592186044416 := by unfold lim at hpl; omega
  obtain ⟨mk, hl⟩ := hf
  have hc := look_any w (.slice A p.length cp) p HP.out
  unfold LookIs at hc
  rw [hl] at hc
  have HC := Lib.hid hc
  have HX := Lib.hid hx
  have HOk := Lib.hid hok
  have HD := Lib.hid hd
  have HIs : Hid (true = isB (fn : Int) 0 p.length) := Lib.hid ((isB_iff _ _ _).2 ⟨by omega, by omega⟩).symm
  obtain ⟨z3, hz3⟩ : ∃ z3, z3 = (depthsP x).2 := ⟨_, rfl⟩
  have HZ3 := Lib.hid hz3
  have HHd := Lib.hid q3
  clear hl hc hx hok hd hz3 q3
  go_enter Tryz.func39, Tryz.ntmps39
  go_wp2_with (first
    | (go_at_call 85; refine (depths_any w1 w.heap.size c rm _ p mk fn x HK1.out HX.out q1 q2 HOk.out.num HHd.out).mono ?_; rintro e w6 ⟨vd, rfl, hd1, hd2, hb6⟩; rw [← HZ3.out]; have HD1 := Lib.hid hd1; have HB6 := Lib.hid hb6; clear hd1 hd2 hb6)
    | (go_at_call 84; refine (isb_any fn 0 p.length true HIs.out w1).mono ?_; rintro e w' ⟨rfl, hw'⟩; have hw2 := hw'.symm; subst hw2)
    | (go_at_call 83; refine HC.out.mono ?_; rintro e w1 ⟨hb1, c, rm, rfl, hk1⟩; have HB1 := Lib.hid hb1; have HK1 := Lib.hid hk1; clear hb1 hk1))
  go_ret2
  obtain ⟨l, hl⟩ := HD.out
  obtain ⟨h1, h2⟩ := HD1.out l hl
  have e : depthsOf x = l := by unfold depthsOf; rw [hl]; rfl
  rw [DepthsIs, e]
  refine ⟨vd, rfl, ?_, h2.len, fun d hd => h2.deep d hd, HB1.out.trans (HB6.out.mono HB1.out.size)⟩
  exact OwnInts.mono h1 HB1.out.size
end Go.Proofs.YtkmfdiboekoioaaGreat
