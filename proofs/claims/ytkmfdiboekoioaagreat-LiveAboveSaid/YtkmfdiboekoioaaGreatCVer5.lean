/- verify: may a function's head be? Conditions: a program that lies in memory. -/
import Derived.Test.YtkmfdiboekoioaaGreatCVer3
import Derived.BigGuardPart
set_option linter.unusedSimpArgs false
set_option linter.unusedVariables false
namespace Go.Proofs.YtkmfdiboekoioaaGreat
open Go.RowKit
theorem ConstsV.sizes {w : World} {B : Nat} {v : Value} {l : List ConstP} (h : ConstsV w B v l) : ∀ x ∈ l, x.s.size ≤ 140737488355328 := by
  obtain ⟨A, c, e, _, _, hp⟩ := h
  intro x hx
  obtain ⟨k, hk⟩ := List.mem_iff_getElem?.1 hx
  have := (List.getElem?_eq_some_iff.1 hk).1
  obtain ⟨b, off, _, _, hp⟩ := hp (by omega)
  exact (hp k x hk).2.2.2
/-- The memory of head behind its first regions. -/
structure HMem (w : World) (B c rm : Nat) (pv : Value) (p : List FnP) (mk : FMap) (y : FVals) (x : FnP) (W : World) : Prop where
  kc : KCtx W B c rm pv p mk
  fb : FBox W B w.heap.size y x
  nb : Blk W (w.heap.size + 1) 3 #[.int .i64 (x.code.length : Int)]
  cb : Blk W (w.heap.size + 1 + 1) 157 #[.func (.func 151) #[] #[]]
  low : Below w.heap.size w W
theorem HMem.below {w W W' : World} {B c rm : Nat} {pv : Value} {p : List FnP} {mk : FMap} {y : FVals} {x : FnP} (h : HMem w B c rm pv p mk y x W) (hb : Below W.heap.size W W') : HMem w B c rm pv p mk y x W' :=
  ⟨h.kc.below hb, h.fb.below hb, h.nb.below hb h.nb.lt, h.cb.below hb h.cb.lt, h.low.trans (hb.mono h.low.size)⟩

theorem all_any {α : Type} (l : List α) (f : α → Bool) : l.any (fun z => !f z) = !(l.all f) := by rw [List.all_eq_not_any_not]; simp
theorem neg_any_all (l : List Int) : l.any (fun z => decide (z < 0)) = !(l.all (fun z => decide (0 ≤ z))) := by
  rw [← all_any]; congr 1; funext z; by_cases h : z < 0
  · simp [h]
  · simp [h, Int.not_lt.1 h]

set_option maxRecDepth 100000 in
set_option maxHeartbeats 40000000 in
theorem head_any (w : World) (B c rm : Nat) (pv : Value) (p : List FnP) (mk : FMap) (fn : Nat) (x : FnP) (hk : KCtx w B c rm pv p mk) (hx : p[fn]? = some x) (t : Bool) (ht : t = headB fn x) :
    Calls Tryz.prog 127 #[.pointer (some ⟨c, 0, none⟩), .int .i64 fn] w (fun e w' => e = .returned (.bool t) ∧ Below w.heap.size w w') := by
  have hfn := (List.getElem?_eq_some_iff.1 hx).1
  obtain ⟨b, off, cp, rfl, hb⟩ := hk.shape (by omega)
  have hplim := hk.len
  obtain ⟨A3, c3, A4, c4, A5, c5, A6, c6, A7, c7, hv, g0, g1, g2, g3, g4, g5, g6, g7⟩ := (hk.fnAt hx).parts
  have hlen := hv.ints
  have hname := hv.name
  obtain ⟨k0, k125⟩ := hk.cells
  have hc := hk.ck.lt
  obtain ⟨w7, hw7⟩ : ∃ w7, w7 = ((w.alloc (.cells (fnCells x ⟨.slice A3 x.caps.length c3, .slice A4 x.consts.length c4, .slice A5 x.code.length c5, .slice A6 x.lines.length c6, .slice A7 x.handlers.length c7⟩) 56)).alloc (.cells #[.int .i64 (x.code.length : Int)] 3)).alloc (.cells #[.func (.func 151) #[] #[]] 157) := ⟨_, rfl⟩
  have hM7 : HMem w B c rm (.slice (some ⟨b, off, none⟩) p.length cp) p mk ⟨.slice A3 x.caps.length c3, .slice A4 x.consts.length c4, .slice A5 x.code.length c5, .slice A6 x.lines.length c6, .slice A7 x.handlers.length c7⟩ x w7 := by
    have h1 : Below w.heap.size w (w.alloc (.cells (fnCells x ⟨.slice A3 x.caps.length c3, .slice A4 x.consts.length c4, .slice A5 x.code.length c5, .slice A6 x.lines.length c6, .slice A7 x.handlers.length c7⟩) 56)) := (Below.refl _ _).alloc (Nat.le_refl _) _
    have h2 := h1.alloc (by simp) (.cells #[.int .i64 (x.code.length : Int)] 3)
    have h3 := h2.alloc (by simp; omega) (.cells #[.func (.func 151) #[] #[]] 157)
    rw [hw7]
    refine ⟨hk.below h3, ⟨hv.keep (Same.of_below (h3.mono hk.hB)), Nat.le_trans hk.hB h3.size, ((Blk.new w _ _).alloc _).alloc _⟩, ?_, ?_, h3⟩
    · have := (Blk.new (w.alloc (.cells (fnCells x ⟨.slice A3 x.caps.length c3, .slice A4 x.consts.length c4, .slice A5 x.code.length c5, .slice A6 x.lines.length c6, .slice A7 x.handlers.length c7⟩) 56)) 3 #[.int .i64 (x.code.length : Int)]).alloc (.cells #[.func (.func 151) #[] #[]] 157)
      simpa using this
    · have := Blk.new ((w.alloc (.cells (fnCells x ⟨.slice A3 x.caps.length c3, .slice A4 x.consts.length c4, .slice A5 x.code.length c5, .slice A6 x.lines.length c6, .slice A7 x.handlers.length c7⟩) 56)).alloc (.cells #[.int .i64 (x.code.length : Int)] 3)) 157 #[.func (.func 151) #[] #[]]
      simpa using this
  obtain ⟨w8, hw8⟩ : ∃ w8, w8 = w7.alloc (.cells #[.func (.func 152) #[] #[.pointer (some ⟨w.heap.size + 1, 0, none⟩)]] 216) := ⟨_, rfl⟩
  have HM7 := Lib.hid hM7
  have HM8 : Hid (HMem w B c rm (.slice (some ⟨b, off, none⟩) p.length cp) p mk ⟨.slice A3 x.caps.length c3, .slice A4 x.consts.length c4, .slice A5 x.code.length c5, .slice A6 x.lines.length c6, .slice A7 x.handlers.length c7⟩ x w8) := Lib.hid (by rw [hw8]; exact hM7.below ((Below.refl _ _).alloc (Nat.le_refl _) _))
  have H8 : Hid (w7.heap.size < w8.heap.size ∧ w8.cell? ⟨w7.heap.size, 0, none⟩ = some (.func (.func 152) #[] #[.pointer (some ⟨w.heap.size + 1, 0, none⟩)])) := Lib.hid ⟨by rw [hw8]; simp, by rw [hw8]; exact (Blk.new w7 _ _).cell 0⟩
  obtain ⟨f0, f1, f2, f3, f4, f5, f6, f7⟩ := hM7.fb.cells
  have n0 := hM7.nb.cell 0
  have l7 := hM7.fb.box.lt
  have l71 := hM7.nb.lt
  have l72 := hM7.cb.lt
  simp only at f3 f4 f5 f6 f7
  unfold fnCells at hw7
  simp only at hw7
  clear hk hv hx hM7
  go_enter Tryz.func127, Tryz.ntmps127
  go_upto_region 4 with fail
  rw [← hw7]
  clear hw7 g0 g1 g2 g3 g4 g5 g6 g7

  obtain ⟨u1, hu1⟩ : ∃ u, u = isB x.params 0 (wrap64 (x.locals + 1)) := ⟨_, rfl⟩
  obtain ⟨u2, hu2⟩ : ∃ u, u = isB x.code.length 1 16385 := ⟨_, rfl⟩
  obtain ⟨u3, hu3⟩ : ∃ u, u = x.consts.any (fun z => !constB z) := ⟨_, rfl⟩
  obtain ⟨u4, hu4⟩ : ∃ u, u = x.lines.any (fun z => decide (z < 0)) := ⟨_, rfl⟩
  obtain ⟨u5, hu5⟩ : ∃ u, u = x.handlers.any (fun z => !handlerB x.code.length z) := ⟨_, rfl⟩
  have HT : Hid (t = (decide ((x.name.size : Int) ≤ 4096) && (u1 && (decide (x.locals ≤ 64) && ((decide (0 < (fn : Int)) || (decide (x.params = 0) && decide ((x.caps.length : Int) = 0))) &&
    (decide ((x.caps.length : Int) ≤ 4096) && (decide ((x.consts.length : Int) ≤ 16384) && (decide ((x.handlers.length : Int) ≤ 16384) && (u2 && (decide ((x.lines.length : Int) = x.code.length) &&
      (!u3 && (!u4 && !u5)))))))))))) := Lib.hid (by rw [ht, hu1, hu2, hu3, hu4, hu5, all_any, neg_any_all, all_any]; unfold headB; simp only [Bool.not_not])
  have HU1 := Lib.hid hu1; have HU2 := Lib.hid hu2; have HU3 := Lib.hid hu3; have HU4 := Lib.hid hu4; have HU5 := Lib.hid hu5
  clear hu1 hu2 hu3 hu4 hu5 ht
  go_upto_region 5 with fail
  simp only [List.append]
  go_wp2_with (first
    | (go_at_call 84; ((with_reducible refine (isb_any x.params 0 (wrap64 (x.locals + 1)) u1 HU1.out _).mono ?_)); rintro e w1 ⟨rfl, hw1⟩; have hw2 := hw1.symm; subst hw2)
    | (go_at_call 84; ((with_reducible refine (isb_any (x.code.length : Int) 1 16385 u2 HU2.out _).mono ?_)); rintro e w1 ⟨rfl, hw1⟩; have hw2 := hw1.symm; subst hw2)
    | (go_at_call 153; rw [← hw8]; refine (ctConst_any w8 _ x.consts 154 #[] #[.pointer (some ⟨w.heap.size + 1 + 1, 0, none⟩)] (fun z => !constB z) (HM8.out.fb.fn.mono HM8.out.fb.hB).consts (fun _ _ => by kernel_rfl) (fun wr y hy hwr => constNot_any wr (w.heap.size + 1 + 1) y (Nat.lt_of_lt_of_le HM8.out.cb.lt hwr.size) ((hwr.cell (p := ⟨w.heap.size + 1 + 1, 0, none⟩) HM8.out.cb.lt).trans (HM8.out.cb.cell 0)) (ConstsV.sizes HM8.out.fb.fn.consts y hy)) u3 HU3.out).mono ?_; rintro e w9 ⟨rfl, hb9⟩; have HM9 := Lib.hid (HM8.out.below hb9); have H9 := Lib.hid (show w7.heap.size < w9.heap.size ∧ w9.cell? ⟨w7.heap.size, 0, none⟩ = some (.func (.func 152) #[] #[.pointer (some ⟨w.heap.size + 1, 0, none⟩)]) from ⟨Nat.lt_of_lt_of_le H8.out.1 hb9.size, (hb9.cell (p := ⟨w7.heap.size, 0, none⟩) H8.out.1).trans H8.out.2⟩); clear hb9; obtain ⟨q0, q1, q2, q3, q4, q5, q6, q7⟩ := HM9.out.fb.cells; have z0 := HM9.out.nb.cell 0; simp only at q3 q4 q5 q6 q7)
    | (go_at_call 65; have HLI0 := (HM9.out.fb.fn.mono HM9.out.fb.hB).lines; simp only at HLI0; refine (ctInt_any w9 _ x.lines 155 #[] #[] (fun z => decide (z < 0)) HLI0 (fun _ _ => by kernel_rfl) (fun wr y hy hwr => lineNeg_any wr y _ rfl) u4 HU4.out).mono ?_; rintro e w10 ⟨rfl, hb10⟩; have HM10 := Lib.hid (HM9.out.below hb10); have H10 := Lib.hid (show w7.heap.size < w10.heap.size ∧ w10.cell? ⟨w7.heap.size, 0, none⟩ = some (.func (.func 152) #[] #[.pointer (some ⟨w.heap.size + 1, 0, none⟩)]) from ⟨Nat.lt_of_lt_of_le H9.out.1 hb10.size, (hb10.cell (p := ⟨w7.heap.size, 0, none⟩) H9.out.1).trans H9.out.2⟩); have y8 := H10.out.2; clear hb10; obtain ⟨y0, y1, y2, y3, y4, y5, y6, y7⟩ := HM10.out.fb.cells; simp only at y3 y4 y5 y6 y7)
    | (go_at_call 156; refine (ctHandler_any w10 _ x.handlers 157 #[] #[.pointer (some ⟨w7.heap.size, 0, none⟩)] (fun z => !handlerB x.code.length z) (HM10.out.fb.fn.mono HM10.out.fb.hB).handlers (fun _ _ => by kernel_rfl) (fun wr y hy hwr => handlerNot_any wr w7.heap.size (w.heap.size + 1) y (x.code.length : Int) (Nat.lt_of_lt_of_le H10.out.1 hwr.size) ((hwr.cell (p := ⟨w7.heap.size, 0, none⟩) H10.out.1).trans H10.out.2) (Nat.lt_of_lt_of_le HM10.out.nb.lt hwr.size) ((hwr.cell (p := ⟨w.heap.size + 1, 0, none⟩) HM10.out.nb.lt).trans (HM10.out.nb.cell 0))) u5 HU5.out).mono ?_; rintro e w11 ⟨rfl, hb11⟩; have HM11 := Lib.hid (HM10.out.below hb11); clear hb11))
  all_goals first
    | (go_ret
       refine ⟨?_, ?_⟩
       · rw [HT.out]; simp [*]; (first | done | (intros; exfalso; omega) | (intros; simp_all))
       · first | exact HM11.out.low | exact HM10.out.low | exact HM9.out.low | exact HM8.out.low | (rw [← hw8]; exact HM8.out.low))
end Go.Proofs.YtkmfdiboekoioaaGreat
