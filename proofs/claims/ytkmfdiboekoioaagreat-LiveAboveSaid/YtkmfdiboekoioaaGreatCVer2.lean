/- verify: a checker in memory; is an instruction's number as its row says? Conditions: a function that lies in memory. -/
import Derived.Test.YtkmfdiboekoioaaGreatCVerPure
import Derived.Deep.RegionLaw
import Derived.Laws.EntriesVeiled
set_option linter.unusedSimpArgs false
set_option linter.unusedVariables false
namespace Go.Proofs.YtkmfdiboekoioaaGreat
open Go.RowKit

theorem Below.drawnAny {B : Nat} {a b : World} (h : Below B a b) {n : Nat} : Below B a { b with drawn := n } := ⟨h.os, h.tape, h.output, h.size, h.block⟩
theorem isb_any (a f b : Int) (t : Bool) (ht : t = isB a f b) (w : World) : Calls Tryz.prog 84 #[.int .i64 a, .int .i64 f, .int .i64 b] w (fun e w' => e = .returned (.bool t) ∧ w' = w) := by
  refine (is_any a f b w).mono ?_
  rintro e w' ⟨rfl, rfl⟩
  exact ⟨by rw [ht]; rfl, rfl⟩
/-- A call of verify.is in a region that draws. -/
theorem step_is {ops : Array Oper} {o : Oper} {a : Act} {K : Act → World → Prop} {Q : Exit → Act → World → Prop} {E : Prop} {W : World} (hw : Region.wanted o (yielded ops a.tmps) = true) (s x y : Operand) (tys : Array TypeId)
    (ho : o.op = .call { callee := .value (.func 84), args := #[s, x, y], argTypes := tys }) (p q r : Int) (hs : a.eval s = .int .i64 p) (hx : a.eval x = .int .i64 q) (hy : a.eval y = .int .i64 r) (t : Bool) (ht : t = isB p q r)
    (hK : K (a.put o.dst (.bool t)) W) : if Region.wanted o (yielded ops a.tmps) = true then Oper.wp Tryz.prog o a W K Q else E := by
  have hc := isb_any p q r t ht W
  rw [if_pos hw]
  unfold Oper.wp
  have hf : a.eval (.func 84) = .func (.func 84) #[] #[] := rfl
  simp only [execOp, ho, resolve, invoke, hs, hx, hy, hf, List.map_toArray, List.map_cons, List.map_nil, Sem.run_bind, Sem.run_pure, Result.andThen, pure_bind, bind_pure_comp, Sem.run_map]
  go_simp
  refine hc.mono ?_
  rintro e w' ⟨rfl, rfl⟩
  exact hK

/-- The cells of a checker. -/
def ccells (pv : Value) (rm : Nat) : Array Value := #[pv] ++ rowsCells ++ #[.map (some rm)]
structure KCtx (w : World) (B c rm : Nat) (pv : Value) (p : List FnP) (mk : FMap) : Prop where
  pr : ProgV w B pv p
  hB : B ≤ w.heap.size
  ck : Blk w c 194 (ccells pv rm)
  mp : IMap w rm mk
  hc : B ≤ c
  hr : B ≤ rm
section
variable {w w' : World} {B c rm : Nat} {pv : Value} {p : List FnP} {mk mk' : FMap}
theorem KCtx.below (h : KCtx w B c rm pv p mk) (hb : Below w.heap.size w w') : KCtx w' B c rm pv p mk :=
  ⟨h.pr.keep (Same.of_below (hb.mono h.hB)), Nat.le_trans h.hB hb.size, h.ck.below hb h.ck.lt, h.mp.below hb h.mp.lt, h.hc, h.hr⟩
theorem KCtx.alloc (h : KCtx w B c rm pv p mk) (o : Obj) : KCtx (w.alloc o) B c rm pv p mk := h.below ((Below.refl _ _).alloc (Nat.le_refl _) _)
theorem KCtx.prog (h : KCtx w B c rm pv p mk) : ProgV w w.heap.size pv p := h.pr.mono h.hB
set_option maxRecDepth 100000 in
theorem ccells_row (o k : Nat) (ho : o < 31) (hk : k < 4) : (ccells pv rm)[1 + o * 4 + k]? = (rowCells (rowsP.getD o ⟨0, 0, 0, 0⟩))[k]? := by
  have e1 : (ccells pv rm)[1 + o * 4 + k]? = rowsCells[o * 4 + k]? := by
    unfold ccells
    have hs : rowsCells.size = 124 := by kernel_rfl
    rw [Array.append_assoc, Array.getElem?_append_right (by simp; omega), Array.getElem?_append_left (by simp [hs]; omega)]
    congr 1
    simp
    omega
  rw [e1]
  have hl : ∀ (l : List RowP) (o : Nat), o < l.length → (l.flatMap rowCells)[o * 4 + k]? = (rowCells (l.getD o ⟨0, 0, 0, 0⟩))[k]? := by
    intro l
    induction l with
    | nil => intro o h; simp at h
    | cons r l ih =>
      intro o h
      have h4 : (rowCells r).length = 4 := rfl
      cases o with
      | zero => rw [List.flatMap_cons, List.getElem?_append_left (by rw [h4]; omega)]; simp
      | succ o =>
        rw [List.flatMap_cons, List.getElem?_append_right (by rw [h4]; omega), h4, show (o + 1) * 4 + k - 4 = o * 4 + k by omega, ih o (by simpa using h)]
        simp
  have := hl rowsP o ho
  unfold rowsCells
  rw [List.getElem?_toArray]
  exact this
theorem KCtx.cells (h : KCtx w B c rm pv p mk) : w.cell? ⟨c, 0, none⟩ = some pv ∧ w.cell? ⟨c, 125, none⟩ = some (.map (some rm)) := by
  have hs : rowsCells.size = 124 := by kernel_rfl
  refine ⟨?_, ?_⟩
  · rw [h.ck.cell]; unfold ccells; rw [Array.append_assoc, Array.getElem?_append_left (by simp)]; rfl
  · rw [h.ck.cell]; unfold ccells; rw [Array.getElem?_append_right (by simp [hs])]; simp [hs]
theorem rowOf_nat (o : Nat) : rowOf (o : Int) = rowsP.getD o ⟨0, 0, 0, 0⟩ := by unfold rowOf; rw [Int.toNat_natCast]
theorem KCtx.row (h : KCtx w B c rm pv p mk) (o : Nat) (ho : o < 31) :
    w.cell? ⟨c, 1 + o * 4, none⟩ = some (.int .u8 (rowOf (o : Int)).a) ∧ w.cell? ⟨c, 1 + o * 4 + 1, none⟩ = some (.int .i64 (rowOf (o : Int)).takes) ∧
    w.cell? ⟨c, 1 + o * 4 + 2, none⟩ = some (.int .i64 (rowOf (o : Int)).leaves) ∧ w.cell? ⟨c, 1 + o * 4 + 3, none⟩ = some (.int .i64 (rowOf (o : Int)).times) := by
  rw [rowOf_nat]
  refine ⟨?_, ?_, ?_, ?_⟩
  · rw [h.ck.cell]; exact ccells_row o 0 ho (by omega)
  · rw [h.ck.cell]; exact ccells_row o 1 ho (by omega)
  · rw [h.ck.cell]; exact ccells_row o 2 ho (by omega)
  · rw [h.ck.cell]; exact ccells_row o 3 ho (by omega)
end
theorem row_a (o : Nat) (ho : o < 31) : (rowOf (o : Int)).a = 0 ∨ (rowOf (o : Int)).a = 1 ∨ (rowOf (o : Int)).a = 2 ∨ (rowOf (o : Int)).a = 3 ∨ (rowOf (o : Int)).a = 4 ∨ (rowOf (o : Int)).a = 5 ∨ (rowOf (o : Int)).a = 6 ∨ (rowOf (o : Int)).a = 7 ∨ (rowOf (o : Int)).a = 8 := by
  rw [rowOf_nat]
  have : ∀ o : Fin 31, (rowsP.getD o.val ⟨0, 0, 0, 0⟩).a = 0 ∨ (rowsP.getD o.val ⟨0, 0, 0, 0⟩).a = 1 ∨ (rowsP.getD o.val ⟨0, 0, 0, 0⟩).a = 2 ∨ (rowsP.getD o.val ⟨0, 0, 0, 0⟩).a = 3 ∨ (rowsP.getD o.val ⟨0, 0, 0, 0⟩).a = 4 ∨ (rowsP.getD o.val ⟨0, 0, 0, 0⟩).a = 5 ∨ (rowsP.getD o.val ⟨0, 0, 0, 0⟩).a = 6 ∨ (rowsP.getD o.val ⟨0, 0, 0, 0⟩).a = 7 ∨ (rowsP.getD o.val ⟨0, 0, 0, 0⟩).a = 8 := by decide
  exact this ⟨o, ho⟩

/-- A function's values as slices. -/
theorem FnV.shape {w : World} {B : Nat} {y : FVals} {x : FnP} (h : FnV w B y x) : ∃ A3 c3 A4 c4 A5 c5 A6 c6 A7 c7, y = ⟨.slice A3 x.caps.length c3, .slice A4 x.consts.length c4, .slice A5 x.code.length c5, .slice A6 x.lines.length c6, .slice A7 x.handlers.length c7⟩ := by
  obtain ⟨_, ⟨A3, c3, h3, _⟩, ⟨A4, c4, h4, _⟩, ⟨A5, c5, h5, _⟩, ⟨A6, c6, h6, _⟩, ⟨A7, c7, h7, _⟩⟩ := h
  obtain ⟨v3, v4, v5, v6, v7⟩ := y
  simp only at h3 h4 h5 h6 h7
  subst h3 h4 h5 h6 h7
  exact ⟨A3, c3, A4, c4, A5, c5, A6, c6, A7, c7, rfl⟩

set_option maxRecDepth 100000 in
set_option maxHeartbeats 8000000 in
theorem numbered_any (w : World) (B c rm : Nat) (pv : Value) (p : List FnP) (mk : FMap) (x : FnP) (y : FVals) (pc : Nat) (i : InsP) (hk : KCtx w B c rm pv p mk) (hx : FnV w w.heap.size y x) (hi : x.code[pc]? = some i) (t : Bool) (ht : t = numB p.length x pc i) :
    Calls Tryz.prog 158 #[.pointer (some ⟨c, 0, none⟩), .agg (fnCells x y), .int .i64 pc] w (fun e w' => e = .returned (.bool t) ∧ Below w.heap.size w w') := by
  obtain ⟨A3, c3, A4, c4, A5, c5, A6, c6, A7, c7, rfl⟩ := hx.shape
  have hlen : x.code.length ≤ 17592186044416 := by obtain ⟨_, _, _, ⟨_, _, _, _, h, _⟩, _⟩ := hx; unfold lim at h; exact h
  have hpc := (List.getElem?_eq_some_iff.1 hi).1
  obtain ⟨b5, o5, rfl, hb5, hins⟩ : ∃ b5 o5, A5 = some ⟨b5, o5, none⟩ ∧ b5 < w.heap.size ∧ InsAt w b5 (o5 + pc * 2) i := by
    obtain ⟨_, _, _, ⟨A, c, hv, _, _, h⟩, _⟩ := hx
    simp only at hv
    injection hv with e1 e2 e3
    subst e1
    obtain ⟨b, o, e, hb, h⟩ := h (by omega)
    exact ⟨b, o, e, hb, h pc i hi⟩
  obtain ⟨f0, f1, hop⟩ := hins
  obtain ⟨o, ho⟩ : ∃ o : Nat, i.op = (o : Int) := ⟨i.op.toNat, by omega⟩
  have hc := hk.ck.lt
  obtain ⟨Ap, cp, hpv, _, hpl, _⟩ := hk.pr
  subst hpv
  have hplim : p.length ≤ 17592186044416 := by unfold lim at hpl; exact hpl
  have ho255 : o < 256 := by omega
  rw [ho] at f0
  obtain ⟨bop, hbop⟩ : ∃ b : Bool, b = isB (o : Int) 1 31 := ⟨_, rfl⟩
  obtain ⟨k0, k125⟩ := hk.cells
  have HBW : ∀ o1 o2, Below w.heap.size w ((w.alloc o1).alloc o2) := fun o1 o2 => ((Below.refl _ _).alloc (Nat.le_refl _) _).alloc (by simp) _
  have HBL := Lib.hid HBW; clear HBW
  clear hx hpl hi
  unfold fnCells
  cases bop with
  | false =>
    have HBop := Lib.hid hbop
    have HT : Hid (t = false) := Lib.hid (by rw [ht]; unfold numB; rw [ho, ← hbop]; rfl)
    clear hbop ht hk
    go_enter Tryz.func158, Tryz.ntmps158
    go_wp2_with (go_at_call 84; refine (isb_any (o : Int) 1 31 false HBop.out _).mono ?_; rintro e w1 ⟨rfl, hw1⟩; have hw2 := hw1.symm; subst hw2)
    go_ret
    exact ⟨by rw [HT.out]; rfl, ((Below.refl _ _).alloc (Nat.le_refl _) _).alloc (by simp) _⟩
  | true =>
    have hor := (isB_iff _ _ _).1 hbop.symm
    have ho31 : o < 31 := by omega
    have HBop := Lib.hid hbop
    obtain ⟨r0, _, _, _⟩ := hk.row o ho31
    clear hbop hk
    obtain ⟨a, ha⟩ : ∃ a : Int, a = i.a := ⟨_, rfl⟩
    rw [← ha] at f1
    rcases row_a o ho31 with hra | hra | hra | hra | hra | hra | hra | hra | hra
    · have HT : Hid (t = decide (a = 0)) := Lib.hid (by rw [ht]; unfold numB; rw [ho, ← HBop.out, hra, ha]; first | rfl | simp)
      obtain ⟨u, hu⟩ : ∃ u : Bool, u = decide (a = 0) := ⟨_, rfl⟩
      have HU := Lib.hid hu
      rw [hra] at r0
      clear ht hra hu hor ha
      go_enter Tryz.func158, Tryz.ntmps158
      go_wp2_with (first
        | (go_at_call 84; ((with_reducible refine (isb_any (o : Int) 1 31 true HBop.out _).mono ?_)); rintro e w1 ⟨rfl, hw1⟩; have hw2 := hw1.symm; subst hw2)
        | (go_at_call 84; refine (isb_any a 0 0 u HU.out _).mono ?_; rintro e w1 ⟨rfl, hw1⟩; have hw2 := hw1.symm; subst hw2)
        | go_region
        | fail)
      all_goals
        go_ret
        refine ⟨by rw [HT.out]; rfl, ?_⟩
        first | exact Below.drawnAny (HBL.out _ _) | exact Below.drawnAny (Below.drawnAny (HBL.out _ _))
    · have HT : Hid (t = isB a 0 (x.consts.length : Int)) := Lib.hid (by rw [ht]; unfold numB; rw [ho, ← HBop.out, hra, ha]; first | rfl | simp)
      obtain ⟨u, hu⟩ : ∃ u : Bool, u = isB a 0 (x.consts.length : Int) := ⟨_, rfl⟩
      have HU := Lib.hid hu
      rw [hra] at r0
      clear ht hra hu hor ha
      go_enter Tryz.func158, Tryz.ntmps158
      go_wp2_with (first
        | (go_at_call 84; ((with_reducible refine (isb_any (o : Int) 1 31 true HBop.out _).mono ?_)); rintro e w1 ⟨rfl, hw1⟩; have hw2 := hw1.symm; subst hw2)
        | (go_at_call 84; refine (isb_any a 0 (x.consts.length : Int) u HU.out _).mono ?_; rintro e w1 ⟨rfl, hw1⟩; have hw2 := hw1.symm; subst hw2)
        | go_region
        | fail)
      all_goals
        go_ret
        refine ⟨by rw [HT.out, ← HU.out]; rfl, ?_⟩
        first | exact Below.drawnAny (HBL.out _ _) | exact Below.drawnAny (Below.drawnAny (HBL.out _ _))
    · have HT : Hid (t = isB a 0 x.locals) := Lib.hid (by rw [ht]; unfold numB; rw [ho, ← HBop.out, hra, ha]; first | rfl | simp)
      obtain ⟨u, hu⟩ : ∃ u : Bool, u = isB a 0 x.locals := ⟨_, rfl⟩
      have HU := Lib.hid hu
      rw [hra] at r0
      clear ht hra hu hor ha
      go_enter Tryz.func158, Tryz.ntmps158
      go_wp2_with (first
        | (go_at_call 84; ((with_reducible refine (isb_any (o : Int) 1 31 true HBop.out _).mono ?_)); rintro e w1 ⟨rfl, hw1⟩; have hw2 := hw1.symm; subst hw2)
        | (go_at_call 84; refine (isb_any a 0 x.locals u HU.out _).mono ?_; rintro e w1 ⟨rfl, hw1⟩; have hw2 := hw1.symm; subst hw2)
        | go_region
        | fail)
      all_goals
        go_ret
        refine ⟨by rw [HT.out, ← HU.out]; rfl, ?_⟩
        first | exact Below.drawnAny (HBL.out _ _) | exact Below.drawnAny (Below.drawnAny (HBL.out _ _))
    · have HT : Hid (t = isB a 0 (x.caps.length : Int)) := Lib.hid (by rw [ht]; unfold numB; rw [ho, ← HBop.out, hra, ha]; first | rfl | simp)
      obtain ⟨u, hu⟩ : ∃ u : Bool, u = isB a 0 (x.caps.length : Int) := ⟨_, rfl⟩
      have HU := Lib.hid hu
      rw [hra] at r0
      clear ht hra hu hor ha
      go_enter Tryz.func158, Tryz.ntmps158
      go_wp2_with (first
        | (go_at_call 84; ((with_reducible refine (isb_any (o : Int) 1 31 true HBop.out _).mono ?_)); rintro e w1 ⟨rfl, hw1⟩; have hw2 := hw1.symm; subst hw2)
        | (go_at_call 84; refine (isb_any a 0 (x.caps.length : Int) u HU.out _).mono ?_; rintro e w1 ⟨rfl, hw1⟩; have hw2 := hw1.symm; subst hw2)
        | go_region
        | fail)
      all_goals
        go_ret
        refine ⟨by rw [HT.out, ← HU.out]; rfl, ?_⟩
        first | exact Below.drawnAny (HBL.out _ _) | exact Below.drawnAny (Below.drawnAny (HBL.out _ _))
    · have HT : Hid (t = isB a 1 10) := Lib.hid (by rw [ht]; unfold numB; rw [ho, ← HBop.out, hra, ha]; first | rfl | simp)
      obtain ⟨u, hu⟩ : ∃ u : Bool, u = isB a 1 10 := ⟨_, rfl⟩
      have HU := Lib.hid hu
      rw [hra] at r0
      clear ht hra hu hor ha
      go_enter Tryz.func158, Tryz.ntmps158
      go_wp2_with (first
        | (go_at_call 84; ((with_reducible refine (isb_any (o : Int) 1 31 true HBop.out _).mono ?_)); rintro e w1 ⟨rfl, hw1⟩; have hw2 := hw1.symm; subst hw2)
        | (go_at_call 84; refine (isb_any a 1 10 u HU.out _).mono ?_; rintro e w1 ⟨rfl, hw1⟩; have hw2 := hw1.symm; subst hw2)
        | go_region
        | fail)
      all_goals
        go_ret
        refine ⟨by rw [HT.out, ← HU.out]; rfl, ?_⟩
        first | exact Below.drawnAny (HBL.out _ _) | exact Below.drawnAny (Below.drawnAny (HBL.out _ _))
    · have HT : Hid (t = isB a ((pc : Int) + 1) (x.code.length : Int)) := Lib.hid (by rw [ht]; unfold numB; rw [ho, ← HBop.out, hra, ha]; first | rfl | simp)
      obtain ⟨u, hu⟩ : ∃ u : Bool, u = isB a ((pc : Int) + 1) (x.code.length : Int) := ⟨_, rfl⟩
      have HU := Lib.hid hu
      rw [hra] at r0
      clear ht hra hu hor ha
      go_enter Tryz.func158, Tryz.ntmps158
      go_wp2_with (first
        | (go_at_call 84; ((with_reducible refine (isb_any (o : Int) 1 31 true HBop.out _).mono ?_)); rintro e w1 ⟨rfl, hw1⟩; have hw2 := hw1.symm; subst hw2)
        | (go_at_call 84; refine (isb_any a ((pc : Int) + 1) (x.code.length : Int) u HU.out _).mono ?_; rintro e w1 ⟨rfl, hw1⟩; have hw2 := hw1.symm; subst hw2)
        | go_region
        | fail)
      all_goals
        go_ret
        refine ⟨by rw [HT.out, ← HU.out]; rfl, ?_⟩
        first | exact Below.drawnAny (HBL.out _ _) | exact Below.drawnAny (Below.drawnAny (HBL.out _ _))
    · have HT : Hid (t = isB a 0 ((pc : Int) + 1)) := Lib.hid (by rw [ht]; unfold numB; rw [ho, ← HBop.out, hra, ha]; first | rfl | simp)
      obtain ⟨u, hu⟩ : ∃ u : Bool, u = isB a 0 ((pc : Int) + 1) := ⟨_, rfl⟩
      have HU := Lib.hid hu
      rw [hra] at r0
      clear ht hra hu hor ha
      go_enter Tryz.func158, Tryz.ntmps158
      go_wp2_with (first
        | (go_at_call 84; ((with_reducible refine (isb_any (o : Int) 1 31 true HBop.out _).mono ?_)); rintro e w1 ⟨rfl, hw1⟩; have hw2 := hw1.symm; subst hw2)
        | (go_at_call 84; refine (isb_any a 0 ((pc : Int) + 1) u HU.out _).mono ?_; rintro e w1 ⟨rfl, hw1⟩; have hw2 := hw1.symm; subst hw2)
        | go_region
        | fail)
      all_goals
        go_ret
        refine ⟨by rw [HT.out, ← HU.out]; rfl, ?_⟩
        first | exact Below.drawnAny (HBL.out _ _) | exact Below.drawnAny (Below.drawnAny (HBL.out _ _))
    · have HT : Hid (t = isB a 0 257) := Lib.hid (by rw [ht]; unfold numB; rw [ho, ← HBop.out, hra, ha]; first | rfl | simp)
      obtain ⟨u, hu⟩ : ∃ u : Bool, u = isB a 0 257 := ⟨_, rfl⟩
      have HU := Lib.hid hu
      rw [hra] at r0
      clear ht hra hu hor ha
      go_enter Tryz.func158, Tryz.ntmps158
      go_wp2_with (first
        | (go_at_call 84; ((with_reducible refine (isb_any (o : Int) 1 31 true HBop.out _).mono ?_)); rintro e w1 ⟨rfl, hw1⟩; have hw2 := hw1.symm; subst hw2)
        | (go_at_call 84; refine (isb_any a 0 257 u HU.out _).mono ?_; rintro e w1 ⟨rfl, hw1⟩; have hw2 := hw1.symm; subst hw2)
        | go_region
        | fail)
      all_goals
        go_ret
        refine ⟨by rw [HT.out, ← HU.out]; rfl, ?_⟩
        first | exact Below.drawnAny (HBL.out _ _) | exact Below.drawnAny (Below.drawnAny (HBL.out _ _))
    · have HT : Hid (t = isB a 1 (p.length : Int)) := Lib.hid (by rw [ht]; unfold numB; rw [ho, ← HBop.out, hra, ha]; first | rfl | simp)
      obtain ⟨u, hu⟩ : ∃ u : Bool, u = isB a 1 (p.length : Int) := ⟨_, rfl⟩
      have HU := Lib.hid hu
      rw [hra] at r0
      clear ht hra hu hor ha
      go_enter Tryz.func158, Tryz.ntmps158
      go_wp2_with (first
        | (go_at_call 84; ((with_reducible refine (isb_any (o : Int) 1 31 true HBop.out _).mono ?_)); rintro e w1 ⟨rfl, hw1⟩; have hw2 := hw1.symm; subst hw2)
        | (go_at_call 84; refine (isb_any a 1 (p.length : Int) u HU.out _).mono ?_; rintro e w1 ⟨rfl, hw1⟩; have hw2 := hw1.symm; subst hw2)
        | go_region
        | (go_region_law ((refine step_is (by rfl) _ _ _ _ (by rfl) a 1 (p.length : Int) (by rfl) (by rfl) (by rfl) u HU.out ?_)))
        | fail)
      all_goals
        go_ret
        refine ⟨by rw [HT.out, ← HU.out]; rfl, ?_⟩
        first | exact Below.drawnAny (HBL.out _ _) | exact Below.drawnAny (Below.drawnAny (HBL.out _ _))
end Go.Proofs.YtkmfdiboekoioaaGreat
