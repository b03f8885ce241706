/- graph.look in memory; does a node stand ahead of a place? Conditions: a graph and a program that lie in memory. -/
import Derived.Test.YtkmfdiboekoioaaGreatCLk1
import Derived.Deep.RegionLaw
set_option linter.unusedSimpArgs false
set_option linter.unusedVariables false
namespace Go.Proofs.YtkmfdiboekoioaaGreat
open Go.RowKit
def lkCells (pv : Value) (xv : GVals) (g : GraphP) (dv av bv : Value) : Array Value := #[pv, .int .i64 g.fn, .int .i64 g.pc, .int .i64 g.slots, xv.vn, xv.vb, xv.vs, dv, av, bv]
/-- The box of a graph that is looked at. -/
structure LkBox (w : World) (B bl : Nat) (pv : Value) (p : List FnP) (xv : GVals) (g : GraphP) (dv av bv : Value) : Prop where
  pr : ProgV w B pv p
  gr : GraphV w B xv g
  hB : B ≤ w.heap.size
  box : Blk w bl 87 (lkCells pv xv g dv av bv)
  hbl : B ≤ bl
section
variable {w w' : World} {B bl : Nat} {pv : Value} {p : List FnP} {xv : GVals} {g : GraphP} {dv av bv : Value}
theorem LkBox.below (h : LkBox w B bl pv p xv g dv av bv) (hb : Below w.heap.size w w') : LkBox w' B bl pv p xv g dv av bv :=
  ⟨h.pr.keep (Same.of_below (hb.mono h.hB)), h.gr.keep (Same.of_below (hb.mono h.hB)), Nat.le_trans h.hB hb.size, h.box.below hb h.box.lt, h.hbl⟩
theorem LkBox.cells (h : LkBox w B bl pv p xv g dv av bv) : w.cell? ⟨bl, 0, none⟩ = some pv ∧ w.cell? ⟨bl, 1, none⟩ = some (.int .i64 g.fn) ∧ w.cell? ⟨bl, 2, none⟩ = some (.int .i64 g.pc) ∧ w.cell? ⟨bl, 3, none⟩ = some (.int .i64 g.slots) ∧
    w.cell? ⟨bl, 4, none⟩ = some xv.vn ∧ w.cell? ⟨bl, 5, none⟩ = some xv.vb ∧ w.cell? ⟨bl, 6, none⟩ = some xv.vs ∧ w.cell? ⟨bl, 7, none⟩ = some dv ∧ w.cell? ⟨bl, 8, none⟩ = some av ∧ w.cell? ⟨bl, 9, none⟩ = some bv :=
  ⟨h.box.cell 0, h.box.cell 1, h.box.cell 2, h.box.cell 3, h.box.cell 4, h.box.cell 5, h.box.cell 6, h.box.cell 7, h.box.cell 8, h.box.cell 9⟩
/-- A row of pairs of whole numbers. -/
def PairsV (w : World) (v : Value) (l : List (Int × Int)) : Prop :=
  ∃ ba c, v = .slice (some ⟨ba, 0, none⟩) l.length c ∧ l.length ≤ c ∧ l.length ≤ 17592186044416 ∧ ba < w.heap.size ∧ ∀ (k : Nat) q, l[k]? = some q → w.cell? ⟨ba, k * 2, none⟩ = some (.int .i64 q.1) ∧ w.cell? ⟨ba, k * 2 + 1, none⟩ = some (.int .i64 q.2)
theorem PairsV.below {v : Value} {l : List (Int × Int)} (h : PairsV w v l) (hb : Below w.heap.size w w') : PairsV w' v l := by
  obtain ⟨ba, c, h1, h2, h3, h4, h5⟩ := h
  exact ⟨ba, c, h1, h2, h3, Nat.lt_of_lt_of_le h4 hb.size, fun k q hq => ⟨(hb.cell (p := ⟨ba, k * 2, none⟩) h4).trans (h5 k q hq).1, (hb.cell (p := ⟨ba, k * 2 + 1, none⟩) h4).trans (h5 k q hq).2⟩⟩
end
theorem IntsV.drawn {w : World} {B n : Nat} {v : Value} {l : List Int} (h : IntsV w B v l) : IntsV { w with drawn := n } B v l := h.keep (fun _ _ => rfl)
theorem step_has {ops : Array Oper} {o : Oper} {a : Act} {K : Act → World → Prop} {Q : Exit → Act → World → Prop} {E : Prop} {W : World} (hw : Region.wanted o (yielded ops a.tmps) = true) (s x : Operand) (tys : Array TypeId)
    (ho : o.op = .call { callee := .value (.func 90), args := #[s, x], argTypes := tys }) (v : Value) (l : List Int) (z : Int) (hs : a.eval s = v) (hx : a.eval x = .int .i64 z) (hl : IntsV W W.heap.size v l)
    (hK : K (a.put o.dst (.bool (decide (z ∈ l)))) W) : if Region.wanted o (yielded ops a.tmps) = true then Oper.wp Tryz.prog o a W K Q else E := by
  have hc := contains_any W v l z hl (decide (z ∈ l)) (by simp)
  rw [if_pos hw]
  unfold Oper.wp
  have hf : a.eval (.func 90) = .func (.func 90) #[] #[] := rfl
  simp only [execOp, ho, resolve, invoke, hs, hx, hf, List.map_toArray, List.map_cons, List.map_nil, Sem.run_bind, Sem.run_pure, Result.andThen, pure_bind, bind_pure_comp, Sem.run_map]
  go_simp
  refine hc.mono ?_
  rintro e w' ⟨rfl, rfl⟩
  exact hK

set_option maxRecDepth 100000 in
set_option maxHeartbeats 8000000 in
theorem stands_any (w : World) (B bl : Nat) (pv : Value) (p : List FnP) (xv : GVals) (g : GraphP) (dv av bv : Value) (al : List (Int × Int)) (abs : List (List Int)) (hl : LkBox w B bl pv p xv g dv av bv) (ha : PairsV w av al) (hr : RowsV w w.heap.size bv abs)
    (n : Nat) (q : Int × Int) (hq : al[n]? = some q) (b : Nat) (i : Int) (row : List Int) (hb : abs[b]? = some row) (t : Bool) (ht : t = if q.1 = (b : Int) then decide (q.2 < i) else decide (q.1 ∈ row)) :
    Calls Tryz.prog 93 #[.pointer (some ⟨bl, 0, none⟩), .int .i64 n, .agg #[.int .i64 b, .int .i64 i]] w (fun e w' => e = .returned (.bool t) ∧ Below w.heap.size w w') := by
  obtain ⟨w1, hw1⟩ : ∃ w1, w1 = w.alloc (.cells #[.int .i64 b, .int .i64 i] 92) := ⟨_, rfl⟩
  have hb1 : Below w.heap.size w w1 := by rw [hw1]; exact (Below.refl _ _).alloc (Nat.le_refl _) _
  have hx : Blk w1 w.heap.size 92 #[.int .i64 b, .int .i64 i] := by rw [hw1]; exact Blk.new _ _ _
  have hl1 := hl.below hb1
  obtain ⟨_, _, _, _, _, _, _, _, c8, c9⟩ := hl1.cells
  have x0 := hx.cell 0
  have x1 := hx.cell 1
  have lx := hx.lt
  have ll := hl1.box.lt
  obtain ⟨ba, ca, rfl, hca, hla, hlt, hp⟩ := ha.below hb1
  obtain ⟨p0, p1⟩ := hp n q hq
  have hn := (List.getElem?_eq_some_iff.1 hq).1
  obtain ⟨q0, q1⟩ := q
  simp only at p0 p1 ht
  have HB := Lib.hid hb1
  clear hp hq hl
  by_cases he : q0 = (b : Int)
  · subst he
    clear hl1 hx
    by_cases hlt2 : q1 < i
    · have HT : Hid (t = true) := Lib.hid (by rw [ht]; simp [hlt2])
      clear ht
      go_enter Tryz.func93, Tryz.ntmps93
      go_upto_region 1 with fail
      rw [← hw1]
      clear hw1
      go_wp2_with go_region
      go_ret
      exact ⟨by rw [HT.out]; simp [hlt2], Below.drawnAny HB.out⟩
    · have HT : Hid (t = false) := Lib.hid (by rw [ht]; simp [hlt2])
      clear ht
      go_enter Tryz.func93, Tryz.ntmps93
      go_upto_region 1 with fail
      rw [← hw1]
      clear hw1
      go_wp2_with go_region
      go_ret
      exact ⟨by rw [HT.out]; simp [hlt2], Below.drawnAny HB.out⟩
  · have hbne : decide (q0 = (b : Int)) = false := by simp [he]
    have hbn2 : (q0 == (b : Int)) = false := by simp [he]
    have HT : Hid (t = decide (q0 ∈ row)) := Lib.hid (by rw [ht]; simp [he])
    clear ht
    have hr1 := hr.keep (Same.of_below hb1)
    obtain ⟨Ar, cr, rfl, hcr, hlr, hpr⟩ := hr1
    have hbl := (List.getElem?_eq_some_iff.1 hb).1
    obtain ⟨br, ofr, rfl, hbr, hpr⟩ := hpr (by omega)
    obtain ⟨u, hu, hui⟩ := hpr b row hb
    have hlim : abs.length ≤ 17592186044416 := by unfold lim at hlr; omega
    have HRow : Hid (IntsV w1 w1.heap.size u row) := Lib.hid (hui.mono hb1.size)
    have HNe := Lib.hid he
    obtain ⟨Au, cu, rfl, _⟩ := hui
    clear hl1 hx hpr hb hr
    go_enter Tryz.func93, Tryz.ntmps93
    go_upto_region 1 with fail
    rw [← hw1]
    clear hw1
    go_upto_region 3 with go_region
    all_goals
      go_wp2_with (first
        | (go_region_law ((refine step_has (by rfl) _ _ _ (by rfl) (.slice Au row.length cu) row q0 (by rfl) (by rfl) (IntsV.drawn HRow.out) ?_)))
        | go_region)
      all_goals
        go_ret
        exact ⟨by rw [HT.out]; rfl, Below.drawnAny HB.out⟩
end Go.Proofs.YtkmfdiboekoioaaGreat
