/- The walk of reg.May and graph.Reg. Conditions: a program that lies in memory; an instruction that names a function names one that there is. -/
import Derived.Test.YtkmfdiboekoioaaGreatCRegFine
import Derived.Test.YtkmfdiboekoioaaGreatCDep
set_option linter.unusedSimpArgs false
set_option linter.unusedVariables false
namespace Go.Proofs.YtkmfdiboekoioaaGreat
open Go.RowKit
def MayIs (op : Int) (w : World) (e : Ending) (w' : World) : Prop := ∃ ok tos ex : Bool, e = .returned (.tuple #[.bool ok, .bool tos, .bool ex]) ∧ (ok = true → op = 24 → ex = true) ∧ Below w.heap.size w w'
theorem rowsR_op {b1 b2 : Nat} : ∀ r ∈ rowsR b1 b2, (r.op = 24 → r.exit = true) ∧ -1 ≤ r.args ∧ r.args ≤ 3 := by
  intro r hr
  simp only [rowsR, List.mem_cons, List.not_mem_nil, or_false] at hr
  rcases hr with rfl | rfl | rfl | rfl | rfl | rfl | rfl | rfl | rfl | rfl | rfl | rfl | rfl | rfl | rfl | rfl | rfl | rfl | rfl | rfl | rfl | rfl | rfl | rfl | rfl | rfl | rfl <;> simp
theorem isop_any (w : World) (r : RowR) (b : Nat) (op : Int) (hb : b < w.heap.size) (h0 : w.cell? ⟨b, 0, none⟩ = some (.int .u8 op)) : Calls Tryz.prog 137 #[.agg #[.int .u8 r.op, .bool r.tos, .int .i64 r.args, .bool r.exit, fineV r.fine], .pointer (some ⟨b, 0, none⟩)] w
    (fun e w' => e = .returned (.bool (decide (r.op = op))) ∧ Below w.heap.size w w') := by
  obtain ⟨o, t, a, x, f⟩ := r
  rcases f with _ | ⟨pf, cs⟩
  · by_cases h : o = op
    · unfold fineV
      go_enter Tryz.func137, Tryz.ntmps137
      go_wp2_with fail
      go_ret
      exact ⟨by simp [h], (Below.refl _ _).alloc (Nat.le_refl _) _⟩
    · unfold fineV
      go_enter Tryz.func137, Tryz.ntmps137
      go_wp2_with fail
      go_ret
      exact ⟨by simp [h], (Below.refl _ _).alloc (Nat.le_refl _) _⟩
  · by_cases h : o = op
    · unfold fineV
      go_enter Tryz.func137, Tryz.ntmps137
      go_wp2_with fail
      go_ret
      exact ⟨by simp [h], (Below.refl _ _).alloc (Nat.le_refl _) _⟩
    · unfold fineV
      go_enter Tryz.func137, Tryz.ntmps137
      go_wp2_with fail
      go_ret
      exact ⟨by simp [h], (Below.refl _ _).alloc (Nat.le_refl _) _⟩
theorem ixOf_cases {α : Type} (q : α → Bool) (l : List α) : ixOf q l = -1 ∨ ∃ (k : Nat) (y : α), ixOf q l = (k : Int) ∧ l[k]? = some y ∧ q y = true := by
  unfold ixOf
  cases h : l.findIdx? q with
  | none => exact .inl rfl
  | some k =>
    obtain ⟨hk, h1, _⟩ := List.findIdx?_eq_some_iff_getElem.1 h
    exact .inr ⟨k, l[k], rfl, List.getElem?_eq_getElem hk, h1⟩
set_option maxRecDepth 100000 in
set_option maxHeartbeats 8000000 in
theorem may_any (w : World) (pv : Value) (p : List FnP) (fn : Nat) (x : FnP) (hp : ProgV w w.heap.size pv p) (hx : p[fn]? = some x) (hcode : ∀ i ∈ x.code, i.op = 26 → 1 ≤ i.a ∧ i.a < (p.length : Int)) (op n k d : Int) (hd : 0 ≤ d ∧ d ≤ 17592186044416) :
    Calls Tryz.prog 95 #[pv, .int .i64 fn, .int .u8 op, .int .i64 n, .int .u8 k, .int .i64 d] w (MayIs op w) := by
  have HP := Lib.hid hp; have HX := Lib.hid hx; have HC := Lib.hid hcode
  obtain ⟨A, cp, rfl, _⟩ := hp
  obtain ⟨w1, hw1⟩ : ∃ w1, w1 = w.alloc (.cells #[.int .u8 op] 110) := ⟨_, rfl⟩
  have HB1 : Hid (Below w.heap.size w w1) := Lib.hid (by rw [hw1]; exact (Below.refl _ _).alloc (Nat.le_refl _) _)
  have HO1 : Hid (Blk w1 w.heap.size 110 #[.int .u8 op]) := Lib.hid (by rw [hw1]; exact Blk.new _ _ _)
  have hlo := HO1.out.lt
  have ho0 : w1.cell? ⟨w.heap.size, 0, none⟩ = some (.int .u8 op) := HO1.out.cell 0
  clear hx hcode
  go_enter Tryz.func95, Tryz.ntmps95
  go_upto_region 1 with fail
  rw [← hw1]
  clear hw1
  go_upto_region 3 with (first
    | (go_at_call 136; refine (ixRow_any w2 _ (rowsR b1 b2) 137 #[] #[.pointer (some ⟨w.heap.size, 0, none⟩)] (fun r => decide (r.op = op)) HR2.out (fun _ _ => by kernel_rfl) (fun wr y _ hwr => isop_any wr y w.heap.size op (Nat.lt_of_lt_of_le (Nat.lt_of_lt_of_le hlo HB2.out.size) hwr.size) ((hwr.cell (p := ⟨w.heap.size, 0, none⟩) (Nat.lt_of_lt_of_le hlo HB2.out.size)).trans ((HB2.out.cell (p := ⟨w.heap.size, 0, none⟩) hlo).trans ho0)))).mono ?_; rintro e w3 ⟨rfl, hb3⟩; have HB3 := Lib.hid hb3; clear hb3)
    | (go_at_call 135; refine (regRows_any w1).mono ?_; rintro e w2 ⟨b1, b2, b, rfl, hr2, hk1, hk2, hb2⟩; have HR2 := Lib.hid hr2; have HK1 := Lib.hid hk1; have HK2 := Lib.hid hk2; have HB2 := Lib.hid hb2; clear hr2 hk1 hk2 hb2))
  have HLow3 : Hid (Below w.heap.size w w3) := Lib.hid (HB1.out.trans ((HB2.out.trans (HB3.out.mono HB2.out.size)).mono HB1.out.size))
  have ho3 : w3.cell? ⟨w.heap.size, 0, none⟩ = some (.int .u8 op) := (HB3.out.cell (p := ⟨w.heap.size, 0, none⟩) (Nat.lt_of_lt_of_le hlo HB2.out.size)).trans ((HB2.out.cell (p := ⟨w.heap.size, 0, none⟩) hlo).trans ho0)
  have hl3 : w.heap.size < w3.heap.size := Nat.lt_of_lt_of_le hlo (Nat.le_trans HB2.out.size HB3.out.size)
  rcases ixOf_cases (fun r => decide (r.op = op)) (rowsR b1 b2) with hix | ⟨j, r, hix, hr, hq⟩
  · rw [hix]
    go_wp2_with fail
    go_ret3
    exact ⟨_, _, _, rfl, (fun h => by cases h), HLow3.out⟩
  · rw [hix]
    have hj := (List.getElem?_eq_some_iff.1 hr).1
    have hj27 : j < 27 := hj
    have HR3 := Lib.hid (RowsRV.keep HR2.out (Same.of_below HB3.out))
    obtain ⟨A', c', e1, _, _, hpp⟩ := HR3.out
    injection e1 with e1 e1b e1c
    clear e1b e1c
    obtain ⟨b', off', e2, hbB, hpp⟩ := hpp (show 0 < 27 by decide)
    rw [← e1] at e2
    injection e2 with e2
    injection e2 with e3 e4
    subst e3 e4
    obtain ⟨g0, g1, g2, g3, g4⟩ := hpp j r hr
    have hmem := List.mem_of_getElem? hr
    have hro := rowsR_op r hmem
    have HQ : Hid (r.op = op) := Lib.hid (of_decide_eq_true hq)
    have HMem := Lib.hid hmem
    have HRo := Lib.hid hro.1
    have hra := hro.2
    clear hpp hix hr hq hmem hro e1
    obtain ⟨o, ts, a, ex, f⟩ := r
    simp only [Nat.zero_add] at g0 g1 g2 g3 g4 hra
    obtain ⟨w4, hw4⟩ : ∃ w4, w4 = w3.alloc (.cells #[.int .u8 o, .bool ts, .int .i64 a, .bool ex, fineV f] 206) := ⟨_, rfl⟩
    have hb4 : Below w3.heap.size w3 w4 := by rw [hw4]; exact (Below.refl _ _).alloc (Nat.le_refl _) _
    have HRB : Hid (Blk w4 w3.heap.size 206 #[.int .u8 o, .bool ts, .int .i64 a, .bool ex, fineV f]) := Lib.hid (by rw [hw4]; exact Blk.new _ _ _)
    have HLow4 : Hid (Below w.heap.size w w4) := Lib.hid (HLow3.out.trans (hb4.mono HLow3.out.size))
    have HB34 : Hid (Below w2.heap.size w2 w4) := Lib.hid (HB3.out.trans (hb4.mono HB3.out.size))
    have ho4 : w4.cell? ⟨w.heap.size, 0, none⟩ = some (.int .u8 op) := (hb4.cell (p := ⟨w.heap.size, 0, none⟩) hl3).trans ho3
    have hl4 : w.heap.size < w4.heap.size := Nat.lt_of_lt_of_le hl3 hb4.size
    have hlr := HRB.out.lt
    clear hb4
    rcases f with _ | ⟨pf, cs⟩
    · unfold fineV at g4 hw4 HRB
      simp only at g4 hw4 HRB
      go_upto_region 6 with fail
      rw [← hw4]
      clear hw4 g0 g1 g2 g3 g4 ho3
      have r1 := HRB.out.cell 1
      have r2 := HRB.out.cell 2
      have r3 := HRB.out.cell 3
      have r4 : w4.cell? ⟨w3.heap.size, 4, none⟩ = some .nilFunc := HRB.out.cell 4
      have hne : ∀ W : World, (binOp .neq 204 .nilFunc .nilFunc).run Tryz.prog W = .ok (.bool false) W := fun W => by kernel_rfl
      go_wp2_with (first
        | (go_at_call 138; refine (value_any w4 k n).mono ?_; rintro e w5 ⟨⟨tv, rfl⟩, hw5⟩; have hw6 := hw5.symm; subst hw6)
        | go_region)
      all_goals
        go_ret3
        exact ⟨_, _, _, rfl, (fun _ h => HRo.out (HQ.out.trans h)), HLow4.out.drew⟩
    · unfold fineV at g4 hw4 HRB
      simp only at g4 hw4 HRB
      have hca := fun n' => fine_any w4 b1 b2 (.slice A p.length cp) p fn x (HP.out.later HLow4.out (Nat.le_refl _)) HX.out HC.out n' d hd (HK1.out.below HB34.out HK1.out.lt) (HK2.out.below HB34.out HK2.out.lt) ⟨o, ts, a, ex, some (pf, cs)⟩ HMem.out pf cs rfl
      have hen := (hca 0).1
      have hfr := hen
      unfold Enters at hfr
      have HCa := Lib.hid (fun n' => (hca n').2)
      clear hca hen
      go_upto_region 6 with fail
      rw [← hw4]
      clear hw4 g0 g1 g2 g3 g4 ho3
      have r1 := HRB.out.cell 1
      have r2 := HRB.out.cell 2
      have r3 := HRB.out.cell 3
      have r4 : w4.cell? ⟨w3.heap.size, 4, none⟩ = some (.func (.func pf) #[] cs) := HRB.out.cell 4
      have hne : ∀ W : World, (binOp .neq 204 (.func (.func pf) #[] cs) .nilFunc).run Tryz.prog W = .ok (.bool true) W := fun W => by kernel_rfl
      go_wp2_with (first
        | ((with_reducible refine Calls.mono (HCa.out _) ?_); rintro e w7 ⟨⟨tf, rfl⟩, hb7⟩; have HB7 := Lib.hid hb7; have r1 := (hb7.cell (p := ⟨w3.heap.size, 1, none⟩) hlr).trans (HRB.out.cell 1); have r3 := (hb7.cell (p := ⟨w3.heap.size, 3, none⟩) hlr).trans (HRB.out.cell 3); have hl7 := Nat.lt_of_lt_of_le hlr hb7.size; clear hb7)
        | (go_at_call 138; refine (value_any w4 k n).mono ?_; rintro e w5 ⟨⟨tv, rfl⟩, hw5⟩; have hw6 := hw5.symm; subst hw6)
        | go_region)
      all_goals
        go_ret3
        exact ⟨_, _, _, rfl, (fun _ h => HRo.out (HQ.out.trans h)), by first | exact HLow4.out.drew | exact (HLow4.out.trans (HB7.out.mono HLow4.out.size)).drew⟩
end Go.Proofs.YtkmfdiboekoioaaGreat

/- graph.Reg. No condition. -/
namespace Go.Proofs.YtkmfdiboekoioaaGreat
open Go.RowKit
def regL : List Int := [0, 0, 0, 1, 2, 4, 5, 6, 7, 8, 9, 10, 11, 12, 13, 14, 15, 19, 20, 21, 22, 23, 24, 27]
def regCells : Array Value := (regL.map (Value.int .u8)).toArray
def regP (k : Nat) : Int := regL.getD k 0
set_option maxRecDepth 100000 in
set_option maxHeartbeats 4000000 in
theorem reg_any (w : World) (k : Nat) (hk : k ≤ 255) : Calls Tryz.prog 96 #[.int .u8 k] w (fun e w' => e = .returned (.int .u8 (regP k)) ∧ Below w.heap.size w w') := by
  by_cases h : k < 24
  · go_enter Tryz.func96, Tryz.ntmps96
    go_upto_region 2 with (first
      | (with_reducible refine wpList_build2 rfl _ _ rfl regCells (by kernel_rfl) ?_)
      | (refine wpList_store_row rfl 209 _ _ rfl w.heap.size regCells (by rfl) (by rfl) 209 _ (heap_alloc_new w _) (by kernel_rfl) (by kernel_rfl) (by kernel_rfl) ?_))
    generalize hw1 : World.setRow _ w.heap.size regCells = w1
    have hb : Below w.heap.size w w1 := by rw [← hw1]; exact ((Below.refl w.heap.size w).alloc (Nat.le_refl _) _).trans (below_setRow _ _ (Nat.le_refl _) _)
    have hB : Blk w1 w.heap.size 209 regCells := by rw [← hw1]; exact setRow_heap _ _ _ _ _ _ (heap_alloc_new w _)
    have HB := Lib.hid hb
    have hlt := hB.lt
    have f0 : w1.cell? ⟨w.heap.size, k, none⟩ = some (.int .u8 (regP k)) := by
      rw [hB.cell]
      have hl : k < regL.length := h
      simp [regCells, regP, List.getD_eq_getElem?_getD, hl]
    obtain ⟨z, hz⟩ : ∃ z, z = regP k := ⟨_, rfl⟩
    rw [← hz] at f0
    have HZ := Lib.hid hz
    generalize Value.agg regCells = v4
    dsimp only [Act.put]
    clear hw1 hB hb hz
    go_wp2_with fail
    go_ret
    exact ⟨by rw [← HZ.out]; rfl, HB.out⟩
  · have hz : regP k = 0 := by
      unfold regP
      rw [List.getD_eq_getElem?_getD, List.getElem?_eq_none (show regL.length ≤ k from by simp [regL]; omega)]; rfl
    rw [hz]
    go_enter Tryz.func96, Tryz.ntmps96
    go_upto_region 2 with (first
      | (with_reducible refine wpList_build2 rfl _ _ rfl regCells (by kernel_rfl) ?_)
      | (refine wpList_store_row rfl 209 _ _ rfl w.heap.size regCells (by rfl) (by rfl) 209 _ (heap_alloc_new w _) (by kernel_rfl) (by kernel_rfl) (by kernel_rfl) ?_))
    generalize hw1 : World.setRow _ w.heap.size regCells = w1
    have hb : Below w.heap.size w w1 := by rw [← hw1]; exact ((Below.refl w.heap.size w).alloc (Nat.le_refl _) _).trans (below_setRow _ _ (Nat.le_refl _) _)
    have hB : Blk w1 w.heap.size 209 regCells := by rw [← hw1]; exact setRow_heap _ _ _ _ _ _ (heap_alloc_new w _)
    have HB := Lib.hid hb
    have hlt := hB.lt
    generalize Value.agg regCells = v4
    dsimp only [Act.put]
    clear hw1 hB hb
    go_wp2_with fail
    go_ret
    exact ⟨rfl, HB.out⟩
end Go.Proofs.YtkmfdiboekoioaaGreat
