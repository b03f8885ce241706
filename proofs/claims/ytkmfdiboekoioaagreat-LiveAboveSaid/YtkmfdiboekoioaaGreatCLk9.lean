/- graph.look.states' question of one state (under way). Conditions: a graph that is looked at. -/
import Derived.Test.YtkmfdiboekoioaaGreatCLk3
import Derived.BigQuiet
set_option linter.unusedSimpArgs false
set_option linter.unusedVariables false
namespace Go.Proofs.YtkmfdiboekoioaaGreat
open Go.RowKit
def slotBadB (N : Nat) (n : Int) : Bool := decide (n < -1) || decide ((N : Int) ≤ n)
def stateBadB (N : Nat) (ds : List Int) (locals : Int) (s : StateP) : Bool :=
  !(decide (0 ≤ s.pc) && decide (s.pc < (ds.length : Int))) || decide (ds.getD s.pc.toNat 0 < 0) || decide ((s.slots.length : Int) ≠ locals + ds.getD s.pc.toNat 0) || s.slots.any (slotBadB N)
set_option maxRecDepth 100000 in
set_option maxHeartbeats 8000000 in
theorem stateBad_out (w : World) (B bl b1 : Nat) (pv : Value) (p : List FnP) (xv : GVals) (g : GraphP) (ds : List Int) (dv av bv : Value) (h : LkBox w B bl pv p xv g dv av bv) (k1 : b1 < w.heap.size) (h1 : w.cell? ⟨b1, 0, none⟩ = some (.pointer (some ⟨bl, 0, none⟩))) (hd : IntsV w w.heap.size dv ds)
    (s : StateP) (vx : Value) (hx : IntsV w w.heap.size vx s.slots) (hout : ¬ (0 ≤ s.pc ∧ s.pc < (ds.length : Int))) :
    Calls Tryz.prog 86 #[.agg #[.int .i64 s.pc, vx], .pointer (some ⟨b1, 0, none⟩)] w (fun e w' => e = .returned (.bool true) ∧ Below w.heap.size w w') := by
  obtain ⟨Ax, cx, rfl, _, hlx, _⟩ := hx
  obtain ⟨Ad, cd, rfl, _, hld, _⟩ := hd
  obtain ⟨w1, hw1⟩ : ∃ w1, w1 = w.alloc (.cells #[.int .i64 s.pc, .slice Ax s.slots.length cx] 108) := ⟨_, rfl⟩
  have hb1 : Below w.heap.size w w1 := by rw [hw1]; exact (Below.refl _ _).alloc (Nat.le_refl _) _
  have hX : Blk w1 w.heap.size 108 #[.int .i64 s.pc, .slice Ax s.slots.length cx] := by rw [hw1]; exact Blk.new _ _ _
  have x0 := hX.cell 0
  have x1 := hX.cell 1
  have xl := hX.lt
  have h1' := (hb1.cell (p := ⟨b1, 0, none⟩) k1).trans h1
  have k1' := Nat.lt_of_lt_of_le k1 hb1.size
  have c7 : w1.cell? ⟨bl, 7, none⟩ = some (.slice Ad ds.length cd) := (h.below hb1).cells.2.2.2.2.2.2.2.1
  have hll := (h.below hb1).box.lt
  have hlim : ds.length ≤ 17592186044416 := by unfold lim at hld; omega
  have HU : Hid (false = (decide (0 ≤ s.pc) && decide (s.pc < (ds.length : Int)))) := Lib.hid (by
    symm; rw [← Bool.not_eq_true]; simp only [Bool.and_eq_true, decide_eq_true_eq]; exact hout)
  have HB := Lib.hid hb1
  clear h hb1 hX h1 hout hlx hld
  go_enter Tryz.func86, Tryz.ntmps86
  go_upto_region 1 with fail
  rw [← hw1]
  clear hw1
  go_quiet (first | (go_at_call 38; refine Calls.quiet_of_same (within_any s.pc ds.length false HU.out _)))
  go_wp2_with fail
  go_ret
  exact ⟨rfl, HB.out.trans (below_drewN (Below.refl _ _) _)⟩
set_option maxRecDepth 100000 in
set_option maxHeartbeats 8000000 in
theorem stateBad_neg (w : World) (B bl b1 : Nat) (pv : Value) (p : List FnP) (xv : GVals) (g : GraphP) (ds : List Int) (dv av bv : Value) (h : LkBox w B bl pv p xv g dv av bv) (k1 : b1 < w.heap.size) (h1 : w.cell? ⟨b1, 0, none⟩ = some (.pointer (some ⟨bl, 0, none⟩))) (hd : IntsV w w.heap.size dv ds)
    (s : StateP) (vx : Value) (hx : IntsV w w.heap.size vx s.slots) (k : Nat) (hpk : s.pc = (k : Int)) (hk : k < ds.length) (d : Int) (hdk : ds[k]? = some d) (hdb : -1 ≤ d ∧ d ≤ 257) (fn : Nat) (hgf : g.fn = (fn : Int)) (x : FnP) (hf : p[fn]? = some x) (hloc : 0 ≤ x.locals ∧ x.locals ≤ 64) (hneg : d < 0) :
    Calls Tryz.prog 86 #[.agg #[.int .i64 s.pc, vx], .pointer (some ⟨b1, 0, none⟩)] w (fun e w' => e = .returned (.bool true) ∧ Below w.heap.size w w') := by
  have hx0 := hx
  obtain ⟨Ax, cx, rfl, _, hlx, _⟩ := hx0
  obtain ⟨bp, op, cp, rfl, hbp, hpl⟩ := h.pr.shape (by have := (List.getElem?_eq_some_iff.1 hf).1; omega)
  obtain ⟨_, _, _, _, _, _, _, _, _, _, _, _, _, f2, _⟩ := (h.pr.fnAt hf).parts
  have hfn := (List.getElem?_eq_some_iff.1 hf).1
  obtain ⟨Ad, cd, rfl, _, hld, hpd⟩ := hd
  obtain ⟨bd, od, rfl, hbd, hpd⟩ := hpd (by omega)
  have fd := hpd k d hdk
  obtain ⟨w1, hw1⟩ : ∃ w1, w1 = w.alloc (.cells #[.int .i64 s.pc, .slice Ax s.slots.length cx] 108) := ⟨_, rfl⟩
  have hb1 : Below w.heap.size w w1 := by rw [hw1]; exact (Below.refl _ _).alloc (Nat.le_refl _) _
  have hX : Blk w1 w.heap.size 108 #[.int .i64 s.pc, .slice Ax s.slots.length cx] := by rw [hw1]; exact Blk.new _ _ _
  have x0 := hX.cell 0
  have x1 := hX.cell 1
  have xl := hX.lt
  have h1' := (hb1.cell (p := ⟨b1, 0, none⟩) k1).trans h1
  have k1' := Nat.lt_of_lt_of_le k1 hb1.size
  have c0 := (h.below hb1).cells.1
  have c1 : w1.cell? ⟨bl, 1, none⟩ = some (.int .i64 (fn : Int)) := by rw [(h.below hb1).cells.2.1, hgf]
  have c7 : w1.cell? ⟨bl, 7, none⟩ = some (.slice (some ⟨bd, od, none⟩) ds.length cd) := (h.below hb1).cells.2.2.2.2.2.2.2.1
  have f2' := (hb1.cell (p := ⟨bp, op + fn * 8 + 2, none⟩) (Nat.lt_of_lt_of_le hbp h.hB)).trans f2
  have fd' := (hb1.cell (p := ⟨bd, od + k, none⟩) hbd).trans fd
  have hll := (h.below hb1).box.lt
  have hlim : ds.length ≤ 17592186044416 := by unfold lim at hld; omega
  have hlim2 : s.slots.length ≤ 17592186044416 := by unfold lim at hlx; omega
  rw [hpk] at x0
  have HU : Hid (true = (decide (0 ≤ (k : Int)) && decide ((k : Int) < (ds.length : Int)))) := Lib.hid (by simp; omega)
  have HB := Lib.hid hb1
  have HM := Lib.hid (h.below hb1)
  have HVx := Lib.hid (hx.later hb1 (Nat.le_refl _))
  rw [hpk] at hw1
  clear h hb1 hX h1 hlx hld hpd fd f2 hx hdk hf
  rw [hpk]
  go_enter Tryz.func86, Tryz.ntmps86
  go_upto_region 1 with fail
  rw [← hw1]
  clear hw1
  go_quiet (first | (go_at_call 38; refine Calls.quiet_of_same (within_any k ds.length true HU.out _)))
  go_wp2_with fail
  go_ret
  exact ⟨rfl, HB.out.trans (below_drewN (Below.refl _ _) _)⟩
set_option maxRecDepth 100000 in
set_option maxHeartbeats 8000000 in
theorem stateBad_len (w : World) (B bl b1 : Nat) (pv : Value) (p : List FnP) (xv : GVals) (g : GraphP) (ds : List Int) (dv av bv : Value) (h : LkBox w B bl pv p xv g dv av bv) (k1 : b1 < w.heap.size) (h1 : w.cell? ⟨b1, 0, none⟩ = some (.pointer (some ⟨bl, 0, none⟩))) (hd : IntsV w w.heap.size dv ds)
    (s : StateP) (vx : Value) (hx : IntsV w w.heap.size vx s.slots) (k : Nat) (hpk : s.pc = (k : Int)) (hk : k < ds.length) (d : Int) (hdk : ds[k]? = some d) (hdb : -1 ≤ d ∧ d ≤ 257) (fn : Nat) (hgf : g.fn = (fn : Int)) (x : FnP) (hf : p[fn]? = some x) (hloc : 0 ≤ x.locals ∧ x.locals ≤ 64) (hneg : 0 ≤ d) (hne : (s.slots.length : Int) ≠ x.locals + d) :
    Calls Tryz.prog 86 #[.agg #[.int .i64 s.pc, vx], .pointer (some ⟨b1, 0, none⟩)] w (fun e w' => e = .returned (.bool true) ∧ Below w.heap.size w w') := by
  have hx0 := hx
  obtain ⟨Ax, cx, rfl, _, hlx, _⟩ := hx0
  obtain ⟨bp, op, cp, rfl, hbp, hpl⟩ := h.pr.shape (by have := (List.getElem?_eq_some_iff.1 hf).1; omega)
  obtain ⟨_, _, _, _, _, _, _, _, _, _, _, _, _, f2, _⟩ := (h.pr.fnAt hf).parts
  have hfn := (List.getElem?_eq_some_iff.1 hf).1
  obtain ⟨Ad, cd, rfl, _, hld, hpd⟩ := hd
  obtain ⟨bd, od, rfl, hbd, hpd⟩ := hpd (by omega)
  have fd := hpd k d hdk
  obtain ⟨w1, hw1⟩ : ∃ w1, w1 = w.alloc (.cells #[.int .i64 s.pc, .slice Ax s.slots.length cx] 108) := ⟨_, rfl⟩
  have hb1 : Below w.heap.size w w1 := by rw [hw1]; exact (Below.refl _ _).alloc (Nat.le_refl _) _
  have hX : Blk w1 w.heap.size 108 #[.int .i64 s.pc, .slice Ax s.slots.length cx] := by rw [hw1]; exact Blk.new _ _ _
  have x0 := hX.cell 0
  have x1 := hX.cell 1
  have xl := hX.lt
  have h1' := (hb1.cell (p := ⟨b1, 0, none⟩) k1).trans h1
  have k1' := Nat.lt_of_lt_of_le k1 hb1.size
  have c0 := (h.below hb1).cells.1
  have c1 : w1.cell? ⟨bl, 1, none⟩ = some (.int .i64 (fn : Int)) := by rw [(h.below hb1).cells.2.1, hgf]
  have c7 : w1.cell? ⟨bl, 7, none⟩ = some (.slice (some ⟨bd, od, none⟩) ds.length cd) := (h.below hb1).cells.2.2.2.2.2.2.2.1
  have f2' := (hb1.cell (p := ⟨bp, op + fn * 8 + 2, none⟩) (Nat.lt_of_lt_of_le hbp h.hB)).trans f2
  have fd' := (hb1.cell (p := ⟨bd, od + k, none⟩) hbd).trans fd
  have hll := (h.below hb1).box.lt
  have hlim : ds.length ≤ 17592186044416 := by unfold lim at hld; omega
  have hlim2 : s.slots.length ≤ 17592186044416 := by unfold lim at hlx; omega
  rw [hpk] at x0
  have HU : Hid (true = (decide (0 ≤ (k : Int)) && decide ((k : Int) < (ds.length : Int)))) := Lib.hid (by simp; omega)
  have HB := Lib.hid hb1
  have HM := Lib.hid (h.below hb1)
  have HVx := Lib.hid (hx.later hb1 (Nat.le_refl _))
  rw [hpk] at hw1
  clear h hb1 hX h1 hlx hld hpd fd f2 hx hdk hf
  have dn : decide (d < 0) = false := by simp; omega
  have de : decide ((s.slots.length : Int) = x.locals + d) = false := by simp [hne]
  rw [hpk]
  go_enter Tryz.func86, Tryz.ntmps86
  go_upto_region 1 with fail
  rw [← hw1]
  clear hw1
  go_quiet (first | (go_at_call 38; refine Calls.quiet_of_same (within_any k ds.length true HU.out _)))
  go_wp2_with fail
  go_ret
  exact ⟨rfl, HB.out.trans (below_drewN (Below.refl _ _) _)⟩
set_option maxRecDepth 100000 in
set_option maxHeartbeats 8000000 in
theorem stateBad_in (w : World) (B bl b1 : Nat) (pv : Value) (p : List FnP) (xv : GVals) (g : GraphP) (ds : List Int) (dv av bv : Value) (h : LkBox w B bl pv p xv g dv av bv) (k1 : b1 < w.heap.size) (h1 : w.cell? ⟨b1, 0, none⟩ = some (.pointer (some ⟨bl, 0, none⟩))) (hd : IntsV w w.heap.size dv ds)
    (s : StateP) (vx : Value) (hx : IntsV w w.heap.size vx s.slots) (k : Nat) (hpk : s.pc = (k : Int)) (hk : k < ds.length) (d : Int) (hdk : ds[k]? = some d) (hdb : -1 ≤ d ∧ d ≤ 257) (fn : Nat) (hgf : g.fn = (fn : Int)) (x : FnP) (hf : p[fn]? = some x) (hloc : 0 ≤ x.locals ∧ x.locals ≤ 64) (hneg : 0 ≤ d) (heq : (s.slots.length : Int) = x.locals + d) (t : Bool) (ht : t = s.slots.any (slotBadB g.nodes.length)) :
    Calls Tryz.prog 86 #[.agg #[.int .i64 s.pc, vx], .pointer (some ⟨b1, 0, none⟩)] w (fun e w' => e = .returned (.bool t) ∧ Below w.heap.size w w') := by
  have hx0 := hx
  obtain ⟨Ax, cx, rfl, _, hlx, _⟩ := hx0
  obtain ⟨bp, op, cp, rfl, hbp, hpl⟩ := h.pr.shape (by have := (List.getElem?_eq_some_iff.1 hf).1; omega)
  obtain ⟨_, _, _, _, _, _, _, _, _, _, _, _, _, f2, _⟩ := (h.pr.fnAt hf).parts
  have hfn := (List.getElem?_eq_some_iff.1 hf).1
  obtain ⟨Ad, cd, rfl, _, hld, hpd⟩ := hd
  obtain ⟨bd, od, rfl, hbd, hpd⟩ := hpd (by omega)
  have fd := hpd k d hdk
  obtain ⟨w1, hw1⟩ : ∃ w1, w1 = w.alloc (.cells #[.int .i64 s.pc, .slice Ax s.slots.length cx] 108) := ⟨_, rfl⟩
  have hb1 : Below w.heap.size w w1 := by rw [hw1]; exact (Below.refl _ _).alloc (Nat.le_refl _) _
  have hX : Blk w1 w.heap.size 108 #[.int .i64 s.pc, .slice Ax s.slots.length cx] := by rw [hw1]; exact Blk.new _ _ _
  have x0 := hX.cell 0
  have x1 := hX.cell 1
  have xl := hX.lt
  have h1' := (hb1.cell (p := ⟨b1, 0, none⟩) k1).trans h1
  have k1' := Nat.lt_of_lt_of_le k1 hb1.size
  have c0 := (h.below hb1).cells.1
  have c1 : w1.cell? ⟨bl, 1, none⟩ = some (.int .i64 (fn : Int)) := by rw [(h.below hb1).cells.2.1, hgf]
  have c7 : w1.cell? ⟨bl, 7, none⟩ = some (.slice (some ⟨bd, od, none⟩) ds.length cd) := (h.below hb1).cells.2.2.2.2.2.2.2.1
  have f2' := (hb1.cell (p := ⟨bp, op + fn * 8 + 2, none⟩) (Nat.lt_of_lt_of_le hbp h.hB)).trans f2
  have fd' := (hb1.cell (p := ⟨bd, od + k, none⟩) hbd).trans fd
  have hll := (h.below hb1).box.lt
  have hlim : ds.length ≤ 17592186044416 := by unfold lim at hld; omega
  have hlim2 : s.slots.length ≤ 17592186044416 := by unfold lim at hlx; omega
  rw [hpk] at x0
  have HU : Hid (true = (decide (0 ≤ (k : Int)) && decide ((k : Int) < (ds.length : Int)))) := Lib.hid (by simp; omega)
  have HB := Lib.hid hb1
  have HM := Lib.hid (h.below hb1)
  have HVx := Lib.hid (hx.later hb1 (Nat.le_refl _))
  rw [hpk] at hw1
  clear h hb1 hX h1 hlx hld hpd fd f2 hx hdk hf
  have dn : decide (d < 0) = false := by simp; omega
  have HT := Lib.hid ht
  clear ht
  rw [hpk]
  go_enter Tryz.func86, Tryz.ntmps86
  go_upto_region 1 with fail
  rw [← hw1]
  clear hw1
  go_quiet (first | (go_at_call 38; refine Calls.quiet_of_same (within_any k ds.length true HU.out _)))
  obtain ⟨w2, hw2⟩ : ∃ w2, w2 = w1.drewN nq := ⟨_, rfl⟩
  have hb2 : Below w1.heap.size w1 w2 := by rw [hw2]; exact below_drewN (Below.refl _ _) _
  have HM2 := Lib.hid (HM.out.below hb2)
  have HV2 := Lib.hid (HVx.out.later hb2 (Nat.le_refl _))
  have y1 : w2.cell? ⟨w.heap.size, 1, none⟩ = some (.slice Ax s.slots.length cx) := (hb2.cell (p := ⟨w.heap.size, 1, none⟩) xl).trans x1
  have yl := Nat.lt_of_lt_of_le xl hb2.size
  have h2' := (hb2.cell (p := ⟨b1, 0, none⟩) k1').trans h1'
  have k2' := Nat.lt_of_lt_of_le k1' hb2.size
  have HB2 : Hid (Below w.heap.size w w2) := Lib.hid (HB.out.trans (hb2.mono HB.out.size))
  clear x0 x1 h1' hb2
  go_upto_region 2 with fail
  rw [← hw2]
  clear hw2
  go_wp2_with (go_at_call 65; refine (ctInt_any w2 _ s.slots 87 #[] #[.pointer (some ⟨b1, 0, none⟩)] (slotBadB g.nodes.length) HV2.out (fun _ _ => by kernel_rfl) (fun wr y _ hwr => slotBad_any wr B bl b1 _ p xv g _ av bv (HM2.out.below hwr) ((hwr.cell (p := ⟨b1, 0, none⟩) k2').trans h2') y _ rfl) t HT.out).mono ?_; rintro e w9 ⟨rfl, hb9⟩; have HB9 := Lib.hid hb9; clear hb9)
  go_ret
  exact ⟨rfl, HB2.out.trans (HB9.out.mono HB2.out.size)⟩
end Go.Proofs.YtkmfdiboekoioaaGreat
