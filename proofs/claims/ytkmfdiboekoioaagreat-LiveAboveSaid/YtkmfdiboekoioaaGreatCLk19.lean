/- graph.Check: may a graph be? If it says so, the facts of such a graph hold. Conditions: a graph that is small; a program and a graph that lie in memory. -/
import Derived.Test.YtkmfdiboekoioaaGreatCLk18
set_option linter.unusedSimpArgs false
set_option linter.unusedVariables false
namespace Go.Proofs.YtkmfdiboekoioaaGreat
open Go.RowKit
theorem rowsA_V {lo hi : Nat} {w W : World} {v : Value} {ls : List (List Int)} (h : RowsA lo hi w v ls) (hk : Agree lo hi w W) (hh : hi ≤ W.heap.size) : RowsV W W.heap.size v ls := by
  obtain ⟨b, off, c, h1, h2, h3, h4, h5⟩ := h
  refine ⟨_, c, h1, h2, h3, fun _ => ⟨b, off, rfl, by omega, fun j l hl => ?_⟩⟩
  obtain ⟨A, n, h6⟩ := h5 j l hl
  obtain ⟨q1, q2⟩ := h6 W hk
  exact ⟨_, q1, q2.mono hh⟩
/-- What graph.Check answers. -/
def ChkIs (g : GraphP) (w : World) (e : Ending) (w' : World) : Prop := ∃ z : Int, e = .returned (.int .i64 z) ∧ (z = 0 → ∃ A, GOk g A) ∧ Below w.heap.size w w'
/-- The memory of graph.Check. -/
structure CkM (w : World) (bl b8 : Nat) (pv : Value) (p : List FnP) (xv : GVals) (g : GraphP) (dv av bv : Value) (W : World) : Prop where
  lk : LkBox W w.heap.size bl pv p xv g dv av bv
  gb : Blk W w.heap.size 28 (gbox g xv)
  pb : Blk W b8 84 #[.pointer (some ⟨bl, 0, none⟩)]
  low : Below w.heap.size w W
  h1 : w.heap.size < bl
  h2 : bl < b8
section
variable {w : World} {bl b8 : Nat} {pv : Value} {p : List FnP} {xv : GVals} {g : GraphP} {dv av bv : Value} {W W' : World}
theorem CkM.below (h : CkM w bl b8 pv p xv g dv av bv W) (hb : Below W.heap.size W W') : CkM w bl b8 pv p xv g dv av bv W' :=
  ⟨h.lk.below hb, h.gb.below hb h.gb.lt, h.pb.below hb h.pb.lt, h.low.trans (hb.mono h.low.size), h.h1, h.h2⟩
theorem CkM.turn {dv' av' bv' : Value} (h : CkM w bl b8 pv p xv g dv av bv W) (hg : W.grownBy W' (some bl)) (hl : LkBox W' w.heap.size bl pv p xv g dv' av' bv') : CkM w bl b8 pv p xv g dv' av' bv' W' := by
  have h1 := h.h1; have h2 := h.h2
  exact ⟨hl, h.gb.grown hg (fun e => by injection e with e; omega), h.pb.grown hg (fun e => by injection e with e; omega), h.low.grown hg h.low.size (fun k e => by injection e with e; omega), h1, h2⟩
theorem CkM.setD (h : CkM w bl b8 pv p xv g dv av bv W) (dv' : Value) : CkM w bl b8 pv p xv g dv' av bv (W.setCell ⟨bl, 7, none⟩ dv') := by
  have hS : Same w.heap.size W (W.setCell ⟨bl, 7, none⟩ dv') := Same.of_below ((Below.refl w.heap.size W).setCell (p := ⟨bl, 7, none⟩) (Nat.le_of_lt h.h1) _)
  exact h.turn (grown_setCell W ⟨bl, 7, none⟩ dv') ⟨h.lk.pr.keep hS, h.lk.gr.keep hS, by simpa [World.setCell] using h.lk.hB, h.lk.box.set_ 7 dv', h.lk.hbl⟩
theorem CkM.setB (h : CkM w bl b8 pv p xv g dv av bv W) (bv' : Value) : CkM w bl b8 pv p xv g dv av bv' (W.setCell ⟨bl, 9, none⟩ bv') := by
  have hS : Same w.heap.size W (W.setCell ⟨bl, 9, none⟩ bv') := Same.of_below ((Below.refl w.heap.size W).setCell (p := ⟨bl, 9, none⟩) (Nat.le_of_lt h.h1) _)
  exact h.turn (grown_setCell W ⟨bl, 9, none⟩ bv') ⟨h.lk.pr.keep hS, h.lk.gr.keep hS, by simpa [World.setCell] using h.lk.hB, h.lk.box.set_ 9 bv', h.lk.hbl⟩
end
theorem verDepths_z (w : World) (pv : Value) (p : List FnP) (fn : Nat) (x : FnP) (z : Int) (hz : z = (fn : Int)) (hp : ProgV w w.heap.size pv p) (hf : FineP p) (hx : p[fn]? = some x) : Calls Tryz.prog 39 #[pv, .int .i64 z] w (DepthsIs x w) := by
  subst hz
  exact verDepths_any w pv p fn x hp hf hx
theorem locals_ok {fn : Nat} {f : FnP} (h : headB fn f = true) (hl : -9223372036854775808 ≤ f.locals) : 0 ≤ f.locals ∧ f.locals ≤ 64 := by
  unfold headB at h
  simp only [Bool.and_eq_true, decide_eq_true_eq, Bool.or_eq_true, List.all_eq_true] at h
  obtain ⟨h1, h2, h3, _⟩ := h
  have h2' := (isB_iff _ _ _).1 h2
  have e : wrap64 (f.locals + 1) = f.locals + 1 := by unfold wrap64; omega
  rw [e] at h2'
  exact ⟨by omega, h3⟩
theorem code_fn {p : List FnP} {fn : Nat} {f : FnP} (h : FnOk p fn f) : ∀ i ∈ f.code, i.op = 26 → 1 ≤ i.a ∧ i.a < (p.length : Int) := by
  intro i hi ho
  obtain ⟨pc, hpc⟩ := List.mem_iff_getElem?.1 hi
  have := (h.num pc i hpc).1
  unfold numB at this
  rw [ho] at this
  simp only [Bool.and_eq_true] at this
  have h2 := this.2
  have e : (rowOf 26).a = 8 := by first | rfl | decide
  rw [e] at h2
  exact (isB_iff _ _ _).1 h2
theorem end_all {w wr w9 : World} {bl b8 : Nat} {pv : Value} {p : List FnP} {xv : GVals} {g : GraphP} {dv av bv : Value} (h : CkM w bl b8 pv p xv g dv av bv w9) (hb : Below w9.heap.size w9 wr) {k : Nat} (hk : k < g.blocks.length) :
    Calls Tryz.prog 44 #[.pointer (some ⟨bl, 0, none⟩), .int .i64 k] wr (fun e w' => ∃ t, e = .returned (.bool t) ∧ (t = true → ∀ x, g.blocks[k]? = some x → EndOk g x) ∧ Below w9.heap.size w9 w') := by
  obtain ⟨x, hx⟩ := getL hk
  refine (end_any wr w.heap.size bl pv p xv g dv av bv (h.below hb).lk k x hx).mono ?_
  rintro e w' ⟨t, rfl, h1, h2⟩
  exact ⟨t, rfl, fun ht y hy => by rw [hx] at hy; injection hy with hy; subst hy; exact h1 ht, hb.trans (h2.mono hb.size)⟩
theorem ahead_all {w wr w9 : World} {bl b8 : Nat} {pv : Value} {p : List FnP} {xv : GVals} {g : GraphP} {dv av bv : Value} (h : CkM w bl b8 pv p xv g dv av bv w9) (hb : Below w9.heap.size w9 wr) {k : Nat} (hk : k < g.blocks.length) (hs : g.blocks.length ≤ 5000) :
    Calls Tryz.prog 45 #[.pointer (some ⟨bl, 0, none⟩), .int .i64 k] wr (fun e w' => ∃ t, e = .returned (.bool t) ∧ (t = true → ∀ x, g.blocks[k]? = some x → wasP g (k : Int) g.blocks.length = x.ahead) ∧ Below w9.heap.size w9 w') := by
  obtain ⟨x, hx⟩ := getL hk
  refine (ahead_any wr w.heap.size bl pv p xv g dv av bv (h.below hb).lk k x hx hs).mono ?_
  rintro e w' ⟨t, rfl, h1, h2⟩
  exact ⟨t, rfl, fun ht y hy => by rw [hx] at hy; injection hy with hy; subst hy; exact h1 ht, hb.trans (h2.mono hb.size)⟩
theorem node_all {wr w9 : World} {B bl : Nat} {pv : Value} {p : List FnP} {xv : GVals} {g : GraphP} {dv av bv : Value} {al : List (Int × Int)} {fn : Nat} {f : FnP} (h : StM w9 B bl pv p xv g dv av bv al (absOf g)) (hb : Below w9.heap.size w9 wr) (hp : Places g (alA al))
    (hF : ∀ (n : Nat) y x, g.nodes[n]? = some y → g.blocks[(alA al n).1]? = some x → NodF B p g al (absOf g) n y (alA al n).1 (alA al n).2 x (aboveTo g (alA al n).1 g.blocks.length) fn f) {k : Nat} (hk : k < g.nodes.length) :
    Calls Tryz.prog 48 #[.pointer (some ⟨bl, 0, none⟩), .int .i64 k] wr (fun e w' => ∃ t, e = .returned (.bool t) ∧ (t = true → ∀ y, g.nodes[k]? = some y → ∀ x, g.blocks[(alA al k).1]? = some x → NodOk g al (absOf g) y (alA al k).1 (alA al k).2 x (aboveTo g (alA al k).1 g.blocks.length)) ∧ Below w9.heap.size w9 w') := by
  obtain ⟨y, hy⟩ := getL hk
  obtain ⟨x, hx, _⟩ := hp.has k hk
  refine (node_any wr B bl pv p xv g dv av bv al (absOf g) k y _ _ x _ fn f (hF k y x hy hx) (h.below hb)).mono ?_
  rintro e w' ⟨t, rfl, h1, h2⟩
  exact ⟨t, rfl, fun ht y' hy' x' hx' => by rw [hy] at hy'; injection hy' with hy'; subst hy'; rw [hx] at hx'; injection hx' with hx'; subst hx'; exact h1 ht, hb.trans (h2.mono hb.size)⟩
theorem ends_all {wr w9 : World} {B bl bx b8 : Nat} {pv : Value} {p : List FnP} {xv : GVals} {g : GraphP} {dv av bv : Value} {al : List (Int × Int)} (h : StM w9 B bl pv p xv g dv av bv al (absOf g)) (hg : GCtx w9 B bx xv g) (h8 : b8 < w9.heap.size) (h8c : w9.cell? ⟨b8, 0, none⟩ = some (.pointer (some ⟨bl, 0, none⟩))) (hb : Below w9.heap.size w9 wr)
    (hal : al.length = g.nodes.length) (he : ∀ x ∈ g.blocks, EndOk g x) (hst : ∀ s ∈ g.states, ∀ z ∈ s.slots, z < (g.nodes.length : Int)) {k : Nat} (hk : k < g.blocks.length) :
    Calls Tryz.prog 46 #[.int .i64 k, .pointer (some ⟨bx, 0, none⟩), .pointer (some ⟨b8, 0, none⟩)] wr (fun e w' => ∃ t, e = .returned (.bool t) ∧ (t = true → ∀ x, g.blocks[k]? = some x → usesB g al (aboveTo g k g.blocks.length) k x.nodes.length x.args x.state = true) ∧ Below w9.heap.size w9 w') := by
  obtain ⟨x, hx⟩ := getL hk
  have hE := he x (List.mem_of_getElem? hx)
  refine (ends_any wr B bl bx b8 pv p xv g dv av bv al (absOf g) (h.below hb) (hg.below hb) (Nat.lt_of_lt_of_le h8 hb.size) ((hb.cell (p := ⟨b8, 0, none⟩) h8).trans h8c) k x hx _ (absOf_get hk) (fun z hz => by rw [hal]; exact (hE.1 z hz).2) hE.2.2.2 (fun z hz => by rw [hal]; exact slots_lt hst _ z hz)).mono ?_
  rintro e w' ⟨rfl, h2⟩
  exact ⟨_, rfl, fun ht y hy => by rw [hx] at hy; injection hy with hy; subst hy; exact ht, hb.trans (h2.mono hb.size)⟩
set_option maxRecDepth 100000 in
set_option maxHeartbeats 16000000 in
theorem grCheck_any (w : World) (pv : Value) (p : List FnP) (xv : GVals) (g : GraphP) (hp : ProgV w w.heap.size pv p) (hg : GraphV w w.heap.size xv g) (hsm : Small g) (hop : ∀ y ∈ g.nodes, 0 ≤ y.op ∧ y.op ≤ 255) (hlc : ∀ f ∈ p, -9223372036854775808 ≤ f.locals) :
    Calls Tryz.prog 12 #[pv, gval g xv] w (ChkIs g w) := by
  have HP := Lib.hid hp; have HG := Lib.hid hg; have HSm := Lib.hid hsm; have HOp := Lib.hid hop; have HLc := Lib.hid hlc
  obtain ⟨hs1, hs2, hs3⟩ := hsm.lens
  obtain ⟨vn, vb, vs⟩ := xv
  obtain ⟨An, cn, rfl, _, hln, _⟩ := hg.1
  obtain ⟨Ab, cb, rfl, _, hlb, _⟩ := hg.2.1
  obtain ⟨Ap, cp, rfl, _, hlp, _⟩ := hp
  have hplim : p.length ≤ 17592186044416 := by unfold lim at hlp; omega
  obtain ⟨w1, hw1⟩ : ∃ w1, w1 = w.alloc (.cells (gbox g ⟨.slice An g.nodes.length cn, .slice Ab g.blocks.length cb, vs⟩) 28) := ⟨_, rfl⟩
  have hb1 : Below w.heap.size w w1 := by rw [hw1]; exact (Below.refl _ _).alloc (Nat.le_refl _) _
  have HX1 : Hid (Blk w1 w.heap.size 28 (gbox g ⟨.slice An g.nodes.length cn, .slice Ab g.blocks.length cb, vs⟩)) := Lib.hid (by rw [hw1]; exact Blk.new _ _ _)
  have HB1 := Lib.hid hb1
  unfold gbox at hw1
  simp only at hw1
  clear hg hsm hop hlc hb1 hln hlb hlp
  unfold gval
  go_enter Tryz.func12, Tryz.ntmps12
  go_upto_region 1 with fail
  rw [← hw1]
  clear hw1
  go_upto_region 2 with (go_at_call 37; refine (verCheck_any w1 _ p (HP.out.later HB1.out (Nat.le_refl _))).mono ?_; rintro e w2 ⟨fn0, pc0, z0, rfl, hz0, hb2⟩; have HZ0 := Lib.hid hz0; have HB2 : Hid (Below w.heap.size w w2) := Lib.hid (HB1.out.trans (hb2.mono HB1.out.size)); have HX2 := Lib.hid (HX1.out.below hb2 HX1.out.lt); clear hz0 hb2)
  rcases bool_or (z0 != 0) with hz | hz
  rotate_left
  · have hz8 : z0 = 8 := by
      rcases HZ0.out with h | h
      · rw [h.1] at hz; cases hz
      · exact h.1
    go_wp2_with fail
    go_ret
    exact ⟨z0, rfl, fun h => by omega, HB2.out⟩
  have HFine : Hid (FineP p) := Lib.hid (by
    rcases HZ0.out with h | h
    · exact h.2
    · rw [h.1] at hz; cases hz)
  have q0 : w2.cell? ⟨w.heap.size, 0, none⟩ = some (.int .i64 g.fn) := HX2.out.cell 0
  have q1 : w2.cell? ⟨w.heap.size, 1, none⟩ = some (.int .i64 g.pc) := HX2.out.cell 1
  have q2 : w2.cell? ⟨w.heap.size, 2, none⟩ = some (.int .i64 g.slots) := HX2.out.cell 2
  have q3 : w2.cell? ⟨w.heap.size, 3, none⟩ = some (.slice An g.nodes.length cn) := HX2.out.cell 3
  have q4 : w2.cell? ⟨w.heap.size, 4, none⟩ = some (.slice Ab g.blocks.length cb) := HX2.out.cell 4
  have q5 : w2.cell? ⟨w.heap.size, 5, none⟩ = some vs := HX2.out.cell 5
  have ql := HX2.out.lt
  obtain ⟨w3, hw3⟩ : ∃ w3, w3 = (w2.alloc (.cells (lkCells (.slice Ap p.length cp) ⟨.slice An g.nodes.length cn, .slice Ab g.blocks.length cb, vs⟩ g (.slice none 0 0) (.slice none 0 0) (.slice none 0 0)) 87)).alloc (.cells #[.pointer (some ⟨w2.heap.size, 0, none⟩)] 84) := ⟨_, rfl⟩
  have HM3 : Hid (CkM w w2.heap.size (w2.heap.size + 1) (.slice Ap p.length cp) p ⟨.slice An g.nodes.length cn, .slice Ab g.blocks.length cb, vs⟩ g (.slice none 0 0) (.slice none 0 0) (.slice none 0 0) w3) := Lib.hid (by
    have hb : Below w2.heap.size w2 w3 := by rw [hw3]; exact ((Below.refl _ _).alloc (Nat.le_refl _) _).alloc (by simp) _
    have hlow := HB2.out.trans (hb.mono HB2.out.size)
    have hbx : Blk w3 w2.heap.size 87 (lkCells (.slice Ap p.length cp) ⟨.slice An g.nodes.length cn, .slice Ab g.blocks.length cb, vs⟩ g (.slice none 0 0) (.slice none 0 0) (.slice none 0 0)) := by rw [hw3]; exact (Blk.new _ _ _).alloc _
    have hpb : Blk w3 (w2.heap.size + 1) 84 #[.pointer (some ⟨w2.heap.size, 0, none⟩)] := by
      have := Blk.new (w2.alloc (.cells (lkCells (.slice Ap p.length cp) ⟨.slice An g.nodes.length cn, .slice Ab g.blocks.length cb, vs⟩ g (.slice none 0 0) (.slice none 0 0) (.slice none 0 0)) 87)) 84 #[.pointer (some ⟨w2.heap.size, 0, none⟩)]
      rw [World.size_alloc, ← hw3] at this
      exact this
    exact ⟨⟨HP.out.keep (Same.of_below hlow), HG.out.keep (Same.of_below hlow), hlow.size, hbx, Nat.le_of_lt HX2.out.lt⟩, HX2.out.below hb HX2.out.lt, hpb, hlow, HX2.out.lt, by omega⟩)
  unfold lkCells at hw3
  simp only at hw3
  go_upto_region 5 with fail
  rw [← hw3]
  clear hw3 q0 q1 q2 q3 q4 q5 ql
  have q0 : w3.cell? ⟨w.heap.size, 0, none⟩ = some (.int .i64 g.fn) := HM3.out.gb.cell 0
  have q1 : w3.cell? ⟨w.heap.size, 1, none⟩ = some (.int .i64 g.pc) := HM3.out.gb.cell 1
  have q2 : w3.cell? ⟨w.heap.size, 2, none⟩ = some (.int .i64 g.slots) := HM3.out.gb.cell 2
  have q3 : w3.cell? ⟨w.heap.size, 3, none⟩ = some (.slice An g.nodes.length cn) := HM3.out.gb.cell 3
  have q4 : w3.cell? ⟨w.heap.size, 4, none⟩ = some (.slice Ab g.blocks.length cb) := HM3.out.gb.cell 4
  have q5 : w3.cell? ⟨w.heap.size, 5, none⟩ = some vs := HM3.out.gb.cell 5
  have ql := HM3.out.gb.lt
  have b0 : w3.cell? ⟨w2.heap.size + 1, 0, none⟩ = some (.pointer (some ⟨w2.heap.size, 0, none⟩)) := HM3.out.pb.cell 0
  have bl := HM3.out.pb.lt
  have ll := HM3.out.lk.box.lt
  obtain ⟨t, ht⟩ : ∃ t, t = (decide (0 ≤ g.fn) && decide (g.fn < (p.length : Int))) := ⟨_, rfl⟩
  have HT := Lib.hid ht
  clear ht
  cases t
  · go_wp2_with (go_at_call 38; refine (within_any g.fn p.length false HT.out _).mono ?_; rintro e w' ⟨rfl, hw'⟩; have hw2 := hw'.symm; subst hw2)
    go_ret
    exact ⟨8, rfl, fun h => by omega, HM3.out.low⟩
  by_cases hbz : g.blocks.length = 0
  · have hbz2 : ((g.blocks.length : Int) == 0) = true := by simp [hbz]
    clear hbz
    go_wp2_with (go_at_call 38; refine (within_any g.fn p.length true HT.out _).mono ?_; rintro e w' ⟨rfl, hw'⟩; have hw2 := hw'.symm; subst hw2)
    go_ret
    exact ⟨8, rfl, fun h => by omega, HM3.out.low⟩
  have HPos : Hid (0 < g.blocks.length) := Lib.hid (by omega)
  have hbz2 : ((g.blocks.length : Int) == 0) = false := by simp [hbz]
  clear hbz
  go_upto_region 7 with (go_at_call 38; refine (within_any g.fn p.length true HT.out _).mono ?_; rintro e w' ⟨rfl, hw'⟩; have hw2 := hw'.symm; subst hw2)
  obtain ⟨fn, hfn⟩ : ∃ fn : Nat, g.fn = (fn : Int) := ⟨g.fn.toNat, by have := HT.out; simp only [Bool.true_eq, Bool.and_eq_true, decide_eq_true_eq] at this; omega⟩
  have hfl : fn < p.length := by have := HT.out; simp only [Bool.true_eq, Bool.and_eq_true, decide_eq_true_eq] at this; omega
  obtain ⟨f, hf⟩ := getL hfl
  have HFn := Lib.hid hfn; have HF := Lib.hid hf
  have HOk := Lib.hid (HFine.out.ok.2.2 fn f hf)
  clear hf hfn
  have HMd := Lib.hid (HM3.out.below (Below.refl _ w3).drew)
  have HS5 : Hid ((fun W : World => W.cell? ⟨w2.heap.size + 1, 0, none⟩ = some (.pointer (some ⟨w2.heap.size, 0, none⟩)) ∧ W.cell? ⟨w.heap.size, 0, none⟩ = some (.int .i64 g.fn)) w3.drew) := Lib.hid ⟨b0, q0⟩
  refine wp_region_H (fun W => W.cell? ⟨w2.heap.size + 1, 0, none⟩ = some (.pointer (some ⟨w2.heap.size, 0, none⟩)) ∧ W.cell? ⟨w.heap.size, 0, none⟩ = some (.int .i64 g.fn)) (by kernel_rfl) HS5.out (fun HSn => ?_)
  clear HSn q0 q1 q2 q3 q4 q5 ql b0 bl ll
  refine wpAnyH_take (i := 0) (oi := _) (v := ?_) rfl (by kernel_rfl) (by kernel_rfl) (by kernel_rfl) (fun _ _ _ h => h) (Or.inl ⟨by rfl, ?_⟩) HS5.out ?_
  rotate_left
  · intro w hSw; (try dsimp only at hSw); go_simp; (try with_reducible rfl)
  try simp only [Act.put, List.setIfInBounds_toArray, List.set_cons_zero, List.set_cons_succ]
  refine wpAnyH_take (i := 1) (oi := _) (v := ?_) rfl (by kernel_rfl) (by kernel_rfl) (by kernel_rfl) (fun _ _ _ h => h) (Or.inl ⟨by rfl, ?_⟩) HS5.out ?_
  rotate_left
  · intro w hSw; (try dsimp only at hSw); go_simp; (try with_reducible rfl)
  try simp only [Act.put, List.setIfInBounds_toArray, List.set_cons_zero, List.set_cons_succ]
  refine wpAnyH_take (i := 2) (oi := _) (v := ?_) rfl (by kernel_rfl) (by kernel_rfl) (by kernel_rfl) (fun _ _ _ h => h) (Or.inl ⟨by rfl, ?_⟩) HS5.out ?_
  rotate_left
  · intro w hSw; (try dsimp only at hSw); go_simp; (try with_reducible rfl)
  try simp only [Act.put, List.setIfInBounds_toArray, List.set_cons_zero, List.set_cons_succ]
  refine wpAnyH_take (i := 3) (oi := _) (v := ?_) rfl (by kernel_rfl) (by kernel_rfl) (by kernel_rfl) (fun _ _ _ h => h) (Or.inl ⟨by rfl, ?_⟩) HS5.out ?_
  rotate_left
  · intro w hSw; (try dsimp only at hSw); go_simp; (try with_reducible rfl)
  try simp only [Act.put, List.setIfInBounds_toArray, List.set_cons_zero, List.set_cons_succ]
  refine wpAnyH_ready (rs := [4]) (by kernel_rfl) (by simp) (AllReadyH.cons (o := _) rfl (fun K hK => ?_) AllReadyH.nil)
  go_simp
  (go_at_call 39; refine (verDepths_z w3.drew _ p fn f g.fn HFn.out (HMd.out.lk.pr.later (Below.refl _ _) HMd.out.lk.hB) HFine.out HF.out).mono ?_; rintro e w4 ⟨dv, rfl, hd1, hd2, hd3, hb4⟩; have HM4 := Lib.hid (HMd.out.below hb4); have HD1 := Lib.hid hd1; have HD2 := Lib.hid hd2; have HD3 := Lib.hid hd3; have HB34 := Lib.hid hb4; obtain ⟨Ad, cd, rfl⟩ := ow_form hd1; clear hd1 hd2 hd3 hb4)
  try go_wp2_with fail
  have HS9 : Hid ((fun W : World => W.cell? ⟨w2.heap.size + 1, 0, none⟩ = some (.pointer (some ⟨w2.heap.size, 0, none⟩)) ∧ W.cell? ⟨w.heap.size, 0, none⟩ = some (.int .i64 g.fn)) w4) := Lib.hid ⟨HM4.out.pb.cell 0, HM4.out.gb.cell 0⟩
  refine hK.out _ _ HS9.out (fun HSn => ?_)
  clear hK K HSn
  try simp only [Act.put, List.setIfInBounds_toArray, List.set_cons_zero, List.set_cons_succ]
  refine wpAnyH_take (i := 5) (oi := _) (v := ?_) rfl (by kernel_rfl) (by kernel_rfl) (by kernel_rfl) (fun _ _ _ h => h) (Or.inl ⟨by rfl, ?_⟩) HS9.out ?_
  rotate_left
  · intro w hSw; (try dsimp only at hSw); go_simp; (try with_reducible rfl)
  try simp only [Act.put, List.setIfInBounds_toArray, List.set_cons_zero, List.set_cons_succ]
  refine wpAnyH_take (i := 6) (oi := _) (v := ?_) rfl (by kernel_rfl) (by kernel_rfl) (by kernel_rfl) (fun _ _ _ h => h) (Or.inl ⟨by rfl, ?_⟩) HS9.out ?_
  rotate_left
  · intro w hSw; (try dsimp only at hSw); go_simp; (try with_reducible rfl)
  try simp only [Act.put, List.setIfInBounds_toArray, List.set_cons_zero, List.set_cons_succ]
  refine wpAnyH_take (i := 7) (oi := _) (v := ?_) rfl (by kernel_rfl) (by kernel_rfl) (by kernel_rfl) (fun _ _ _ h => h) (Or.inl ⟨by rfl, ?_⟩) HS9.out ?_
  rotate_left
  · intro w hSw; (try dsimp only at hSw); go_simp; (try with_reducible rfl)
  try simp only [Act.put, List.setIfInBounds_toArray, List.set_cons_zero, List.set_cons_succ]
  refine wpAnyH_take (i := 8) (oi := _) (v := ?_) rfl (by kernel_rfl) (by kernel_rfl) (by kernel_rfl) (fun _ _ _ h => h) (Or.inl ⟨by rfl, ?_⟩) HS9.out ?_
  rotate_left
  · intro w hSw; (try dsimp only at hSw); go_simp; (try with_reducible rfl)
  try simp only [Act.put, List.setIfInBounds_toArray, List.set_cons_zero, List.set_cons_succ]
  refine wpAnyH_take (i := 9) (oi := _) (v := ?_) rfl (by kernel_rfl) (by kernel_rfl) (by kernel_rfl) (fun _ _ _ h => h) (Or.inl ⟨by rfl, ?_⟩) HS9.out ?_
  rotate_left
  · intro w hSw; (try dsimp only at hSw); go_simp; (try with_reducible rfl)
  try simp only [Act.put, List.setIfInBounds_toArray, List.set_cons_zero, List.set_cons_succ]
  refine wpAnyH_ready (rs := [10]) (by kernel_rfl) (by simp) (AllReadyH.cons (o := _) rfl (fun K hK => ?_) AllReadyH.nil)
  have c7 : w4.cell? ⟨w2.heap.size, 7, none⟩ = some (.slice none 0 0) := HM4.out.lk.cells.2.2.2.2.2.2.2.1
  have f7 := HM4.out.lk.box.frozen 7
  have ll4 := HM4.out.lk.box.lt
  go_simp
  try go_wp2_with fail
  obtain ⟨w5, hw5⟩ : ∃ w5, w5 = w4.setCell ⟨w2.heap.size, 7, none⟩ (.slice Ad (depthsOf f).length cd) := ⟨_, rfl⟩
  rw [← hw5]
  have HM5 : Hid (CkM w w2.heap.size (w2.heap.size + 1) (.slice Ap p.length cp) p ⟨.slice An g.nodes.length cn, .slice Ab g.blocks.length cb, vs⟩ g (.slice Ad (depthsOf f).length cd) (.slice none 0 0) (.slice none 0 0) w5) := Lib.hid (by rw [hw5]; exact HM4.out.setD _)
  have HD5 : Hid (IntsV w5 w5.heap.size (.slice Ad (depthsOf f).length cd) (depthsOf f)) := Lib.hid (by
    have hz : w5.heap.size = w4.heap.size := by rw [hw5]; simp [World.setCell]
    have hl : (depthsOf f).length ≤ lim := by
      obtain ⟨h1, h2, _⟩ := headB_code HOk.out.head
      rw [HD2.out]; unfold lim; omega
    rw [hz]
    refine HD1.out.intsA hl (fun k hk _ => ?_)
    rw [hw5]
    refine Below.heap_setCell w4 ⟨w2.heap.size, 7, none⟩ _ k ?_
    have := HMd.out.lk.box.lt
    simp only
    omega)
  clear c7 f7 ll4 hw5
  refine hK.out _ _ ⟨HM5.out.pb.cell 0, HM5.out.gb.cell 0⟩ (fun HSn => ?_)
  clear hK K HSn
  try simp only [Act.put, List.setIfInBounds_toArray, List.set_cons_zero, List.set_cons_succ]
  refine wpAnyH_done (by kernel_rfl) ?_ _
  go_upto_region 8 with fail
  have q0 : w5.cell? ⟨w.heap.size, 0, none⟩ = some (.int .i64 g.fn) := HM5.out.gb.cell 0
  have q1 : w5.cell? ⟨w.heap.size, 1, none⟩ = some (.int .i64 g.pc) := HM5.out.gb.cell 1
  have q2 : w5.cell? ⟨w.heap.size, 2, none⟩ = some (.int .i64 g.slots) := HM5.out.gb.cell 2
  have q3 : w5.cell? ⟨w.heap.size, 3, none⟩ = some (.slice An g.nodes.length cn) := HM5.out.gb.cell 3
  have q4 : w5.cell? ⟨w.heap.size, 4, none⟩ = some (.slice Ab g.blocks.length cb) := HM5.out.gb.cell 4
  have q5 : w5.cell? ⟨w.heap.size, 5, none⟩ = some vs := HM5.out.gb.cell 5
  have ql := HM5.out.gb.lt
  have b0 : w5.cell? ⟨w2.heap.size + 1, 0, none⟩ = some (.pointer (some ⟨w2.heap.size, 0, none⟩)) := HM5.out.pb.cell 0
  have bl := HM5.out.pb.lt
  have ll := HM5.out.lk.box.lt
  have c7 : w5.cell? ⟨w2.heap.size, 7, none⟩ = some (.slice Ad (depthsOf f).length cd) := HM5.out.lk.cells.2.2.2.2.2.2.2.1
  have hdl : (depthsOf f).length ≤ 16384 := by rw [HD2.out]; exact (headB_code HOk.out.head).2.1
  obtain ⟨t8, ht8⟩ : ∃ t, t = (decide (0 ≤ g.pc) && decide (g.pc < ((depthsOf f).length : Int))) := ⟨_, rfl⟩
  have HT8 := Lib.hid ht8
  clear ht8
  cases t8
  · go_quiet (first | (go_at_call 38; refine Calls.quiet_of_same (within_any g.pc (depthsOf f).length false HT8.out _)))
    go_wp2_with fail
    go_ret
    exact ⟨8, rfl, fun h => by omega, (HM5.out.low.trans ((below_drewN (Below.refl _ _) _).mono HM5.out.low.size))⟩
  obtain ⟨kp, hkp⟩ : ∃ kp : Nat, g.pc = (kp : Int) := ⟨g.pc.toNat, by have := HT8.out; simp only [Bool.true_eq, Bool.and_eq_true, decide_eq_true_eq] at this; omega⟩
  have hkl : kp < (depthsOf f).length := by have := HT8.out; simp only [Bool.true_eq, Bool.and_eq_true, decide_eq_true_eq] at this; omega
  obtain ⟨bd, od, rfl, hbd, hpd⟩ := HD5.out.cells hkl
  obtain ⟨d, hd⟩ := getL hkl
  have fd := hpd kp d hd
  have hdb := HD3.out d (List.mem_of_getElem? hd)
  have HKp := Lib.hid hkp
  rw [hkp] at q1 HT8
  have hloc := locals_ok HOk.out.head (HLc.out f (List.mem_of_getElem? HF.out))
  obtain ⟨A', c', e, _, _, hpp⟩ := HM5.out.lk.pr
  obtain ⟨bp, opp, eA, hbp, _⟩ := hpp (by omega)
  injection e with e1
  rw [← e1] at eA
  subst eA
  obtain ⟨_, _, _, _, _, _, _, _, _, _, _, _, _, f2, _⟩ := (HM5.out.lk.pr.fnAt HF.out).parts
  rw [HFn.out] at q0
  have HFl := Lib.hid hfl
  clear hpd hd hpp e1 hkp
  by_cases hneg : d < 0
  · have dn : decide (d < 0) = true := decide_eq_true hneg
    clear hneg
    go_quiet (first | (go_at_call 38; refine Calls.quiet_of_same (within_any kp (depthsOf f).length true HT8.out _)))
    go_wp2_with fail
    go_ret
    exact ⟨8, rfl, fun h => by omega, (HM5.out.low.trans ((below_drewN (Below.refl _ _) _).mono HM5.out.low.size))⟩
  have HNeg := Lib.hid hneg
  have dn : decide (d < 0) = false := decide_eq_false hneg
  clear hneg
  rcases bool_or (g.slots != f.locals + d) with hsl | hsl
  rotate_left
  · go_quiet (first | (go_at_call 38; refine Calls.quiet_of_same (within_any kp (depthsOf f).length true HT8.out _)))
    go_wp2_with fail
    go_ret
    exact ⟨8, rfl, fun h => by omega, (HM5.out.low.trans ((below_drewN (Below.refl _ _) _).mono HM5.out.low.size))⟩
  go_quiet (first | (go_at_call 38; refine Calls.quiet_of_same (within_any kp (depthsOf f).length true HT8.out _)))
  obtain ⟨w6, hw6⟩ : ∃ w6, w6 = w5.drewN nq := ⟨_, rfl⟩
  rw [← hw6]
  have hb6 : Below w5.heap.size w5 w6 := by rw [hw6]; exact below_drewN (Below.refl _ _) _
  have HM6 := Lib.hid (HM5.out.below hb6)
  have HD6 := Lib.hid (HD5.out.later hb6 (Nat.le_refl _))
  clear hw6 hb6 q0 q1 q2 q3 q4 q5 ql b0 bl ll c7 fd f2 hsl dn
  have b0 : w6.cell? ⟨w2.heap.size + 1, 0, none⟩ = some (.pointer (some ⟨w2.heap.size, 0, none⟩)) := HM6.out.pb.cell 0
  have bl := HM6.out.pb.lt
  obtain ⟨sb, hsb⟩ : ∃ sb, sb = !g.states.any (stateBadB g.nodes.length (depthsOf f) f.locals) := ⟨_, rfl⟩
  have HSb := Lib.hid hsb; have HLoc := Lib.hid hloc
  clear hsb hloc hdb
  go_upto_region 10 with fail
  cases sb
  · go_wp2_with (go_at_call 40; refine (states_any w6 w.heap.size w2.heap.size _ p _ g (depthsOf f) _ _ _ HM6.out.lk HD6.out HD3.out fn HFn.out f HF.out HLoc.out).mono ?_; rintro e w7 ⟨he, hb7⟩; rw [← HSb.out] at he; subst he; have HM7 := Lib.hid (HM6.out.below hb7); clear hb7; have b07 : w7.cell? ⟨w2.heap.size + 1, 0, none⟩ = some (.pointer (some ⟨w2.heap.size, 0, none⟩)) := HM7.out.pb.cell 0; have q47 : w7.cell? ⟨w.heap.size, 4, none⟩ = some (.slice Ab g.blocks.length cb) := HM7.out.gb.cell 4; have bl7 := HM7.out.pb.lt; have ql7 := HM7.out.gb.lt)
    go_ret
    exact ⟨8, rfl, fun h => by omega, HM7.out.low⟩
  go_upto_region 12 with (first
    | (go_at_call 43; refine (allNum_some w10 g.blocks.length 45 #[.pointer (some ⟨w2.heap.size, 0, none⟩)] #[] (fun W => Below w10.heap.size w10 W) (fun k => ∀ x, g.blocks[k]? = some x → wasP g (k : Int) g.blocks.length = x.ahead) (by omega) (fun _ _ => by kernel_rfl) (Below.refl _ _) (fun wr k hk hI => ahead_all HM10.out hI hk (by omega))).mono ?_; rintro e w11 ⟨ta, rfl, hah, hb11⟩; have HM11 := Lib.hid (HM10.out.below hb11); have HPr11 := Lib.hid (HPr10.out.below hb11); have HAh := Lib.hid hah; clear hb11 hah; have b0b : w11.cell? ⟨w2.heap.size + 1, 0, none⟩ = some (.pointer (some ⟨w2.heap.size, 0, none⟩)) := HM11.out.pb.cell 0; have q4b : w11.cell? ⟨w.heap.size, 4, none⟩ = some (.slice Ab g.blocks.length cb) := HM11.out.gb.cell 4; have blb := HM11.out.pb.lt; have qlb := HM11.out.gb.lt; cases ta)
    | (go_at_call 43; refine (allNum_some w9 g.blocks.length 44 #[.pointer (some ⟨w2.heap.size, 0, none⟩)] #[] (fun W => Below w9.heap.size w9 W) (fun k => ∀ x, g.blocks[k]? = some x → EndOk g x) (by omega) (fun _ _ => by kernel_rfl) (Below.refl _ _) (fun wr k hk hI => end_all HM9.out hI hk)).mono ?_; rintro e w10 ⟨te, rfl, hen, hb10⟩; have HM10 := Lib.hid (HM9.out.below hb10); have HPr10 := Lib.hid (HPr9.out.below hb10); have HEn := Lib.hid hen; clear hb10 hen; have b0a : w10.cell? ⟨w2.heap.size + 1, 0, none⟩ = some (.pointer (some ⟨w2.heap.size, 0, none⟩)) := HM10.out.pb.cell 0; have q4a : w10.cell? ⟨w.heap.size, 4, none⟩ = some (.slice Ab g.blocks.length cb) := HM10.out.gb.cell 4; have bla := HM10.out.pb.lt; have qla := HM10.out.gb.lt; cases te)
    | (go_at_call 42; refine (lkSlots_any w8 w.heap.size w2.heap.size _ p _ g _ _ _ HM8.out.lk).mono ?_; rintro e w9 ⟨⟨ts, rfl⟩, hb9⟩; have HM9 := Lib.hid (HM8.out.below hb9); have HPr9 := Lib.hid (HPr8.out.below hb9); clear hb9; have b09 : w9.cell? ⟨w2.heap.size + 1, 0, none⟩ = some (.pointer (some ⟨w2.heap.size, 0, none⟩)) := HM9.out.pb.cell 0; have q49 : w9.cell? ⟨w.heap.size, 4, none⟩ = some (.slice Ab g.blocks.length cb) := HM9.out.gb.cell 4; have bl9 := HM9.out.pb.lt; have ql9 := HM9.out.gb.lt; cases ts)
    | (go_at_call 41; refine (places_any w7 w.heap.size w2.heap.size _ p _ g _ _ _ HM7.out.lk HSm.out).mono ?_; rintro e w8 ⟨tp, al, rfl, hlk8, hpr8, hgr8, hal8, hpl8⟩; have HM8 := Lib.hid (HM7.out.turn hgr8 hlk8); have HPr8 := Lib.hid hpr8; have HAl8 := Lib.hid hal8; have HPl8 := Lib.hid hpl8; clear hlk8 hpr8 hgr8 hal8 hpl8; have b08 : w8.cell? ⟨w2.heap.size + 1, 0, none⟩ = some (.pointer (some ⟨w2.heap.size, 0, none⟩)) := HM8.out.pb.cell 0; have q48 : w8.cell? ⟨w.heap.size, 4, none⟩ = some (.slice Ab g.blocks.length cb) := HM8.out.gb.cell 4; have bl8 := HM8.out.pb.lt; have ql8 := HM8.out.gb.lt; cases tp)
    | (go_at_call 40; refine (states_any w6 w.heap.size w2.heap.size _ p _ g (depthsOf f) _ _ _ HM6.out.lk HD6.out HD3.out fn HFn.out f HF.out HLoc.out).mono ?_; rintro e w7 ⟨he, hb7⟩; rw [← HSb.out] at he; subst he; have HM7 := Lib.hid (HM6.out.below hb7); clear hb7; have b07 : w7.cell? ⟨w2.heap.size + 1, 0, none⟩ = some (.pointer (some ⟨w2.heap.size, 0, none⟩)) := HM7.out.pb.cell 0; have q47 : w7.cell? ⟨w.heap.size, 4, none⟩ = some (.slice Ab g.blocks.length cb) := HM7.out.gb.cell 4; have bl7 := HM7.out.pb.lt; have ql7 := HM7.out.gb.lt))
  all_goals first
    | (go_wp2_with fail; go_ret; exact ⟨8, rfl, fun h => by omega, HM11.out.low⟩)
    | (go_wp2_with fail; go_ret; exact ⟨8, rfl, fun h => by omega, HM10.out.low⟩)
    | (go_wp2_with fail; go_ret; exact ⟨8, rfl, fun h => by omega, HM9.out.low⟩)
    | (go_wp2_with fail; go_ret; exact ⟨8, rfl, fun h => by omega, HM8.out.low⟩)
    | skip
  have HAlive : Hid (Places g (alA al) ∧ ∀ q ∈ al, 0 ≤ q.1 ∧ 0 ≤ q.2) := Lib.hid (by first | exact HPl8.out rfl | exact HPl8.out trivial | exact HPl8.out)
  have HEnd : Hid (∀ x ∈ g.blocks, EndOk g x) := Lib.hid (by
    have h : ∀ k, k < g.blocks.length → ∀ x, g.blocks[k]? = some x → EndOk g x := by first | exact HEn.out rfl | exact HEn.out trivial | exact HEn.out
    intro x hx
    obtain ⟨k, hk⟩ := List.mem_iff_getElem?.1 hx
    exact h k (List.getElem?_eq_some_iff.1 hk).1 x hk)
  have HAhd : Hid (∀ x ∈ g.blocks, ∀ c ∈ x.ahead, 0 ≤ c ∧ c < (g.blocks.length : Int)) := Lib.hid (by
    have h : ∀ k, k < g.blocks.length → ∀ x, g.blocks[k]? = some x → wasP g (k : Int) g.blocks.length = x.ahead := by first | exact HAh.out rfl | exact HAh.out trivial | exact HAh.out
    intro x hx c hc
    obtain ⟨k, hk⟩ := List.mem_iff_getElem?.1 hx
    rw [← h k (List.getElem?_eq_some_iff.1 hk).1 x hk] at hc
    exact wasP_mem hc)
  have HStf : Hid (∀ s ∈ g.states, (∀ z ∈ s.slots, z < (g.nodes.length : Int)) ∧ 0 ≤ s.pc ∧ s.pc < (f.code.length : Int)) := Lib.hid (fun s hs => by
    have := states_fine HSb.out s hs
    rw [HD2.out] at this
    exact this)
  have HNod : Hid (∀ (n : Nat) y x, g.nodes[n]? = some y → g.blocks[(alA al n).1]? = some x → NodF w.heap.size p g al (absOf g) n y (alA al n).1 (alA al n).2 x (aboveTo g (alA al n).1 g.blocks.length) fn f) := Lib.hid (fun n y x hy hx => nodF_of HAl8.out HAlive.out.2 HAlive.out.1 HStf.out HAhd.out HOp.out HFn.out HF.out (code_fn HOk.out) ⟨hs1, hs2⟩ hy hx)
  clear b0 bl b07 q47 bl7 ql7 b08 q48 bl8 ql8 b09 q49 bl9 ql9 b0a q4a bla qla b0b q4b blb qlb
  have q0 : w11.cell? ⟨w.heap.size, 0, none⟩ = some (.int .i64 g.fn) := HM11.out.gb.cell 0
  have q1 : w11.cell? ⟨w.heap.size, 1, none⟩ = some (.int .i64 g.pc) := HM11.out.gb.cell 1
  have q2 : w11.cell? ⟨w.heap.size, 2, none⟩ = some (.int .i64 g.slots) := HM11.out.gb.cell 2
  have q3 : w11.cell? ⟨w.heap.size, 3, none⟩ = some (.slice An g.nodes.length cn) := HM11.out.gb.cell 3
  have q4 : w11.cell? ⟨w.heap.size, 4, none⟩ = some (.slice Ab g.blocks.length cb) := HM11.out.gb.cell 4
  have q5 : w11.cell? ⟨w.heap.size, 5, none⟩ = some vs := HM11.out.gb.cell 5
  have ql := HM11.out.gb.lt
  have b0 : w11.cell? ⟨w2.heap.size + 1, 0, none⟩ = some (.pointer (some ⟨w2.heap.size, 0, none⟩)) := HM11.out.pb.cell 0
  have bl := HM11.out.pb.lt
  have ll := HM11.out.lk.box.lt
  have HM11d := Lib.hid (HM11.out.below (Below.refl _ w11).drew)
  have HS12 : Hid ((fun W : World => W.cell? ⟨w2.heap.size + 1, 0, none⟩ = some (.pointer (some ⟨w2.heap.size, 0, none⟩)) ∧ W.cell? ⟨w.heap.size, 0, none⟩ = some (.int .i64 g.fn) ∧ W.cell? ⟨w.heap.size, 1, none⟩ = some (.int .i64 g.pc) ∧ W.cell? ⟨w.heap.size, 2, none⟩ = some (.int .i64 g.slots) ∧ W.cell? ⟨w.heap.size, 3, none⟩ = some (.slice An g.nodes.length cn) ∧ W.cell? ⟨w.heap.size, 4, none⟩ = some (.slice Ab g.blocks.length cb) ∧ W.cell? ⟨w.heap.size, 5, none⟩ = some vs ∧ w2.heap.size + 1 < W.heap.size ∧ w.heap.size < W.heap.size) w11.drew) := Lib.hid ⟨b0, q0, q1, q2, q3, q4, q5, bl, ql⟩
  refine wp_region_H (fun W => W.cell? ⟨w2.heap.size + 1, 0, none⟩ = some (.pointer (some ⟨w2.heap.size, 0, none⟩)) ∧ W.cell? ⟨w.heap.size, 0, none⟩ = some (.int .i64 g.fn) ∧ W.cell? ⟨w.heap.size, 1, none⟩ = some (.int .i64 g.pc) ∧ W.cell? ⟨w.heap.size, 2, none⟩ = some (.int .i64 g.slots) ∧ W.cell? ⟨w.heap.size, 3, none⟩ = some (.slice An g.nodes.length cn) ∧ W.cell? ⟨w.heap.size, 4, none⟩ = some (.slice Ab g.blocks.length cb) ∧ W.cell? ⟨w.heap.size, 5, none⟩ = some vs ∧ w2.heap.size + 1 < W.heap.size ∧ w.heap.size < W.heap.size) (by kernel_rfl) HS12.out (fun HSn => ?_)
  clear HSn q0 q1 q2 q3 q4 q5 ql b0 bl ll
  refine wpAnyH_take (i := 0) (oi := _) (v := ?_) rfl (by kernel_rfl) (by kernel_rfl) (by kernel_rfl) (fun _ _ _ h => h) (Or.inl ⟨by rfl, ?_⟩) HS12.out ?_
  rotate_left
  · intro w hSw; (try dsimp only at hSw); go_simp; (try with_reducible rfl)
  try simp only [Act.put, List.setIfInBounds_toArray, List.set_cons_zero, List.set_cons_succ]
  refine wpAnyH_take (i := 1) (oi := _) (v := ?_) rfl (by kernel_rfl) (by kernel_rfl) (by kernel_rfl) (fun _ _ _ h => h) (Or.inl ⟨by rfl, ?_⟩) HS12.out ?_
  rotate_left
  · intro w hSw; (try dsimp only at hSw); go_simp; (try with_reducible rfl)
  try simp only [Act.put, List.setIfInBounds_toArray, List.set_cons_zero, List.set_cons_succ]
  refine wpAnyH_ready (rs := [2]) (by kernel_rfl) (by simp) (AllReadyH.cons (o := _) rfl (fun K hK => ?_) AllReadyH.nil)
  go_simp
  (go_at_call 14; refine (above_any w11.drew g ⟨.slice An g.nodes.length cn, .slice Ab g.blocks.length cb, vs⟩ HSm.out (HM11d.out.lk.gr.mono HM11d.out.lk.hB)).mono ?_; rintro e w12 ⟨bv, rfl, hra, hb12⟩; have HM12 := Lib.hid (HM11d.out.below hb12); have HPr12 := Lib.hid (HPr11.out.below ((Below.refl _ w11).drew.trans hb12)); have HRa := Lib.hid hra; obtain ⟨bo, oo, co, rfl, _⟩ := hra; clear hb12)
  try go_wp2_with fail
  have HS13 : Hid ((fun W : World => W.cell? ⟨w2.heap.size + 1, 0, none⟩ = some (.pointer (some ⟨w2.heap.size, 0, none⟩)) ∧ W.cell? ⟨w.heap.size, 0, none⟩ = some (.int .i64 g.fn) ∧ W.cell? ⟨w.heap.size, 1, none⟩ = some (.int .i64 g.pc) ∧ W.cell? ⟨w.heap.size, 2, none⟩ = some (.int .i64 g.slots) ∧ W.cell? ⟨w.heap.size, 3, none⟩ = some (.slice An g.nodes.length cn) ∧ W.cell? ⟨w.heap.size, 4, none⟩ = some (.slice Ab g.blocks.length cb) ∧ W.cell? ⟨w.heap.size, 5, none⟩ = some vs ∧ w2.heap.size + 1 < W.heap.size ∧ w.heap.size < W.heap.size) w12) := Lib.hid ⟨HM12.out.pb.cell 0, HM12.out.gb.cell 0, HM12.out.gb.cell 1, HM12.out.gb.cell 2, HM12.out.gb.cell 3, HM12.out.gb.cell 4, HM12.out.gb.cell 5, HM12.out.pb.lt, HM12.out.gb.lt⟩
  refine hK.out _ _ HS13.out (fun HSn => ?_)
  clear hK K HSn
  try simp only [Act.put, List.setIfInBounds_toArray, List.set_cons_zero, List.set_cons_succ]
  refine wpAnyH_take (i := 3) (oi := _) (v := ?_) rfl (by kernel_rfl) (by kernel_rfl) (by kernel_rfl) (fun _ _ _ h => h) (Or.inl ⟨by rfl, ?_⟩) HS13.out ?_
  rotate_left
  · intro w hSw; (try dsimp only at hSw); go_simp; (try with_reducible rfl)
  try simp only [Act.put, List.setIfInBounds_toArray, List.set_cons_zero, List.set_cons_succ]
  refine wpAnyH_take (i := 4) (oi := _) (v := ?_) rfl (by kernel_rfl) (by kernel_rfl) (by kernel_rfl) (fun _ _ _ h => h) (Or.inl ⟨by rfl, ?_⟩) HS13.out ?_
  rotate_left
  · intro w hSw; (try dsimp only at hSw); go_simp; (try with_reducible rfl)
  try simp only [Act.put, List.setIfInBounds_toArray, List.set_cons_zero, List.set_cons_succ]
  refine wpAnyH_ready (rs := [5]) (by kernel_rfl) (by simp) (AllReadyH.cons (o := _) rfl (fun K hK => ?_) AllReadyH.nil)
  have c9 : w12.cell? ⟨w2.heap.size, 9, none⟩ = some (.slice none 0 0) := HM12.out.lk.cells.2.2.2.2.2.2.2.2.2
  have f9 := HM12.out.lk.box.frozen 9
  have ll4 := HM12.out.lk.box.lt
  go_simp
  try go_wp2_with fail
  obtain ⟨w13, hw13⟩ : ∃ w13, w13 = w12.setCell ⟨w2.heap.size, 9, none⟩ (.slice (some ⟨bo, oo, none⟩) g.blocks.length co) := ⟨_, rfl⟩
  rw [← hw13]
  have HM13 : Hid (CkM w w2.heap.size (w2.heap.size + 1) (.slice (some ⟨bp, opp, none⟩) p.length cp) p ⟨.slice An g.nodes.length cn, .slice Ab g.blocks.length cb, vs⟩ g (.slice (some ⟨bd, od, none⟩) (depthsOf f).length cd) (.slice (some ⟨w7.heap.size + 2, 0, none⟩) g.nodes.length g.nodes.length) (.slice (some ⟨bo, oo, none⟩) g.blocks.length co) w13) := Lib.hid (by rw [hw13]; exact HM12.out.setB _)
  have HSt : Hid (StM w13 w.heap.size w2.heap.size (.slice (some ⟨bp, opp, none⟩) p.length cp) p ⟨.slice An g.nodes.length cn, .slice Ab g.blocks.length cb, vs⟩ g (.slice (some ⟨bd, od, none⟩) (depthsOf f).length cd) (.slice (some ⟨w7.heap.size + 2, 0, none⟩) g.nodes.length g.nodes.length) (.slice (some ⟨bo, oo, none⟩) g.blocks.length co) al (absOf g)) := Lib.hid (by
    refine ⟨HM13.out.lk, ?_, ?_⟩
    · rw [hw13]
      exact HPr12.out.far (by have := HM7.out.lk.box.lt; simp only; omega) _
    · have hra := HRa.out
      rw [List.length_map, List.length_range] at hra
      refine rowsA_V hra (fun k h1 _ => ?_) (by rw [hw13]; simp [World.setCell])
      rw [hw13]
      refine Below.heap_setCell w12 ⟨w2.heap.size, 9, none⟩ _ k ?_
      have := HM11d.out.lk.box.lt
      simp only
      omega)
  clear c9 f9 ll4 hw13
  refine hK.out _ _ ⟨HM13.out.pb.cell 0, HM13.out.gb.cell 0, HM13.out.gb.cell 1, HM13.out.gb.cell 2, HM13.out.gb.cell 3, HM13.out.gb.cell 4, HM13.out.gb.cell 5, HM13.out.pb.lt, HM13.out.gb.lt⟩ (fun HSn => ?_)
  clear hK K HSn
  try simp only [Act.put, List.setIfInBounds_toArray, List.set_cons_zero, List.set_cons_succ]
  refine wpAnyH_done (by kernel_rfl) ?_ _
  have q3 : w13.cell? ⟨w.heap.size, 3, none⟩ = some (.slice An g.nodes.length cn) := HM13.out.gb.cell 3
  have q4 : w13.cell? ⟨w.heap.size, 4, none⟩ = some (.slice Ab g.blocks.length cb) := HM13.out.gb.cell 4
  have b0 : w13.cell? ⟨w2.heap.size + 1, 0, none⟩ = some (.pointer (some ⟨w2.heap.size, 0, none⟩)) := HM13.out.pb.cell 0
  have ql := HM13.out.gb.lt
  have bl := HM13.out.pb.lt
  go_wp2_with (first
    | (go_at_call 43; refine (allNum_some w14 g.blocks.length 46 #[] #[.pointer (some ⟨w.heap.size, 0, none⟩), .pointer (some ⟨w2.heap.size + 1, 0, none⟩)] (fun W => Below w14.heap.size w14 W) (fun k => ∀ x, g.blocks[k]? = some x → usesB g al (aboveTo g k g.blocks.length) k x.nodes.length x.args x.state = true) (by omega) (fun _ _ => by kernel_rfl) (Below.refl _ _) (fun wr k hk hI => ends_all (B := w.heap.size) (bl := w2.heap.size) (pv := .slice (some ⟨bp, opp, none⟩) p.length cp) (p := p) (xv := ⟨.slice An g.nodes.length cn, .slice Ab g.blocks.length cb, vs⟩) (dv := .slice (some ⟨bd, od, none⟩) (depthsOf f).length cd) (av := .slice (some ⟨w7.heap.size + 2, 0, none⟩) g.nodes.length g.nodes.length) (bv := .slice (some ⟨bo, oo, none⟩) g.blocks.length co) (HSt.out.below HB14.out) ⟨HM14.out.lk.gr, HM14.out.lk.hB, HM14.out.gb⟩ HM14.out.pb.lt (HM14.out.pb.cell 0) hI HAl8.out HEnd.out (fun s hs => (HStf.out s hs).1) hk)).mono ?_; rintro e w15 ⟨tu, rfl, hus, hb15⟩; have HM15 := Lib.hid (HM14.out.below hb15); have HUs := Lib.hid hus; clear hb15 hus; cases tu)
    | (go_at_call 43; refine (allNum_some w13 g.nodes.length 48 #[.pointer (some ⟨w2.heap.size, 0, none⟩)] #[] (fun W => Below w13.heap.size w13 W) (fun k => ∀ y, g.nodes[k]? = some y → ∀ x, g.blocks[(alA al k).1]? = some x → NodOk g al (absOf g) y (alA al k).1 (alA al k).2 x (aboveTo g (alA al k).1 g.blocks.length)) (by omega) (fun _ _ => by kernel_rfl) (Below.refl _ _) (fun wr k hk hI => node_all HSt.out hI HAlive.out.1 HNod.out hk)).mono ?_; rintro e w14 ⟨tn, rfl, hno, hb14⟩; have HM14 := Lib.hid (HM13.out.below hb14); have HB14 := Lib.hid hb14; have HNo := Lib.hid hno; clear hb14 hno; have q4' : w14.cell? ⟨w.heap.size, 4, none⟩ = some (.slice Ab g.blocks.length cb) := HM14.out.gb.cell 4; have ql' := HM14.out.gb.lt; cases tn))
  all_goals go_ret
  all_goals first
    | exact ⟨8, rfl, fun h => by omega, HM14.out.low⟩
    | exact ⟨8, rfl, fun h => by omega, HM15.out.low⟩
    | skip
  refine ⟨0, rfl, fun _ => ⟨alA al, ?_⟩, HM15.out.low⟩
  have hno : ∀ k, k < g.nodes.length → ∀ y, g.nodes[k]? = some y → ∀ x, g.blocks[(alA al k).1]? = some x → NodOk g al (absOf g) y (alA al k).1 (alA al k).2 x (aboveTo g (alA al k).1 g.blocks.length) := by first | exact HNo.out rfl | exact HNo.out trivial | exact HNo.out
  have hus : ∀ k, k < g.blocks.length → ∀ x, g.blocks[k]? = some x → usesB g al (aboveTo g k g.blocks.length) k x.nodes.length x.args x.state = true := by first | exact HUs.out rfl | exact HUs.out trivial | exact HUs.out
  exact gok_of HPos.out HAl8.out HAlive.out.2 HAlive.out.1 (fun s hs => (HStf.out s hs).1) HEnd.out HAhd.out (fun n y hy x hx => hno n (List.getElem?_eq_some_iff.1 hy).1 y hy x hx) (fun b x hx => hus b (List.getElem?_eq_some_iff.1 hx).1 x hx)
end Go.Proofs.YtkmfdiboekoioaaGreat
