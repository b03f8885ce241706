/- graph.look.uses: are args and a state's slots reached from a place? Conditions: numbers that are some of the nodes. -/
import Derived.Test.YtkmfdiboekoioaaGreatCLk2
import Derived.RangeFuncBox
set_option linter.unusedSimpArgs false
set_option linter.unusedVariables false
namespace Go.Proofs.YtkmfdiboekoioaaGreat
open Go.RowKit
def standsB (al : List (Int × Int)) (row : List Int) (b : Nat) (i n : Int) : Bool := if (al.getD n.toNat (0, 0)).1 = (b : Int) then decide ((al.getD n.toNat (0, 0)).2 < i) else decide ((al.getD n.toNat (0, 0)).1 ∈ row)
def missB (al : List (Int × Int)) (row : List Int) (b : Nat) (i n : Int) : Bool := decide (0 ≤ n) && !standsB al row b i n
theorem RowsV.below {w w' : World} {v : Value} {l : List (List Int)} (h : RowsV w w.heap.size v l) (hb : Below w.heap.size w w') : RowsV w' w'.heap.size v l := by
  obtain ⟨A, c, hv, hc, hl, h⟩ := h.keep (Same.of_below hb)
  refine ⟨A, c, hv, hc, hl, fun h0 => ?_⟩
  obtain ⟨b, off, hA, hB, h⟩ := h h0
  exact ⟨b, off, hA, Nat.lt_of_lt_of_le hB hb.size, fun j l hj => by obtain ⟨u, h1, h2⟩ := h j l hj; exact ⟨u, h1, h2.mono hb.size⟩⟩
/-- All that stands asks of memory. -/
structure StM (w : World) (B bl : Nat) (pv : Value) (p : List FnP) (xv : GVals) (g : GraphP) (dv av bv : Value) (al : List (Int × Int)) (abs : List (List Int)) : Prop where
  lk : LkBox w B bl pv p xv g dv av bv
  at_ : PairsV w av al
  ab : RowsV w w.heap.size bv abs
theorem StM.below {w w' : World} {B bl : Nat} {pv : Value} {p : List FnP} {xv : GVals} {g : GraphP} {dv av bv : Value} {al : List (Int × Int)} {abs : List (List Int)} (h : StM w B bl pv p xv g dv av bv al abs) (hb : Below w.heap.size w w') : StM w' B bl pv p xv g dv av bv al abs :=
  ⟨h.lk.below hb, h.at_.below hb, RowsV.below h.ab hb⟩
set_option maxHeartbeats 4000000 in
theorem miss_any (w : World) (B bl : Nat) (pv : Value) (p : List FnP) (xv : GVals) (g : GraphP) (dv av bv : Value) (al : List (Int × Int)) (abs : List (List Int)) (h : StM w B bl pv p xv g dv av bv al abs)
    (b1 b2 b : Nat) (i : Int) (row : List Int) (hrow : abs[b]? = some row) (k1 : b1 < w.heap.size) (k2 : b2 < w.heap.size) (h1 : w.cell? ⟨b1, 0, none⟩ = some (.pointer (some ⟨bl, 0, none⟩))) (h2 : w.cell? ⟨b2, 0, none⟩ = some (.int .i64 b)) (h3 : w.cell? ⟨b2, 1, none⟩ = some (.int .i64 i))
    (n : Int) (hn : n < (al.length : Int)) : Calls Tryz.prog 92 #[.int .i64 n, .pointer (some ⟨b1, 0, none⟩), .pointer (some ⟨b2, 0, none⟩)] w (fun e w' => e = .returned (.bool (missB al row b i n)) ∧ Below w.heap.size w w') := by
  have HM := Lib.hid h; have HRow := Lib.hid hrow
  clear h hrow
  by_cases h0 : 0 ≤ n
  · obtain ⟨m, rfl⟩ : ∃ m : Nat, n = (m : Int) := ⟨n.toNat, by omega⟩
    obtain ⟨q, hq⟩ : ∃ q, al[m]? = some q := ⟨al[m]'(by omega), List.getElem?_eq_getElem _⟩
    obtain ⟨t, ht⟩ : ∃ t, t = standsB al row b i m := ⟨_, rfl⟩
    have HT : Hid (t = if q.1 = (b : Int) then decide (q.2 < i) else decide (q.1 ∈ row)) := Lib.hid (by
      rw [ht]; unfold standsB
      rw [Int.toNat_natCast, List.getD_eq_getElem?_getD, hq]; rfl)
    have HQ := Lib.hid hq
    have HR : Hid (missB al row b i m = !t) := Lib.hid (by unfold missB; rw [ht]; simp)
    clear ht hq
    cases t with
    | true =>
      go_enter Tryz.func92, Tryz.ntmps92
      go_wp2_with (go_at_call 93; refine (stands_any w B bl pv p xv g dv av bv al abs HM.out.lk HM.out.at_ HM.out.ab m q HQ.out b i row HRow.out true HT.out).mono ?_; rintro e w2 ⟨rfl, hb2⟩; have HB2 := Lib.hid hb2; clear hb2)
      go_ret
      exact ⟨by rw [HR.out]; rfl, HB2.out⟩
    | false =>
      go_enter Tryz.func92, Tryz.ntmps92
      go_wp2_with (go_at_call 93; refine (stands_any w B bl pv p xv g dv av bv al abs HM.out.lk HM.out.at_ HM.out.ab m q HQ.out b i row HRow.out false HT.out).mono ?_; rintro e w2 ⟨rfl, hb2⟩; have HB2 := Lib.hid hb2; clear hb2)
      go_ret
      exact ⟨by rw [HR.out]; rfl, HB2.out⟩
  · have HR : Hid (missB al row b i n = false) := Lib.hid (by unfold missB; rw [decide_eq_false h0]; rfl)
    go_enter Tryz.func92, Tryz.ntmps92
    go_wp2_with fail
    go_ret
    exact ⟨by rw [HR.out]; rfl, Below.refl _ _⟩
def usesB (g : GraphP) (al : List (Int × Int)) (row : List Int) (b : Nat) (i : Int) (args : List Int) (state : Int) : Bool := !args.any (missB al row b i) && (decide (state < 0) || !(slotsOf g state).any (missB al row b i))
set_option maxRecDepth 100000 in
set_option maxHeartbeats 8000000 in
theorem uses_any (w : World) (B bl : Nat) (pv : Value) (p : List FnP) (xv : GVals) (g : GraphP) (dv av bv : Value) (al : List (Int × Int)) (abs : List (List Int)) (h : StM w B bl pv p xv g dv av bv al abs)
    (b : Nat) (i : Int) (row : List Int) (hrow : abs[b]? = some row) (v : Value) (args : List Int) (hv : IntsV w w.heap.size v args) (ha : ∀ x ∈ args, x < (al.length : Int)) (state : Int) (hst : state < (g.states.length : Int)) (hs : ∀ x ∈ slotsOf g state, x < (al.length : Int)) :
    Calls Tryz.prog 47 #[.pointer (some ⟨bl, 0, none⟩), v, .int .i64 state, .agg #[.int .i64 b, .int .i64 i]] w (fun e w' => e = .returned (.bool (usesB g al row b i args state)) ∧ Below w.heap.size w w') := by
  obtain ⟨w3, hw3⟩ : ∃ w3, w3 = (w.alloc (.cells #[.pointer (some ⟨bl, 0, none⟩)] 84)).alloc (.cells #[.int .i64 b, .int .i64 i] 92) := ⟨_, rfl⟩
  have hb3 : Below w.heap.size w w3 := by rw [hw3]; exact ((Below.refl _ _).alloc (Nat.le_refl _) _).alloc (by simp) _
  have hx1 : Blk w3 w.heap.size 84 #[.pointer (some ⟨bl, 0, none⟩)] := by rw [hw3]; exact (Blk.new _ _ _).alloc _
  have hx2 : Blk w3 (w.heap.size + 1) 92 #[.int .i64 b, .int .i64 i] := by
    have := Blk.new (w.alloc (.cells #[.pointer (some ⟨bl, 0, none⟩)] 84)) 92 #[.int .i64 b, .int .i64 i]
    rw [World.size_alloc, ← hw3] at this
    exact this
  have h1 : w3.cell? ⟨w.heap.size, 0, none⟩ = some (.pointer (some ⟨bl, 0, none⟩)) := hx1.cell 0
  have h2 : w3.cell? ⟨w.heap.size + 1, 0, none⟩ = some (.int .i64 b) := hx2.cell 0
  have h3 : w3.cell? ⟨w.heap.size + 1, 1, none⟩ = some (.int .i64 i) := hx2.cell 1
  have k1 := hx1.lt
  have k2 := hx2.lt
  have HM3 := Lib.hid (h.below hb3)
  have HV3 := Lib.hid (hv.later hb3 (Nat.le_refl _))
  have HA := Lib.hid ha; have HS := Lib.hid hs; have HRow := Lib.hid hrow; have HB3 := Lib.hid hb3
  obtain ⟨A, c, rfl, _⟩ := hv
  clear hx1 hx2 h hrow ha hb3
  rcases bool_or (args.any (missB al row b i)) with hm | hm
  rotate_left
  · have HT1 : Hid (true = args.any (missB al row b i)) := Lib.hid hm.symm
    have HR : Hid (usesB g al row b i args state = false) := Lib.hid (by unfold usesB; rw [hm]; rfl)
    clear hm hs
    go_enter Tryz.func47, Tryz.ntmps47
    go_upto_region 1 with fail
    rw [← hw3]
    clear hw3
    go_wp2_with (go_at_call 65; refine (ctInt_any w3 _ args 92 #[] #[.pointer (some ⟨w.heap.size, 0, none⟩), .pointer (some ⟨w.heap.size + 1, 0, none⟩)] (missB al row b i) HV3.out (fun _ _ => by kernel_rfl) (fun wr y hy hwr => miss_any wr B bl pv p xv g dv av bv al abs (HM3.out.below hwr) w.heap.size (w.heap.size + 1) b i row HRow.out (Nat.lt_of_lt_of_le k1 hwr.size) (Nat.lt_of_lt_of_le k2 hwr.size) ((hwr.cell (p := ⟨w.heap.size, 0, none⟩) k1).trans h1) ((hwr.cell (p := ⟨w.heap.size + 1, 0, none⟩) k2).trans h2) ((hwr.cell (p := ⟨w.heap.size + 1, 1, none⟩) k2).trans h3) y (HA.out y hy)) true HT1.out).mono ?_; rintro e w4 ⟨rfl, hb4⟩; have HB4 := Lib.hid hb4; clear hb4)
    go_ret
    exact ⟨by rw [HR.out]; rfl, HB3.out.trans (HB4.out.mono HB3.out.size)⟩
  · have HT1 : Hid (false = args.any (missB al row b i)) := Lib.hid hm.symm
    by_cases hneg : state < 0
    · have HR : Hid (usesB g al row b i args state = true) := Lib.hid (by unfold usesB; rw [hm, decide_eq_true hneg]; rfl)
      clear hm hs
      go_enter Tryz.func47, Tryz.ntmps47
      go_upto_region 1 with fail
      rw [← hw3]
      clear hw3
      go_wp2_with (go_at_call 65; refine (ctInt_any w3 _ args 92 #[] #[.pointer (some ⟨w.heap.size, 0, none⟩), .pointer (some ⟨w.heap.size + 1, 0, none⟩)] (missB al row b i) HV3.out (fun _ _ => by kernel_rfl) (fun wr y hy hwr => miss_any wr B bl pv p xv g dv av bv al abs (HM3.out.below hwr) w.heap.size (w.heap.size + 1) b i row HRow.out (Nat.lt_of_lt_of_le k1 hwr.size) (Nat.lt_of_lt_of_le k2 hwr.size) ((hwr.cell (p := ⟨w.heap.size, 0, none⟩) k1).trans h1) ((hwr.cell (p := ⟨w.heap.size + 1, 0, none⟩) k2).trans h2) ((hwr.cell (p := ⟨w.heap.size + 1, 1, none⟩) k2).trans h3) y (HA.out y hy)) false HT1.out).mono ?_; rintro e w4 ⟨rfl, hb4⟩; have HB4 := Lib.hid hb4; clear hb4)
      go_ret
      exact ⟨by rw [HR.out]; rfl, HB3.out.trans (HB4.out.mono HB3.out.size)⟩
    · obtain ⟨k, rfl⟩ : ∃ k : Nat, state = (k : Int) := ⟨state.toNat, by omega⟩
      obtain ⟨st, hst2⟩ := getL (show k < g.states.length by omega)
      have hsl := slotsOf_some hst2
      obtain ⟨As, cs, es, hcs, hls, hps⟩ := (HM3.out.lk.gr.mono HM3.out.lk.hB).2.2
      obtain ⟨bs, os, rfl, hbs, hps⟩ := hps (by omega)
      obtain ⟨_, vx, hs1, hvx⟩ := hps k st hst2
      have HSl0 := hvx
      obtain ⟨Ax, cx, rfl, _⟩ := hvx
      have HSl := Lib.hid HSl0
      rw [hsl] at hs
      have HS := Lib.hid hs
      have hkl : k < g.states.length := by omega
      have hlim : g.states.length ≤ 17592186044416 := by unfold lim at hls; omega
      clear HSl0 hps
      rcases bool_or (st.slots.any (missB al row b i)) with hm2 | hm2
      · have HT2 : Hid (false = st.slots.any (missB al row b i)) := Lib.hid hm2.symm
        have HR : Hid (usesB g al row b i args (k : Int) = true) := Lib.hid (by unfold usesB; rw [hm, hsl, hm2, decide_eq_false hneg]; rfl)
        clear hm hm2 hs hsl hst2 hst
        go_enter Tryz.func47, Tryz.ntmps47
        go_upto_region 1 with fail
        rw [← hw3]
        clear hw3
        go_wp2_with (first
          | (go_at_call 65; refine (ctInt_any w4 _ st.slots 92 #[] #[.pointer (some ⟨w.heap.size, 0, none⟩), .pointer (some ⟨w.heap.size + 1, 0, none⟩)] (missB al row b i) HSl4.out (fun _ _ => by kernel_rfl) (fun wr y hy hwr => miss_any wr B bl pv p xv g dv av bv al abs (HM4.out.below hwr) w.heap.size (w.heap.size + 1) b i row HRow.out (Nat.lt_of_lt_of_le (Nat.lt_of_lt_of_le k1 HB4.out.size) hwr.size) (Nat.lt_of_lt_of_le (Nat.lt_of_lt_of_le k2 HB4.out.size) hwr.size) ((hwr.cell (p := ⟨w.heap.size, 0, none⟩) (Nat.lt_of_lt_of_le k1 HB4.out.size)).trans ((HB4.out.cell (p := ⟨w.heap.size, 0, none⟩) k1).trans h1)) ((hwr.cell (p := ⟨w.heap.size + 1, 0, none⟩) (Nat.lt_of_lt_of_le k2 HB4.out.size)).trans ((HB4.out.cell (p := ⟨w.heap.size + 1, 0, none⟩) k2).trans h2)) ((hwr.cell (p := ⟨w.heap.size + 1, 1, none⟩) (Nat.lt_of_lt_of_le k2 HB4.out.size)).trans ((HB4.out.cell (p := ⟨w.heap.size + 1, 1, none⟩) k2).trans h3)) y (HS.out y hy)) false HT2.out).mono ?_; rintro e w5 ⟨rfl, hb5⟩; have HB5 := Lib.hid hb5; clear hb5)
          | (go_at_call 65; refine (ctInt_any w3 _ args 92 #[] #[.pointer (some ⟨w.heap.size, 0, none⟩), .pointer (some ⟨w.heap.size + 1, 0, none⟩)] (missB al row b i) HV3.out (fun _ _ => by kernel_rfl) (fun wr y hy hwr => miss_any wr B bl pv p xv g dv av bv al abs (HM3.out.below hwr) w.heap.size (w.heap.size + 1) b i row HRow.out (Nat.lt_of_lt_of_le k1 hwr.size) (Nat.lt_of_lt_of_le k2 hwr.size) ((hwr.cell (p := ⟨w.heap.size, 0, none⟩) k1).trans h1) ((hwr.cell (p := ⟨w.heap.size + 1, 0, none⟩) k2).trans h2) ((hwr.cell (p := ⟨w.heap.size + 1, 1, none⟩) k2).trans h3) y (HA.out y hy)) false HT1.out).mono ?_; rintro e w4 ⟨rfl, hb4⟩; have HB4 := Lib.hid hb4; have h1' := (hb4.cell (p := ⟨w.heap.size, 0, none⟩) k1).trans h1; have hll4 := (HM3.out.lk.below hb4).box.lt; have c6 : w4.cell? ⟨bl, 6, none⟩ = some (.slice (some ⟨bs, os, none⟩) g.states.length cs) := (((HM3.out.lk.below hb4).cells.2.2.2.2.2.2.1).trans (congrArg some es)); have k1' := Nat.lt_of_lt_of_le k1 hb4.size; have HM4 := Lib.hid (HM3.out.below hb4); have s1' : w4.cell? ⟨bs, os + k * 2 + 1, none⟩ = some (.slice Ax st.slots.length cx) := (hb4.cell (p := ⟨bs, os + k * 2 + 1, none⟩) hbs).trans hs1; have HSl4 := Lib.hid (HSl.out.later hb4 (Nat.le_refl _)); clear hb4))
        go_ret
        exact ⟨by rw [HR.out]; rfl, HB3.out.trans ((HB4.out.trans (HB5.out.mono HB4.out.size)).mono HB3.out.size)⟩
      · have HT2 : Hid (true = st.slots.any (missB al row b i)) := Lib.hid hm2.symm
        have HR : Hid (usesB g al row b i args (k : Int) = false) := Lib.hid (by unfold usesB; rw [hm, hsl, hm2, decide_eq_false hneg]; rfl)
        clear hm hm2 hs hsl hst2 hst
        go_enter Tryz.func47, Tryz.ntmps47
        go_upto_region 1 with fail
        rw [← hw3]
        clear hw3
        go_wp2_with (first
          | (go_at_call 65; refine (ctInt_any w4 _ st.slots 92 #[] #[.pointer (some ⟨w.heap.size, 0, none⟩), .pointer (some ⟨w.heap.size + 1, 0, none⟩)] (missB al row b i) HSl4.out (fun _ _ => by kernel_rfl) (fun wr y hy hwr => miss_any wr B bl pv p xv g dv av bv al abs (HM4.out.below hwr) w.heap.size (w.heap.size + 1) b i row HRow.out (Nat.lt_of_lt_of_le (Nat.lt_of_lt_of_le k1 HB4.out.size) hwr.size) (Nat.lt_of_lt_of_le (Nat.lt_of_lt_of_le k2 HB4.out.size) hwr.size) ((hwr.cell (p := ⟨w.heap.size, 0, none⟩) (Nat.lt_of_lt_of_le k1 HB4.out.size)).trans ((HB4.out.cell (p := ⟨w.heap.size, 0, none⟩) k1).trans h1)) ((hwr.cell (p := ⟨w.heap.size + 1, 0, none⟩) (Nat.lt_of_lt_of_le k2 HB4.out.size)).trans ((HB4.out.cell (p := ⟨w.heap.size + 1, 0, none⟩) k2).trans h2)) ((hwr.cell (p := ⟨w.heap.size + 1, 1, none⟩) (Nat.lt_of_lt_of_le k2 HB4.out.size)).trans ((HB4.out.cell (p := ⟨w.heap.size + 1, 1, none⟩) k2).trans h3)) y (HS.out y hy)) true HT2.out).mono ?_; rintro e w5 ⟨rfl, hb5⟩; have HB5 := Lib.hid hb5; clear hb5)
          | (go_at_call 65; refine (ctInt_any w3 _ args 92 #[] #[.pointer (some ⟨w.heap.size, 0, none⟩), .pointer (some ⟨w.heap.size + 1, 0, none⟩)] (missB al row b i) HV3.out (fun _ _ => by kernel_rfl) (fun wr y hy hwr => miss_any wr B bl pv p xv g dv av bv al abs (HM3.out.below hwr) w.heap.size (w.heap.size + 1) b i row HRow.out (Nat.lt_of_lt_of_le k1 hwr.size) (Nat.lt_of_lt_of_le k2 hwr.size) ((hwr.cell (p := ⟨w.heap.size, 0, none⟩) k1).trans h1) ((hwr.cell (p := ⟨w.heap.size + 1, 0, none⟩) k2).trans h2) ((hwr.cell (p := ⟨w.heap.size + 1, 1, none⟩) k2).trans h3) y (HA.out y hy)) false HT1.out).mono ?_; rintro e w4 ⟨rfl, hb4⟩; have HB4 := Lib.hid hb4; have h1' := (hb4.cell (p := ⟨w.heap.size, 0, none⟩) k1).trans h1; have hll4 := (HM3.out.lk.below hb4).box.lt; have c6 : w4.cell? ⟨bl, 6, none⟩ = some (.slice (some ⟨bs, os, none⟩) g.states.length cs) := (((HM3.out.lk.below hb4).cells.2.2.2.2.2.2.1).trans (congrArg some es)); have k1' := Nat.lt_of_lt_of_le k1 hb4.size; have HM4 := Lib.hid (HM3.out.below hb4); have s1' : w4.cell? ⟨bs, os + k * 2 + 1, none⟩ = some (.slice Ax st.slots.length cx) := (hb4.cell (p := ⟨bs, os + k * 2 + 1, none⟩) hbs).trans hs1; have HSl4 := Lib.hid (HSl.out.later hb4 (Nat.le_refl _)); clear hb4))
        go_ret
        exact ⟨by rw [HR.out]; rfl, HB3.out.trans ((HB4.out.trans (HB5.out.mono HB4.out.size)).mono HB3.out.size)⟩
end Go.Proofs.YtkmfdiboekoioaaGreat

/- slices.Equal of whole numbers; graph.look.ahead. Conditions: a graph that lies in memory. -/
namespace Go.Proofs.YtkmfdiboekoioaaGreat
open Go.RowKit
set_option maxHeartbeats 4000000 in
theorem eqInts_any (w : World) (v1 v2 : Value) (l1 l2 : List Int) (h1 : IntsV w w.heap.size v1 l1) (h2 : IntsV w w.heap.size v2 l2) : Calls Tryz.prog 91 #[v1, v2] w (fun e w' => e = .returned (.bool (decide (l1 = l2))) ∧ Below w.heap.size w w') := by
  have H1 := Lib.hid h1; have H2 := Lib.hid h2
  obtain ⟨A1, c1, rfl, _, q1, _⟩ := h1
  obtain ⟨A2, c2, rfl, _, q2, _⟩ := h2
  have hl1 : l1.length ≤ 17592186044416 := by unfold lim at q1; omega
  have hl2 : l2.length ≤ 17592186044416 := by unfold lim at q2; omega
  clear q1 q2
  by_cases hne : l1.length = l2.length
  · have HLen := Lib.hid hne
    have dl : decide ((l1.length : Int) = (l2.length : Int)) = true := by simp [hne]
    have bl2 : ((l1.length : Int) == (l2.length : Int)) = true := by simp [hne]
    clear hne
    go_enter Tryz.func91, Tryz.ntmps91
    go_wp2_with fail
    go_loopw [13] (fun i wr => ∃ k : Nat, k ≤ l1.length ∧ i = .int .i64 k ∧ Hid (Below w.heap.size w wr) ∧ Hid (∀ j : Nat, j < k → l1[j]? = l2[j]?)) (fun i _ => l1.length - (intOf i).toNat)
    case atStart => exact ⟨0, Nat.zero_le _, rfl, Lib.hid (Below.refl _ _), Lib.hid (fun j h => by omega)⟩
    case round =>
      obtain ⟨k, hk, rfl, HB, HE⟩ := hrel
      by_cases hlt : k < l1.length
      · have hlt2 : k < l2.length := by have := HLen.out; omega
        obtain ⟨B1, o1, rfl, hb1, hp1⟩ := (H1.out.keep (Same.of_below HB.out)).cells hlt
        obtain ⟨B2, o2, rfl, hb2, hp2⟩ := (H2.out.keep (Same.of_below HB.out)).cells hlt2
        obtain ⟨a, ha⟩ := getL hlt
        obtain ⟨b, hb⟩ := getL hlt2
        have f1 := hp1 k a ha
        have f2 := hp2 k b hb
        have HAa := Lib.hid ha; have HBb := Lib.hid hb
        clear hp1 hp2 ha hb
        by_cases hab : a = b
        · subst hab
          go_wp2_with go_region
          all_goals
            go_roundw
            case rel => exact ⟨k + 1, by omega, by go_num, Lib.hid (Below.drawnAny HB.out), Lib.hid (fun j hj => by
              rcases Nat.lt_or_ge j k with h | h
              · exact HE.out j h
              · obtain rfl : j = k := by omega
                rw [HAa.out, HBb.out])⟩
            case measure => simp [intOf]; omega
        · have HNe := Lib.hid hab
          have db : decide (a = b) = false := by simp [hab]
          have bb : (a == b) = false := by simp [hab]
          go_wp2_with go_region
          all_goals
            go_ret
            have e : decide (l1 = l2) = false := by
              rw [decide_eq_false_iff_not]
              intro h
              have h3 := HAa.out
              rw [h, HBb.out] at h3
              injection h3 with h3
              exact HNe.out h3.symm
            rw [e]
            exact ⟨rfl, Below.drawnAny HB.out⟩
      · go_wp2_with fail
        go_ret
        have e : decide (l1 = l2) = true := by
          rw [decide_eq_true_eq]
          apply List.ext_getElem?
          intro j
          rcases Nat.lt_or_ge j k with h | h
          · exact HE.out j h
          · rw [List.getElem?_eq_none (by omega), List.getElem?_eq_none (by have := HLen.out; omega)]
        rw [e]
        exact ⟨rfl, HB.out⟩
  · have HLen := Lib.hid hne
    go_enter Tryz.func91, Tryz.ntmps91
    go_wp2_with fail
    all_goals first
      | (exfalso; exact HLen.out (by omega))
      | (go_ret
         have e : decide (l1 = l2) = false := by
           rw [decide_eq_false_iff_not]
           intro h; exact HLen.out (by rw [h])
         rw [e]
         exact ⟨rfl, Below.refl _ _⟩)
end Go.Proofs.YtkmfdiboekoioaaGreat

/- graph.look.ahead: are the blocks ahead told as they are? Conditions: a graph that lies in memory. -/
namespace Go.Proofs.YtkmfdiboekoioaaGreat
open Go.RowKit
def leadsTo (g : GraphP) (n : Int) (b : Nat) : Bool := match g.blocks[b]? with | some x => decide (n ∈ x.next) | none => false
def wasP (g : GraphP) (n : Int) (k : Nat) : List Int := ((List.range k).filter (leadsTo g n)).map (fun (b : Nat) => (b : Int))
theorem wasP_yes {g : GraphP} {n : Int} {k : Nat} {x : BlockP} (hx : g.blocks[k]? = some x) (h : n ∈ x.next) : wasP g n (k + 1) = wasP g n k ++ [(k : Int)] := by
  have : leadsTo g n k = true := by unfold leadsTo; rw [hx]; simp [h]
  unfold wasP; rw [List.range_succ, List.filter_append, List.map_append]; simp [this]
theorem wasP_no {g : GraphP} {n : Int} {k : Nat} {x : BlockP} (hx : g.blocks[k]? = some x) (h : n ∉ x.next) : wasP g n (k + 1) = wasP g n k := by
  have : leadsTo g n k = false := by unfold leadsTo; rw [hx]; simp [h]
  unfold wasP; rw [List.range_succ, List.filter_append, List.map_append]; simp [this]
theorem wasP_len (g : GraphP) (n : Int) (k : Nat) : (wasP g n k).length ≤ k := by
  unfold wasP; rw [List.length_map]; exact Nat.le_trans (List.length_filter_le _ _) (by simp)
def AheadIs (g : GraphP) (n : Nat) (x : BlockP) (w : World) (e : Ending) (w' : World) : Prop := ∃ t, e = .returned (.bool t) ∧ (t = true → wasP g n g.blocks.length = x.ahead) ∧ Below w.heap.size w w'
set_option maxRecDepth 100000 in
set_option maxHeartbeats 8000000 in
theorem ahead_any (w : World) (B bl : Nat) (pv : Value) (p : List FnP) (xv : GVals) (g : GraphP) (dv av bv : Value) (h : LkBox w B bl pv p xv g dv av bv) (n : Nat) (x : BlockP) (hx : g.blocks[n]? = some x) (hsm : g.blocks.length ≤ 5000) :
    Calls Tryz.prog 45 #[.pointer (some ⟨bl, 0, none⟩), .int .i64 n] w (AheadIs g n x w) := by
  have HL := Lib.hid h; have HX := Lib.hid hx
  have hn := (List.getElem?_eq_some_iff.1 hx).1
  obtain ⟨vn, vb, vs⟩ := xv
  obtain ⟨Ab, cb, rfl, _, _, hp⟩ := h.gr.2.1
  obtain ⟨bb, ob, rfl, hbb, _⟩ := hp (by omega)
  obtain ⟨_, _, _, _, _, c5, _⟩ := h.cells
  have hll := h.box.lt
  have hB := h.hB
  obtain ⟨i0, hi, hz0, hz1, hz2⟩ := info_parts int_info
  clear hp h hx
  go_enter Tryz.func45, Tryz.ntmps45
  go_wp2_with fail
  go_loopw [5, 14] (fun sv i wr => ∃ (k : Nat), k ≤ g.blocks.length ∧ i = .int .i64 k ∧ Hid (OwnInts wr w.heap.size sv (wasP g n k)) ∧ Hid (Below w.heap.size w wr)) (fun _ i _ => g.blocks.length - (intOf i).toNat)
  case atStart => exact ⟨0, Nat.zero_le _, rfl, Lib.hid (OwnInts.nil _ _), Lib.hid (Below.refl _ _)⟩
  case round =>
    obtain ⟨k, hk, rfl, HO, HB⟩ := hrel
    obtain ⟨wq, rfl⟩ : ∃ wq : World, wq = wr := ⟨_, rfl⟩
    obtain ⟨Aw, cw, ew⟩ := ow_form HO.out
    subst ew
    have hwl := wasP_len g n k
    obtain ⟨_, _, eb, _, _, hpb⟩ := (HL.out.below HB.out).gr.2.1
    injection eb with eb1 eb2 eb3
    obtain ⟨bb', ob', eb4, _, hpb⟩ := hpb (by omega)
    rw [← eb1] at eb4
    injection eb4 with eb4
    injection eb4 with eb4 eb5
    subst eb4 eb5
    clear eb1 eb2 eb3
    by_cases hlt : k < g.blocks.length
    · obtain ⟨y, hy⟩ := getL hlt
      obtain ⟨⟨u0, g0, i0'⟩, g1, ⟨u2, g2, i2⟩, ⟨u3, g3, i3⟩, ⟨u4, g4, i4⟩, g5⟩ := hpb k y hy
      have HI3 := Lib.hid (i3.mono (Nat.le_trans hB HB.out.size))
      obtain ⟨A0, d0, rfl, _⟩ := i0'
      obtain ⟨A2, d2, rfl, _⟩ := i2
      obtain ⟨A3, d3, rfl, _⟩ := i3
      obtain ⟨A4, d4, rfl, _⟩ := i4
      have HY := Lib.hid hy
      obtain ⟨w8, hw8⟩ : ∃ w8, w8 = wq.alloc (.cells #[.slice A0 y.nodes.length d0, .int .u8 y.fin, .slice A2 y.args.length d2, .slice A3 y.next.length d3, .slice A4 y.ahead.length d4, .int .i64 y.state] 41) := ⟨_, rfl⟩
      have hb8 : Below wq.heap.size wq w8 := by rw [hw8]; exact (Below.refl _ _).alloc (Nat.le_refl _) _
      have HX8 : Hid (Blk w8 wq.heap.size 41 #[.slice A0 y.nodes.length d0, .int .u8 y.fin, .slice A2 y.args.length d2, .slice A3 y.next.length d3, .slice A4 y.ahead.length d4, .int .i64 y.state]) := Lib.hid (by rw [hw8]; exact Blk.new _ _ _)
      have HI8 := Lib.hid (HI3.out.later hb8 (Nat.le_refl _))
      have HB8 : Hid (Below w.heap.size w w8) := Lib.hid (HB.out.trans (hb8.mono HB.out.size))
      have HO8 : Hid (OwnInts w8 w.heap.size (.slice Aw (wasP g n k).length cw) (wasP g n k)) := Lib.hid (ow_below HO.out hb8)
      clear hpb hy hb8
      go_upto_region 5 with fail
      rw [← hw8]
      clear hw8 g0 g1 g2 g3 g4 g5
      have x3 := HX8.out.cell 3
      have xl := HX8.out.lt
      by_cases hc : (n : Int) ∈ y.next
      · have HC := Lib.hid hc
        clear hc
        go_wp2_with (first
          | (at_builtin; refine wpList_append_own_at _ rfl _ _ 34 rfl w.heap.size 3 i0 (.int .i64 0) 1 8 Tryz.underlying34 hi hz0 hz1 hz2 rfl (by decide) _ _ _ rfl (World.ownsRow.alloc (HO8.out) _) ⟨w8.heap.size, 0, none⟩ 1 1 [.int .i64 k] rfl rfl (cell_one_new _ _ _) (by simp [Value.oneCell']) (by unfold maxLen; omega) (by omega) (by have := HB8.out.size; rw [World.size_alloc]; omega) ?_; intro v' w9 hown' hgrow _ hblk; obtain ⟨g', cap', rfl⟩ := ownsRow_succ hown'; have HO9 := Lib.hid (OwnInts.snoc hown'); have HG9 := Lib.hid hgrow; clear hown' hgrow hblk)
          | (go_at_call 90; refine (contains_any w8 _ y.next n HI8.out true (by simp [HC.out])).mono ?_; rintro e w' ⟨rfl, hw'⟩; have hw2 := hw'.symm; subst hw2))
        go_roundw
        case rel => exact ⟨k + 1, by omega, by go_num, Lib.hid (by rw [wasP_yes HY.out HC.out]; exact HO9.out), Lib.hid ((HB8.out.alloc HB8.out.size _).grown HG9.out (by have := HB8.out.size; rw [World.size_alloc]; omega) (fun j e => (World.ownsRow.lt HO8.out j e).1))⟩
        case measure => simp [intOf]; omega
      · have HC := Lib.hid hc
        clear hc
        go_wp2_with (go_at_call 90; refine (contains_any w8 _ y.next n HI8.out false (by simp [HC.out])).mono ?_; rintro e w' ⟨rfl, hw'⟩; have hw2 := hw'.symm; subst hw2)
        go_roundw
        case rel => exact ⟨k + 1, by omega, by go_num, Lib.hid (by rw [wasP_no HY.out HC.out]; exact HO8.out), HB8⟩
        case measure => simp [intOf]; omega
    · have ek : k = g.blocks.length := by omega
      subst ek
      obtain ⟨_, _, _, _, ⟨u4, g4, i4⟩, _⟩ := hpb n x HX.out
      have HI4 := Lib.hid (i4.mono (Nat.le_trans hB HB.out.size))
      obtain ⟨A4, d4, rfl, _⟩ := i4
      have HW := Lib.hid (OwnInts.ints HO.out (by unfold lim; omega))
      have c5' := (HB.out.cell (p := ⟨bl, 5, none⟩) hll).trans c5
      have hll' := Nat.lt_of_lt_of_le hll HB.out.size
      clear hpb c5
      by_cases heq : wasP g n g.blocks.length = x.ahead
      · have HQ : Hid (decide (wasP g n g.blocks.length = x.ahead) = true) := Lib.hid (by simp [heq])
        have HEq := Lib.hid heq
        clear heq
        by_cases hpos : 0 < (wasP g n g.blocks.length).length
        · obtain ⟨bw, ow, rfl, hbw, hpw⟩ := HW.out.cells hpos
          obtain ⟨a, hA⟩ := getL hpos
          have f0 : wq.cell? ⟨bw, ow, none⟩ = some (.int .i64 a) := hpw 0 a hA
          have hbw' := hbw
          clear hpw hA
          go_wp2_with (go_at_call 91; refine (eqInts_any wq _ _ (wasP g n g.blocks.length) x.ahead HW.out HI4.out).mono ?_; rintro e w9 ⟨he, hb9⟩; rw [HQ.out] at he; subst he; have f0' := (hb9.cell (p := ⟨bw, ow, none⟩) hbw).trans f0; have hbw9 := Nat.lt_of_lt_of_le hbw hb9.size; have HB9 := Lib.hid hb9; clear hb9)
          all_goals
            go_ret
            exact ⟨_, rfl, fun _ => HEq.out, HB.out.trans (HB9.out.mono HB.out.size)⟩
        · go_wp2_with (go_at_call 91; refine (eqInts_any wq _ _ (wasP g n g.blocks.length) x.ahead HW.out HI4.out).mono ?_; rintro e w9 ⟨he, hb9⟩; rw [HQ.out] at he; subst he; have HB9 := Lib.hid hb9; clear hb9)
          all_goals
            go_ret
            exact ⟨_, rfl, fun _ => HEq.out, HB.out.trans (HB9.out.mono HB.out.size)⟩
      · have HQ : Hid (decide (wasP g n g.blocks.length = x.ahead) = false) := Lib.hid (by simp [heq])
        clear heq
        go_wp2_with (go_at_call 91; refine (eqInts_any wq _ _ (wasP g n g.blocks.length) x.ahead HW.out HI4.out).mono ?_; rintro e w9 ⟨he, hb9⟩; rw [HQ.out] at he; subst he; have HB9 := Lib.hid hb9; clear hb9)
        go_ret
        exact ⟨false, rfl, (fun h => by cases h), HB.out.trans (HB9.out.mono HB.out.size)⟩
end Go.Proofs.YtkmfdiboekoioaaGreat

/- graph.Check's 'ends'. Conditions: a graph that lies in memory; numbers that are some of the nodes. -/
namespace Go.Proofs.YtkmfdiboekoioaaGreat
open Go.RowKit
set_option maxRecDepth 100000 in
set_option maxHeartbeats 8000000 in
theorem ends_any (w : World) (B bl bx b8 : Nat) (pv : Value) (p : List FnP) (xv : GVals) (g : GraphP) (dv av bv : Value) (al : List (Int × Int)) (abs : List (List Int)) (h : StM w B bl pv p xv g dv av bv al abs) (hg : GCtx w B bx xv g) (h8 : b8 < w.heap.size) (h8c : w.cell? ⟨b8, 0, none⟩ = some (.pointer (some ⟨bl, 0, none⟩)))
    (n : Nat) (x : BlockP) (hx : g.blocks[n]? = some x) (row : List Int) (hrow : abs[n]? = some row) (ha : ∀ z ∈ x.args, z < (al.length : Int)) (hst : x.state < (g.states.length : Int)) (hs : ∀ z ∈ slotsOf g x.state, z < (al.length : Int)) :
    Calls Tryz.prog 46 #[.int .i64 n, .pointer (some ⟨bx, 0, none⟩), .pointer (some ⟨b8, 0, none⟩)] w (fun e w' => e = .returned (.bool (usesB g al row n x.nodes.length x.args x.state)) ∧ Below w.heap.size w w') := by
  have hn := (List.getElem?_eq_some_iff.1 hx).1
  have HM := Lib.hid h; have HRow := Lib.hid hrow; have HA := Lib.hid ha; have HS := Lib.hid hs
  obtain ⟨vn, vb, vs⟩ := xv
  obtain ⟨Ab, cb, rfl, _, hlb, hp⟩ := hg.gr.2.1
  obtain ⟨bb, ob, rfl, hbb, hp⟩ := hp (by omega)
  obtain ⟨⟨u0, g0, i0⟩, g1, ⟨u2, g2, i2⟩, ⟨u3, g3, i3⟩, ⟨u4, g4, i4⟩, g5⟩ := hp n x hx
  have HI2 := Lib.hid (i2.mono hg.hB)
  have hln : x.nodes.length ≤ 17592186044416 := by obtain ⟨_, _, _, _, q, _⟩ := i0; unfold lim at q; omega
  obtain ⟨A0, d0, rfl, _⟩ := i0
  obtain ⟨A2, d2, rfl, _⟩ := i2
  obtain ⟨A3, d3, rfl, _⟩ := i3
  obtain ⟨A4, d4, rfl, _⟩ := i4
  obtain ⟨q0, q1, q2, q3, q4, q5⟩ := hg.cells
  simp only at q4
  have hbx := hg.box.lt
  have hlim : g.blocks.length ≤ 17592186044416 := by unfold lim at hlb; omega
  obtain ⟨w8, hw8⟩ : ∃ w8, w8 = w.alloc (.cells #[.slice A0 x.nodes.length d0, .int .u8 x.fin, .slice A2 x.args.length d2, .slice A3 x.next.length d3, .slice A4 x.ahead.length d4, .int .i64 x.state] 41) := ⟨_, rfl⟩
  have hb8 : Below w.heap.size w w8 := by rw [hw8]; exact (Below.refl _ _).alloc (Nat.le_refl _) _
  have hX8 : Blk w8 w.heap.size 41 #[.slice A0 x.nodes.length d0, .int .u8 x.fin, .slice A2 x.args.length d2, .slice A3 x.next.length d3, .slice A4 x.ahead.length d4, .int .i64 x.state] := by rw [hw8]; exact Blk.new _ _ _
  have x0 := hX8.cell 0
  have x2 := hX8.cell 2
  have x5 := hX8.cell 5
  have xl := hX8.lt
  have h8c' := (hb8.cell (p := ⟨b8, 0, none⟩) h8).trans h8c
  have h8' := Nat.lt_of_lt_of_le h8 hb8.size
  have HM8 := Lib.hid (HM.out.below hb8)
  have HV8 := Lib.hid (HI2.out.later hb8 (Nat.le_refl _))
  have HB8 := Lib.hid hb8
  clear h hg hx hrow ha hs hp hb8 hX8
  go_enter Tryz.func46, Tryz.ntmps46
  go_upto_region 2 with fail
  rw [← hw8]
  clear hw8 g0 g1 g2 g3 g4 g5
  go_wp2_with (go_at_call 47; refine (uses_any w8 B bl pv p _ g dv av bv al abs HM8.out n x.nodes.length row HRow.out _ x.args HV8.out HA.out x.state hst HS.out).mono ?_; rintro e w9 ⟨rfl, hb9⟩; have HB9 := Lib.hid hb9; clear hb9)
  go_ret
  exact ⟨rfl, HB8.out.trans (HB9.out.mono HB8.out.size)⟩
end Go.Proofs.YtkmfdiboekoioaaGreat

/- graph.look.slots ends. Conditions: a graph that lies in memory. -/
namespace Go.Proofs.YtkmfdiboekoioaaGreat
open Go.RowKit
set_option maxRecDepth 100000 in
set_option maxHeartbeats 8000000 in
theorem lkSlots_any (w : World) (B bl : Nat) (pv : Value) (p : List FnP) (xv : GVals) (g : GraphP) (dv av bv : Value) (h : LkBox w B bl pv p xv g dv av bv) :
    Calls Tryz.prog 42 #[.pointer (some ⟨bl, 0, none⟩)] w (FineIs w) := by
  have HL := Lib.hid h
  obtain ⟨vn, vb, vs⟩ := xv
  obtain ⟨An, cn, rfl, _, hln, _⟩ := h.gr.1
  have hlim : g.nodes.length ≤ 17592186044416 := by unfold lim at hln; omega
  have c4 : (w.alloc (.map #[] 0)).cell? ⟨bl, 4, none⟩ = some (.slice An g.nodes.length cn) := (h.below ((Below.refl _ _).alloc (Nat.le_refl _) _)).cells.2.2.2.2.1
  have hll := h.box.lt
  have hB := h.hB
  have hmm := @run_makeMap Tryz.prog
  clear h
  go_enter Tryz.func42, Tryz.ntmps42
  go_wp2_with fail
  go_loopw [13] (fun i wr => ∃ (k : Nat) (mk : FMap), k ≤ g.nodes.length ∧ i = .int .i64 k ∧ Hid (IMap wr w.heap.size mk) ∧ Hid (Below w.heap.size w wr) ∧ Hid (∀ z, 0 ≤ (mk z).getD 0 ∧ (mk z).getD 0 ≤ 1)) (fun i _ => g.nodes.length - (intOf i).toNat)
  case atStart => exact ⟨0, FMap.none_, Nat.zero_le _, rfl, Lib.hid (IMap.made w), Lib.hid ((Below.refl _ _).alloc (Nat.le_refl _) _), Lib.hid (fun z => by simp [FMap.none_])⟩
  case round =>
    obtain ⟨k, mk, hk, rfl, HMp, HB, HV⟩ := hrel
    obtain ⟨wq, rfl⟩ : ∃ wq : World, wq = wr := ⟨_, rfl⟩
    by_cases hlt : k < g.nodes.length
    · obtain ⟨_, _, en, _, _, hp⟩ := (HL.out.below HB.out).gr.1
      injection en with en en2 en3
      obtain ⟨bb, ob, en4, _, hp⟩ := hp (by omega)
      rw [← en] at en4
      subst en4
      obtain ⟨y, hy⟩ := getL hlt
      obtain ⟨g0, ⟨u1, g1, i1⟩, g2, g3, g4⟩ := hp k y hy
      obtain ⟨A1, d1, rfl, _⟩ := i1
      obtain ⟨w8, hw8⟩ : ∃ w8, w8 = wq.alloc (.cells #[.int .u8 y.op, .slice A1 y.args.length d1, .int .i64 y.N, .int .u8 y.kind, .int .i64 y.state] 68) := ⟨_, rfl⟩
      have hb8 : Below wq.heap.size wq w8 := by rw [hw8]; exact (Below.refl _ _).alloc (Nat.le_refl _) _
      have HX8 : Hid (Blk w8 wq.heap.size 68 #[.int .u8 y.op, .slice A1 y.args.length d1, .int .i64 y.N, .int .u8 y.kind, .int .i64 y.state]) := Lib.hid (by rw [hw8]; exact Blk.new _ _ _)
      have HM8 := Lib.hid (HMp.out.below hb8 HMp.out.lt)
      have HB8 : Hid (Below w.heap.size w w8) := Lib.hid (HB.out.trans (hb8.mono HB.out.size))
      clear hp hy hb8 en en2 en3
      go_upto_region 5 with fail
      rw [← hw8]
      clear hw8 g0 g1 g2 g3 g4
      have x0 := HX8.out.cell 0
      have x2 := HX8.out.cell 2
      have xl := HX8.out.lt
      by_cases ho : y.op = 1
      · have hl1 := (IMap.look (P := Tryz.prog) HM8.out Tryz.underlying138 Tryz.underlying2 (by kernel_rfl) y.N).1
        obtain ⟨v, hv⟩ : ∃ v, v = (mk y.N).getD 0 := ⟨_, rfl⟩
        rw [← hv] at hl1
        have hvb := HV.out y.N
        rw [← hv] at hvb
        obtain ⟨w9, hupd, hm9, hg9, hs9⟩ := IMap.update (P := Tryz.prog) HM8.out Tryz.underlying138 Tryz.underlying2 y.N (v + 1)
        have hl2 := (IMap.look (P := Tryz.prog) hm9 Tryz.underlying138 Tryz.underlying2 (by kernel_rfl) y.N).1
        have hv2 : ((mk.put y.N (v + 1)) y.N).getD 0 = v + 1 := by simp [FMap.put]
        rw [hv2] at hl2
        have x2' : w9.cell? ⟨wq.heap.size, 2, none⟩ = some (.int .i64 y.N) := (hg9.cell (a := ⟨wq.heap.size, 2, none⟩) x2 (by intro e; injection e with e; have := HMp.out.lt; simp only at e; omega))
        have xl' : wq.heap.size < w9.heap.size := Nat.lt_of_lt_of_le xl hg9.size
        have HM9 := Lib.hid hm9; have HG9 := Lib.hid hg9
        have HVv := Lib.hid hv
        clear hm9 hg9 hs9 hv2 hv
        by_cases h1 : v + 1 ≤ 1
        · go_wp2_with fail
          go_roundw
          case rel => exact ⟨k + 1, _, by omega, by go_num, HM9, Lib.hid (HB8.out.grown HG9.out HB8.out.size (fun j e => by injection e with e; omega)), Lib.hid (fun z => by
            by_cases hz : z = y.N
            · subst hz; simp [FMap.put]; omega
            · have := HV.out z; simpa [FMap.put, hz] using this)⟩
          case measure => simp [intOf]; omega
        · go_wp2_with fail
          go_ret
          exact ⟨⟨_, rfl⟩, HB8.out.grown HG9.out HB8.out.size (fun j e => by injection e with e; omega)⟩
      · have do1 : decide (y.op = 1) = false := by simp [ho]
        have bo1 : (y.op == 1) = false := by simp [ho]
        go_wp2_with fail
        go_roundw
        case rel => exact ⟨k + 1, mk, by omega, by go_num, HM8, HB8, HV⟩
        case measure => simp [intOf]; omega
    · go_wp2_with fail
      go_ret
      exact ⟨⟨_, rfl⟩, HB.out⟩
end Go.Proofs.YtkmfdiboekoioaaGreat

/- slices.ContainsFunc and slices.IndexFunc over states, whatever the function asks. Conditions: the function answers at each state, and writes nothing that was there. -/
namespace Go.Proofs.YtkmfdiboekoioaaGreat
open Go.RowKit

set_option maxRecDepth 100000 in
set_option maxHeartbeats 4000000 in
theorem ixState_any (w : World) (v : Value) (l : List StateP) (pf : Nat) (fs cs : Array Value) (q : StateP → Bool) (hl : StatesV w w.heap.size v l) (hf : Enters pf)
    (hp : ∀ (wr : World) (x : StateP) (vx : Value), x ∈ l → Below w.heap.size w wr → IntsV wr w.heap.size vx x.slots → Calls Tryz.prog pf (fs.push (.agg #[.int .i64 x.pc, vx]) ++ cs) wr (fun e w' => e = .returned (.bool (q x)) ∧ Below wr.heap.size wr w')) :
    Calls Tryz.prog 116 #[v, .func (.func pf) fs cs] w (fun e w' => e = .returned (.int .i64 (ixOf q l)) ∧ Below w.heap.size w w') := by
  have HL := Lib.hid hl; have HP := Lib.hid hp
  have hfr := hf
  unfold Enters at hfr
  obtain ⟨A, c, rfl, _hc, hlc, _⟩ := hl
  have hlim : l.length ≤ 17592186044416 := by unfold lim at hlc; omega
  clear hlc hp
  go_enter Tryz.func116, Tryz.ntmps116
  go_wp2_with fail
  go_loopw [8] (fun i wr => ∃ k : Nat, k ≤ l.length ∧ i = .int .i64 k ∧ Hid (Below w.heap.size w wr) ∧ Hid (∀ x ∈ l.take k, q x = false)) (fun i _ => l.length - (intOf i).toNat)
  case atStart => exact ⟨0, Nat.zero_le _, rfl, Lib.hid (Below.refl _ _), Lib.hid (by simp)⟩
  case round =>
    obtain ⟨k, hk, rfl, HB, HNo⟩ := hrel
    by_cases hlt : k < l.length
    · obtain ⟨A', c', en, _, _, hp⟩ := StatesV.keep HL.out (Same.of_below HB.out)
      injection en with en1 en2 en3
      subst en1
      obtain ⟨b, off, rfl, hbB, hp⟩ := hp (by omega)
      obtain ⟨y, hy⟩ := getL hlt
      obtain ⟨f0, vy, f1, hsy⟩ := hp k y hy
      have HSy := Lib.hid hsy
      obtain ⟨Ay, cy, rfl, _⟩ := hsy
      have HY := Lib.hid hy
      have HC := Lib.hid (HP.out wr y _ (List.mem_of_getElem? hy) HB.out HSy.out)
      clear hp hy en3
      obtain ⟨t, ht⟩ : ∃ t : Bool, t = q y := ⟨_, rfl⟩
      rw [← ht] at HC
      have HT := Lib.hid ht
      clear ht
      cases t with
      | true =>
        go_wp2_with (with_reducible refine HC.out.mono ?_; rintro e w2 ⟨rfl, hb2⟩; have HB2 := Lib.hid hb2; clear hb2)
        go_ret
        exact ⟨by rw [ixOf_found HNo.out HY.out HT.out.symm]; rfl, HB.out.trans (HB2.out.mono HB.out.size)⟩
      | false =>
        go_wp2_with (with_reducible refine HC.out.mono ?_; rintro e w2 ⟨rfl, hb2⟩; have HB2 := Lib.hid hb2; clear hb2)
        go_roundw
        case rel => exact ⟨k + 1, by omega, by go_num, Lib.hid (HB.out.trans (HB2.out.mono HB.out.size)), Lib.hid (take_no HNo.out HY.out HT.out.symm)⟩
        case measure => simp [intOf]; omega
    · go_wp2_with fail
      go_ret
      exact ⟨by rw [ixOf_none fun x hx => HNo.out x (by rw [List.take_of_length_le (by omega)]; exact hx)]; rfl, HB.out⟩

set_option maxRecDepth 100000 in
set_option maxHeartbeats 4000000 in
theorem ctState_any (w : World) (v : Value) (l : List StateP) (pf : Nat) (fs cs : Array Value) (q : StateP → Bool) (hl : StatesV w w.heap.size v l) (hf : Enters pf)
    (hp : ∀ (wr : World) (x : StateP) (vx : Value), x ∈ l → Below w.heap.size w wr → IntsV wr w.heap.size vx x.slots → Calls Tryz.prog pf (fs.push (.agg #[.int .i64 x.pc, vx]) ++ cs) wr (fun e w' => e = .returned (.bool (q x)) ∧ Below wr.heap.size wr w')) (t : Bool) (ht : t = l.any q) :
    Calls Tryz.prog 73 #[v, .func (.func pf) fs cs] w (fun e w' => e = .returned (.bool t) ∧ Below w.heap.size w w') := by
  have HL := Lib.hid hl; have HP := Lib.hid hp; have HT := Lib.hid ht
  obtain ⟨A, c, rfl, _⟩ := hl
  clear hp ht
  go_enter Tryz.func73, Tryz.ntmps73
  go_wp2_with (go_at_call 116; refine (ixState_any w _ l pf fs cs q HL.out hf HP.out).mono ?_; rintro e w2 ⟨rfl, hb2⟩; have HB2 := Lib.hid hb2; clear hb2)
  go_ret
  exact ⟨by rw [HT.out, ← ixOf_any]; rfl, HB2.out⟩
end Go.Proofs.YtkmfdiboekoioaaGreat

/- The small closures of graph.Check that ask of numbers of nodes. Conditions: a graph that is looked at. -/
namespace Go.Proofs.YtkmfdiboekoioaaGreat
open Go.RowKit
section
variable (w : World) (B bl b1 : Nat) (pv : Value) (p : List FnP) (xv : GVals) (g : GraphP) (dv av bv : Value)
theorem slotBad_any (h : LkBox w B bl pv p xv g dv av bv) (h1 : w.cell? ⟨b1, 0, none⟩ = some (.pointer (some ⟨bl, 0, none⟩))) (n : Int) (t : Bool) (ht : t = (decide (n < -1) || decide ((g.nodes.length : Int) ≤ n))) : Calls Tryz.prog 87 #[.int .i64 n, .pointer (some ⟨b1, 0, none⟩)] w (fun e w' => e = .returned (.bool t) ∧ Below w.heap.size w w') := by
  obtain ⟨vn, vb, vs⟩ := xv
  obtain ⟨An, cn, rfl, _, hln, _⟩ := h.gr.1
  have hlim : g.nodes.length ≤ 17592186044416 := by unfold lim at hln; omega
  have c4 : w.cell? ⟨bl, 4, none⟩ = some (.slice An g.nodes.length cn) := h.cells.2.2.2.2.1
  have hll := h.box.lt
  clear h
  by_cases q1 : n < -1
  · have HT : Hid (t = true) := Lib.hid (by rw [ht]; simp [q1])
    clear ht
    go_enter Tryz.func87, Tryz.ntmps87
    go_wp2_with fail
    go_ret
    exact ⟨by rw [HT.out]; rfl, Below.refl _ _⟩
  · by_cases q2 : (g.nodes.length : Int) ≤ n
    · have HT : Hid (t = true) := Lib.hid (by rw [ht]; simp [q2])
      clear ht
      go_enter Tryz.func87, Tryz.ntmps87
      go_wp2_with fail
      go_ret
      exact ⟨by rw [HT.out]; simp [q2], Below.refl _ _⟩
    · have HT : Hid (t = false) := Lib.hid (by rw [ht]; simp [q1, q2])
      clear ht
      go_enter Tryz.func87, Tryz.ntmps87
      go_wp2_with fail
      go_ret
      exact ⟨by rw [HT.out]; simp [q2], Below.refl _ _⟩
theorem endArg_any (h : LkBox w B bl pv p xv g dv av bv) (h1 : w.cell? ⟨b1, 0, none⟩ = some (.pointer (some ⟨bl, 0, none⟩))) (n : Int) : Calls Tryz.prog 89 #[.int .i64 n, .pointer (some ⟨b1, 0, none⟩)] w (fun e w' => e = .returned (.bool (!(decide (0 ≤ n) && decide (n < (g.nodes.length : Int))))) ∧ Below w.heap.size w w') := by
  obtain ⟨vn, vb, vs⟩ := xv
  obtain ⟨An, cn, rfl, _, hln, _⟩ := h.gr.1
  have hlim : g.nodes.length ≤ 17592186044416 := by unfold lim at hln; omega
  have c4 : w.cell? ⟨bl, 4, none⟩ = some (.slice An g.nodes.length cn) := h.cells.2.2.2.2.1
  have hll := h.box.lt
  clear h
  obtain ⟨u, hu⟩ : ∃ u, u = (decide (0 ≤ n) && decide (n < (g.nodes.length : Int))) := ⟨_, rfl⟩
  have HU := Lib.hid hu
  rw [← hu]
  clear hu
  cases u
  · go_enter Tryz.func89, Tryz.ntmps89
    go_wp2_with (go_at_call 38; refine (within_any n g.nodes.length false HU.out w).mono ?_; rintro e w' ⟨rfl, hw'⟩; have hw2 := hw'.symm; subst hw2)
    go_ret
    exact ⟨rfl, Below.refl _ _⟩
  · go_enter Tryz.func89, Tryz.ntmps89
    go_wp2_with (go_at_call 38; refine (within_any n g.nodes.length true HU.out w).mono ?_; rintro e w' ⟨rfl, hw'⟩; have hw2 := hw'.symm; subst hw2)
    go_ret
    exact ⟨rfl, Below.refl _ _⟩
theorem nodeArg_any (h : LkBox w B bl pv p xv g dv av bv) (h1 : w.cell? ⟨b1, 0, none⟩ = some (.pointer (some ⟨bl, 0, none⟩))) (n : Int) : Calls Tryz.prog 94 #[.int .i64 n, .pointer (some ⟨b1, 0, none⟩)] w (fun e w' => e = .returned (.bool (!(decide (0 ≤ n) && decide (n < (g.nodes.length : Int))))) ∧ Below w.heap.size w w') := by
  obtain ⟨vn, vb, vs⟩ := xv
  obtain ⟨An, cn, rfl, _, hln, _⟩ := h.gr.1
  have hlim : g.nodes.length ≤ 17592186044416 := by unfold lim at hln; omega
  have c4 : w.cell? ⟨bl, 4, none⟩ = some (.slice An g.nodes.length cn) := h.cells.2.2.2.2.1
  have hll := h.box.lt
  clear h
  obtain ⟨u, hu⟩ : ∃ u, u = (decide (0 ≤ n) && decide (n < (g.nodes.length : Int))) := ⟨_, rfl⟩
  have HU := Lib.hid hu
  rw [← hu]
  clear hu
  cases u
  · go_enter Tryz.func94, Tryz.ntmps94
    go_wp2_with (go_at_call 38; refine (within_any n g.nodes.length false HU.out w).mono ?_; rintro e w' ⟨rfl, hw'⟩; have hw2 := hw'.symm; subst hw2)
    go_ret
    exact ⟨rfl, Below.refl _ _⟩
  · go_enter Tryz.func94, Tryz.ntmps94
    go_wp2_with (go_at_call 38; refine (within_any n g.nodes.length true HU.out w).mono ?_; rintro e w' ⟨rfl, hw'⟩; have hw2 := hw'.symm; subst hw2)
    go_ret
    exact ⟨rfl, Below.refl _ _⟩
end
end Go.Proofs.YtkmfdiboekoioaaGreat
